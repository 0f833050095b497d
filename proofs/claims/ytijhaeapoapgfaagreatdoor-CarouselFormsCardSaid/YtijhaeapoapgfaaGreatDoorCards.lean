/-
  DERIVED. GIVEN WITH THE SEED: THE CARDS: each row of YtijhaeapoapgfaaGreatDoorRows.lean that lists a variable, with what it lists TIED to the program's text (the seventh form; the later family's looks); each row that meets fmt, with fmt's text TOLD by the authors' own Lean function (tested against real Go, not proved from fmt's source: count such statements apart). THE CARD IS WHAT COUNTS. Prove the row's statement (the work); the ties are given (YtijhaeapoapgfaaGreatDoorTie.lean); close each card by the builder's one call (the guide's Derived/Test/ToyasCard.lean, 'card_holds'). Laid BY PROGRAM, IN A SANDBOX (cutbox-door.mjs). By AI agents, Wed Nov 11 2026. No macro, syntax, notation, axiom, sorry.
-/
import Derived.Test.YtijhaeapoapgfaaGreatDoorRows
import GoSem.ClaimSeven
namespace Go.Proofs.YtijhaeapoapgfaaGreatDoor
namespace Rows

/-- THE TIED CARD OF 'downpourlaw26.CarouselEnough'. -/
def carouselEnoughCard : Claim7 := { stood := { row := carouselEnoughRow, standIns := [], harness := (true, "87a0bf9e4b1ea7531691073f3f2c31daae3179226c591ef8cc700e8214de3e21"), looks := false }, kinds := [], alts := [], laidByText := true, laidKinds := [.data], laidTests := true, laidLooks := .later }
def CarouselEnoughCardSaid : Prop := Claim7.holds Tryz.pinned (.plain (OpenSpec.ofChange carouselEnoughSpec)) carouselEnoughCard

/-- THE TIED CARD OF 'downpourlaw26.CarouselForms'. -/
def carouselFormsCard : Claim7 := { stood := { row := carouselFormsRow, standIns := [], harness := (true, "87a0bf9e4b1ea7531691073f3f2c31daae3179226c591ef8cc700e8214de3e21"), looks := false }, kinds := [], alts := [], laidByText := true, laidKinds := [.data], laidTests := true, laidLooks := .later }
def CarouselFormsCardSaid : Prop := Claim7.holds Tryz.pinned (.plain (OpenSpec.ofChange carouselFormsSpec)) carouselFormsCard

/-- THE TIED CARD OF 'downpourlaw23.StoreNil'. -/
def storeNilCard : Claim7 := { stood := { row := storeNilRow, standIns := [], harness := (true, "87a0bf9e4b1ea7531691073f3f2c31daae3179226c591ef8cc700e8214de3e21"), looks := false }, kinds := [], alts := [], laidByText := true, laidKinds := [.data], laidTests := true, laidLooks := .later }
def StoreNilCardSaid : Prop := Claim7.holds Tryz.pinned (.plain (OpenSpec.ofChange storeNilSpec)) storeNilCard

/-- THE TIED CARD OF 'downpourlaw23.StoreAnew'. -/
def storeAnewCard : Claim7 := { stood := { row := storeAnewRow, standIns := [], harness := (true, "87a0bf9e4b1ea7531691073f3f2c31daae3179226c591ef8cc700e8214de3e21"), looks := false }, kinds := [], alts := [], laidByText := true, laidKinds := [.data], laidTests := true, laidLooks := .later }
def StoreAnewCardSaid : Prop := Claim7.holds Tryz.pinned (.plain (OpenSpec.ofChange storeAnewSpec)) storeAnewCard

/-- THE SECOND FORM's CARD OF 'downpourlaw26.CarouselEnough'. -/
def carouselEnoughUptoCard : Claim7 := { stood := { row := carouselEnoughUptoRow, standIns := [], harness := (true, "87a0bf9e4b1ea7531691073f3f2c31daae3179226c591ef8cc700e8214de3e21"), looks := false }, kinds := [], alts := [], laidByText := true, laidKinds := [.data], laidTests := true, laidLooks := .later }
def CarouselEnoughUptoCardSaid : Prop := Claim7.holds Tryz.pinned (.plain (OpenSpec.upto carouselEnoughSpec)) carouselEnoughUptoCard

/-- THE SECOND FORM's CARD OF 'downpourlaw26.CarouselForms'. -/
def carouselFormsUptoCard : Claim7 := { stood := { row := carouselFormsUptoRow, standIns := [], harness := (true, "87a0bf9e4b1ea7531691073f3f2c31daae3179226c591ef8cc700e8214de3e21"), looks := false }, kinds := [], alts := [], laidByText := true, laidKinds := [.data], laidTests := true, laidLooks := .later }
def CarouselFormsUptoCardSaid : Prop := Claim7.holds Tryz.pinned (.plain (OpenSpec.upto carouselFormsSpec)) carouselFormsUptoCard

/-- THE SECOND FORM's CARD OF 'downpourlaw23.StoreNil'. -/
def storeNilUptoCard : Claim7 := { stood := { row := storeNilUptoRow, standIns := [], harness := (true, "87a0bf9e4b1ea7531691073f3f2c31daae3179226c591ef8cc700e8214de3e21"), looks := false }, kinds := [], alts := [], laidByText := true, laidKinds := [.data], laidTests := true, laidLooks := .later }
def StoreNilUptoCardSaid : Prop := Claim7.holds Tryz.pinned (.plain (OpenSpec.upto storeNilSpec)) storeNilUptoCard

/-- THE SECOND FORM's CARD OF 'downpourlaw23.StoreAnew'. -/
def storeAnewUptoCard : Claim7 := { stood := { row := storeAnewUptoRow, standIns := [], harness := (true, "87a0bf9e4b1ea7531691073f3f2c31daae3179226c591ef8cc700e8214de3e21"), looks := false }, kinds := [], alts := [], laidByText := true, laidKinds := [.data], laidTests := true, laidLooks := .later }
def StoreAnewUptoCardSaid : Prop := Claim7.holds Tryz.pinned (.plain (OpenSpec.upto storeAnewSpec)) storeAnewUptoCard
end Rows
end Go.Proofs.YtijhaeapoapgfaaGreatDoor
