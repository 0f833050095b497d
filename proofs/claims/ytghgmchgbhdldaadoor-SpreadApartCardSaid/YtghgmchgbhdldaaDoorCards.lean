/-
  DERIVED. GIVEN WITH THE SEED: THE CARDS: each row of YtghgmchgbhdldaaDoorRows.lean that lists a variable, with what it lists TIED to the program's text (the seventh form; the later family's looks); each row that meets fmt, with fmt's text TOLD by the authors' own Lean function (tested against real Go, not proved from fmt's source: count such statements apart). THE CARD IS WHAT COUNTS. Prove the row's statement (the work); the ties are given (YtghgmchgbhdldaaDoorTie.lean); close each card by the builder's one call (the guide's Derived/Test/ToyasCard.lean, 'card_holds'). Laid BY PROGRAM, IN A SANDBOX (cutbox-door.mjs). By AI agents, Wed Nov 11 2026. No macro, syntax, notation, axiom, sorry.
-/
import Derived.Test.YtghgmchgbhdldaaDoorRows
import GoSem.ClaimSeven
namespace Go.Proofs.YtghgmchgbhdldaaDoor
namespace Rows

/-- THE TIED CARD OF 'downpourlaw8.SpreadSome'. -/
def spreadSomeCard : Claim7 := { stood := { row := spreadSomeRow, standIns := [], harness := (true, "f5a5cd23fd789346de46b5dd28f17f56a401b70fdd7006be7e2c2747f0f1b450"), looks := false }, kinds := [], alts := [], laidByText := true, laidKinds := [.data], laidTests := true, laidLooks := .later }
def SpreadSomeCardSaid : Prop := Claim7.holds Tryd.pinned (.plain (OpenSpec.ofChange spreadSomeSpec)) spreadSomeCard

/-- THE TIED CARD OF 'downpourlaw8.SpreadRefuses'. -/
def spreadRefusesCard : Claim7 := { stood := { row := spreadRefusesRow, standIns := [], harness := (true, "f5a5cd23fd789346de46b5dd28f17f56a401b70fdd7006be7e2c2747f0f1b450"), looks := false }, kinds := [], alts := [], laidByText := true, laidKinds := [.data], laidTests := true, laidLooks := .later }
def SpreadRefusesCardSaid : Prop := Claim7.holds Tryd.pinned (.plain (OpenSpec.ofChange spreadRefusesSpec)) spreadRefusesCard

/-- THE TIED CARD OF 'downpourlaw8.SpreadSessions'. -/
def spreadSessionsCard : Claim7 := { stood := { row := spreadSessionsRow, standIns := [], harness := (true, "f5a5cd23fd789346de46b5dd28f17f56a401b70fdd7006be7e2c2747f0f1b450"), looks := false }, kinds := [], alts := [], laidByText := true, laidKinds := [.data], laidTests := true, laidLooks := .later }
def SpreadSessionsCardSaid : Prop := Claim7.holds Tryd.pinned (.plain (OpenSpec.ofChange spreadSessionsSpec)) spreadSessionsCard

/-- THE TIED CARD OF 'downpourlaw8.SpreadApart'. -/
def spreadApartCard : Claim7 := { stood := { row := spreadApartRow, standIns := [], harness := (true, "f5a5cd23fd789346de46b5dd28f17f56a401b70fdd7006be7e2c2747f0f1b450"), looks := false }, kinds := [], alts := [], laidByText := true, laidKinds := [.data], laidTests := true, laidLooks := .later }
def SpreadApartCardSaid : Prop := Claim7.holds Tryd.pinned (.plain (OpenSpec.ofChange spreadApartSpec)) spreadApartCard

/-- THE SECOND FORM's CARD OF 'downpourlaw8.SpreadSome'. -/
def spreadSomeUptoCard : Claim7 := { stood := { row := spreadSomeUptoRow, standIns := [], harness := (true, "f5a5cd23fd789346de46b5dd28f17f56a401b70fdd7006be7e2c2747f0f1b450"), looks := false }, kinds := [], alts := [], laidByText := true, laidKinds := [.data], laidTests := true, laidLooks := .later }
def SpreadSomeUptoCardSaid : Prop := Claim7.holds Tryd.pinned (.plain (OpenSpec.upto spreadSomeSpec)) spreadSomeUptoCard

/-- THE SECOND FORM's CARD OF 'downpourlaw8.SpreadRefuses'. -/
def spreadRefusesUptoCard : Claim7 := { stood := { row := spreadRefusesUptoRow, standIns := [], harness := (true, "f5a5cd23fd789346de46b5dd28f17f56a401b70fdd7006be7e2c2747f0f1b450"), looks := false }, kinds := [], alts := [], laidByText := true, laidKinds := [.data], laidTests := true, laidLooks := .later }
def SpreadRefusesUptoCardSaid : Prop := Claim7.holds Tryd.pinned (.plain (OpenSpec.upto spreadRefusesSpec)) spreadRefusesUptoCard

/-- THE SECOND FORM's CARD OF 'downpourlaw8.SpreadSessions'. -/
def spreadSessionsUptoCard : Claim7 := { stood := { row := spreadSessionsUptoRow, standIns := [], harness := (true, "f5a5cd23fd789346de46b5dd28f17f56a401b70fdd7006be7e2c2747f0f1b450"), looks := false }, kinds := [], alts := [], laidByText := true, laidKinds := [.data], laidTests := true, laidLooks := .later }
def SpreadSessionsUptoCardSaid : Prop := Claim7.holds Tryd.pinned (.plain (OpenSpec.upto spreadSessionsSpec)) spreadSessionsUptoCard

/-- THE SECOND FORM's CARD OF 'downpourlaw8.SpreadApart'. -/
def spreadApartUptoCard : Claim7 := { stood := { row := spreadApartUptoRow, standIns := [], harness := (true, "f5a5cd23fd789346de46b5dd28f17f56a401b70fdd7006be7e2c2747f0f1b450"), looks := false }, kinds := [], alts := [], laidByText := true, laidKinds := [.data], laidTests := true, laidLooks := .later }
def SpreadApartUptoCardSaid : Prop := Claim7.holds Tryd.pinned (.plain (OpenSpec.upto spreadApartSpec)) spreadApartUptoCard
end Rows
end Go.Proofs.YtghgmchgbhdldaaDoor
