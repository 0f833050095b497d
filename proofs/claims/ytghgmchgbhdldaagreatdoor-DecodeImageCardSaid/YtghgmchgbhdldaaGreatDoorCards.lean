/-
  DERIVED. GIVEN WITH THE SEED: THE CARDS: each row of YtghgmchgbhdldaaGreatDoorRows.lean that lists a variable, with what it lists TIED to the program's text (the seventh form; the later family's looks); each row that meets fmt, with fmt's text TOLD by the authors' own Lean function (tested against real Go, not proved from fmt's source: count such statements apart). THE CARD IS WHAT COUNTS. Prove the row's statement (the work); the ties are given (YtghgmchgbhdldaaGreatDoorTie.lean); close each card by the builder's one call (the guide's Derived/Test/ToyasCard.lean, 'card_holds'). Laid BY PROGRAM, IN A SANDBOX (cutbox-door.mjs). By AI agents, Wed Nov 11 2026. No macro, syntax, notation, axiom, sorry.
-/
import Derived.Test.YtghgmchgbhdldaaGreatDoorRows
import GoSem.ClaimSeven
namespace Go.Proofs.YtghgmchgbhdldaaGreatDoor
namespace Rows

/-- THE TIED CARD OF 'downpourlaw12.DecodeCounts'. -/
def decodeCountsCard : Claim7 := { stood := { row := decodeCountsRow, standIns := [], harness := (true, "6f410ab353fde933f1747e0f9ad51ff9859c875541a159656b62c6fb5761ade6"), looks := false }, kinds := [], alts := [], laidByText := true, laidKinds := [.data], laidTests := true, laidLooks := .later }
def DecodeCountsCardSaid : Prop := Claim7.holds Tryz.pinned (.plain (OpenSpec.ofChange decodeCountsSpec)) decodeCountsCard

/-- THE TIED CARD OF 'downpourlaw12.DecodeNil'. -/
def decodeNilCard : Claim7 := { stood := { row := decodeNilRow, standIns := [], harness := (true, "6f410ab353fde933f1747e0f9ad51ff9859c875541a159656b62c6fb5761ade6"), looks := false }, kinds := [], alts := [], laidByText := true, laidKinds := [.data], laidTests := true, laidLooks := .later }
def DecodeNilCardSaid : Prop := Claim7.holds Tryz.pinned (.plain (OpenSpec.ofChange decodeNilSpec)) decodeNilCard

/-- THE TIED CARD OF 'downpourlaw12.DecodeTwo'. -/
def decodeTwoCard : Claim7 := { stood := { row := decodeTwoRow, standIns := [], harness := (true, "6f410ab353fde933f1747e0f9ad51ff9859c875541a159656b62c6fb5761ade6"), looks := false }, kinds := [], alts := [], laidByText := true, laidKinds := [.data], laidTests := true, laidLooks := .later }
def DecodeTwoCardSaid : Prop := Claim7.holds Tryz.pinned (.plain (OpenSpec.ofChange decodeTwoSpec)) decodeTwoCard

/-- THE TIED CARD OF 'downpourlaw12.DecodeImage'. -/
def decodeImageCard : Claim7 := { stood := { row := decodeImageRow, standIns := [], harness := (true, "6f410ab353fde933f1747e0f9ad51ff9859c875541a159656b62c6fb5761ade6"), looks := false }, kinds := [], alts := [], laidByText := true, laidKinds := [.data], laidTests := true, laidLooks := .later }
def DecodeImageCardSaid : Prop := Claim7.holds Tryz.pinned (.plain (OpenSpec.ofChange decodeImageSpec)) decodeImageCard

/-- THE TIED CARD OF 'downpourlaw12.DecodeRefuses'. -/
def decodeRefusesCard : Claim7 := { stood := { row := decodeRefusesRow, standIns := [], harness := (true, "6f410ab353fde933f1747e0f9ad51ff9859c875541a159656b62c6fb5761ade6"), looks := false }, kinds := [], alts := [], laidByText := true, laidKinds := [.data], laidTests := true, laidLooks := .later }
def DecodeRefusesCardSaid : Prop := Claim7.holds Tryz.pinned (.plain (OpenSpec.ofChange decodeRefusesSpec)) decodeRefusesCard

/-- THE SECOND FORM's CARD OF 'downpourlaw12.DecodeCounts'. -/
def decodeCountsUptoCard : Claim7 := { stood := { row := decodeCountsUptoRow, standIns := [], harness := (true, "6f410ab353fde933f1747e0f9ad51ff9859c875541a159656b62c6fb5761ade6"), looks := false }, kinds := [], alts := [], laidByText := true, laidKinds := [.data], laidTests := true, laidLooks := .later }
def DecodeCountsUptoCardSaid : Prop := Claim7.holds Tryz.pinned (.plain (OpenSpec.upto decodeCountsSpec)) decodeCountsUptoCard

/-- THE SECOND FORM's CARD OF 'downpourlaw12.DecodeNil'. -/
def decodeNilUptoCard : Claim7 := { stood := { row := decodeNilUptoRow, standIns := [], harness := (true, "6f410ab353fde933f1747e0f9ad51ff9859c875541a159656b62c6fb5761ade6"), looks := false }, kinds := [], alts := [], laidByText := true, laidKinds := [.data], laidTests := true, laidLooks := .later }
def DecodeNilUptoCardSaid : Prop := Claim7.holds Tryz.pinned (.plain (OpenSpec.upto decodeNilSpec)) decodeNilUptoCard

/-- THE SECOND FORM's CARD OF 'downpourlaw12.DecodeTwo'. -/
def decodeTwoUptoCard : Claim7 := { stood := { row := decodeTwoUptoRow, standIns := [], harness := (true, "6f410ab353fde933f1747e0f9ad51ff9859c875541a159656b62c6fb5761ade6"), looks := false }, kinds := [], alts := [], laidByText := true, laidKinds := [.data], laidTests := true, laidLooks := .later }
def DecodeTwoUptoCardSaid : Prop := Claim7.holds Tryz.pinned (.plain (OpenSpec.upto decodeTwoSpec)) decodeTwoUptoCard

/-- THE SECOND FORM's CARD OF 'downpourlaw12.DecodeImage'. -/
def decodeImageUptoCard : Claim7 := { stood := { row := decodeImageUptoRow, standIns := [], harness := (true, "6f410ab353fde933f1747e0f9ad51ff9859c875541a159656b62c6fb5761ade6"), looks := false }, kinds := [], alts := [], laidByText := true, laidKinds := [.data], laidTests := true, laidLooks := .later }
def DecodeImageUptoCardSaid : Prop := Claim7.holds Tryz.pinned (.plain (OpenSpec.upto decodeImageSpec)) decodeImageUptoCard

/-- THE SECOND FORM's CARD OF 'downpourlaw12.DecodeRefuses'. -/
def decodeRefusesUptoCard : Claim7 := { stood := { row := decodeRefusesUptoRow, standIns := [], harness := (true, "6f410ab353fde933f1747e0f9ad51ff9859c875541a159656b62c6fb5761ade6"), looks := false }, kinds := [], alts := [], laidByText := true, laidKinds := [.data], laidTests := true, laidLooks := .later }
def DecodeRefusesUptoCardSaid : Prop := Claim7.holds Tryz.pinned (.plain (OpenSpec.upto decodeRefusesSpec)) decodeRefusesUptoCard
end Rows
end Go.Proofs.YtghgmchgbhdldaaGreatDoor
