/-
  DERIVED. GIVEN WITH THE SEED: THE CARDS: each row of YtpanclbmfpgalaaDoorRows.lean that lists a variable, with what it lists TIED to the program's text (the seventh form; the later family's looks); each row that meets fmt, with fmt's text TOLD by the authors' own Lean function (tested against real Go, not proved from fmt's source: count such statements apart). THE CARD IS WHAT COUNTS. Prove the row's statement (the work); the ties are given (YtpanclbmfpgalaaDoorTie.lean); close each card by the builder's one call (the guide's Derived/Test/ToyasCard.lean, 'card_holds'). Laid BY PROGRAM, IN A SANDBOX (cutbox-door.mjs). By AI agents, Wed Nov 11 2026. No macro, syntax, notation, axiom, sorry.
-/
import Derived.Test.YtpanclbmfpgalaaDoorRows
import GoSem.ClaimSeven
namespace Go.Proofs.YtpanclbmfpgalaaDoor
namespace Rows

/-- THE TIED CARD OF 'laws.FnTakeTwice'. -/
def fnTakeTwiceCard : Claim7 := { stood := { row := fnTakeTwiceRow, standIns := [], harness := (true, "51b1f738c25202918b11f15a4cbc7fedca1b3411eea78b95f73b45e1dd1161e7"), looks := true }, kinds := [], alts := [], laidByText := true, laidKinds := [.sentinel], laidTests := true, laidLooks := .later }
def FnTakeTwiceCardSaid : Prop := Claim7.holds Tryd.pinned (.plain (OpenSpec.ofChange fnTakeTwiceSpec)) fnTakeTwiceCard

/-- THE TIED CARD OF 'laws.FnTakeCross'. -/
def fnTakeCrossCard : Claim7 := { stood := { row := fnTakeCrossRow, standIns := [], harness := (true, "51b1f738c25202918b11f15a4cbc7fedca1b3411eea78b95f73b45e1dd1161e7"), looks := true }, kinds := [], alts := [], laidByText := true, laidKinds := [.sentinel], laidTests := true, laidLooks := .later }
def FnTakeCrossCardSaid : Prop := Claim7.holds Tryd.pinned (.plain (OpenSpec.ofChange fnTakeCrossSpec)) fnTakeCrossCard

/-- THE TIED CARD OF 'laws.FnTakeFree'. -/
def fnTakeFreeCard : Claim7 := { stood := { row := fnTakeFreeRow, standIns := [], harness := (true, "51b1f738c25202918b11f15a4cbc7fedca1b3411eea78b95f73b45e1dd1161e7"), looks := true }, kinds := [], alts := [], laidByText := true, laidKinds := [.sentinel], laidTests := true, laidLooks := .later }
def FnTakeFreeCardSaid : Prop := Claim7.holds Tryd.pinned (.plain (OpenSpec.ofChange fnTakeFreeSpec)) fnTakeFreeCard

/-- THE SECOND FORM's CARD OF 'laws.FnTakeTwice'. -/
def fnTakeTwiceUptoCard : Claim7 := { stood := { row := fnTakeTwiceUptoRow, standIns := [], harness := (true, "51b1f738c25202918b11f15a4cbc7fedca1b3411eea78b95f73b45e1dd1161e7"), looks := true }, kinds := [], alts := [], laidByText := true, laidKinds := [.sentinel], laidTests := true, laidLooks := .later }
def FnTakeTwiceUptoCardSaid : Prop := Claim7.holds Tryd.pinned (.plain (OpenSpec.upto fnTakeTwiceSpec)) fnTakeTwiceUptoCard

/-- THE SECOND FORM's CARD OF 'laws.FnTakeCross'. -/
def fnTakeCrossUptoCard : Claim7 := { stood := { row := fnTakeCrossUptoRow, standIns := [], harness := (true, "51b1f738c25202918b11f15a4cbc7fedca1b3411eea78b95f73b45e1dd1161e7"), looks := true }, kinds := [], alts := [], laidByText := true, laidKinds := [.sentinel], laidTests := true, laidLooks := .later }
def FnTakeCrossUptoCardSaid : Prop := Claim7.holds Tryd.pinned (.plain (OpenSpec.upto fnTakeCrossSpec)) fnTakeCrossUptoCard

/-- THE SECOND FORM's CARD OF 'laws.FnTakeFree'. -/
def fnTakeFreeUptoCard : Claim7 := { stood := { row := fnTakeFreeUptoRow, standIns := [], harness := (true, "51b1f738c25202918b11f15a4cbc7fedca1b3411eea78b95f73b45e1dd1161e7"), looks := true }, kinds := [], alts := [], laidByText := true, laidKinds := [.sentinel], laidTests := true, laidLooks := .later }
def FnTakeFreeUptoCardSaid : Prop := Claim7.holds Tryd.pinned (.plain (OpenSpec.upto fnTakeFreeSpec)) fnTakeFreeUptoCard
end Rows
end Go.Proofs.YtpanclbmfpgalaaDoor
