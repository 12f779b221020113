/-
  NARROWER THAN 'FOR EVERY INPUT', by the rows' own cells (each row's printed sentence says how): FnTakeTwice: ifaces, laid · FnTakeCross: ifaces, laid · FnTakeFree: ifaces, laid.
  DERIVED. THE GIVEN ROWS OF THIS SEAT. 3 by the template 'for every input the law returns true; each argument reads behind the call as it read before'; 0 by the template 'total and deterministic' (their statements: YtpanclbmfpgalaaDoorTotals.lean).
  GIVEN WITH THE SEED: the statements are not yours to turn. If you find one false, say at which input.
  Laid BY PROGRAM, IN A SANDBOX (cutbox-rows.mjs): the forced cells as the released guide's own fill.sh prints them over the translation 29e8fcdf514539dd… (all of the seat's roots in one cut). By AI agents, Wed Nov 11 2026. No macro, syntax, notation, axiom, sorry.
-/
import Derived.Test.YtpanclbmfpgalaaDoorChecked
import GoSem.Claim
import GoSem.ClaimJoined
import GoSem.ClaimMapViews
import Derived.JoinedTies
import Derived.KernelRfl
namespace Go.Proofs.YtpanclbmfpgalaaDoor
/- THE CELL 'sum', in the pinned program and in every row, IS THE sha256 OF THE DUMP (.gsa) THAT YtpanclbmfpgalaaDoorProg.lean LOADS. Nothing in Lean hashes anything: it is a label: what it is worth is what the hold of that sum in a sandbox is worth. -/
noncomputable def Tryd.pinned : Pinned := { name := "ytpanclbmfpgalaadoor", sum := "29e8fcdf514539dd6e2bdc06ae5403927b62d5da35206b856c4f09f4edc38d6d", checked := Tryd.checked }
namespace Rows
def none {H : Type} : Left H := { results := [], args := [] }

/- WHAT THE LISTED PACKAGE-LEVEL VARIABLES READ AS WHEN THE CALL BEGINS. Each datum BY PROGRAM (the guide's laid-datum.mjs) off the statement by which the dump's own 'gosem.cut.vars' lays the variable. In a bare row this is a premise. The card (YtpanclbmfpgalaaDoorCards.lean) ties it to the program's text. -/
def laid_loop_example_atomicpush_impl_errLocked {H : Type} : DataW H := .iface "*errors.errorString" (.ptr (.agg [.lit (.string [108, 111, 99, 107, 101, 100])]))

/-- 'laws.FnTakeTwice': WHATEVER THE INPUT: true; the input reads as it did. -/
def fnTakeTwiceSpec : ChangeSpec := { name := "fnTakeTwice", vars := ["loop.example/atomicpush/impl.errLocked"], fn := fun _ => fun
  | [d1, d2, g1] => { results := [.lit (.bool true)], args := [d1, d2], vars := [g1] }
  | _ => none }
def fnTakeTwiceRow : OpenClaim := { program := "ytpanclbmfpgalaadoor", sum := "29e8fcdf514539dd6e2bdc06ae5403927b62d5da35206b856c4f09f4edc38d6d", func := "loop.example/atomicpush/laws.FnTakeTwice", spec := "fnTakeTwice", inPlace := ["internal/reflectlite.TypeOf"], unfollowed := true, recurses := true, named := ["loop.example/atomicpush/impl.errLocked"], ifaces := true, apart := false, laid := [("loop.example/atomicpush/impl.errLocked", laid_loop_example_atomicpush_impl_errLocked)] }
def FnTakeTwiceSaid : Prop := fnTakeTwiceRow.holds Tryd.pinned (OpenSpec.ofChange fnTakeTwiceSpec)

/-- ITS FALSE NEIGHBOUR: 'it returns false'. Refute it at one input. -/
def fnTakeTwiceWrong : ChangeSpec := { name := "fnTakeTwice", vars := ["loop.example/atomicpush/impl.errLocked"], fn := fun _ => fun
  | [d1, d2, g1] => { results := [.lit (.bool false)], args := [d1, d2], vars := [g1] }
  | _ => none }
def FnTakeTwiceWrongFalsely : Prop := fnTakeTwiceRow.holds Tryd.pinned (OpenSpec.ofChange fnTakeTwiceWrong)

/-- 'laws.FnTakeCross': WHATEVER THE INPUT: true; the input reads as it did. -/
def fnTakeCrossSpec : ChangeSpec := { name := "fnTakeCross", vars := ["loop.example/atomicpush/impl.errLocked"], fn := fun _ => fun
  | [d1, d2, g1] => { results := [.lit (.bool true)], args := [d1, d2], vars := [g1] }
  | _ => none }
def fnTakeCrossRow : OpenClaim := { program := "ytpanclbmfpgalaadoor", sum := "29e8fcdf514539dd6e2bdc06ae5403927b62d5da35206b856c4f09f4edc38d6d", func := "loop.example/atomicpush/laws.FnTakeCross", spec := "fnTakeCross", inPlace := ["internal/reflectlite.TypeOf"], unfollowed := true, recurses := true, named := ["loop.example/atomicpush/impl.errLocked"], ifaces := true, apart := false, laid := [("loop.example/atomicpush/impl.errLocked", laid_loop_example_atomicpush_impl_errLocked)] }
def FnTakeCrossSaid : Prop := fnTakeCrossRow.holds Tryd.pinned (OpenSpec.ofChange fnTakeCrossSpec)

/-- ITS FALSE NEIGHBOUR: 'it returns false'. Refute it at one input. -/
def fnTakeCrossWrong : ChangeSpec := { name := "fnTakeCross", vars := ["loop.example/atomicpush/impl.errLocked"], fn := fun _ => fun
  | [d1, d2, g1] => { results := [.lit (.bool false)], args := [d1, d2], vars := [g1] }
  | _ => none }
def FnTakeCrossWrongFalsely : Prop := fnTakeCrossRow.holds Tryd.pinned (OpenSpec.ofChange fnTakeCrossWrong)

/-- 'laws.FnTakeFree': WHATEVER THE INPUT: true; the input reads as it did. -/
def fnTakeFreeSpec : ChangeSpec := { name := "fnTakeFree", vars := ["loop.example/atomicpush/impl.errLocked"], fn := fun _ => fun
  | [d, g1] => { results := [.lit (.bool true)], args := [d], vars := [g1] }
  | _ => none }
def fnTakeFreeRow : OpenClaim := { program := "ytpanclbmfpgalaadoor", sum := "29e8fcdf514539dd6e2bdc06ae5403927b62d5da35206b856c4f09f4edc38d6d", func := "loop.example/atomicpush/laws.FnTakeFree", spec := "fnTakeFree", inPlace := ["internal/reflectlite.TypeOf"], unfollowed := true, recurses := true, named := ["loop.example/atomicpush/impl.errLocked"], ifaces := true, apart := false, laid := [("loop.example/atomicpush/impl.errLocked", laid_loop_example_atomicpush_impl_errLocked)] }
def FnTakeFreeSaid : Prop := fnTakeFreeRow.holds Tryd.pinned (OpenSpec.ofChange fnTakeFreeSpec)

/-- ITS FALSE NEIGHBOUR: 'it returns false'. Refute it at one input. -/
def fnTakeFreeWrong : ChangeSpec := { name := "fnTakeFree", vars := ["loop.example/atomicpush/impl.errLocked"], fn := fun _ => fun
  | [d, g1] => { results := [.lit (.bool false)], args := [d], vars := [g1] }
  | _ => none }
def FnTakeFreeWrongFalsely : Prop := fnTakeFreeRow.holds Tryd.pinned (OpenSpec.ofChange fnTakeFreeWrong)

/- THE SECOND FORM. 'bulk': how many values and letters a reading holds, each counted each time it is reached (what is shared counts as often as it is met; a slice's spare places count too). A statement '..UptoSaid' is the law's where the arguments, and the package variables that the reading takes, are together of bulk at most 1048576: NARROWER than '..Said'. Prove '..Said' where nothing that the law and all that it calls make is longer than what came in: it says more and counts as full. Else prove '..UptoSaid'. A law counts once. -/
mutual
def uptoBulk {H : Type} : DataW H → Nat
  | .lit (.string bytes) => bytes.length + 1
  | .lit _ => 1
  | .nil => 1
  | .ptr d => uptoBulk d + 1
  | .slice elems spare => uptoBulkAll elems + uptoBulkAll spare + 1
  | .agg parts => uptoBulkAll parts + 1
  | .iface _ d => uptoBulk d + 1
  | .map entries => uptoBulkEntries entries + 1
  | .held _ => 1
def uptoBulkAll {H : Type} : List (DataW H) → Nat
  | [] => 0
  | d :: r => uptoBulk d + uptoBulkAll r
def uptoBulkEntries {H : Type} : List (Lit × DataW H) → Nat
  | [] => 0
  | x :: r => uptoBulkEntry x + uptoBulkEntries r
def uptoBulkEntry {H : Type} : Lit × DataW H → Nat
  | (.string bytes, d) => bytes.length + uptoBulk d + 1
  | (_, d) => uptoBulk d + 1
 end
def uptoSmall : (H : Type) → List (DataW H) → Bool := fun _ ds => decide (uptoBulkAll ds ≤ 1048576)
def OpenSpec.upto (s : _root_.Go.ChangeSpec) : _root_.Go.OpenSpec := { _root_.Go.OpenSpec.ofChange s with cond := some uptoSmall }

/-- 'laws.FnTakeTwice', WHERE WHAT IT READS IS OF BULK AT MOST 1048576: true; the input reads as it did. -/
def fnTakeTwiceUptoRow : OpenClaim := { program := "ytpanclbmfpgalaadoor", sum := "29e8fcdf514539dd6e2bdc06ae5403927b62d5da35206b856c4f09f4edc38d6d", func := "loop.example/atomicpush/laws.FnTakeTwice", spec := "fnTakeTwice", inPlace := ["internal/reflectlite.TypeOf"], unfollowed := true, recurses := true, named := ["loop.example/atomicpush/impl.errLocked"], ifaces := true, apart := false, laid := [("loop.example/atomicpush/impl.errLocked", laid_loop_example_atomicpush_impl_errLocked)], narrowed := true }
def FnTakeTwiceUptoSaid : Prop := fnTakeTwiceUptoRow.holds Tryd.pinned (OpenSpec.upto fnTakeTwiceSpec)

/-- 'laws.FnTakeCross', WHERE WHAT IT READS IS OF BULK AT MOST 1048576: true; the input reads as it did. -/
def fnTakeCrossUptoRow : OpenClaim := { program := "ytpanclbmfpgalaadoor", sum := "29e8fcdf514539dd6e2bdc06ae5403927b62d5da35206b856c4f09f4edc38d6d", func := "loop.example/atomicpush/laws.FnTakeCross", spec := "fnTakeCross", inPlace := ["internal/reflectlite.TypeOf"], unfollowed := true, recurses := true, named := ["loop.example/atomicpush/impl.errLocked"], ifaces := true, apart := false, laid := [("loop.example/atomicpush/impl.errLocked", laid_loop_example_atomicpush_impl_errLocked)], narrowed := true }
def FnTakeCrossUptoSaid : Prop := fnTakeCrossUptoRow.holds Tryd.pinned (OpenSpec.upto fnTakeCrossSpec)

/-- 'laws.FnTakeFree', WHERE WHAT IT READS IS OF BULK AT MOST 1048576: true; the input reads as it did. -/
def fnTakeFreeUptoRow : OpenClaim := { program := "ytpanclbmfpgalaadoor", sum := "29e8fcdf514539dd6e2bdc06ae5403927b62d5da35206b856c4f09f4edc38d6d", func := "loop.example/atomicpush/laws.FnTakeFree", spec := "fnTakeFree", inPlace := ["internal/reflectlite.TypeOf"], unfollowed := true, recurses := true, named := ["loop.example/atomicpush/impl.errLocked"], ifaces := true, apart := false, laid := [("loop.example/atomicpush/impl.errLocked", laid_loop_example_atomicpush_impl_errLocked)], narrowed := true }
def FnTakeFreeUptoSaid : Prop := fnTakeFreeUptoRow.holds Tryd.pinned (OpenSpec.upto fnTakeFreeSpec)

end Rows
end Go.Proofs.YtpanclbmfpgalaaDoor
