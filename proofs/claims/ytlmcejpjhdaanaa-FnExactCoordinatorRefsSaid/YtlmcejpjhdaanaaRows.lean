/-
  No cell of these rows narrows 'for every input' (looked for: loops, veiled, ifaces, maps, wideKeys, modest, calm, conditions, laid).
  DERIVED. THE GIVEN ROWS OF THIS SEAT. 6 by the template 'for every input the law returns true; each argument reads behind the call as it read before'; 0 by the template 'total and deterministic' (their statements: YtlmcejpjhdaanaaTotals.lean).
  GIVEN WITH THE SEED: the statements are not yours to turn. If you find one false, say at which input.
  Laid BY PROGRAM, IN A SANDBOX (cutbox-rows.mjs): the forced cells as the released guide's own fill.sh prints them over the translation 195a3b1a8b6c9517… (all of the seat's roots in one cut). By AI agents, Wed Nov 11 2026. No macro, syntax, notation, axiom, sorry.
-/
import Derived.Test.YtlmcejpjhdaanaaChecked
import GoSem.Claim
import GoSem.ClaimJoined
import GoSem.ClaimMapViews
import Derived.JoinedTies
import Derived.KernelRfl
namespace Go.Proofs.Ytlmcejpjhdaanaa
/- THE CELL 'sum', in the pinned program and in every row, IS THE sha256 OF THE DUMP (.gsa) THAT YtlmcejpjhdaanaaProg.lean LOADS. Nothing in Lean hashes anything: it is a label: what it is worth is what the hold of that sum in a sandbox is worth. -/
noncomputable def Try.pinned : Pinned := { name := "ytlmcejpjhdaanaa", sum := "195a3b1a8b6c9517c2a3bf6109fa1be5df10746595fba1005ab91d91f218f65d", checked := Try.checked }
namespace Rows
def none {H : Type} : Left H := { results := [], args := [] }

/-- 'laws.FnTimeoutLate': WHATEVER THE INPUT: true; the input reads as it did. -/
def fnTimeoutLateSpec : ChangeSpec := { name := "fnTimeoutLate", fn := fun _ => fun
  | [d] => { results := [.lit (.bool true)], args := [d] }
  | _ => none }
def fnTimeoutLateRow : OpenClaim := { program := "ytlmcejpjhdaanaa", sum := "195a3b1a8b6c9517c2a3bf6109fa1be5df10746595fba1005ab91d91f218f65d", func := "loop.example/atomicpush/laws.FnTimeoutLate", spec := "fnTimeoutLate", recurses := true, apart := false }
def FnTimeoutLateSaid : Prop := fnTimeoutLateRow.holds Try.pinned (OpenSpec.ofChange fnTimeoutLateSpec)

/-- ITS FALSE NEIGHBOUR: 'it returns false'. Refute it at one input. -/
def fnTimeoutLateWrong : ChangeSpec := { name := "fnTimeoutLate", fn := fun _ => fun
  | [d] => { results := [.lit (.bool false)], args := [d] }
  | _ => none }
def FnTimeoutLateWrongFalsely : Prop := fnTimeoutLateRow.holds Try.pinned (OpenSpec.ofChange fnTimeoutLateWrong)

/-- 'laws.FnTimeout': WHATEVER THE INPUT: true; the input reads as it did. -/
def fnTimeoutSpec : ChangeSpec := { name := "fnTimeout", fn := fun _ => fun
  | [d] => { results := [.lit (.bool true)], args := [d] }
  | _ => none }
def fnTimeoutRow : OpenClaim := { program := "ytlmcejpjhdaanaa", sum := "195a3b1a8b6c9517c2a3bf6109fa1be5df10746595fba1005ab91d91f218f65d", func := "loop.example/atomicpush/laws.FnTimeout", spec := "fnTimeout", recurses := true, apart := false }
def FnTimeoutSaid : Prop := fnTimeoutRow.holds Try.pinned (OpenSpec.ofChange fnTimeoutSpec)

/-- ITS FALSE NEIGHBOUR: 'it returns false'. Refute it at one input. -/
def fnTimeoutWrong : ChangeSpec := { name := "fnTimeout", fn := fun _ => fun
  | [d] => { results := [.lit (.bool false)], args := [d] }
  | _ => none }
def FnTimeoutWrongFalsely : Prop := fnTimeoutRow.holds Try.pinned (OpenSpec.ofChange fnTimeoutWrong)

/-- 'laws.FnExactCoordinatorTimeout': WHATEVER THE INPUT: true; the input reads as it did. -/
def fnExactCoordinatorTimeoutSpec : ChangeSpec := { name := "fnExactCoordinatorTimeout", fn := fun _ => fun
  | [d1, d2] => { results := [.lit (.bool true)], args := [d1, d2] }
  | _ => none }
def fnExactCoordinatorTimeoutRow : OpenClaim := { program := "ytlmcejpjhdaanaa", sum := "195a3b1a8b6c9517c2a3bf6109fa1be5df10746595fba1005ab91d91f218f65d", func := "loop.example/atomicpush/laws.FnExactCoordinatorTimeout", spec := "fnExactCoordinatorTimeout", recurses := true, apart := false }
def FnExactCoordinatorTimeoutSaid : Prop := fnExactCoordinatorTimeoutRow.holds Try.pinned (OpenSpec.ofChange fnExactCoordinatorTimeoutSpec)

/-- ITS FALSE NEIGHBOUR: 'it returns false'. Refute it at one input. -/
def fnExactCoordinatorTimeoutWrong : ChangeSpec := { name := "fnExactCoordinatorTimeout", fn := fun _ => fun
  | [d1, d2] => { results := [.lit (.bool false)], args := [d1, d2] }
  | _ => none }
def FnExactCoordinatorTimeoutWrongFalsely : Prop := fnExactCoordinatorTimeoutRow.holds Try.pinned (OpenSpec.ofChange fnExactCoordinatorTimeoutWrong)

/-- 'laws.FnRefsNext': WHATEVER THE INPUT: true; the input reads as it did. -/
def fnRefsNextSpec : ChangeSpec := { name := "fnRefsNext", fn := fun _ => fun
  | [d] => { results := [.lit (.bool true)], args := [d] }
  | _ => none }
def fnRefsNextRow : OpenClaim := { program := "ytlmcejpjhdaanaa", sum := "195a3b1a8b6c9517c2a3bf6109fa1be5df10746595fba1005ab91d91f218f65d", func := "loop.example/atomicpush/laws.FnRefsNext", spec := "fnRefsNext", unfollowed := true, recurses := true, apart := false }
def FnRefsNextSaid : Prop := fnRefsNextRow.holds Try.pinned (OpenSpec.ofChange fnRefsNextSpec)

/-- ITS FALSE NEIGHBOUR: 'it returns false'. Refute it at one input. -/
def fnRefsNextWrong : ChangeSpec := { name := "fnRefsNext", fn := fun _ => fun
  | [d] => { results := [.lit (.bool false)], args := [d] }
  | _ => none }
def FnRefsNextWrongFalsely : Prop := fnRefsNextRow.holds Try.pinned (OpenSpec.ofChange fnRefsNextWrong)

/-- 'laws.FnRefsBegin': WHATEVER THE INPUT: true; the input reads as it did. -/
def fnRefsBeginSpec : ChangeSpec := { name := "fnRefsBegin", fn := fun _ => fun
  | [d] => { results := [.lit (.bool true)], args := [d] }
  | _ => none }
def fnRefsBeginRow : OpenClaim := { program := "ytlmcejpjhdaanaa", sum := "195a3b1a8b6c9517c2a3bf6109fa1be5df10746595fba1005ab91d91f218f65d", func := "loop.example/atomicpush/laws.FnRefsBegin", spec := "fnRefsBegin", unfollowed := true, recurses := true, apart := false }
def FnRefsBeginSaid : Prop := fnRefsBeginRow.holds Try.pinned (OpenSpec.ofChange fnRefsBeginSpec)

/-- ITS FALSE NEIGHBOUR: 'it returns false'. Refute it at one input. -/
def fnRefsBeginWrong : ChangeSpec := { name := "fnRefsBegin", fn := fun _ => fun
  | [d] => { results := [.lit (.bool false)], args := [d] }
  | _ => none }
def FnRefsBeginWrongFalsely : Prop := fnRefsBeginRow.holds Try.pinned (OpenSpec.ofChange fnRefsBeginWrong)

/-- 'laws.FnExactCoordinatorRefs': WHATEVER THE INPUT: true; the input reads as it did. -/
def fnExactCoordinatorRefsSpec : ChangeSpec := { name := "fnExactCoordinatorRefs", fn := fun _ => fun
  | [d1, d2, d3] => { results := [.lit (.bool true)], args := [d1, d2, d3] }
  | _ => none }
def fnExactCoordinatorRefsRow : OpenClaim := { program := "ytlmcejpjhdaanaa", sum := "195a3b1a8b6c9517c2a3bf6109fa1be5df10746595fba1005ab91d91f218f65d", func := "loop.example/atomicpush/laws.FnExactCoordinatorRefs", spec := "fnExactCoordinatorRefs", unfollowed := true, recurses := true, apart := false }
def FnExactCoordinatorRefsSaid : Prop := fnExactCoordinatorRefsRow.holds Try.pinned (OpenSpec.ofChange fnExactCoordinatorRefsSpec)

/-- ITS FALSE NEIGHBOUR: 'it returns false'. Refute it at one input. -/
def fnExactCoordinatorRefsWrong : ChangeSpec := { name := "fnExactCoordinatorRefs", fn := fun _ => fun
  | [d1, d2, d3] => { results := [.lit (.bool false)], args := [d1, d2, d3] }
  | _ => none }
def FnExactCoordinatorRefsWrongFalsely : Prop := fnExactCoordinatorRefsRow.holds Try.pinned (OpenSpec.ofChange fnExactCoordinatorRefsWrong)

/- THE SECOND FORM. 'bulk': how many values and letters a reading holds, each counted each time it is reached (what is shared counts as often as it is met; a slice's spare places count too). A statement '..UptoSaid' is the law's where the arguments, and the package variables that the reading takes, are together of bulk at most 1048576: NARROWER than '..Said'. Prove '..Said' where nothing that the law and all that it calls make is longer than what came in: it says more and counts as full. Else prove '..UptoSaid'. A law counts once. -/
mutual
def uptoBulk {H : Type} : DataW H → Nat
  | .lit (.string bytes) => bytes.length + 1
  | .lit _ => 1
  | .nil => 1
  | .ptr d => uptoBulk d + 1
  | .slice elems spare => uptoBulkAll elems + uptoBulkAll spare + 1
  | .agg parts => uptoBulkAll parts + 1
  | .iface _ d => uptoBulk d + 1
  | .map entries => uptoBulkEntries entries + 1
  | .held _ => 1
def uptoBulkAll {H : Type} : List (DataW H) → Nat
  | [] => 0
  | d :: r => uptoBulk d + uptoBulkAll r
def uptoBulkEntries {H : Type} : List (Lit × DataW H) → Nat
  | [] => 0
  | x :: r => uptoBulkEntry x + uptoBulkEntries r
def uptoBulkEntry {H : Type} : Lit × DataW H → Nat
  | (.string bytes, d) => bytes.length + uptoBulk d + 1
  | (_, d) => uptoBulk d + 1
 end
def uptoSmall : (H : Type) → List (DataW H) → Bool := fun _ ds => decide (uptoBulkAll ds ≤ 1048576)
def OpenSpec.upto (s : _root_.Go.ChangeSpec) : _root_.Go.OpenSpec := { _root_.Go.OpenSpec.ofChange s with cond := some uptoSmall }

/-- 'laws.FnTimeoutLate', WHERE WHAT IT READS IS OF BULK AT MOST 1048576: true; the input reads as it did. -/
def fnTimeoutLateUptoRow : OpenClaim := { program := "ytlmcejpjhdaanaa", sum := "195a3b1a8b6c9517c2a3bf6109fa1be5df10746595fba1005ab91d91f218f65d", func := "loop.example/atomicpush/laws.FnTimeoutLate", spec := "fnTimeoutLate", recurses := true, apart := false, narrowed := true }
def FnTimeoutLateUptoSaid : Prop := fnTimeoutLateUptoRow.holds Try.pinned (OpenSpec.upto fnTimeoutLateSpec)

/-- 'laws.FnTimeout', WHERE WHAT IT READS IS OF BULK AT MOST 1048576: true; the input reads as it did. -/
def fnTimeoutUptoRow : OpenClaim := { program := "ytlmcejpjhdaanaa", sum := "195a3b1a8b6c9517c2a3bf6109fa1be5df10746595fba1005ab91d91f218f65d", func := "loop.example/atomicpush/laws.FnTimeout", spec := "fnTimeout", recurses := true, apart := false, narrowed := true }
def FnTimeoutUptoSaid : Prop := fnTimeoutUptoRow.holds Try.pinned (OpenSpec.upto fnTimeoutSpec)

/-- 'laws.FnExactCoordinatorTimeout', WHERE WHAT IT READS IS OF BULK AT MOST 1048576: true; the input reads as it did. -/
def fnExactCoordinatorTimeoutUptoRow : OpenClaim := { program := "ytlmcejpjhdaanaa", sum := "195a3b1a8b6c9517c2a3bf6109fa1be5df10746595fba1005ab91d91f218f65d", func := "loop.example/atomicpush/laws.FnExactCoordinatorTimeout", spec := "fnExactCoordinatorTimeout", recurses := true, apart := false, narrowed := true }
def FnExactCoordinatorTimeoutUptoSaid : Prop := fnExactCoordinatorTimeoutUptoRow.holds Try.pinned (OpenSpec.upto fnExactCoordinatorTimeoutSpec)

/-- 'laws.FnRefsNext', WHERE WHAT IT READS IS OF BULK AT MOST 1048576: true; the input reads as it did. -/
def fnRefsNextUptoRow : OpenClaim := { program := "ytlmcejpjhdaanaa", sum := "195a3b1a8b6c9517c2a3bf6109fa1be5df10746595fba1005ab91d91f218f65d", func := "loop.example/atomicpush/laws.FnRefsNext", spec := "fnRefsNext", unfollowed := true, recurses := true, apart := false, narrowed := true }
def FnRefsNextUptoSaid : Prop := fnRefsNextUptoRow.holds Try.pinned (OpenSpec.upto fnRefsNextSpec)

/-- 'laws.FnRefsBegin', WHERE WHAT IT READS IS OF BULK AT MOST 1048576: true; the input reads as it did. -/
def fnRefsBeginUptoRow : OpenClaim := { program := "ytlmcejpjhdaanaa", sum := "195a3b1a8b6c9517c2a3bf6109fa1be5df10746595fba1005ab91d91f218f65d", func := "loop.example/atomicpush/laws.FnRefsBegin", spec := "fnRefsBegin", unfollowed := true, recurses := true, apart := false, narrowed := true }
def FnRefsBeginUptoSaid : Prop := fnRefsBeginUptoRow.holds Try.pinned (OpenSpec.upto fnRefsBeginSpec)

/-- 'laws.FnExactCoordinatorRefs', WHERE WHAT IT READS IS OF BULK AT MOST 1048576: true; the input reads as it did. -/
def fnExactCoordinatorRefsUptoRow : OpenClaim := { program := "ytlmcejpjhdaanaa", sum := "195a3b1a8b6c9517c2a3bf6109fa1be5df10746595fba1005ab91d91f218f65d", func := "loop.example/atomicpush/laws.FnExactCoordinatorRefs", spec := "fnExactCoordinatorRefs", unfollowed := true, recurses := true, apart := false, narrowed := true }
def FnExactCoordinatorRefsUptoSaid : Prop := fnExactCoordinatorRefsUptoRow.holds Try.pinned (OpenSpec.upto fnExactCoordinatorRefsSpec)

end Rows
end Go.Proofs.Ytlmcejpjhdaanaa
