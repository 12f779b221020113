/-
  No cell of these rows narrows 'for every input' (looked for: loops, veiled, ifaces, maps, wideKeys, modest, calm, conditions, laid).
  DERIVED. THE GIVEN ROWS OF THIS SEAT. 9 by the template 'for every input the law returns true; each argument reads behind the call as it read before'; 0 by the template 'total and deterministic' (their statements: YtfbdfigkodiboaaTotals.lean).
  GIVEN WITH THE SEED: the statements are not yours to turn. If you find one false, say at which input.
  Laid BY PROGRAM, IN A SANDBOX (cutbox-rows.mjs): the forced cells as the released guide's own fill.sh prints them over the translation 433833c3b67943a8… (all of the seat's roots in one cut). By AI agents, Wed Nov 11 2026. No macro, syntax, notation, axiom, sorry.
-/
import Derived.Test.YtfbdfigkodiboaaChecked
import GoSem.Claim
import GoSem.ClaimJoined
import GoSem.ClaimMapViews
import Derived.JoinedTies
import Derived.KernelRfl
namespace Go.Proofs.Ytfbdfigkodiboaa
/- THE CELL 'sum', in the pinned program and in every row, IS THE sha256 OF THE DUMP (.gsa) THAT YtfbdfigkodiboaaProg.lean LOADS. Nothing in Lean hashes anything: it is a label: what it is worth is what the hold of that sum in a sandbox is worth. -/
noncomputable def Try.pinned : Pinned := { name := "ytfbdfigkodiboaa", sum := "433833c3b67943a81a5244c0e413c04ae8724691a78f1bcaade66b1417b555be", checked := Try.checked }
namespace Rows
def none {H : Type} : Left H := { results := [], args := [] }

/-- 'laws.FnExactCoordinatorValid': WHATEVER THE INPUT: true; the input reads as it did. -/
def fnExactCoordinatorValidSpec : ChangeSpec := { name := "fnExactCoordinatorValid", fn := fun _ => fun
  | [d] => { results := [.lit (.bool true)], args := [d] }
  | _ => none }
def fnExactCoordinatorValidRow : OpenClaim := { program := "ytfbdfigkodiboaa", sum := "433833c3b67943a81a5244c0e413c04ae8724691a78f1bcaade66b1417b555be", func := "loop.example/atomicpush/laws.FnExactCoordinatorValid", spec := "fnExactCoordinatorValid", recurses := true, apart := false }
def FnExactCoordinatorValidSaid : Prop := fnExactCoordinatorValidRow.holds Try.pinned (OpenSpec.ofChange fnExactCoordinatorValidSpec)

/-- ITS FALSE NEIGHBOUR: 'it returns false'. Refute it at one input. -/
def fnExactCoordinatorValidWrong : ChangeSpec := { name := "fnExactCoordinatorValid", fn := fun _ => fun
  | [d] => { results := [.lit (.bool false)], args := [d] }
  | _ => none }
def FnExactCoordinatorValidWrongFalsely : Prop := fnExactCoordinatorValidRow.holds Try.pinned (OpenSpec.ofChange fnExactCoordinatorValidWrong)

/-- 'laws.FnCommittedVotes': WHATEVER THE INPUT: true; the input reads as it did. -/
def fnCommittedVotesSpec : ChangeSpec := { name := "fnCommittedVotes", fn := fun _ => fun
  | [d] => { results := [.lit (.bool true)], args := [d] }
  | _ => none }
def fnCommittedVotesRow : OpenClaim := { program := "ytfbdfigkodiboaa", sum := "433833c3b67943a81a5244c0e413c04ae8724691a78f1bcaade66b1417b555be", func := "loop.example/atomicpush/laws.FnCommittedVotes", spec := "fnCommittedVotes", recurses := true, apart := false }
def FnCommittedVotesSaid : Prop := fnCommittedVotesRow.holds Try.pinned (OpenSpec.ofChange fnCommittedVotesSpec)

/-- ITS FALSE NEIGHBOUR: 'it returns false'. Refute it at one input. -/
def fnCommittedVotesWrong : ChangeSpec := { name := "fnCommittedVotes", fn := fun _ => fun
  | [d] => { results := [.lit (.bool false)], args := [d] }
  | _ => none }
def FnCommittedVotesWrongFalsely : Prop := fnCommittedVotesRow.holds Try.pinned (OpenSpec.ofChange fnCommittedVotesWrong)

/-- 'laws.FnOrderCommitted': WHATEVER THE INPUT: true; the input reads as it did. -/
def fnOrderCommittedSpec : ChangeSpec := { name := "fnOrderCommitted", fn := fun _ => fun
  | [d] => { results := [.lit (.bool true)], args := [d] }
  | _ => none }
def fnOrderCommittedRow : OpenClaim := { program := "ytfbdfigkodiboaa", sum := "433833c3b67943a81a5244c0e413c04ae8724691a78f1bcaade66b1417b555be", func := "loop.example/atomicpush/laws.FnOrderCommitted", spec := "fnOrderCommitted", recurses := true, apart := false }
def FnOrderCommittedSaid : Prop := fnOrderCommittedRow.holds Try.pinned (OpenSpec.ofChange fnOrderCommittedSpec)

/-- ITS FALSE NEIGHBOUR: 'it returns false'. Refute it at one input. -/
def fnOrderCommittedWrong : ChangeSpec := { name := "fnOrderCommitted", fn := fun _ => fun
  | [d] => { results := [.lit (.bool false)], args := [d] }
  | _ => none }
def FnOrderCommittedWrongFalsely : Prop := fnOrderCommittedRow.holds Try.pinned (OpenSpec.ofChange fnOrderCommittedWrong)

/-- 'laws.FnWaitsNone': WHATEVER THE INPUT: true; the input reads as it did. -/
def fnWaitsNoneSpec : ChangeSpec := { name := "fnWaitsNone", fn := fun _ => fun
  | [d] => { results := [.lit (.bool true)], args := [d] }
  | _ => none }
def fnWaitsNoneRow : OpenClaim := { program := "ytfbdfigkodiboaa", sum := "433833c3b67943a81a5244c0e413c04ae8724691a78f1bcaade66b1417b555be", func := "loop.example/atomicpush/laws.FnWaitsNone", spec := "fnWaitsNone", recurses := true, apart := false }
def FnWaitsNoneSaid : Prop := fnWaitsNoneRow.holds Try.pinned (OpenSpec.ofChange fnWaitsNoneSpec)

/-- ITS FALSE NEIGHBOUR: 'it returns false'. Refute it at one input. -/
def fnWaitsNoneWrong : ChangeSpec := { name := "fnWaitsNone", fn := fun _ => fun
  | [d] => { results := [.lit (.bool false)], args := [d] }
  | _ => none }
def FnWaitsNoneWrongFalsely : Prop := fnWaitsNoneRow.holds Try.pinned (OpenSpec.ofChange fnWaitsNoneWrong)

/-- 'laws.FnExactCoordinatorWaits': WHATEVER THE INPUT: true; the input reads as it did. -/
def fnExactCoordinatorWaitsSpec : ChangeSpec := { name := "fnExactCoordinatorWaits", fn := fun _ => fun
  | [d1, d2] => { results := [.lit (.bool true)], args := [d1, d2] }
  | _ => none }
def fnExactCoordinatorWaitsRow : OpenClaim := { program := "ytfbdfigkodiboaa", sum := "433833c3b67943a81a5244c0e413c04ae8724691a78f1bcaade66b1417b555be", func := "loop.example/atomicpush/laws.FnExactCoordinatorWaits", spec := "fnExactCoordinatorWaits", recurses := true, apart := false }
def FnExactCoordinatorWaitsSaid : Prop := fnExactCoordinatorWaitsRow.holds Try.pinned (OpenSpec.ofChange fnExactCoordinatorWaitsSpec)

/-- ITS FALSE NEIGHBOUR: 'it returns false'. Refute it at one input. -/
def fnExactCoordinatorWaitsWrong : ChangeSpec := { name := "fnExactCoordinatorWaits", fn := fun _ => fun
  | [d1, d2] => { results := [.lit (.bool false)], args := [d1, d2] }
  | _ => none }
def FnExactCoordinatorWaitsWrongFalsely : Prop := fnExactCoordinatorWaitsRow.holds Try.pinned (OpenSpec.ofChange fnExactCoordinatorWaitsWrong)

/-- 'laws.FnBeginFull': WHATEVER THE INPUT: true; the input reads as it did. -/
def fnBeginFullSpec : ChangeSpec := { name := "fnBeginFull", fn := fun _ => fun
  | [d] => { results := [.lit (.bool true)], args := [d] }
  | _ => none }
def fnBeginFullRow : OpenClaim := { program := "ytfbdfigkodiboaa", sum := "433833c3b67943a81a5244c0e413c04ae8724691a78f1bcaade66b1417b555be", func := "loop.example/atomicpush/laws.FnBeginFull", spec := "fnBeginFull", recurses := true, apart := false }
def FnBeginFullSaid : Prop := fnBeginFullRow.holds Try.pinned (OpenSpec.ofChange fnBeginFullSpec)

/-- ITS FALSE NEIGHBOUR: 'it returns false'. Refute it at one input. -/
def fnBeginFullWrong : ChangeSpec := { name := "fnBeginFull", fn := fun _ => fun
  | [d] => { results := [.lit (.bool false)], args := [d] }
  | _ => none }
def FnBeginFullWrongFalsely : Prop := fnBeginFullRow.holds Try.pinned (OpenSpec.ofChange fnBeginFullWrong)

/-- 'laws.FnBeginNumber': WHATEVER THE INPUT: true; the input reads as it did. -/
def fnBeginNumberSpec : ChangeSpec := { name := "fnBeginNumber", fn := fun _ => fun
  | [d] => { results := [.lit (.bool true)], args := [d] }
  | _ => none }
def fnBeginNumberRow : OpenClaim := { program := "ytfbdfigkodiboaa", sum := "433833c3b67943a81a5244c0e413c04ae8724691a78f1bcaade66b1417b555be", func := "loop.example/atomicpush/laws.FnBeginNumber", spec := "fnBeginNumber", recurses := true, apart := false }
def FnBeginNumberSaid : Prop := fnBeginNumberRow.holds Try.pinned (OpenSpec.ofChange fnBeginNumberSpec)

/-- ITS FALSE NEIGHBOUR: 'it returns false'. Refute it at one input. -/
def fnBeginNumberWrong : ChangeSpec := { name := "fnBeginNumber", fn := fun _ => fun
  | [d] => { results := [.lit (.bool false)], args := [d] }
  | _ => none }
def FnBeginNumberWrongFalsely : Prop := fnBeginNumberRow.holds Try.pinned (OpenSpec.ofChange fnBeginNumberWrong)

/-- 'laws.FnBegin': WHATEVER THE INPUT: true; the input reads as it did. -/
def fnBeginSpec : ChangeSpec := { name := "fnBegin", fn := fun _ => fun
  | [d] => { results := [.lit (.bool true)], args := [d] }
  | _ => none }
def fnBeginRow : OpenClaim := { program := "ytfbdfigkodiboaa", sum := "433833c3b67943a81a5244c0e413c04ae8724691a78f1bcaade66b1417b555be", func := "loop.example/atomicpush/laws.FnBegin", spec := "fnBegin", recurses := true, apart := false }
def FnBeginSaid : Prop := fnBeginRow.holds Try.pinned (OpenSpec.ofChange fnBeginSpec)

/-- ITS FALSE NEIGHBOUR: 'it returns false'. Refute it at one input. -/
def fnBeginWrong : ChangeSpec := { name := "fnBegin", fn := fun _ => fun
  | [d] => { results := [.lit (.bool false)], args := [d] }
  | _ => none }
def FnBeginWrongFalsely : Prop := fnBeginRow.holds Try.pinned (OpenSpec.ofChange fnBeginWrong)

/-- 'laws.FnExactCoordinatorBegin': WHATEVER THE INPUT: true; the input reads as it did. -/
def fnExactCoordinatorBeginSpec : ChangeSpec := { name := "fnExactCoordinatorBegin", fn := fun _ => fun
  | [d1, d2] => { results := [.lit (.bool true)], args := [d1, d2] }
  | _ => none }
def fnExactCoordinatorBeginRow : OpenClaim := { program := "ytfbdfigkodiboaa", sum := "433833c3b67943a81a5244c0e413c04ae8724691a78f1bcaade66b1417b555be", func := "loop.example/atomicpush/laws.FnExactCoordinatorBegin", spec := "fnExactCoordinatorBegin", recurses := true, apart := false }
def FnExactCoordinatorBeginSaid : Prop := fnExactCoordinatorBeginRow.holds Try.pinned (OpenSpec.ofChange fnExactCoordinatorBeginSpec)

/-- ITS FALSE NEIGHBOUR: 'it returns false'. Refute it at one input. -/
def fnExactCoordinatorBeginWrong : ChangeSpec := { name := "fnExactCoordinatorBegin", fn := fun _ => fun
  | [d1, d2] => { results := [.lit (.bool false)], args := [d1, d2] }
  | _ => none }
def FnExactCoordinatorBeginWrongFalsely : Prop := fnExactCoordinatorBeginRow.holds Try.pinned (OpenSpec.ofChange fnExactCoordinatorBeginWrong)

/- THE SECOND FORM. 'bulk': how many values and letters a reading holds, each counted each time it is reached (what is shared counts as often as it is met; a slice's spare places count too). A statement '..UptoSaid' is the law's where the arguments, and the package variables that the reading takes, are together of bulk at most 1048576: NARROWER than '..Said'. Prove '..Said' where nothing that the law and all that it calls make is longer than what came in: it says more and counts as full. Else prove '..UptoSaid'. A law counts once. -/
mutual
def uptoBulk {H : Type} : DataW H → Nat
  | .lit (.string bytes) => bytes.length + 1
  | .lit _ => 1
  | .nil => 1
  | .ptr d => uptoBulk d + 1
  | .slice elems spare => uptoBulkAll elems + uptoBulkAll spare + 1
  | .agg parts => uptoBulkAll parts + 1
  | .iface _ d => uptoBulk d + 1
  | .map entries => uptoBulkEntries entries + 1
  | .held _ => 1
def uptoBulkAll {H : Type} : List (DataW H) → Nat
  | [] => 0
  | d :: r => uptoBulk d + uptoBulkAll r
def uptoBulkEntries {H : Type} : List (Lit × DataW H) → Nat
  | [] => 0
  | x :: r => uptoBulkEntry x + uptoBulkEntries r
def uptoBulkEntry {H : Type} : Lit × DataW H → Nat
  | (.string bytes, d) => bytes.length + uptoBulk d + 1
  | (_, d) => uptoBulk d + 1
 end
def uptoSmall : (H : Type) → List (DataW H) → Bool := fun _ ds => decide (uptoBulkAll ds ≤ 1048576)
def OpenSpec.upto (s : _root_.Go.ChangeSpec) : _root_.Go.OpenSpec := { _root_.Go.OpenSpec.ofChange s with cond := some uptoSmall }

/-- 'laws.FnExactCoordinatorValid', WHERE WHAT IT READS IS OF BULK AT MOST 1048576: true; the input reads as it did. -/
def fnExactCoordinatorValidUptoRow : OpenClaim := { program := "ytfbdfigkodiboaa", sum := "433833c3b67943a81a5244c0e413c04ae8724691a78f1bcaade66b1417b555be", func := "loop.example/atomicpush/laws.FnExactCoordinatorValid", spec := "fnExactCoordinatorValid", recurses := true, apart := false, narrowed := true }
def FnExactCoordinatorValidUptoSaid : Prop := fnExactCoordinatorValidUptoRow.holds Try.pinned (OpenSpec.upto fnExactCoordinatorValidSpec)

/-- 'laws.FnCommittedVotes', WHERE WHAT IT READS IS OF BULK AT MOST 1048576: true; the input reads as it did. -/
def fnCommittedVotesUptoRow : OpenClaim := { program := "ytfbdfigkodiboaa", sum := "433833c3b67943a81a5244c0e413c04ae8724691a78f1bcaade66b1417b555be", func := "loop.example/atomicpush/laws.FnCommittedVotes", spec := "fnCommittedVotes", recurses := true, apart := false, narrowed := true }
def FnCommittedVotesUptoSaid : Prop := fnCommittedVotesUptoRow.holds Try.pinned (OpenSpec.upto fnCommittedVotesSpec)

/-- 'laws.FnOrderCommitted', WHERE WHAT IT READS IS OF BULK AT MOST 1048576: true; the input reads as it did. -/
def fnOrderCommittedUptoRow : OpenClaim := { program := "ytfbdfigkodiboaa", sum := "433833c3b67943a81a5244c0e413c04ae8724691a78f1bcaade66b1417b555be", func := "loop.example/atomicpush/laws.FnOrderCommitted", spec := "fnOrderCommitted", recurses := true, apart := false, narrowed := true }
def FnOrderCommittedUptoSaid : Prop := fnOrderCommittedUptoRow.holds Try.pinned (OpenSpec.upto fnOrderCommittedSpec)

/-- 'laws.FnWaitsNone', WHERE WHAT IT READS IS OF BULK AT MOST 1048576: true; the input reads as it did. -/
def fnWaitsNoneUptoRow : OpenClaim := { program := "ytfbdfigkodiboaa", sum := "433833c3b67943a81a5244c0e413c04ae8724691a78f1bcaade66b1417b555be", func := "loop.example/atomicpush/laws.FnWaitsNone", spec := "fnWaitsNone", recurses := true, apart := false, narrowed := true }
def FnWaitsNoneUptoSaid : Prop := fnWaitsNoneUptoRow.holds Try.pinned (OpenSpec.upto fnWaitsNoneSpec)

/-- 'laws.FnExactCoordinatorWaits', WHERE WHAT IT READS IS OF BULK AT MOST 1048576: true; the input reads as it did. -/
def fnExactCoordinatorWaitsUptoRow : OpenClaim := { program := "ytfbdfigkodiboaa", sum := "433833c3b67943a81a5244c0e413c04ae8724691a78f1bcaade66b1417b555be", func := "loop.example/atomicpush/laws.FnExactCoordinatorWaits", spec := "fnExactCoordinatorWaits", recurses := true, apart := false, narrowed := true }
def FnExactCoordinatorWaitsUptoSaid : Prop := fnExactCoordinatorWaitsUptoRow.holds Try.pinned (OpenSpec.upto fnExactCoordinatorWaitsSpec)

/-- 'laws.FnBeginFull', WHERE WHAT IT READS IS OF BULK AT MOST 1048576: true; the input reads as it did. -/
def fnBeginFullUptoRow : OpenClaim := { program := "ytfbdfigkodiboaa", sum := "433833c3b67943a81a5244c0e413c04ae8724691a78f1bcaade66b1417b555be", func := "loop.example/atomicpush/laws.FnBeginFull", spec := "fnBeginFull", recurses := true, apart := false, narrowed := true }
def FnBeginFullUptoSaid : Prop := fnBeginFullUptoRow.holds Try.pinned (OpenSpec.upto fnBeginFullSpec)

/-- 'laws.FnBeginNumber', WHERE WHAT IT READS IS OF BULK AT MOST 1048576: true; the input reads as it did. -/
def fnBeginNumberUptoRow : OpenClaim := { program := "ytfbdfigkodiboaa", sum := "433833c3b67943a81a5244c0e413c04ae8724691a78f1bcaade66b1417b555be", func := "loop.example/atomicpush/laws.FnBeginNumber", spec := "fnBeginNumber", recurses := true, apart := false, narrowed := true }
def FnBeginNumberUptoSaid : Prop := fnBeginNumberUptoRow.holds Try.pinned (OpenSpec.upto fnBeginNumberSpec)

/-- 'laws.FnBegin', WHERE WHAT IT READS IS OF BULK AT MOST 1048576: true; the input reads as it did. -/
def fnBeginUptoRow : OpenClaim := { program := "ytfbdfigkodiboaa", sum := "433833c3b67943a81a5244c0e413c04ae8724691a78f1bcaade66b1417b555be", func := "loop.example/atomicpush/laws.FnBegin", spec := "fnBegin", recurses := true, apart := false, narrowed := true }
def FnBeginUptoSaid : Prop := fnBeginUptoRow.holds Try.pinned (OpenSpec.upto fnBeginSpec)

/-- 'laws.FnExactCoordinatorBegin', WHERE WHAT IT READS IS OF BULK AT MOST 1048576: true; the input reads as it did. -/
def fnExactCoordinatorBeginUptoRow : OpenClaim := { program := "ytfbdfigkodiboaa", sum := "433833c3b67943a81a5244c0e413c04ae8724691a78f1bcaade66b1417b555be", func := "loop.example/atomicpush/laws.FnExactCoordinatorBegin", spec := "fnExactCoordinatorBegin", recurses := true, apart := false, narrowed := true }
def FnExactCoordinatorBeginUptoSaid : Prop := fnExactCoordinatorBeginUptoRow.holds Try.pinned (OpenSpec.upto fnExactCoordinatorBeginSpec)

end Rows
end Go.Proofs.Ytfbdfigkodiboaa
