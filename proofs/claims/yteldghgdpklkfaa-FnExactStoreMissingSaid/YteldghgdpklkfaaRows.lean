/-
  No cell of these rows narrows 'for every input' (looked for: loops, veiled, ifaces, maps, wideKeys, modest, calm, conditions, laid).
  DERIVED. THE GIVEN ROWS OF THIS SEAT. 8 by the template 'for every input the law returns true; each argument reads behind the call as it read before'; 0 by the template 'total and deterministic' (their statements: YteldghgdpklkfaaTotals.lean).
  GIVEN WITH THE SEED: the statements are not yours to turn. If you find one false, say at which input.
  Laid BY PROGRAM, IN A SANDBOX (cutbox-rows.mjs): the forced cells as the released guide's own fill.sh prints them over the translation a1ed854c28f9f62f… (all of the seat's roots in one cut). By AI agents, Wed Nov 11 2026. No macro, syntax, notation, axiom, sorry.
-/
import Derived.Test.YteldghgdpklkfaaChecked
import GoSem.Claim
import GoSem.ClaimJoined
import GoSem.ClaimMapViews
import Derived.JoinedTies
import Derived.KernelRfl
namespace Go.Proofs.Yteldghgdpklkfaa
/- THE CELL 'sum', in the pinned program and in every row, IS THE sha256 OF THE DUMP (.gsa) THAT YteldghgdpklkfaaProg.lean LOADS. Nothing in Lean hashes anything: it is a label: what it is worth is what the hold of that sum in a sandbox is worth. -/
noncomputable def Try.pinned : Pinned := { name := "yteldghgdpklkfaa", sum := "a1ed854c28f9f62fc183fef3be3ba51a52b57a441fd2dc053ddcd5bdf0e41ec0", checked := Try.checked }
namespace Rows
def none {H : Type} : Left H := { results := [], args := [] }

/-- 'laws.FnReachSelf': WHATEVER THE INPUT: true; the input reads as it did. -/
def fnReachSelfSpec : ChangeSpec := { name := "fnReachSelf", fn := fun _ => fun
  | [d1, d2] => { results := [.lit (.bool true)], args := [d1, d2] }
  | _ => none }
def fnReachSelfRow : OpenClaim := { program := "yteldghgdpklkfaa", sum := "a1ed854c28f9f62fc183fef3be3ba51a52b57a441fd2dc053ddcd5bdf0e41ec0", func := "loop.example/atomicpush/laws.FnReachSelf", spec := "fnReachSelf", unfollowed := true, recurses := true, apart := false }
def FnReachSelfSaid : Prop := fnReachSelfRow.holds Try.pinned (OpenSpec.ofChange fnReachSelfSpec)

/-- ITS FALSE NEIGHBOUR: 'it returns false'. Refute it at one input. -/
def fnReachSelfWrong : ChangeSpec := { name := "fnReachSelf", fn := fun _ => fun
  | [d1, d2] => { results := [.lit (.bool false)], args := [d1, d2] }
  | _ => none }
def FnReachSelfWrongFalsely : Prop := fnReachSelfRow.holds Try.pinned (OpenSpec.ofChange fnReachSelfWrong)

/-- 'laws.FnExactStoreReach': WHATEVER THE INPUT: true; the input reads as it did. -/
def fnExactStoreReachSpec : ChangeSpec := { name := "fnExactStoreReach", fn := fun _ => fun
  | [d1, d2] => { results := [.lit (.bool true)], args := [d1, d2] }
  | _ => none }
def fnExactStoreReachRow : OpenClaim := { program := "yteldghgdpklkfaa", sum := "a1ed854c28f9f62fc183fef3be3ba51a52b57a441fd2dc053ddcd5bdf0e41ec0", func := "loop.example/atomicpush/laws.FnExactStoreReach", spec := "fnExactStoreReach", unfollowed := true, recurses := true, apart := false }
def FnExactStoreReachSaid : Prop := fnExactStoreReachRow.holds Try.pinned (OpenSpec.ofChange fnExactStoreReachSpec)

/-- ITS FALSE NEIGHBOUR: 'it returns false'. Refute it at one input. -/
def fnExactStoreReachWrong : ChangeSpec := { name := "fnExactStoreReach", fn := fun _ => fun
  | [d1, d2] => { results := [.lit (.bool false)], args := [d1, d2] }
  | _ => none }
def FnExactStoreReachWrongFalsely : Prop := fnExactStoreReachRow.holds Try.pinned (OpenSpec.ofChange fnExactStoreReachWrong)

/-- 'laws.FnExactStoreMissing': WHATEVER THE INPUT: true; the input reads as it did. -/
def fnExactStoreMissingSpec : ChangeSpec := { name := "fnExactStoreMissing", fn := fun _ => fun
  | [d1, d2] => { results := [.lit (.bool true)], args := [d1, d2] }
  | _ => none }
def fnExactStoreMissingRow : OpenClaim := { program := "yteldghgdpklkfaa", sum := "a1ed854c28f9f62fc183fef3be3ba51a52b57a441fd2dc053ddcd5bdf0e41ec0", func := "loop.example/atomicpush/laws.FnExactStoreMissing", spec := "fnExactStoreMissing", unfollowed := true, recurses := true, apart := false }
def FnExactStoreMissingSaid : Prop := fnExactStoreMissingRow.holds Try.pinned (OpenSpec.ofChange fnExactStoreMissingSpec)

/-- ITS FALSE NEIGHBOUR: 'it returns false'. Refute it at one input. -/
def fnExactStoreMissingWrong : ChangeSpec := { name := "fnExactStoreMissing", fn := fun _ => fun
  | [d1, d2] => { results := [.lit (.bool false)], args := [d1, d2] }
  | _ => none }
def FnExactStoreMissingWrongFalsely : Prop := fnExactStoreMissingRow.holds Try.pinned (OpenSpec.ofChange fnExactStoreMissingWrong)

/-- 'laws.FnReachAgain': WHATEVER THE INPUT: true; the input reads as it did. -/
def fnReachAgainSpec : ChangeSpec := { name := "fnReachAgain", fn := fun _ => fun
  | [d1, d2] => { results := [.lit (.bool true)], args := [d1, d2] }
  | _ => none }
def fnReachAgainRow : OpenClaim := { program := "yteldghgdpklkfaa", sum := "a1ed854c28f9f62fc183fef3be3ba51a52b57a441fd2dc053ddcd5bdf0e41ec0", func := "loop.example/atomicpush/laws.FnReachAgain", spec := "fnReachAgain", unfollowed := true, recurses := true, apart := false }
def FnReachAgainSaid : Prop := fnReachAgainRow.holds Try.pinned (OpenSpec.ofChange fnReachAgainSpec)

/-- ITS FALSE NEIGHBOUR: 'it returns false'. Refute it at one input. -/
def fnReachAgainWrong : ChangeSpec := { name := "fnReachAgain", fn := fun _ => fun
  | [d1, d2] => { results := [.lit (.bool false)], args := [d1, d2] }
  | _ => none }
def FnReachAgainWrongFalsely : Prop := fnReachAgainRow.holds Try.pinned (OpenSpec.ofChange fnReachAgainWrong)

/-- 'laws.FnReachReason': WHATEVER THE INPUT: true; the input reads as it did. -/
def fnReachReasonSpec : ChangeSpec := { name := "fnReachReason", fn := fun _ => fun
  | [d] => { results := [.lit (.bool true)], args := [d] }
  | _ => none }
def fnReachReasonRow : OpenClaim := { program := "yteldghgdpklkfaa", sum := "a1ed854c28f9f62fc183fef3be3ba51a52b57a441fd2dc053ddcd5bdf0e41ec0", func := "loop.example/atomicpush/laws.FnReachReason", spec := "fnReachReason", unfollowed := true, recurses := true, apart := false }
def FnReachReasonSaid : Prop := fnReachReasonRow.holds Try.pinned (OpenSpec.ofChange fnReachReasonSpec)

/-- ITS FALSE NEIGHBOUR: 'it returns false'. Refute it at one input. -/
def fnReachReasonWrong : ChangeSpec := { name := "fnReachReason", fn := fun _ => fun
  | [d] => { results := [.lit (.bool false)], args := [d] }
  | _ => none }
def FnReachReasonWrongFalsely : Prop := fnReachReasonRow.holds Try.pinned (OpenSpec.ofChange fnReachReasonWrong)

/-- 'laws.FnReach': WHATEVER THE INPUT: true; the input reads as it did. -/
def fnReachSpec : ChangeSpec := { name := "fnReach", fn := fun _ => fun
  | [d] => { results := [.lit (.bool true)], args := [d] }
  | _ => none }
def fnReachRow : OpenClaim := { program := "yteldghgdpklkfaa", sum := "a1ed854c28f9f62fc183fef3be3ba51a52b57a441fd2dc053ddcd5bdf0e41ec0", func := "loop.example/atomicpush/laws.FnReach", spec := "fnReach", unfollowed := true, recurses := true, apart := false }
def FnReachSaid : Prop := fnReachRow.holds Try.pinned (OpenSpec.ofChange fnReachSpec)

/-- ITS FALSE NEIGHBOUR: 'it returns false'. Refute it at one input. -/
def fnReachWrong : ChangeSpec := { name := "fnReach", fn := fun _ => fun
  | [d] => { results := [.lit (.bool false)], args := [d] }
  | _ => none }
def FnReachWrongFalsely : Prop := fnReachRow.holds Try.pinned (OpenSpec.ofChange fnReachWrong)

/-- 'laws.FnMissingNone': WHATEVER THE INPUT: true; the input reads as it did. -/
def fnMissingNoneSpec : ChangeSpec := { name := "fnMissingNone", fn := fun _ => fun
  | [d] => { results := [.lit (.bool true)], args := [d] }
  | _ => none }
def fnMissingNoneRow : OpenClaim := { program := "yteldghgdpklkfaa", sum := "a1ed854c28f9f62fc183fef3be3ba51a52b57a441fd2dc053ddcd5bdf0e41ec0", func := "loop.example/atomicpush/laws.FnMissingNone", spec := "fnMissingNone", unfollowed := true, recurses := true, apart := false }
def FnMissingNoneSaid : Prop := fnMissingNoneRow.holds Try.pinned (OpenSpec.ofChange fnMissingNoneSpec)

/-- ITS FALSE NEIGHBOUR: 'it returns false'. Refute it at one input. -/
def fnMissingNoneWrong : ChangeSpec := { name := "fnMissingNone", fn := fun _ => fun
  | [d] => { results := [.lit (.bool false)], args := [d] }
  | _ => none }
def FnMissingNoneWrongFalsely : Prop := fnMissingNoneRow.holds Try.pinned (OpenSpec.ofChange fnMissingNoneWrong)

/-- 'laws.FnMissing': WHATEVER THE INPUT: true; the input reads as it did. -/
def fnMissingSpec : ChangeSpec := { name := "fnMissing", fn := fun _ => fun
  | [d] => { results := [.lit (.bool true)], args := [d] }
  | _ => none }
def fnMissingRow : OpenClaim := { program := "yteldghgdpklkfaa", sum := "a1ed854c28f9f62fc183fef3be3ba51a52b57a441fd2dc053ddcd5bdf0e41ec0", func := "loop.example/atomicpush/laws.FnMissing", spec := "fnMissing", unfollowed := true, recurses := true, apart := false }
def FnMissingSaid : Prop := fnMissingRow.holds Try.pinned (OpenSpec.ofChange fnMissingSpec)

/-- ITS FALSE NEIGHBOUR: 'it returns false'. Refute it at one input. -/
def fnMissingWrong : ChangeSpec := { name := "fnMissing", fn := fun _ => fun
  | [d] => { results := [.lit (.bool false)], args := [d] }
  | _ => none }
def FnMissingWrongFalsely : Prop := fnMissingRow.holds Try.pinned (OpenSpec.ofChange fnMissingWrong)

/- THE SECOND FORM. 'bulk': how many values and letters a reading holds, each counted each time it is reached (what is shared counts as often as it is met; a slice's spare places count too). A statement '..UptoSaid' is the law's where the arguments, and the package variables that the reading takes, are together of bulk at most 1048576: NARROWER than '..Said'. Prove '..Said' where nothing that the law and all that it calls make is longer than what came in: it says more and counts as full. Else prove '..UptoSaid'. A law counts once. -/
mutual
def uptoBulk {H : Type} : DataW H → Nat
  | .lit (.string bytes) => bytes.length + 1
  | .lit _ => 1
  | .nil => 1
  | .ptr d => uptoBulk d + 1
  | .slice elems spare => uptoBulkAll elems + uptoBulkAll spare + 1
  | .agg parts => uptoBulkAll parts + 1
  | .iface _ d => uptoBulk d + 1
  | .map entries => uptoBulkEntries entries + 1
  | .held _ => 1
def uptoBulkAll {H : Type} : List (DataW H) → Nat
  | [] => 0
  | d :: r => uptoBulk d + uptoBulkAll r
def uptoBulkEntries {H : Type} : List (Lit × DataW H) → Nat
  | [] => 0
  | x :: r => uptoBulkEntry x + uptoBulkEntries r
def uptoBulkEntry {H : Type} : Lit × DataW H → Nat
  | (.string bytes, d) => bytes.length + uptoBulk d + 1
  | (_, d) => uptoBulk d + 1
 end
def uptoSmall : (H : Type) → List (DataW H) → Bool := fun _ ds => decide (uptoBulkAll ds ≤ 1048576)
def OpenSpec.upto (s : _root_.Go.ChangeSpec) : _root_.Go.OpenSpec := { _root_.Go.OpenSpec.ofChange s with cond := some uptoSmall }

/-- 'laws.FnReachSelf', WHERE WHAT IT READS IS OF BULK AT MOST 1048576: true; the input reads as it did. -/
def fnReachSelfUptoRow : OpenClaim := { program := "yteldghgdpklkfaa", sum := "a1ed854c28f9f62fc183fef3be3ba51a52b57a441fd2dc053ddcd5bdf0e41ec0", func := "loop.example/atomicpush/laws.FnReachSelf", spec := "fnReachSelf", unfollowed := true, recurses := true, apart := false, narrowed := true }
def FnReachSelfUptoSaid : Prop := fnReachSelfUptoRow.holds Try.pinned (OpenSpec.upto fnReachSelfSpec)

/-- 'laws.FnExactStoreReach', WHERE WHAT IT READS IS OF BULK AT MOST 1048576: true; the input reads as it did. -/
def fnExactStoreReachUptoRow : OpenClaim := { program := "yteldghgdpklkfaa", sum := "a1ed854c28f9f62fc183fef3be3ba51a52b57a441fd2dc053ddcd5bdf0e41ec0", func := "loop.example/atomicpush/laws.FnExactStoreReach", spec := "fnExactStoreReach", unfollowed := true, recurses := true, apart := false, narrowed := true }
def FnExactStoreReachUptoSaid : Prop := fnExactStoreReachUptoRow.holds Try.pinned (OpenSpec.upto fnExactStoreReachSpec)

/-- 'laws.FnExactStoreMissing', WHERE WHAT IT READS IS OF BULK AT MOST 1048576: true; the input reads as it did. -/
def fnExactStoreMissingUptoRow : OpenClaim := { program := "yteldghgdpklkfaa", sum := "a1ed854c28f9f62fc183fef3be3ba51a52b57a441fd2dc053ddcd5bdf0e41ec0", func := "loop.example/atomicpush/laws.FnExactStoreMissing", spec := "fnExactStoreMissing", unfollowed := true, recurses := true, apart := false, narrowed := true }
def FnExactStoreMissingUptoSaid : Prop := fnExactStoreMissingUptoRow.holds Try.pinned (OpenSpec.upto fnExactStoreMissingSpec)

/-- 'laws.FnReachAgain', WHERE WHAT IT READS IS OF BULK AT MOST 1048576: true; the input reads as it did. -/
def fnReachAgainUptoRow : OpenClaim := { program := "yteldghgdpklkfaa", sum := "a1ed854c28f9f62fc183fef3be3ba51a52b57a441fd2dc053ddcd5bdf0e41ec0", func := "loop.example/atomicpush/laws.FnReachAgain", spec := "fnReachAgain", unfollowed := true, recurses := true, apart := false, narrowed := true }
def FnReachAgainUptoSaid : Prop := fnReachAgainUptoRow.holds Try.pinned (OpenSpec.upto fnReachAgainSpec)

/-- 'laws.FnReachReason', WHERE WHAT IT READS IS OF BULK AT MOST 1048576: true; the input reads as it did. -/
def fnReachReasonUptoRow : OpenClaim := { program := "yteldghgdpklkfaa", sum := "a1ed854c28f9f62fc183fef3be3ba51a52b57a441fd2dc053ddcd5bdf0e41ec0", func := "loop.example/atomicpush/laws.FnReachReason", spec := "fnReachReason", unfollowed := true, recurses := true, apart := false, narrowed := true }
def FnReachReasonUptoSaid : Prop := fnReachReasonUptoRow.holds Try.pinned (OpenSpec.upto fnReachReasonSpec)

/-- 'laws.FnReach', WHERE WHAT IT READS IS OF BULK AT MOST 1048576: true; the input reads as it did. -/
def fnReachUptoRow : OpenClaim := { program := "yteldghgdpklkfaa", sum := "a1ed854c28f9f62fc183fef3be3ba51a52b57a441fd2dc053ddcd5bdf0e41ec0", func := "loop.example/atomicpush/laws.FnReach", spec := "fnReach", unfollowed := true, recurses := true, apart := false, narrowed := true }
def FnReachUptoSaid : Prop := fnReachUptoRow.holds Try.pinned (OpenSpec.upto fnReachSpec)

/-- 'laws.FnMissingNone', WHERE WHAT IT READS IS OF BULK AT MOST 1048576: true; the input reads as it did. -/
def fnMissingNoneUptoRow : OpenClaim := { program := "yteldghgdpklkfaa", sum := "a1ed854c28f9f62fc183fef3be3ba51a52b57a441fd2dc053ddcd5bdf0e41ec0", func := "loop.example/atomicpush/laws.FnMissingNone", spec := "fnMissingNone", unfollowed := true, recurses := true, apart := false, narrowed := true }
def FnMissingNoneUptoSaid : Prop := fnMissingNoneUptoRow.holds Try.pinned (OpenSpec.upto fnMissingNoneSpec)

/-- 'laws.FnMissing', WHERE WHAT IT READS IS OF BULK AT MOST 1048576: true; the input reads as it did. -/
def fnMissingUptoRow : OpenClaim := { program := "yteldghgdpklkfaa", sum := "a1ed854c28f9f62fc183fef3be3ba51a52b57a441fd2dc053ddcd5bdf0e41ec0", func := "loop.example/atomicpush/laws.FnMissing", spec := "fnMissing", unfollowed := true, recurses := true, apart := false, narrowed := true }
def FnMissingUptoSaid : Prop := fnMissingUptoRow.holds Try.pinned (OpenSpec.upto fnMissingSpec)

end Rows
end Go.Proofs.Yteldghgdpklkfaa
