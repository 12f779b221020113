/-
  No cell of these rows narrows 'for every input' (looked for: loops, veiled, ifaces, maps, wideKeys, modest, calm, conditions, laid).
  DERIVED. THE GIVEN ROWS OF THIS SEAT. 7 by the template 'for every input the law returns true; each argument reads behind the call as it read before'; 0 by the template 'total and deterministic' (their statements: YtbgjidamhheekaaTotals.lean).
  GIVEN WITH THE SEED: the statements are not yours to turn. If you find one false, say at which input.
  Laid BY PROGRAM, IN A SANDBOX (cutbox-rows.mjs): the forced cells as the released guide's own fill.sh prints them over the translation 0f74ae89ddb7ae42… (all of the seat's roots in one cut). By AI agents, Wed Nov 11 2026. No macro, syntax, notation, axiom, sorry.
-/
import Derived.Test.YtbgjidamhheekaaChecked
import GoSem.Claim
import GoSem.ClaimJoined
import GoSem.ClaimMapViews
import Derived.JoinedTies
import Derived.KernelRfl
namespace Go.Proofs.Ytbgjidamhheekaa
/- THE CELL 'sum', in the pinned program and in every row, IS THE sha256 OF THE DUMP (.gsa) THAT YtbgjidamhheekaaProg.lean LOADS. Nothing in Lean hashes anything: it is a label: what it is worth is what the hold of that sum in a sandbox is worth. -/
noncomputable def Try.pinned : Pinned := { name := "ytbgjidamhheekaa", sum := "0f74ae89ddb7ae4268758ede191389dd747be8faf468bb782436b307fa39315b", checked := Try.checked }
namespace Rows
def none {H : Type} : Left H := { results := [], args := [] }

/-- 'laws.FnExactCoordinatorVote': WHATEVER THE INPUT: true; the input reads as it did. -/
def fnExactCoordinatorVoteSpec : ChangeSpec := { name := "fnExactCoordinatorVote", fn := fun _ => fun
  | [d1, d2, d3, d4] => { results := [.lit (.bool true)], args := [d1, d2, d3, d4] }
  | _ => none }
def fnExactCoordinatorVoteRow : OpenClaim := { program := "ytbgjidamhheekaa", sum := "0f74ae89ddb7ae4268758ede191389dd747be8faf468bb782436b307fa39315b", func := "loop.example/atomicpush/laws.FnExactCoordinatorVote", spec := "fnExactCoordinatorVote", unfollowed := true, recurses := true, apart := false }
def FnExactCoordinatorVoteSaid : Prop := fnExactCoordinatorVoteRow.holds Try.pinned (OpenSpec.ofChange fnExactCoordinatorVoteSpec)

/-- ITS FALSE NEIGHBOUR: 'it returns false'. Refute it at one input. -/
def fnExactCoordinatorVoteWrong : ChangeSpec := { name := "fnExactCoordinatorVote", fn := fun _ => fun
  | [d1, d2, d3, d4] => { results := [.lit (.bool false)], args := [d1, d2, d3, d4] }
  | _ => none }
def FnExactCoordinatorVoteWrongFalsely : Prop := fnExactCoordinatorVoteRow.holds Try.pinned (OpenSpec.ofChange fnExactCoordinatorVoteWrong)

/-- 'laws.FnVoteNo': WHATEVER THE INPUT: true; the input reads as it did. -/
def fnVoteNoSpec : ChangeSpec := { name := "fnVoteNo", fn := fun _ => fun
  | [d] => { results := [.lit (.bool true)], args := [d] }
  | _ => none }
def fnVoteNoRow : OpenClaim := { program := "ytbgjidamhheekaa", sum := "0f74ae89ddb7ae4268758ede191389dd747be8faf468bb782436b307fa39315b", func := "loop.example/atomicpush/laws.FnVoteNo", spec := "fnVoteNo", unfollowed := true, recurses := true, apart := false }
def FnVoteNoSaid : Prop := fnVoteNoRow.holds Try.pinned (OpenSpec.ofChange fnVoteNoSpec)

/-- ITS FALSE NEIGHBOUR: 'it returns false'. Refute it at one input. -/
def fnVoteNoWrong : ChangeSpec := { name := "fnVoteNo", fn := fun _ => fun
  | [d] => { results := [.lit (.bool false)], args := [d] }
  | _ => none }
def FnVoteNoWrongFalsely : Prop := fnVoteNoRow.holds Try.pinned (OpenSpec.ofChange fnVoteNoWrong)

/-- 'laws.FnVoteOrder': WHATEVER THE INPUT: true; the input reads as it did. -/
def fnVoteOrderSpec : ChangeSpec := { name := "fnVoteOrder", fn := fun _ => fun
  | [d1, d2] => { results := [.lit (.bool true)], args := [d1, d2] }
  | _ => none }
def fnVoteOrderRow : OpenClaim := { program := "ytbgjidamhheekaa", sum := "0f74ae89ddb7ae4268758ede191389dd747be8faf468bb782436b307fa39315b", func := "loop.example/atomicpush/laws.FnVoteOrder", spec := "fnVoteOrder", unfollowed := true, recurses := true, apart := false }
def FnVoteOrderSaid : Prop := fnVoteOrderRow.holds Try.pinned (OpenSpec.ofChange fnVoteOrderSpec)

/-- ITS FALSE NEIGHBOUR: 'it returns false'. Refute it at one input. -/
def fnVoteOrderWrong : ChangeSpec := { name := "fnVoteOrder", fn := fun _ => fun
  | [d1, d2] => { results := [.lit (.bool false)], args := [d1, d2] }
  | _ => none }
def FnVoteOrderWrongFalsely : Prop := fnVoteOrderRow.holds Try.pinned (OpenSpec.ofChange fnVoteOrderWrong)

/-- 'laws.FnVoteOthers': WHATEVER THE INPUT: true; the input reads as it did. -/
def fnVoteOthersSpec : ChangeSpec := { name := "fnVoteOthers", fn := fun _ => fun
  | [d] => { results := [.lit (.bool true)], args := [d] }
  | _ => none }
def fnVoteOthersRow : OpenClaim := { program := "ytbgjidamhheekaa", sum := "0f74ae89ddb7ae4268758ede191389dd747be8faf468bb782436b307fa39315b", func := "loop.example/atomicpush/laws.FnVoteOthers", spec := "fnVoteOthers", unfollowed := true, recurses := true, apart := false }
def FnVoteOthersSaid : Prop := fnVoteOthersRow.holds Try.pinned (OpenSpec.ofChange fnVoteOthersSpec)

/-- ITS FALSE NEIGHBOUR: 'it returns false'. Refute it at one input. -/
def fnVoteOthersWrong : ChangeSpec := { name := "fnVoteOthers", fn := fun _ => fun
  | [d] => { results := [.lit (.bool false)], args := [d] }
  | _ => none }
def FnVoteOthersWrongFalsely : Prop := fnVoteOthersRow.holds Try.pinned (OpenSpec.ofChange fnVoteOthersWrong)

/-- 'laws.FnVoteTwice': WHATEVER THE INPUT: true; the input reads as it did. -/
def fnVoteTwiceSpec : ChangeSpec := { name := "fnVoteTwice", fn := fun _ => fun
  | [d] => { results := [.lit (.bool true)], args := [d] }
  | _ => none }
def fnVoteTwiceRow : OpenClaim := { program := "ytbgjidamhheekaa", sum := "0f74ae89ddb7ae4268758ede191389dd747be8faf468bb782436b307fa39315b", func := "loop.example/atomicpush/laws.FnVoteTwice", spec := "fnVoteTwice", unfollowed := true, recurses := true, apart := false }
def FnVoteTwiceSaid : Prop := fnVoteTwiceRow.holds Try.pinned (OpenSpec.ofChange fnVoteTwiceSpec)

/-- ITS FALSE NEIGHBOUR: 'it returns false'. Refute it at one input. -/
def fnVoteTwiceWrong : ChangeSpec := { name := "fnVoteTwice", fn := fun _ => fun
  | [d] => { results := [.lit (.bool false)], args := [d] }
  | _ => none }
def FnVoteTwiceWrongFalsely : Prop := fnVoteTwiceRow.holds Try.pinned (OpenSpec.ofChange fnVoteTwiceWrong)

/-- 'laws.FnVoteRefused': WHATEVER THE INPUT: true; the input reads as it did. -/
def fnVoteRefusedSpec : ChangeSpec := { name := "fnVoteRefused", fn := fun _ => fun
  | [d] => { results := [.lit (.bool true)], args := [d] }
  | _ => none }
def fnVoteRefusedRow : OpenClaim := { program := "ytbgjidamhheekaa", sum := "0f74ae89ddb7ae4268758ede191389dd747be8faf468bb782436b307fa39315b", func := "loop.example/atomicpush/laws.FnVoteRefused", spec := "fnVoteRefused", unfollowed := true, recurses := true, apart := false }
def FnVoteRefusedSaid : Prop := fnVoteRefusedRow.holds Try.pinned (OpenSpec.ofChange fnVoteRefusedSpec)

/-- ITS FALSE NEIGHBOUR: 'it returns false'. Refute it at one input. -/
def fnVoteRefusedWrong : ChangeSpec := { name := "fnVoteRefused", fn := fun _ => fun
  | [d] => { results := [.lit (.bool false)], args := [d] }
  | _ => none }
def FnVoteRefusedWrongFalsely : Prop := fnVoteRefusedRow.holds Try.pinned (OpenSpec.ofChange fnVoteRefusedWrong)

/-- 'laws.FnVoteYes': WHATEVER THE INPUT: true; the input reads as it did. -/
def fnVoteYesSpec : ChangeSpec := { name := "fnVoteYes", fn := fun _ => fun
  | [d] => { results := [.lit (.bool true)], args := [d] }
  | _ => none }
def fnVoteYesRow : OpenClaim := { program := "ytbgjidamhheekaa", sum := "0f74ae89ddb7ae4268758ede191389dd747be8faf468bb782436b307fa39315b", func := "loop.example/atomicpush/laws.FnVoteYes", spec := "fnVoteYes", unfollowed := true, recurses := true, apart := false }
def FnVoteYesSaid : Prop := fnVoteYesRow.holds Try.pinned (OpenSpec.ofChange fnVoteYesSpec)

/-- ITS FALSE NEIGHBOUR: 'it returns false'. Refute it at one input. -/
def fnVoteYesWrong : ChangeSpec := { name := "fnVoteYes", fn := fun _ => fun
  | [d] => { results := [.lit (.bool false)], args := [d] }
  | _ => none }
def FnVoteYesWrongFalsely : Prop := fnVoteYesRow.holds Try.pinned (OpenSpec.ofChange fnVoteYesWrong)

/- THE SECOND FORM. 'bulk': how many values and letters a reading holds, each counted each time it is reached (what is shared counts as often as it is met; a slice's spare places count too). A statement '..UptoSaid' is the law's where the arguments, and the package variables that the reading takes, are together of bulk at most 1048576: NARROWER than '..Said'. Prove '..Said' where nothing that the law and all that it calls make is longer than what came in: it says more and counts as full. Else prove '..UptoSaid'. A law counts once. -/
mutual
def uptoBulk {H : Type} : DataW H → Nat
  | .lit (.string bytes) => bytes.length + 1
  | .lit _ => 1
  | .nil => 1
  | .ptr d => uptoBulk d + 1
  | .slice elems spare => uptoBulkAll elems + uptoBulkAll spare + 1
  | .agg parts => uptoBulkAll parts + 1
  | .iface _ d => uptoBulk d + 1
  | .map entries => uptoBulkEntries entries + 1
  | .held _ => 1
def uptoBulkAll {H : Type} : List (DataW H) → Nat
  | [] => 0
  | d :: r => uptoBulk d + uptoBulkAll r
def uptoBulkEntries {H : Type} : List (Lit × DataW H) → Nat
  | [] => 0
  | x :: r => uptoBulkEntry x + uptoBulkEntries r
def uptoBulkEntry {H : Type} : Lit × DataW H → Nat
  | (.string bytes, d) => bytes.length + uptoBulk d + 1
  | (_, d) => uptoBulk d + 1
 end
def uptoSmall : (H : Type) → List (DataW H) → Bool := fun _ ds => decide (uptoBulkAll ds ≤ 1048576)
def OpenSpec.upto (s : _root_.Go.ChangeSpec) : _root_.Go.OpenSpec := { _root_.Go.OpenSpec.ofChange s with cond := some uptoSmall }

/-- 'laws.FnExactCoordinatorVote', WHERE WHAT IT READS IS OF BULK AT MOST 1048576: true; the input reads as it did. -/
def fnExactCoordinatorVoteUptoRow : OpenClaim := { program := "ytbgjidamhheekaa", sum := "0f74ae89ddb7ae4268758ede191389dd747be8faf468bb782436b307fa39315b", func := "loop.example/atomicpush/laws.FnExactCoordinatorVote", spec := "fnExactCoordinatorVote", unfollowed := true, recurses := true, apart := false, narrowed := true }
def FnExactCoordinatorVoteUptoSaid : Prop := fnExactCoordinatorVoteUptoRow.holds Try.pinned (OpenSpec.upto fnExactCoordinatorVoteSpec)

/-- 'laws.FnVoteNo', WHERE WHAT IT READS IS OF BULK AT MOST 1048576: true; the input reads as it did. -/
def fnVoteNoUptoRow : OpenClaim := { program := "ytbgjidamhheekaa", sum := "0f74ae89ddb7ae4268758ede191389dd747be8faf468bb782436b307fa39315b", func := "loop.example/atomicpush/laws.FnVoteNo", spec := "fnVoteNo", unfollowed := true, recurses := true, apart := false, narrowed := true }
def FnVoteNoUptoSaid : Prop := fnVoteNoUptoRow.holds Try.pinned (OpenSpec.upto fnVoteNoSpec)

/-- 'laws.FnVoteOrder', WHERE WHAT IT READS IS OF BULK AT MOST 1048576: true; the input reads as it did. -/
def fnVoteOrderUptoRow : OpenClaim := { program := "ytbgjidamhheekaa", sum := "0f74ae89ddb7ae4268758ede191389dd747be8faf468bb782436b307fa39315b", func := "loop.example/atomicpush/laws.FnVoteOrder", spec := "fnVoteOrder", unfollowed := true, recurses := true, apart := false, narrowed := true }
def FnVoteOrderUptoSaid : Prop := fnVoteOrderUptoRow.holds Try.pinned (OpenSpec.upto fnVoteOrderSpec)

/-- 'laws.FnVoteOthers', WHERE WHAT IT READS IS OF BULK AT MOST 1048576: true; the input reads as it did. -/
def fnVoteOthersUptoRow : OpenClaim := { program := "ytbgjidamhheekaa", sum := "0f74ae89ddb7ae4268758ede191389dd747be8faf468bb782436b307fa39315b", func := "loop.example/atomicpush/laws.FnVoteOthers", spec := "fnVoteOthers", unfollowed := true, recurses := true, apart := false, narrowed := true }
def FnVoteOthersUptoSaid : Prop := fnVoteOthersUptoRow.holds Try.pinned (OpenSpec.upto fnVoteOthersSpec)

/-- 'laws.FnVoteTwice', WHERE WHAT IT READS IS OF BULK AT MOST 1048576: true; the input reads as it did. -/
def fnVoteTwiceUptoRow : OpenClaim := { program := "ytbgjidamhheekaa", sum := "0f74ae89ddb7ae4268758ede191389dd747be8faf468bb782436b307fa39315b", func := "loop.example/atomicpush/laws.FnVoteTwice", spec := "fnVoteTwice", unfollowed := true, recurses := true, apart := false, narrowed := true }
def FnVoteTwiceUptoSaid : Prop := fnVoteTwiceUptoRow.holds Try.pinned (OpenSpec.upto fnVoteTwiceSpec)

/-- 'laws.FnVoteRefused', WHERE WHAT IT READS IS OF BULK AT MOST 1048576: true; the input reads as it did. -/
def fnVoteRefusedUptoRow : OpenClaim := { program := "ytbgjidamhheekaa", sum := "0f74ae89ddb7ae4268758ede191389dd747be8faf468bb782436b307fa39315b", func := "loop.example/atomicpush/laws.FnVoteRefused", spec := "fnVoteRefused", unfollowed := true, recurses := true, apart := false, narrowed := true }
def FnVoteRefusedUptoSaid : Prop := fnVoteRefusedUptoRow.holds Try.pinned (OpenSpec.upto fnVoteRefusedSpec)

/-- 'laws.FnVoteYes', WHERE WHAT IT READS IS OF BULK AT MOST 1048576: true; the input reads as it did. -/
def fnVoteYesUptoRow : OpenClaim := { program := "ytbgjidamhheekaa", sum := "0f74ae89ddb7ae4268758ede191389dd747be8faf468bb782436b307fa39315b", func := "loop.example/atomicpush/laws.FnVoteYes", spec := "fnVoteYes", unfollowed := true, recurses := true, apart := false, narrowed := true }
def FnVoteYesUptoSaid : Prop := fnVoteYesUptoRow.holds Try.pinned (OpenSpec.upto fnVoteYesSpec)

end Rows
end Go.Proofs.Ytbgjidamhheekaa
