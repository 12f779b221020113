/-
  No cell of these rows narrows 'for every input' (looked for: loops, veiled, ifaces, maps, wideKeys, modest, calm, conditions, laid).
  DERIVED. THE GIVEN ROWS OF THIS SEAT. 7 by the template 'for every input the law returns true; each argument reads behind the call as it read before'; 0 by the template 'total and deterministic' (their statements: YtkekcgamhhmjnaaTotals.lean).
  GIVEN WITH THE SEED: the statements are not yours to turn. If you find one false, say at which input.
  Laid BY PROGRAM, IN A SANDBOX (cutbox-rows.mjs): the forced cells as the released guide's own fill.sh prints them over the translation 983a079602e9780c… (all of the seat's roots in one cut). By AI agents, Wed Nov 11 2026. No macro, syntax, notation, axiom, sorry.
-/
import Derived.Test.YtkekcgamhhmjnaaChecked
import GoSem.Claim
import GoSem.ClaimJoined
import GoSem.ClaimMapViews
import Derived.JoinedTies
import Derived.KernelRfl
namespace Go.Proofs.Ytkekcgamhhmjnaa
/- THE CELL 'sum', in the pinned program and in every row, IS THE sha256 OF THE DUMP (.gsa) THAT YtkekcgamhhmjnaaProg.lean LOADS. Nothing in Lean hashes anything: it is a label: what it is worth is what the hold of that sum in a sandbox is worth. -/
noncomputable def Try.pinned : Pinned := { name := "ytkekcgamhhmjnaa", sum := "983a079602e9780ce14ae27140e7f9192b1e8f94e06d82d152f6d05374b32bc8", checked := Try.checked }
namespace Rows
def none {H : Type} : Left H := { results := [], args := [] }

/-- 'laws.FnPackKinds': WHATEVER THE INPUT: true; the input reads as it did. -/
def fnPackKindsSpec : ChangeSpec := { name := "fnPackKinds", fn := fun _ => fun
  | [d] => { results := [.lit (.bool true)], args := [d] }
  | _ => none }
def fnPackKindsRow : OpenClaim := { program := "ytkekcgamhhmjnaa", sum := "983a079602e9780ce14ae27140e7f9192b1e8f94e06d82d152f6d05374b32bc8", func := "loop.example/atomicpush/laws.FnPackKinds", spec := "fnPackKinds", inPlace := ["internal/bytealg.IndexByteString", "internal/bytealg.IndexString"], unfollowed := true, recurses := true, named := ["internal/bytealg.MaxLen"], apart := false }
def FnPackKindsSaid : Prop := fnPackKindsRow.holds Try.pinned (OpenSpec.ofChange fnPackKindsSpec)

/-- ITS FALSE NEIGHBOUR: 'it returns false'. Refute it at one input. -/
def fnPackKindsWrong : ChangeSpec := { name := "fnPackKinds", fn := fun _ => fun
  | [d] => { results := [.lit (.bool false)], args := [d] }
  | _ => none }
def FnPackKindsWrongFalsely : Prop := fnPackKindsRow.holds Try.pinned (OpenSpec.ofChange fnPackKindsWrong)

/-- 'laws.FnPackPrefix': WHATEVER THE INPUT: true; the input reads as it did. -/
def fnPackPrefixSpec : ChangeSpec := { name := "fnPackPrefix", fn := fun _ => fun
  | [d1, d2] => { results := [.lit (.bool true)], args := [d1, d2] }
  | _ => none }
def fnPackPrefixRow : OpenClaim := { program := "ytkekcgamhhmjnaa", sum := "983a079602e9780ce14ae27140e7f9192b1e8f94e06d82d152f6d05374b32bc8", func := "loop.example/atomicpush/laws.FnPackPrefix", spec := "fnPackPrefix", inPlace := ["internal/bytealg.IndexByteString", "internal/bytealg.IndexString"], unfollowed := true, recurses := true, named := ["internal/bytealg.MaxLen"], apart := false }
def FnPackPrefixSaid : Prop := fnPackPrefixRow.holds Try.pinned (OpenSpec.ofChange fnPackPrefixSpec)

/-- ITS FALSE NEIGHBOUR: 'it returns false'. Refute it at one input. -/
def fnPackPrefixWrong : ChangeSpec := { name := "fnPackPrefix", fn := fun _ => fun
  | [d1, d2] => { results := [.lit (.bool false)], args := [d1, d2] }
  | _ => none }
def FnPackPrefixWrongFalsely : Prop := fnPackPrefixRow.holds Try.pinned (OpenSpec.ofChange fnPackPrefixWrong)

/-- 'laws.FnPackSmall': WHATEVER THE INPUT: true; the input reads as it did. -/
def fnPackSmallSpec : ChangeSpec := { name := "fnPackSmall", fn := fun _ => fun
  | [d] => { results := [.lit (.bool true)], args := [d] }
  | _ => none }
def fnPackSmallRow : OpenClaim := { program := "ytkekcgamhhmjnaa", sum := "983a079602e9780ce14ae27140e7f9192b1e8f94e06d82d152f6d05374b32bc8", func := "loop.example/atomicpush/laws.FnPackSmall", spec := "fnPackSmall", inPlace := ["internal/bytealg.IndexByteString", "internal/bytealg.IndexString"], unfollowed := true, recurses := true, named := ["internal/bytealg.MaxLen"], apart := false }
def FnPackSmallSaid : Prop := fnPackSmallRow.holds Try.pinned (OpenSpec.ofChange fnPackSmallSpec)

/-- ITS FALSE NEIGHBOUR: 'it returns false'. Refute it at one input. -/
def fnPackSmallWrong : ChangeSpec := { name := "fnPackSmall", fn := fun _ => fun
  | [d] => { results := [.lit (.bool false)], args := [d] }
  | _ => none }
def FnPackSmallWrongFalsely : Prop := fnPackSmallRow.holds Try.pinned (OpenSpec.ofChange fnPackSmallWrong)

/-- 'laws.FnPackFail': WHATEVER THE INPUT: true; the input reads as it did. -/
def fnPackFailSpec : ChangeSpec := { name := "fnPackFail", fn := fun _ => fun
  | [d] => { results := [.lit (.bool true)], args := [d] }
  | _ => none }
def fnPackFailRow : OpenClaim := { program := "ytkekcgamhhmjnaa", sum := "983a079602e9780ce14ae27140e7f9192b1e8f94e06d82d152f6d05374b32bc8", func := "loop.example/atomicpush/laws.FnPackFail", spec := "fnPackFail", inPlace := ["internal/bytealg.IndexByteString", "internal/bytealg.IndexString"], unfollowed := true, recurses := true, named := ["internal/bytealg.MaxLen"], apart := false }
def FnPackFailSaid : Prop := fnPackFailRow.holds Try.pinned (OpenSpec.ofChange fnPackFailSpec)

/-- ITS FALSE NEIGHBOUR: 'it returns false'. Refute it at one input. -/
def fnPackFailWrong : ChangeSpec := { name := "fnPackFail", fn := fun _ => fun
  | [d] => { results := [.lit (.bool false)], args := [d] }
  | _ => none }
def FnPackFailWrongFalsely : Prop := fnPackFailRow.holds Try.pinned (OpenSpec.ofChange fnPackFailWrong)

/-- 'laws.FnPackBest': WHATEVER THE INPUT: true; the input reads as it did. -/
def fnPackBestSpec : ChangeSpec := { name := "fnPackBest", fn := fun _ => fun
  | [d] => { results := [.lit (.bool true)], args := [d] }
  | _ => none }
def fnPackBestRow : OpenClaim := { program := "ytkekcgamhhmjnaa", sum := "983a079602e9780ce14ae27140e7f9192b1e8f94e06d82d152f6d05374b32bc8", func := "loop.example/atomicpush/laws.FnPackBest", spec := "fnPackBest", inPlace := ["internal/bytealg.IndexByteString", "internal/bytealg.IndexString"], unfollowed := true, recurses := true, named := ["internal/bytealg.MaxLen"], apart := false }
def FnPackBestSaid : Prop := fnPackBestRow.holds Try.pinned (OpenSpec.ofChange fnPackBestSpec)

/-- ITS FALSE NEIGHBOUR: 'it returns false'. Refute it at one input. -/
def fnPackBestWrong : ChangeSpec := { name := "fnPackBest", fn := fun _ => fun
  | [d] => { results := [.lit (.bool false)], args := [d] }
  | _ => none }
def FnPackBestWrongFalsely : Prop := fnPackBestRow.holds Try.pinned (OpenSpec.ofChange fnPackBestWrong)

/-- 'laws.FnPackDepth': WHATEVER THE INPUT: true; the input reads as it did. -/
def fnPackDepthSpec : ChangeSpec := { name := "fnPackDepth", fn := fun _ => fun
  | [d] => { results := [.lit (.bool true)], args := [d] }
  | _ => none }
def fnPackDepthRow : OpenClaim := { program := "ytkekcgamhhmjnaa", sum := "983a079602e9780ce14ae27140e7f9192b1e8f94e06d82d152f6d05374b32bc8", func := "loop.example/atomicpush/laws.FnPackDepth", spec := "fnPackDepth", inPlace := ["internal/bytealg.IndexByteString", "internal/bytealg.IndexString"], unfollowed := true, recurses := true, named := ["internal/bytealg.MaxLen"], apart := false }
def FnPackDepthSaid : Prop := fnPackDepthRow.holds Try.pinned (OpenSpec.ofChange fnPackDepthSpec)

/-- ITS FALSE NEIGHBOUR: 'it returns false'. Refute it at one input. -/
def fnPackDepthWrong : ChangeSpec := { name := "fnPackDepth", fn := fun _ => fun
  | [d] => { results := [.lit (.bool false)], args := [d] }
  | _ => none }
def FnPackDepthWrongFalsely : Prop := fnPackDepthRow.holds Try.pinned (OpenSpec.ofChange fnPackDepthWrong)

/-- 'laws.FnExactPackMake': WHATEVER THE INPUT: true; the input reads as it did. -/
def fnExactPackMakeSpec : ChangeSpec := { name := "fnExactPackMake", fn := fun _ => fun
  | [d] => { results := [.lit (.bool true)], args := [d] }
  | _ => none }
def fnExactPackMakeRow : OpenClaim := { program := "ytkekcgamhhmjnaa", sum := "983a079602e9780ce14ae27140e7f9192b1e8f94e06d82d152f6d05374b32bc8", func := "loop.example/atomicpush/laws.FnExactPackMake", spec := "fnExactPackMake", inPlace := ["internal/bytealg.IndexByteString", "internal/bytealg.IndexString"], unfollowed := true, recurses := true, named := ["internal/bytealg.MaxLen"], apart := false }
def FnExactPackMakeSaid : Prop := fnExactPackMakeRow.holds Try.pinned (OpenSpec.ofChange fnExactPackMakeSpec)

/-- ITS FALSE NEIGHBOUR: 'it returns false'. Refute it at one input. -/
def fnExactPackMakeWrong : ChangeSpec := { name := "fnExactPackMake", fn := fun _ => fun
  | [d] => { results := [.lit (.bool false)], args := [d] }
  | _ => none }
def FnExactPackMakeWrongFalsely : Prop := fnExactPackMakeRow.holds Try.pinned (OpenSpec.ofChange fnExactPackMakeWrong)

/- THE SECOND FORM. 'bulk': how many values and letters a reading holds, each counted each time it is reached (what is shared counts as often as it is met; a slice's spare places count too). A statement '..UptoSaid' is the law's where the arguments, and the package variables that the reading takes, are together of bulk at most 1048576: NARROWER than '..Said'. Prove '..Said' where nothing that the law and all that it calls make is longer than what came in: it says more and counts as full. Else prove '..UptoSaid'. A law counts once. -/
mutual
def uptoBulk {H : Type} : DataW H → Nat
  | .lit (.string bytes) => bytes.length + 1
  | .lit _ => 1
  | .nil => 1
  | .ptr d => uptoBulk d + 1
  | .slice elems spare => uptoBulkAll elems + uptoBulkAll spare + 1
  | .agg parts => uptoBulkAll parts + 1
  | .iface _ d => uptoBulk d + 1
  | .map entries => uptoBulkEntries entries + 1
  | .held _ => 1
def uptoBulkAll {H : Type} : List (DataW H) → Nat
  | [] => 0
  | d :: r => uptoBulk d + uptoBulkAll r
def uptoBulkEntries {H : Type} : List (Lit × DataW H) → Nat
  | [] => 0
  | x :: r => uptoBulkEntry x + uptoBulkEntries r
def uptoBulkEntry {H : Type} : Lit × DataW H → Nat
  | (.string bytes, d) => bytes.length + uptoBulk d + 1
  | (_, d) => uptoBulk d + 1
 end
def uptoSmall : (H : Type) → List (DataW H) → Bool := fun _ ds => decide (uptoBulkAll ds ≤ 1048576)
def OpenSpec.upto (s : _root_.Go.ChangeSpec) : _root_.Go.OpenSpec := { _root_.Go.OpenSpec.ofChange s with cond := some uptoSmall }

/-- 'laws.FnPackKinds', WHERE WHAT IT READS IS OF BULK AT MOST 1048576: true; the input reads as it did. -/
def fnPackKindsUptoRow : OpenClaim := { program := "ytkekcgamhhmjnaa", sum := "983a079602e9780ce14ae27140e7f9192b1e8f94e06d82d152f6d05374b32bc8", func := "loop.example/atomicpush/laws.FnPackKinds", spec := "fnPackKinds", inPlace := ["internal/bytealg.IndexByteString", "internal/bytealg.IndexString"], unfollowed := true, recurses := true, named := ["internal/bytealg.MaxLen"], apart := false, narrowed := true }
def FnPackKindsUptoSaid : Prop := fnPackKindsUptoRow.holds Try.pinned (OpenSpec.upto fnPackKindsSpec)

/-- 'laws.FnPackPrefix', WHERE WHAT IT READS IS OF BULK AT MOST 1048576: true; the input reads as it did. -/
def fnPackPrefixUptoRow : OpenClaim := { program := "ytkekcgamhhmjnaa", sum := "983a079602e9780ce14ae27140e7f9192b1e8f94e06d82d152f6d05374b32bc8", func := "loop.example/atomicpush/laws.FnPackPrefix", spec := "fnPackPrefix", inPlace := ["internal/bytealg.IndexByteString", "internal/bytealg.IndexString"], unfollowed := true, recurses := true, named := ["internal/bytealg.MaxLen"], apart := false, narrowed := true }
def FnPackPrefixUptoSaid : Prop := fnPackPrefixUptoRow.holds Try.pinned (OpenSpec.upto fnPackPrefixSpec)

/-- 'laws.FnPackSmall', WHERE WHAT IT READS IS OF BULK AT MOST 1048576: true; the input reads as it did. -/
def fnPackSmallUptoRow : OpenClaim := { program := "ytkekcgamhhmjnaa", sum := "983a079602e9780ce14ae27140e7f9192b1e8f94e06d82d152f6d05374b32bc8", func := "loop.example/atomicpush/laws.FnPackSmall", spec := "fnPackSmall", inPlace := ["internal/bytealg.IndexByteString", "internal/bytealg.IndexString"], unfollowed := true, recurses := true, named := ["internal/bytealg.MaxLen"], apart := false, narrowed := true }
def FnPackSmallUptoSaid : Prop := fnPackSmallUptoRow.holds Try.pinned (OpenSpec.upto fnPackSmallSpec)

/-- 'laws.FnPackFail', WHERE WHAT IT READS IS OF BULK AT MOST 1048576: true; the input reads as it did. -/
def fnPackFailUptoRow : OpenClaim := { program := "ytkekcgamhhmjnaa", sum := "983a079602e9780ce14ae27140e7f9192b1e8f94e06d82d152f6d05374b32bc8", func := "loop.example/atomicpush/laws.FnPackFail", spec := "fnPackFail", inPlace := ["internal/bytealg.IndexByteString", "internal/bytealg.IndexString"], unfollowed := true, recurses := true, named := ["internal/bytealg.MaxLen"], apart := false, narrowed := true }
def FnPackFailUptoSaid : Prop := fnPackFailUptoRow.holds Try.pinned (OpenSpec.upto fnPackFailSpec)

/-- 'laws.FnPackBest', WHERE WHAT IT READS IS OF BULK AT MOST 1048576: true; the input reads as it did. -/
def fnPackBestUptoRow : OpenClaim := { program := "ytkekcgamhhmjnaa", sum := "983a079602e9780ce14ae27140e7f9192b1e8f94e06d82d152f6d05374b32bc8", func := "loop.example/atomicpush/laws.FnPackBest", spec := "fnPackBest", inPlace := ["internal/bytealg.IndexByteString", "internal/bytealg.IndexString"], unfollowed := true, recurses := true, named := ["internal/bytealg.MaxLen"], apart := false, narrowed := true }
def FnPackBestUptoSaid : Prop := fnPackBestUptoRow.holds Try.pinned (OpenSpec.upto fnPackBestSpec)

/-- 'laws.FnPackDepth', WHERE WHAT IT READS IS OF BULK AT MOST 1048576: true; the input reads as it did. -/
def fnPackDepthUptoRow : OpenClaim := { program := "ytkekcgamhhmjnaa", sum := "983a079602e9780ce14ae27140e7f9192b1e8f94e06d82d152f6d05374b32bc8", func := "loop.example/atomicpush/laws.FnPackDepth", spec := "fnPackDepth", inPlace := ["internal/bytealg.IndexByteString", "internal/bytealg.IndexString"], unfollowed := true, recurses := true, named := ["internal/bytealg.MaxLen"], apart := false, narrowed := true }
def FnPackDepthUptoSaid : Prop := fnPackDepthUptoRow.holds Try.pinned (OpenSpec.upto fnPackDepthSpec)

/-- 'laws.FnExactPackMake', WHERE WHAT IT READS IS OF BULK AT MOST 1048576: true; the input reads as it did. -/
def fnExactPackMakeUptoRow : OpenClaim := { program := "ytkekcgamhhmjnaa", sum := "983a079602e9780ce14ae27140e7f9192b1e8f94e06d82d152f6d05374b32bc8", func := "loop.example/atomicpush/laws.FnExactPackMake", spec := "fnExactPackMake", inPlace := ["internal/bytealg.IndexByteString", "internal/bytealg.IndexString"], unfollowed := true, recurses := true, named := ["internal/bytealg.MaxLen"], apart := false, narrowed := true }
def FnExactPackMakeUptoSaid : Prop := fnExactPackMakeUptoRow.holds Try.pinned (OpenSpec.upto fnExactPackMakeSpec)

end Rows
end Go.Proofs.Ytkekcgamhhmjnaa
