/-
  No cell of these rows narrows 'for every input' (looked for: loops, veiled, ifaces, maps, wideKeys, modest, calm, conditions, laid).
  DERIVED. THE GIVEN ROWS OF THIS SEAT. 7 by the template 'for every input the law returns true; each argument reads behind the call as it read before'; 0 by the template 'total and deterministic' (their statements: YtjofgbbofagoiaaTotals.lean).
  GIVEN WITH THE SEED: the statements are not yours to turn. If you find one false, say at which input.
  Laid BY PROGRAM, IN A SANDBOX (cutbox-rows.mjs): the forced cells as the released guide's own fill.sh prints them over the translation 40576e9430ffa5af… (all of the seat's roots in one cut). By AI agents, Wed Nov 11 2026. No macro, syntax, notation, axiom, sorry.
-/
import Derived.Test.YtjofgbbofagoiaaChecked
import GoSem.Claim
import GoSem.ClaimJoined
import GoSem.ClaimMapViews
import Derived.JoinedTies
import Derived.KernelRfl
namespace Go.Proofs.Ytjofgbbofagoiaa
/- THE CELL 'sum', in the pinned program and in every row, IS THE sha256 OF THE DUMP (.gsa) THAT YtjofgbbofagoiaaProg.lean LOADS. Nothing in Lean hashes anything: it is a label: what it is worth is what the hold of that sum in a sandbox is worth. -/
noncomputable def Try.pinned : Pinned := { name := "ytjofgbbofagoiaa", sum := "40576e9430ffa5af0b4543ab00af2a327de33082c98078aceab264f366747915", checked := Try.checked }
namespace Rows
def none {H : Type} : Left H := { results := [], args := [] }

/-- 'laws.FnQuarMissing': WHATEVER THE INPUT: true; the input reads as it did. -/
def fnQuarMissingSpec : ChangeSpec := { name := "fnQuarMissing", fn := fun _ => fun
  | [d] => { results := [.lit (.bool true)], args := [d] }
  | _ => none }
def fnQuarMissingRow : OpenClaim := { program := "ytjofgbbofagoiaa", sum := "40576e9430ffa5af0b4543ab00af2a327de33082c98078aceab264f366747915", func := "loop.example/atomicpush/laws.FnQuarMissing", spec := "fnQuarMissing", unfollowed := true, recurses := true, apart := false }
def FnQuarMissingSaid : Prop := fnQuarMissingRow.holds Try.pinned (OpenSpec.ofChange fnQuarMissingSpec)

/-- ITS FALSE NEIGHBOUR: 'it returns false'. Refute it at one input. -/
def fnQuarMissingWrong : ChangeSpec := { name := "fnQuarMissing", fn := fun _ => fun
  | [d] => { results := [.lit (.bool false)], args := [d] }
  | _ => none }
def FnQuarMissingWrongFalsely : Prop := fnQuarMissingRow.holds Try.pinned (OpenSpec.ofChange fnQuarMissingWrong)

/-- 'laws.FnExactQuarantineValid': WHATEVER THE INPUT: true; the input reads as it did. -/
def fnExactQuarantineValidSpec : ChangeSpec := { name := "fnExactQuarantineValid", fn := fun _ => fun
  | [d] => { results := [.lit (.bool true)], args := [d] }
  | _ => none }
def fnExactQuarantineValidRow : OpenClaim := { program := "ytjofgbbofagoiaa", sum := "40576e9430ffa5af0b4543ab00af2a327de33082c98078aceab264f366747915", func := "loop.example/atomicpush/laws.FnExactQuarantineValid", spec := "fnExactQuarantineValid", apart := false }
def FnExactQuarantineValidSaid : Prop := fnExactQuarantineValidRow.holds Try.pinned (OpenSpec.ofChange fnExactQuarantineValidSpec)

/-- ITS FALSE NEIGHBOUR: 'it returns false'. Refute it at one input. -/
def fnExactQuarantineValidWrong : ChangeSpec := { name := "fnExactQuarantineValid", fn := fun _ => fun
  | [d] => { results := [.lit (.bool false)], args := [d] }
  | _ => none }
def FnExactQuarantineValidWrongFalsely : Prop := fnExactQuarantineValidRow.holds Try.pinned (OpenSpec.ofChange fnExactQuarantineValidWrong)

/-- 'laws.FnQuarPart': WHATEVER THE INPUT: true; the input reads as it did. -/
def fnQuarPartSpec : ChangeSpec := { name := "fnQuarPart", fn := fun _ => fun
  | [d1, d2] => { results := [.lit (.bool true)], args := [d1, d2] }
  | _ => none }
def fnQuarPartRow : OpenClaim := { program := "ytjofgbbofagoiaa", sum := "40576e9430ffa5af0b4543ab00af2a327de33082c98078aceab264f366747915", func := "loop.example/atomicpush/laws.FnQuarPart", spec := "fnQuarPart", apart := false }
def FnQuarPartSaid : Prop := fnQuarPartRow.holds Try.pinned (OpenSpec.ofChange fnQuarPartSpec)

/-- ITS FALSE NEIGHBOUR: 'it returns false'. Refute it at one input. -/
def fnQuarPartWrong : ChangeSpec := { name := "fnQuarPart", fn := fun _ => fun
  | [d1, d2] => { results := [.lit (.bool false)], args := [d1, d2] }
  | _ => none }
def FnQuarPartWrongFalsely : Prop := fnQuarPartRow.holds Try.pinned (OpenSpec.ofChange fnQuarPartWrong)

/-- 'laws.FnQuarTwice': WHATEVER THE INPUT: true; the input reads as it did. -/
def fnQuarTwiceSpec : ChangeSpec := { name := "fnQuarTwice", fn := fun _ => fun
  | [d] => { results := [.lit (.bool true)], args := [d] }
  | _ => none }
def fnQuarTwiceRow : OpenClaim := { program := "ytjofgbbofagoiaa", sum := "40576e9430ffa5af0b4543ab00af2a327de33082c98078aceab264f366747915", func := "loop.example/atomicpush/laws.FnQuarTwice", spec := "fnQuarTwice", inPlace := ["slices.overlaps[loop.example/atomicpush/impl.Object]"], unfollowed := true, recurses := true, apart := false }
def FnQuarTwiceSaid : Prop := fnQuarTwiceRow.holds Try.pinned (OpenSpec.ofChange fnQuarTwiceSpec)

/-- ITS FALSE NEIGHBOUR: 'it returns false'. Refute it at one input. -/
def fnQuarTwiceWrong : ChangeSpec := { name := "fnQuarTwice", fn := fun _ => fun
  | [d] => { results := [.lit (.bool false)], args := [d] }
  | _ => none }
def FnQuarTwiceWrongFalsely : Prop := fnQuarTwiceRow.holds Try.pinned (OpenSpec.ofChange fnQuarTwiceWrong)

/-- 'laws.FnExactQuarantineMissing': WHATEVER THE INPUT: true; the input reads as it did. -/
def fnExactQuarantineMissingSpec : ChangeSpec := { name := "fnExactQuarantineMissing", fn := fun _ => fun
  | [d1, d2, d3] => { results := [.lit (.bool true)], args := [d1, d2, d3] }
  | _ => none }
def fnExactQuarantineMissingRow : OpenClaim := { program := "ytjofgbbofagoiaa", sum := "40576e9430ffa5af0b4543ab00af2a327de33082c98078aceab264f366747915", func := "loop.example/atomicpush/laws.FnExactQuarantineMissing", spec := "fnExactQuarantineMissing", unfollowed := true, recurses := true, apart := false }
def FnExactQuarantineMissingSaid : Prop := fnExactQuarantineMissingRow.holds Try.pinned (OpenSpec.ofChange fnExactQuarantineMissingSpec)

/-- ITS FALSE NEIGHBOUR: 'it returns false'. Refute it at one input. -/
def fnExactQuarantineMissingWrong : ChangeSpec := { name := "fnExactQuarantineMissing", fn := fun _ => fun
  | [d1, d2, d3] => { results := [.lit (.bool false)], args := [d1, d2, d3] }
  | _ => none }
def FnExactQuarantineMissingWrongFalsely : Prop := fnExactQuarantineMissingRow.holds Try.pinned (OpenSpec.ofChange fnExactQuarantineMissingWrong)

/-- 'laws.FnExactQuarantineDiscard': WHATEVER THE INPUT: true; the input reads as it did. -/
def fnExactQuarantineDiscardSpec : ChangeSpec := { name := "fnExactQuarantineDiscard", fn := fun _ => fun
  | [d1, d2] => { results := [.lit (.bool true)], args := [d1, d2] }
  | _ => none }
def fnExactQuarantineDiscardRow : OpenClaim := { program := "ytjofgbbofagoiaa", sum := "40576e9430ffa5af0b4543ab00af2a327de33082c98078aceab264f366747915", func := "loop.example/atomicpush/laws.FnExactQuarantineDiscard", spec := "fnExactQuarantineDiscard", unfollowed := true, recurses := true, apart := false }
def FnExactQuarantineDiscardSaid : Prop := fnExactQuarantineDiscardRow.holds Try.pinned (OpenSpec.ofChange fnExactQuarantineDiscardSpec)

/-- ITS FALSE NEIGHBOUR: 'it returns false'. Refute it at one input. -/
def fnExactQuarantineDiscardWrong : ChangeSpec := { name := "fnExactQuarantineDiscard", fn := fun _ => fun
  | [d1, d2] => { results := [.lit (.bool false)], args := [d1, d2] }
  | _ => none }
def FnExactQuarantineDiscardWrongFalsely : Prop := fnExactQuarantineDiscardRow.holds Try.pinned (OpenSpec.ofChange fnExactQuarantineDiscardWrong)

/-- 'laws.FnDiscard': WHATEVER THE INPUT: true; the input reads as it did. -/
def fnDiscardSpec : ChangeSpec := { name := "fnDiscard", fn := fun _ => fun
  | [d] => { results := [.lit (.bool true)], args := [d] }
  | _ => none }
def fnDiscardRow : OpenClaim := { program := "ytjofgbbofagoiaa", sum := "40576e9430ffa5af0b4543ab00af2a327de33082c98078aceab264f366747915", func := "loop.example/atomicpush/laws.FnDiscard", spec := "fnDiscard", unfollowed := true, recurses := true, apart := false }
def FnDiscardSaid : Prop := fnDiscardRow.holds Try.pinned (OpenSpec.ofChange fnDiscardSpec)

/-- ITS FALSE NEIGHBOUR: 'it returns false'. Refute it at one input. -/
def fnDiscardWrong : ChangeSpec := { name := "fnDiscard", fn := fun _ => fun
  | [d] => { results := [.lit (.bool false)], args := [d] }
  | _ => none }
def FnDiscardWrongFalsely : Prop := fnDiscardRow.holds Try.pinned (OpenSpec.ofChange fnDiscardWrong)

/- THE SECOND FORM. 'bulk': how many values and letters a reading holds, each counted each time it is reached (what is shared counts as often as it is met; a slice's spare places count too). A statement '..UptoSaid' is the law's where the arguments, and the package variables that the reading takes, are together of bulk at most 1048576: NARROWER than '..Said'. Prove '..Said' where nothing that the law and all that it calls make is longer than what came in: it says more and counts as full. Else prove '..UptoSaid'. A law counts once. -/
mutual
def uptoBulk {H : Type} : DataW H → Nat
  | .lit (.string bytes) => bytes.length + 1
  | .lit _ => 1
  | .nil => 1
  | .ptr d => uptoBulk d + 1
  | .slice elems spare => uptoBulkAll elems + uptoBulkAll spare + 1
  | .agg parts => uptoBulkAll parts + 1
  | .iface _ d => uptoBulk d + 1
  | .map entries => uptoBulkEntries entries + 1
  | .held _ => 1
def uptoBulkAll {H : Type} : List (DataW H) → Nat
  | [] => 0
  | d :: r => uptoBulk d + uptoBulkAll r
def uptoBulkEntries {H : Type} : List (Lit × DataW H) → Nat
  | [] => 0
  | x :: r => uptoBulkEntry x + uptoBulkEntries r
def uptoBulkEntry {H : Type} : Lit × DataW H → Nat
  | (.string bytes, d) => bytes.length + uptoBulk d + 1
  | (_, d) => uptoBulk d + 1
 end
def uptoSmall : (H : Type) → List (DataW H) → Bool := fun _ ds => decide (uptoBulkAll ds ≤ 1048576)
def OpenSpec.upto (s : _root_.Go.ChangeSpec) : _root_.Go.OpenSpec := { _root_.Go.OpenSpec.ofChange s with cond := some uptoSmall }

/-- 'laws.FnQuarMissing', WHERE WHAT IT READS IS OF BULK AT MOST 1048576: true; the input reads as it did. -/
def fnQuarMissingUptoRow : OpenClaim := { program := "ytjofgbbofagoiaa", sum := "40576e9430ffa5af0b4543ab00af2a327de33082c98078aceab264f366747915", func := "loop.example/atomicpush/laws.FnQuarMissing", spec := "fnQuarMissing", unfollowed := true, recurses := true, apart := false, narrowed := true }
def FnQuarMissingUptoSaid : Prop := fnQuarMissingUptoRow.holds Try.pinned (OpenSpec.upto fnQuarMissingSpec)

/-- 'laws.FnExactQuarantineValid', WHERE WHAT IT READS IS OF BULK AT MOST 1048576: true; the input reads as it did. -/
def fnExactQuarantineValidUptoRow : OpenClaim := { program := "ytjofgbbofagoiaa", sum := "40576e9430ffa5af0b4543ab00af2a327de33082c98078aceab264f366747915", func := "loop.example/atomicpush/laws.FnExactQuarantineValid", spec := "fnExactQuarantineValid", apart := false, narrowed := true }
def FnExactQuarantineValidUptoSaid : Prop := fnExactQuarantineValidUptoRow.holds Try.pinned (OpenSpec.upto fnExactQuarantineValidSpec)

/-- 'laws.FnQuarPart', WHERE WHAT IT READS IS OF BULK AT MOST 1048576: true; the input reads as it did. -/
def fnQuarPartUptoRow : OpenClaim := { program := "ytjofgbbofagoiaa", sum := "40576e9430ffa5af0b4543ab00af2a327de33082c98078aceab264f366747915", func := "loop.example/atomicpush/laws.FnQuarPart", spec := "fnQuarPart", apart := false, narrowed := true }
def FnQuarPartUptoSaid : Prop := fnQuarPartUptoRow.holds Try.pinned (OpenSpec.upto fnQuarPartSpec)

/-- 'laws.FnQuarTwice', WHERE WHAT IT READS IS OF BULK AT MOST 1048576: true; the input reads as it did. -/
def fnQuarTwiceUptoRow : OpenClaim := { program := "ytjofgbbofagoiaa", sum := "40576e9430ffa5af0b4543ab00af2a327de33082c98078aceab264f366747915", func := "loop.example/atomicpush/laws.FnQuarTwice", spec := "fnQuarTwice", inPlace := ["slices.overlaps[loop.example/atomicpush/impl.Object]"], unfollowed := true, recurses := true, apart := false, narrowed := true }
def FnQuarTwiceUptoSaid : Prop := fnQuarTwiceUptoRow.holds Try.pinned (OpenSpec.upto fnQuarTwiceSpec)

/-- 'laws.FnExactQuarantineMissing', WHERE WHAT IT READS IS OF BULK AT MOST 1048576: true; the input reads as it did. -/
def fnExactQuarantineMissingUptoRow : OpenClaim := { program := "ytjofgbbofagoiaa", sum := "40576e9430ffa5af0b4543ab00af2a327de33082c98078aceab264f366747915", func := "loop.example/atomicpush/laws.FnExactQuarantineMissing", spec := "fnExactQuarantineMissing", unfollowed := true, recurses := true, apart := false, narrowed := true }
def FnExactQuarantineMissingUptoSaid : Prop := fnExactQuarantineMissingUptoRow.holds Try.pinned (OpenSpec.upto fnExactQuarantineMissingSpec)

/-- 'laws.FnExactQuarantineDiscard', WHERE WHAT IT READS IS OF BULK AT MOST 1048576: true; the input reads as it did. -/
def fnExactQuarantineDiscardUptoRow : OpenClaim := { program := "ytjofgbbofagoiaa", sum := "40576e9430ffa5af0b4543ab00af2a327de33082c98078aceab264f366747915", func := "loop.example/atomicpush/laws.FnExactQuarantineDiscard", spec := "fnExactQuarantineDiscard", unfollowed := true, recurses := true, apart := false, narrowed := true }
def FnExactQuarantineDiscardUptoSaid : Prop := fnExactQuarantineDiscardUptoRow.holds Try.pinned (OpenSpec.upto fnExactQuarantineDiscardSpec)

/-- 'laws.FnDiscard', WHERE WHAT IT READS IS OF BULK AT MOST 1048576: true; the input reads as it did. -/
def fnDiscardUptoRow : OpenClaim := { program := "ytjofgbbofagoiaa", sum := "40576e9430ffa5af0b4543ab00af2a327de33082c98078aceab264f366747915", func := "loop.example/atomicpush/laws.FnDiscard", spec := "fnDiscard", unfollowed := true, recurses := true, apart := false, narrowed := true }
def FnDiscardUptoSaid : Prop := fnDiscardUptoRow.holds Try.pinned (OpenSpec.upto fnDiscardSpec)

end Rows
end Go.Proofs.Ytjofgbbofagoiaa
