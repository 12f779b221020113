/-
  No cell of these rows narrows 'for every input' (looked for: loops, veiled, ifaces, maps, wideKeys, modest, calm, conditions, laid).
  DERIVED. THE GIVEN ROWS OF THIS SEAT. 9 by the template 'for every input the law returns true; each argument reads behind the call as it read before'; 0 by the template 'total and deterministic' (their statements: YtdcfljkofjobiaaTotals.lean).
  GIVEN WITH THE SEED: the statements are not yours to turn. If you find one false, say at which input.
  Laid BY PROGRAM, IN A SANDBOX (cutbox-rows.mjs): the forced cells as the released guide's own fill.sh prints them over the translation f4b433fb33051fd9… (all of the seat's roots in one cut). By AI agents, Wed Nov 11 2026. No macro, syntax, notation, axiom, sorry.
-/
import Derived.Test.YtdcfljkofjobiaaChecked
import GoSem.Claim
import GoSem.ClaimJoined
import GoSem.ClaimMapViews
import Derived.JoinedTies
import Derived.KernelRfl
namespace Go.Proofs.Ytdcfljkofjobiaa
/- THE CELL 'sum', in the pinned program and in every row, IS THE sha256 OF THE DUMP (.gsa) THAT YtdcfljkofjobiaaProg.lean LOADS. Nothing in Lean hashes anything: it is a label: what it is worth is what the hold of that sum in a sandbox is worth. -/
noncomputable def Try.pinned : Pinned := { name := "ytdcfljkofjobiaa", sum := "f4b433fb33051fd98570ed64a962f681d07b553c83de68aeb1102e00c6871485", checked := Try.checked }
namespace Rows
def none {H : Type} : Left H := { results := [], args := [] }

/-- 'laws.FnExactObjectValid': WHATEVER THE INPUT: true; the input reads as it did. -/
def fnExactObjectValidSpec : ChangeSpec := { name := "fnExactObjectValid", fn := fun _ => fun
  | [d] => { results := [.lit (.bool true)], args := [d] }
  | _ => none }
def fnExactObjectValidRow : OpenClaim := { program := "ytdcfljkofjobiaa", sum := "f4b433fb33051fd98570ed64a962f681d07b553c83de68aeb1102e00c6871485", func := "loop.example/atomicpush/laws.FnExactObjectValid", spec := "fnExactObjectValid", apart := false }
def FnExactObjectValidSaid : Prop := fnExactObjectValidRow.holds Try.pinned (OpenSpec.ofChange fnExactObjectValidSpec)

/-- ITS FALSE NEIGHBOUR: 'it returns false'. Refute it at one input. -/
def fnExactObjectValidWrong : ChangeSpec := { name := "fnExactObjectValid", fn := fun _ => fun
  | [d] => { results := [.lit (.bool false)], args := [d] }
  | _ => none }
def FnExactObjectValidWrongFalsely : Prop := fnExactObjectValidRow.holds Try.pinned (OpenSpec.ofChange fnExactObjectValidWrong)

/-- 'laws.FnObjectKinds': WHATEVER THE INPUT: true; the input reads as it did. -/
def fnObjectKindsSpec : ChangeSpec := { name := "fnObjectKinds", fn := fun _ => fun
  | [d] => { results := [.lit (.bool true)], args := [d] }
  | _ => none }
def fnObjectKindsRow : OpenClaim := { program := "ytdcfljkofjobiaa", sum := "f4b433fb33051fd98570ed64a962f681d07b553c83de68aeb1102e00c6871485", func := "loop.example/atomicpush/laws.FnObjectKinds", spec := "fnObjectKinds", apart := false }
def FnObjectKindsSaid : Prop := fnObjectKindsRow.holds Try.pinned (OpenSpec.ofChange fnObjectKindsSpec)

/-- ITS FALSE NEIGHBOUR: 'it returns false'. Refute it at one input. -/
def fnObjectKindsWrong : ChangeSpec := { name := "fnObjectKinds", fn := fun _ => fun
  | [d] => { results := [.lit (.bool false)], args := [d] }
  | _ => none }
def FnObjectKindsWrongFalsely : Prop := fnObjectKindsRow.holds Try.pinned (OpenSpec.ofChange fnObjectKindsWrong)

/-- 'laws.FnExactObjectId': WHATEVER THE INPUT: true; the input reads as it did. -/
def fnExactObjectIdSpec : ChangeSpec := { name := "fnExactObjectId", fn := fun _ => fun
  | [d] => { results := [.lit (.bool true)], args := [d] }
  | _ => none }
def fnExactObjectIdRow : OpenClaim := { program := "ytdcfljkofjobiaa", sum := "f4b433fb33051fd98570ed64a962f681d07b553c83de68aeb1102e00c6871485", func := "loop.example/atomicpush/laws.FnExactObjectId", spec := "fnExactObjectId", apart := false }
def FnExactObjectIdSaid : Prop := fnExactObjectIdRow.holds Try.pinned (OpenSpec.ofChange fnExactObjectIdSpec)

/-- ITS FALSE NEIGHBOUR: 'it returns false'. Refute it at one input. -/
def fnExactObjectIdWrong : ChangeSpec := { name := "fnExactObjectId", fn := fun _ => fun
  | [d] => { results := [.lit (.bool false)], args := [d] }
  | _ => none }
def FnExactObjectIdWrongFalsely : Prop := fnExactObjectIdRow.holds Try.pinned (OpenSpec.ofChange fnExactObjectIdWrong)

/-- 'laws.FnObjectValid': WHATEVER THE INPUT: true; the input reads as it did. -/
def fnObjectValidSpec : ChangeSpec := { name := "fnObjectValid", fn := fun _ => fun
  | [d] => { results := [.lit (.bool true)], args := [d] }
  | _ => none }
def fnObjectValidRow : OpenClaim := { program := "ytdcfljkofjobiaa", sum := "f4b433fb33051fd98570ed64a962f681d07b553c83de68aeb1102e00c6871485", func := "loop.example/atomicpush/laws.FnObjectValid", spec := "fnObjectValid", apart := false }
def FnObjectValidSaid : Prop := fnObjectValidRow.holds Try.pinned (OpenSpec.ofChange fnObjectValidSpec)

/-- ITS FALSE NEIGHBOUR: 'it returns false'. Refute it at one input. -/
def fnObjectValidWrong : ChangeSpec := { name := "fnObjectValid", fn := fun _ => fun
  | [d] => { results := [.lit (.bool false)], args := [d] }
  | _ => none }
def FnObjectValidWrongFalsely : Prop := fnObjectValidRow.holds Try.pinned (OpenSpec.ofChange fnObjectValidWrong)

/-- 'laws.FnIdKind': WHATEVER THE INPUT: true; the input reads as it did. -/
def fnIdKindSpec : ChangeSpec := { name := "fnIdKind", fn := fun _ => fun
  | [d] => { results := [.lit (.bool true)], args := [d] }
  | _ => none }
def fnIdKindRow : OpenClaim := { program := "ytdcfljkofjobiaa", sum := "f4b433fb33051fd98570ed64a962f681d07b553c83de68aeb1102e00c6871485", func := "loop.example/atomicpush/laws.FnIdKind", spec := "fnIdKind", apart := false }
def FnIdKindSaid : Prop := fnIdKindRow.holds Try.pinned (OpenSpec.ofChange fnIdKindSpec)

/-- ITS FALSE NEIGHBOUR: 'it returns false'. Refute it at one input. -/
def fnIdKindWrong : ChangeSpec := { name := "fnIdKind", fn := fun _ => fun
  | [d] => { results := [.lit (.bool false)], args := [d] }
  | _ => none }
def FnIdKindWrongFalsely : Prop := fnIdKindRow.holds Try.pinned (OpenSpec.ofChange fnIdKindWrong)

/-- 'laws.FnIdLinks': WHATEVER THE INPUT: true; the input reads as it did. -/
def fnIdLinksSpec : ChangeSpec := { name := "fnIdLinks", fn := fun _ => fun
  | [d1, d2] => { results := [.lit (.bool true)], args := [d1, d2] }
  | _ => none }
def fnIdLinksRow : OpenClaim := { program := "ytdcfljkofjobiaa", sum := "f4b433fb33051fd98570ed64a962f681d07b553c83de68aeb1102e00c6871485", func := "loop.example/atomicpush/laws.FnIdLinks", spec := "fnIdLinks", apart := false }
def FnIdLinksSaid : Prop := fnIdLinksRow.holds Try.pinned (OpenSpec.ofChange fnIdLinksSpec)

/-- ITS FALSE NEIGHBOUR: 'it returns false'. Refute it at one input. -/
def fnIdLinksWrong : ChangeSpec := { name := "fnIdLinks", fn := fun _ => fun
  | [d1, d2] => { results := [.lit (.bool false)], args := [d1, d2] }
  | _ => none }
def FnIdLinksWrongFalsely : Prop := fnIdLinksRow.holds Try.pinned (OpenSpec.ofChange fnIdLinksWrong)

/-- 'laws.FnIdText': WHATEVER THE INPUT: true; the input reads as it did. -/
def fnIdTextSpec : ChangeSpec := { name := "fnIdText", fn := fun _ => fun
  | [d1, d2] => { results := [.lit (.bool true)], args := [d1, d2] }
  | _ => none }
def fnIdTextRow : OpenClaim := { program := "ytdcfljkofjobiaa", sum := "f4b433fb33051fd98570ed64a962f681d07b553c83de68aeb1102e00c6871485", func := "loop.example/atomicpush/laws.FnIdText", spec := "fnIdText", apart := false }
def FnIdTextSaid : Prop := fnIdTextRow.holds Try.pinned (OpenSpec.ofChange fnIdTextSpec)

/-- ITS FALSE NEIGHBOUR: 'it returns false'. Refute it at one input. -/
def fnIdTextWrong : ChangeSpec := { name := "fnIdText", fn := fun _ => fun
  | [d1, d2] => { results := [.lit (.bool false)], args := [d1, d2] }
  | _ => none }
def FnIdTextWrongFalsely : Prop := fnIdTextRow.holds Try.pinned (OpenSpec.ofChange fnIdTextWrong)

/-- 'laws.FnExactStoreValid': WHATEVER THE INPUT: true; the input reads as it did. -/
def fnExactStoreValidSpec : ChangeSpec := { name := "fnExactStoreValid", fn := fun _ => fun
  | [d] => { results := [.lit (.bool true)], args := [d] }
  | _ => none }
def fnExactStoreValidRow : OpenClaim := { program := "ytdcfljkofjobiaa", sum := "f4b433fb33051fd98570ed64a962f681d07b553c83de68aeb1102e00c6871485", func := "loop.example/atomicpush/laws.FnExactStoreValid", spec := "fnExactStoreValid", apart := false }
def FnExactStoreValidSaid : Prop := fnExactStoreValidRow.holds Try.pinned (OpenSpec.ofChange fnExactStoreValidSpec)

/-- ITS FALSE NEIGHBOUR: 'it returns false'. Refute it at one input. -/
def fnExactStoreValidWrong : ChangeSpec := { name := "fnExactStoreValid", fn := fun _ => fun
  | [d] => { results := [.lit (.bool false)], args := [d] }
  | _ => none }
def FnExactStoreValidWrongFalsely : Prop := fnExactStoreValidRow.holds Try.pinned (OpenSpec.ofChange fnExactStoreValidWrong)

/-- 'laws.FnStorePart': WHATEVER THE INPUT: true; the input reads as it did. -/
def fnStorePartSpec : ChangeSpec := { name := "fnStorePart", fn := fun _ => fun
  | [d1, d2] => { results := [.lit (.bool true)], args := [d1, d2] }
  | _ => none }
def fnStorePartRow : OpenClaim := { program := "ytdcfljkofjobiaa", sum := "f4b433fb33051fd98570ed64a962f681d07b553c83de68aeb1102e00c6871485", func := "loop.example/atomicpush/laws.FnStorePart", spec := "fnStorePart", apart := false }
def FnStorePartSaid : Prop := fnStorePartRow.holds Try.pinned (OpenSpec.ofChange fnStorePartSpec)

/-- ITS FALSE NEIGHBOUR: 'it returns false'. Refute it at one input. -/
def fnStorePartWrong : ChangeSpec := { name := "fnStorePart", fn := fun _ => fun
  | [d1, d2] => { results := [.lit (.bool false)], args := [d1, d2] }
  | _ => none }
def FnStorePartWrongFalsely : Prop := fnStorePartRow.holds Try.pinned (OpenSpec.ofChange fnStorePartWrong)

/- THE SECOND FORM. 'bulk': how many values and letters a reading holds, each counted each time it is reached (what is shared counts as often as it is met; a slice's spare places count too). A statement '..UptoSaid' is the law's where the arguments, and the package variables that the reading takes, are together of bulk at most 1048576: NARROWER than '..Said'. Prove '..Said' where nothing that the law and all that it calls make is longer than what came in: it says more and counts as full. Else prove '..UptoSaid'. A law counts once. -/
mutual
def uptoBulk {H : Type} : DataW H → Nat
  | .lit (.string bytes) => bytes.length + 1
  | .lit _ => 1
  | .nil => 1
  | .ptr d => uptoBulk d + 1
  | .slice elems spare => uptoBulkAll elems + uptoBulkAll spare + 1
  | .agg parts => uptoBulkAll parts + 1
  | .iface _ d => uptoBulk d + 1
  | .map entries => uptoBulkEntries entries + 1
  | .held _ => 1
def uptoBulkAll {H : Type} : List (DataW H) → Nat
  | [] => 0
  | d :: r => uptoBulk d + uptoBulkAll r
def uptoBulkEntries {H : Type} : List (Lit × DataW H) → Nat
  | [] => 0
  | x :: r => uptoBulkEntry x + uptoBulkEntries r
def uptoBulkEntry {H : Type} : Lit × DataW H → Nat
  | (.string bytes, d) => bytes.length + uptoBulk d + 1
  | (_, d) => uptoBulk d + 1
 end
def uptoSmall : (H : Type) → List (DataW H) → Bool := fun _ ds => decide (uptoBulkAll ds ≤ 1048576)
def OpenSpec.upto (s : _root_.Go.ChangeSpec) : _root_.Go.OpenSpec := { _root_.Go.OpenSpec.ofChange s with cond := some uptoSmall }

/-- 'laws.FnExactObjectValid', WHERE WHAT IT READS IS OF BULK AT MOST 1048576: true; the input reads as it did. -/
def fnExactObjectValidUptoRow : OpenClaim := { program := "ytdcfljkofjobiaa", sum := "f4b433fb33051fd98570ed64a962f681d07b553c83de68aeb1102e00c6871485", func := "loop.example/atomicpush/laws.FnExactObjectValid", spec := "fnExactObjectValid", apart := false, narrowed := true }
def FnExactObjectValidUptoSaid : Prop := fnExactObjectValidUptoRow.holds Try.pinned (OpenSpec.upto fnExactObjectValidSpec)

/-- 'laws.FnObjectKinds', WHERE WHAT IT READS IS OF BULK AT MOST 1048576: true; the input reads as it did. -/
def fnObjectKindsUptoRow : OpenClaim := { program := "ytdcfljkofjobiaa", sum := "f4b433fb33051fd98570ed64a962f681d07b553c83de68aeb1102e00c6871485", func := "loop.example/atomicpush/laws.FnObjectKinds", spec := "fnObjectKinds", apart := false, narrowed := true }
def FnObjectKindsUptoSaid : Prop := fnObjectKindsUptoRow.holds Try.pinned (OpenSpec.upto fnObjectKindsSpec)

/-- 'laws.FnExactObjectId', WHERE WHAT IT READS IS OF BULK AT MOST 1048576: true; the input reads as it did. -/
def fnExactObjectIdUptoRow : OpenClaim := { program := "ytdcfljkofjobiaa", sum := "f4b433fb33051fd98570ed64a962f681d07b553c83de68aeb1102e00c6871485", func := "loop.example/atomicpush/laws.FnExactObjectId", spec := "fnExactObjectId", apart := false, narrowed := true }
def FnExactObjectIdUptoSaid : Prop := fnExactObjectIdUptoRow.holds Try.pinned (OpenSpec.upto fnExactObjectIdSpec)

/-- 'laws.FnObjectValid', WHERE WHAT IT READS IS OF BULK AT MOST 1048576: true; the input reads as it did. -/
def fnObjectValidUptoRow : OpenClaim := { program := "ytdcfljkofjobiaa", sum := "f4b433fb33051fd98570ed64a962f681d07b553c83de68aeb1102e00c6871485", func := "loop.example/atomicpush/laws.FnObjectValid", spec := "fnObjectValid", apart := false, narrowed := true }
def FnObjectValidUptoSaid : Prop := fnObjectValidUptoRow.holds Try.pinned (OpenSpec.upto fnObjectValidSpec)

/-- 'laws.FnIdKind', WHERE WHAT IT READS IS OF BULK AT MOST 1048576: true; the input reads as it did. -/
def fnIdKindUptoRow : OpenClaim := { program := "ytdcfljkofjobiaa", sum := "f4b433fb33051fd98570ed64a962f681d07b553c83de68aeb1102e00c6871485", func := "loop.example/atomicpush/laws.FnIdKind", spec := "fnIdKind", apart := false, narrowed := true }
def FnIdKindUptoSaid : Prop := fnIdKindUptoRow.holds Try.pinned (OpenSpec.upto fnIdKindSpec)

/-- 'laws.FnIdLinks', WHERE WHAT IT READS IS OF BULK AT MOST 1048576: true; the input reads as it did. -/
def fnIdLinksUptoRow : OpenClaim := { program := "ytdcfljkofjobiaa", sum := "f4b433fb33051fd98570ed64a962f681d07b553c83de68aeb1102e00c6871485", func := "loop.example/atomicpush/laws.FnIdLinks", spec := "fnIdLinks", apart := false, narrowed := true }
def FnIdLinksUptoSaid : Prop := fnIdLinksUptoRow.holds Try.pinned (OpenSpec.upto fnIdLinksSpec)

/-- 'laws.FnIdText', WHERE WHAT IT READS IS OF BULK AT MOST 1048576: true; the input reads as it did. -/
def fnIdTextUptoRow : OpenClaim := { program := "ytdcfljkofjobiaa", sum := "f4b433fb33051fd98570ed64a962f681d07b553c83de68aeb1102e00c6871485", func := "loop.example/atomicpush/laws.FnIdText", spec := "fnIdText", apart := false, narrowed := true }
def FnIdTextUptoSaid : Prop := fnIdTextUptoRow.holds Try.pinned (OpenSpec.upto fnIdTextSpec)

/-- 'laws.FnExactStoreValid', WHERE WHAT IT READS IS OF BULK AT MOST 1048576: true; the input reads as it did. -/
def fnExactStoreValidUptoRow : OpenClaim := { program := "ytdcfljkofjobiaa", sum := "f4b433fb33051fd98570ed64a962f681d07b553c83de68aeb1102e00c6871485", func := "loop.example/atomicpush/laws.FnExactStoreValid", spec := "fnExactStoreValid", apart := false, narrowed := true }
def FnExactStoreValidUptoSaid : Prop := fnExactStoreValidUptoRow.holds Try.pinned (OpenSpec.upto fnExactStoreValidSpec)

/-- 'laws.FnStorePart', WHERE WHAT IT READS IS OF BULK AT MOST 1048576: true; the input reads as it did. -/
def fnStorePartUptoRow : OpenClaim := { program := "ytdcfljkofjobiaa", sum := "f4b433fb33051fd98570ed64a962f681d07b553c83de68aeb1102e00c6871485", func := "loop.example/atomicpush/laws.FnStorePart", spec := "fnStorePart", apart := false, narrowed := true }
def FnStorePartUptoSaid : Prop := fnStorePartUptoRow.holds Try.pinned (OpenSpec.upto fnStorePartSpec)

end Rows
end Go.Proofs.Ytdcfljkofjobiaa
