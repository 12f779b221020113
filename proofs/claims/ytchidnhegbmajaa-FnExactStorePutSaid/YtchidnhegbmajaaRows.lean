/-
  No cell of these rows narrows 'for every input' (looked for: loops, veiled, ifaces, maps, wideKeys, modest, calm, conditions, laid).
  DERIVED. THE GIVEN ROWS OF THIS SEAT. 7 by the template 'for every input the law returns true; each argument reads behind the call as it read before'; 0 by the template 'total and deterministic' (their statements: YtchidnhegbmajaaTotals.lean).
  GIVEN WITH THE SEED: the statements are not yours to turn. If you find one false, say at which input.
  Laid BY PROGRAM, IN A SANDBOX (cutbox-rows.mjs): the forced cells as the released guide's own fill.sh prints them over the translation 05905f13e291847b… (all of the seat's roots in one cut). By AI agents, Wed Nov 11 2026. No macro, syntax, notation, axiom, sorry.
-/
import Derived.Test.YtchidnhegbmajaaChecked
import GoSem.Claim
import GoSem.ClaimJoined
import GoSem.ClaimMapViews
import Derived.JoinedTies
import Derived.KernelRfl
namespace Go.Proofs.Ytchidnhegbmajaa
/- THE CELL 'sum', in the pinned program and in every row, IS THE sha256 OF THE DUMP (.gsa) THAT YtchidnhegbmajaaProg.lean LOADS. Nothing in Lean hashes anything: it is a label: what it is worth is what the hold of that sum in a sandbox is worth. -/
noncomputable def Try.pinned : Pinned := { name := "ytchidnhegbmajaa", sum := "05905f13e291847b45d22ed83e03c92c9ffee203c88eb0e53fbd508bdd97b2e6", checked := Try.checked }
namespace Rows
def none {H : Type} : Left H := { results := [], args := [] }

/-- 'laws.FnExactStoreGet': WHATEVER THE INPUT: true; the input reads as it did. -/
def fnExactStoreGetSpec : ChangeSpec := { name := "fnExactStoreGet", fn := fun _ => fun
  | [d1, d2] => { results := [.lit (.bool true)], args := [d1, d2] }
  | _ => none }
def fnExactStoreGetRow : OpenClaim := { program := "ytchidnhegbmajaa", sum := "05905f13e291847b45d22ed83e03c92c9ffee203c88eb0e53fbd508bdd97b2e6", func := "loop.example/atomicpush/laws.FnExactStoreGet", spec := "fnExactStoreGet", unfollowed := true, recurses := true, apart := false }
def FnExactStoreGetSaid : Prop := fnExactStoreGetRow.holds Try.pinned (OpenSpec.ofChange fnExactStoreGetSpec)

/-- ITS FALSE NEIGHBOUR: 'it returns false'. Refute it at one input. -/
def fnExactStoreGetWrong : ChangeSpec := { name := "fnExactStoreGet", fn := fun _ => fun
  | [d1, d2] => { results := [.lit (.bool false)], args := [d1, d2] }
  | _ => none }
def FnExactStoreGetWrongFalsely : Prop := fnExactStoreGetRow.holds Try.pinned (OpenSpec.ofChange fnExactStoreGetWrong)

/-- 'laws.FnStoreGet': WHATEVER THE INPUT: true; the input reads as it did. -/
def fnStoreGetSpec : ChangeSpec := { name := "fnStoreGet", fn := fun _ => fun
  | [d] => { results := [.lit (.bool true)], args := [d] }
  | _ => none }
def fnStoreGetRow : OpenClaim := { program := "ytchidnhegbmajaa", sum := "05905f13e291847b45d22ed83e03c92c9ffee203c88eb0e53fbd508bdd97b2e6", func := "loop.example/atomicpush/laws.FnStoreGet", spec := "fnStoreGet", unfollowed := true, recurses := true, apart := false }
def FnStoreGetSaid : Prop := fnStoreGetRow.holds Try.pinned (OpenSpec.ofChange fnStoreGetSpec)

/-- ITS FALSE NEIGHBOUR: 'it returns false'. Refute it at one input. -/
def fnStoreGetWrong : ChangeSpec := { name := "fnStoreGet", fn := fun _ => fun
  | [d] => { results := [.lit (.bool false)], args := [d] }
  | _ => none }
def FnStoreGetWrongFalsely : Prop := fnStoreGetRow.holds Try.pinned (OpenSpec.ofChange fnStoreGetWrong)

/-- 'laws.FnExactStorePut': WHATEVER THE INPUT: true; the input reads as it did. -/
def fnExactStorePutSpec : ChangeSpec := { name := "fnExactStorePut", fn := fun _ => fun
  | [d1, d2] => { results := [.lit (.bool true)], args := [d1, d2] }
  | _ => none }
def fnExactStorePutRow : OpenClaim := { program := "ytchidnhegbmajaa", sum := "05905f13e291847b45d22ed83e03c92c9ffee203c88eb0e53fbd508bdd97b2e6", func := "loop.example/atomicpush/laws.FnExactStorePut", spec := "fnExactStorePut", inPlace := ["slices.overlaps[loop.example/atomicpush/impl.Object]"], unfollowed := true, recurses := true, apart := false }
def FnExactStorePutSaid : Prop := fnExactStorePutRow.holds Try.pinned (OpenSpec.ofChange fnExactStorePutSpec)

/-- ITS FALSE NEIGHBOUR: 'it returns false'. Refute it at one input. -/
def fnExactStorePutWrong : ChangeSpec := { name := "fnExactStorePut", fn := fun _ => fun
  | [d1, d2] => { results := [.lit (.bool false)], args := [d1, d2] }
  | _ => none }
def FnExactStorePutWrongFalsely : Prop := fnExactStorePutRow.holds Try.pinned (OpenSpec.ofChange fnExactStorePutWrong)

/-- 'laws.FnStoreOrder': WHATEVER THE INPUT: true; the input reads as it did. -/
def fnStoreOrderSpec : ChangeSpec := { name := "fnStoreOrder", fn := fun _ => fun
  | [d1, d2] => { results := [.lit (.bool true)], args := [d1, d2] }
  | _ => none }
def fnStoreOrderRow : OpenClaim := { program := "ytchidnhegbmajaa", sum := "05905f13e291847b45d22ed83e03c92c9ffee203c88eb0e53fbd508bdd97b2e6", func := "loop.example/atomicpush/laws.FnStoreOrder", spec := "fnStoreOrder", inPlace := ["slices.overlaps[loop.example/atomicpush/impl.Object]"], unfollowed := true, recurses := true, apart := false }
def FnStoreOrderSaid : Prop := fnStoreOrderRow.holds Try.pinned (OpenSpec.ofChange fnStoreOrderSpec)

/-- ITS FALSE NEIGHBOUR: 'it returns false'. Refute it at one input. -/
def fnStoreOrderWrong : ChangeSpec := { name := "fnStoreOrder", fn := fun _ => fun
  | [d1, d2] => { results := [.lit (.bool false)], args := [d1, d2] }
  | _ => none }
def FnStoreOrderWrongFalsely : Prop := fnStoreOrderRow.holds Try.pinned (OpenSpec.ofChange fnStoreOrderWrong)

/-- 'laws.FnStoreTwice': WHATEVER THE INPUT: true; the input reads as it did. -/
def fnStoreTwiceSpec : ChangeSpec := { name := "fnStoreTwice", fn := fun _ => fun
  | [d] => { results := [.lit (.bool true)], args := [d] }
  | _ => none }
def fnStoreTwiceRow : OpenClaim := { program := "ytchidnhegbmajaa", sum := "05905f13e291847b45d22ed83e03c92c9ffee203c88eb0e53fbd508bdd97b2e6", func := "loop.example/atomicpush/laws.FnStoreTwice", spec := "fnStoreTwice", inPlace := ["slices.overlaps[loop.example/atomicpush/impl.Object]"], unfollowed := true, recurses := true, apart := false }
def FnStoreTwiceSaid : Prop := fnStoreTwiceRow.holds Try.pinned (OpenSpec.ofChange fnStoreTwiceSpec)

/-- ITS FALSE NEIGHBOUR: 'it returns false'. Refute it at one input. -/
def fnStoreTwiceWrong : ChangeSpec := { name := "fnStoreTwice", fn := fun _ => fun
  | [d] => { results := [.lit (.bool false)], args := [d] }
  | _ => none }
def FnStoreTwiceWrongFalsely : Prop := fnStoreTwiceRow.holds Try.pinned (OpenSpec.ofChange fnStoreTwiceWrong)

/-- 'laws.FnStorePut': WHATEVER THE INPUT: true; the input reads as it did. -/
def fnStorePutSpec : ChangeSpec := { name := "fnStorePut", fn := fun _ => fun
  | [d] => { results := [.lit (.bool true)], args := [d] }
  | _ => none }
def fnStorePutRow : OpenClaim := { program := "ytchidnhegbmajaa", sum := "05905f13e291847b45d22ed83e03c92c9ffee203c88eb0e53fbd508bdd97b2e6", func := "loop.example/atomicpush/laws.FnStorePut", spec := "fnStorePut", inPlace := ["slices.overlaps[loop.example/atomicpush/impl.Object]"], unfollowed := true, recurses := true, apart := false }
def FnStorePutSaid : Prop := fnStorePutRow.holds Try.pinned (OpenSpec.ofChange fnStorePutSpec)

/-- ITS FALSE NEIGHBOUR: 'it returns false'. Refute it at one input. -/
def fnStorePutWrong : ChangeSpec := { name := "fnStorePut", fn := fun _ => fun
  | [d] => { results := [.lit (.bool false)], args := [d] }
  | _ => none }
def FnStorePutWrongFalsely : Prop := fnStorePutRow.holds Try.pinned (OpenSpec.ofChange fnStorePutWrong)

/-- 'laws.FnStoreRefused': WHATEVER THE INPUT: true; the input reads as it did. -/
def fnStoreRefusedSpec : ChangeSpec := { name := "fnStoreRefused", fn := fun _ => fun
  | [d] => { results := [.lit (.bool true)], args := [d] }
  | _ => none }
def fnStoreRefusedRow : OpenClaim := { program := "ytchidnhegbmajaa", sum := "05905f13e291847b45d22ed83e03c92c9ffee203c88eb0e53fbd508bdd97b2e6", func := "loop.example/atomicpush/laws.FnStoreRefused", spec := "fnStoreRefused", inPlace := ["slices.overlaps[loop.example/atomicpush/impl.Object]"], unfollowed := true, recurses := true, apart := false }
def FnStoreRefusedSaid : Prop := fnStoreRefusedRow.holds Try.pinned (OpenSpec.ofChange fnStoreRefusedSpec)

/-- ITS FALSE NEIGHBOUR: 'it returns false'. Refute it at one input. -/
def fnStoreRefusedWrong : ChangeSpec := { name := "fnStoreRefused", fn := fun _ => fun
  | [d] => { results := [.lit (.bool false)], args := [d] }
  | _ => none }
def FnStoreRefusedWrongFalsely : Prop := fnStoreRefusedRow.holds Try.pinned (OpenSpec.ofChange fnStoreRefusedWrong)

/- THE SECOND FORM. 'bulk': how many values and letters a reading holds, each counted each time it is reached (what is shared counts as often as it is met; a slice's spare places count too). A statement '..UptoSaid' is the law's where the arguments, and the package variables that the reading takes, are together of bulk at most 1048576: NARROWER than '..Said'. Prove '..Said' where nothing that the law and all that it calls make is longer than what came in: it says more and counts as full. Else prove '..UptoSaid'. A law counts once. -/
mutual
def uptoBulk {H : Type} : DataW H → Nat
  | .lit (.string bytes) => bytes.length + 1
  | .lit _ => 1
  | .nil => 1
  | .ptr d => uptoBulk d + 1
  | .slice elems spare => uptoBulkAll elems + uptoBulkAll spare + 1
  | .agg parts => uptoBulkAll parts + 1
  | .iface _ d => uptoBulk d + 1
  | .map entries => uptoBulkEntries entries + 1
  | .held _ => 1
def uptoBulkAll {H : Type} : List (DataW H) → Nat
  | [] => 0
  | d :: r => uptoBulk d + uptoBulkAll r
def uptoBulkEntries {H : Type} : List (Lit × DataW H) → Nat
  | [] => 0
  | x :: r => uptoBulkEntry x + uptoBulkEntries r
def uptoBulkEntry {H : Type} : Lit × DataW H → Nat
  | (.string bytes, d) => bytes.length + uptoBulk d + 1
  | (_, d) => uptoBulk d + 1
 end
def uptoSmall : (H : Type) → List (DataW H) → Bool := fun _ ds => decide (uptoBulkAll ds ≤ 1048576)
def OpenSpec.upto (s : _root_.Go.ChangeSpec) : _root_.Go.OpenSpec := { _root_.Go.OpenSpec.ofChange s with cond := some uptoSmall }

/-- 'laws.FnExactStoreGet', WHERE WHAT IT READS IS OF BULK AT MOST 1048576: true; the input reads as it did. -/
def fnExactStoreGetUptoRow : OpenClaim := { program := "ytchidnhegbmajaa", sum := "05905f13e291847b45d22ed83e03c92c9ffee203c88eb0e53fbd508bdd97b2e6", func := "loop.example/atomicpush/laws.FnExactStoreGet", spec := "fnExactStoreGet", unfollowed := true, recurses := true, apart := false, narrowed := true }
def FnExactStoreGetUptoSaid : Prop := fnExactStoreGetUptoRow.holds Try.pinned (OpenSpec.upto fnExactStoreGetSpec)

/-- 'laws.FnStoreGet', WHERE WHAT IT READS IS OF BULK AT MOST 1048576: true; the input reads as it did. -/
def fnStoreGetUptoRow : OpenClaim := { program := "ytchidnhegbmajaa", sum := "05905f13e291847b45d22ed83e03c92c9ffee203c88eb0e53fbd508bdd97b2e6", func := "loop.example/atomicpush/laws.FnStoreGet", spec := "fnStoreGet", unfollowed := true, recurses := true, apart := false, narrowed := true }
def FnStoreGetUptoSaid : Prop := fnStoreGetUptoRow.holds Try.pinned (OpenSpec.upto fnStoreGetSpec)

/-- 'laws.FnExactStorePut', WHERE WHAT IT READS IS OF BULK AT MOST 1048576: true; the input reads as it did. -/
def fnExactStorePutUptoRow : OpenClaim := { program := "ytchidnhegbmajaa", sum := "05905f13e291847b45d22ed83e03c92c9ffee203c88eb0e53fbd508bdd97b2e6", func := "loop.example/atomicpush/laws.FnExactStorePut", spec := "fnExactStorePut", inPlace := ["slices.overlaps[loop.example/atomicpush/impl.Object]"], unfollowed := true, recurses := true, apart := false, narrowed := true }
def FnExactStorePutUptoSaid : Prop := fnExactStorePutUptoRow.holds Try.pinned (OpenSpec.upto fnExactStorePutSpec)

/-- 'laws.FnStoreOrder', WHERE WHAT IT READS IS OF BULK AT MOST 1048576: true; the input reads as it did. -/
def fnStoreOrderUptoRow : OpenClaim := { program := "ytchidnhegbmajaa", sum := "05905f13e291847b45d22ed83e03c92c9ffee203c88eb0e53fbd508bdd97b2e6", func := "loop.example/atomicpush/laws.FnStoreOrder", spec := "fnStoreOrder", inPlace := ["slices.overlaps[loop.example/atomicpush/impl.Object]"], unfollowed := true, recurses := true, apart := false, narrowed := true }
def FnStoreOrderUptoSaid : Prop := fnStoreOrderUptoRow.holds Try.pinned (OpenSpec.upto fnStoreOrderSpec)

/-- 'laws.FnStoreTwice', WHERE WHAT IT READS IS OF BULK AT MOST 1048576: true; the input reads as it did. -/
def fnStoreTwiceUptoRow : OpenClaim := { program := "ytchidnhegbmajaa", sum := "05905f13e291847b45d22ed83e03c92c9ffee203c88eb0e53fbd508bdd97b2e6", func := "loop.example/atomicpush/laws.FnStoreTwice", spec := "fnStoreTwice", inPlace := ["slices.overlaps[loop.example/atomicpush/impl.Object]"], unfollowed := true, recurses := true, apart := false, narrowed := true }
def FnStoreTwiceUptoSaid : Prop := fnStoreTwiceUptoRow.holds Try.pinned (OpenSpec.upto fnStoreTwiceSpec)

/-- 'laws.FnStorePut', WHERE WHAT IT READS IS OF BULK AT MOST 1048576: true; the input reads as it did. -/
def fnStorePutUptoRow : OpenClaim := { program := "ytchidnhegbmajaa", sum := "05905f13e291847b45d22ed83e03c92c9ffee203c88eb0e53fbd508bdd97b2e6", func := "loop.example/atomicpush/laws.FnStorePut", spec := "fnStorePut", inPlace := ["slices.overlaps[loop.example/atomicpush/impl.Object]"], unfollowed := true, recurses := true, apart := false, narrowed := true }
def FnStorePutUptoSaid : Prop := fnStorePutUptoRow.holds Try.pinned (OpenSpec.upto fnStorePutSpec)

/-- 'laws.FnStoreRefused', WHERE WHAT IT READS IS OF BULK AT MOST 1048576: true; the input reads as it did. -/
def fnStoreRefusedUptoRow : OpenClaim := { program := "ytchidnhegbmajaa", sum := "05905f13e291847b45d22ed83e03c92c9ffee203c88eb0e53fbd508bdd97b2e6", func := "loop.example/atomicpush/laws.FnStoreRefused", spec := "fnStoreRefused", inPlace := ["slices.overlaps[loop.example/atomicpush/impl.Object]"], unfollowed := true, recurses := true, apart := false, narrowed := true }
def FnStoreRefusedUptoSaid : Prop := fnStoreRefusedUptoRow.holds Try.pinned (OpenSpec.upto fnStoreRefusedSpec)

end Rows
end Go.Proofs.Ytchidnhegbmajaa
