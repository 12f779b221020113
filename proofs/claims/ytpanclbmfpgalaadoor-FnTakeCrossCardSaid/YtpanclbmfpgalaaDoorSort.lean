/- Walks: l1Has, l1Sorted. -/
import Derived.Test.YtpanclbmfpgalaaDoorProg
import Derived.Test.YtpanclbmfpgalaaDoorApp
import Derived.WalkSpells
import Derived.WalkLawsBesides
import Derived.Handy
namespace Go.Proofs.YtpanclbmfpgalaaDoor
open Go.RowKit Go.Sort

def hasI (xs : List Int) (z : Int) : Bool := decide (z ∈ xs)
theorem mem_take_succ (xs : List Int) (k : Nat) (x z : Int) (hx : xs[k]? = some x) : z ∈ xs.take (k+1) ↔ (z ∈ xs.take k ∨ x = z) := by
  have hk : k < xs.length := (List.getElem?_eq_some_iff.1 hx).1
  have hxk : xs[k] = x := (List.getElem?_eq_some_iff.1 hx).2
  rw [List.take_succ_eq_append_getElem hk, List.mem_append, hxk, List.mem_singleton]
  constructor <;> (rintro (h | h); (· exact Or.inl h); exact Or.inr h.symm)


/-- the ids below k that are in xs, in order -/
def sortF (xs : List Int) (k : Nat) : List Int := ((List.range k).map (fun j : Nat => (j : Int))).filter (fun j => hasI xs j)
theorem sortF_succ (xs : List Int) (k : Nat) : sortF xs (k+1) = sortF xs k ++ (if hasI xs k then [(k : Int)] else []) := by
  unfold sortF
  rw [List.range_succ, List.map_append, List.filter_append]
  cases h : hasI xs k <;> simp [h]
theorem sortF_len (xs : List Int) (k : Nat) : (sortF xs k).length ≤ k := by
  unfold sortF; exact Nat.le_trans (List.length_filter_le _ _) (by simp)
theorem int_info1 : (Tryd.prog.info? 3).map (fun i => (i.zero, i.size, i.bytes)) = some (some (.int .i64 0), 1, 8) := by kernel_rfl

theorem ints_snoc (xs : List Int) (x : Int) : ints xs ++ [Value.int .i64 x] = ints (xs ++ [x]) := by simp [ints]

/-- each once, in order -/
def sorted (xs : List Int) : List Int := sortF xs 991
theorem sorted_len (xs : List Int) : (sorted xs).length ≤ 991 := sortF_len xs 991
end Go.Proofs.YtpanclbmfpgalaaDoor
