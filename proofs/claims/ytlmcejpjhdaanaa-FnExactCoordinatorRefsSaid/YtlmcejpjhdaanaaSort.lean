/- Walks: l1Has, l1Sorted. -/
import Derived.Test.YtlmcejpjhdaanaaProg
import Derived.Test.YtlmcejpjhdaanaaApp
import Derived.WalkSpells
import Derived.WalkLawsBesides
import Derived.Handy
namespace Go.Proofs.Ytlmcejpjhdaanaa
open Go.RowKit Go.Sort

def hasI (xs : List Int) (z : Int) : Bool := decide (z ∈ xs)
theorem mem_take_succ (xs : List Int) (k : Nat) (x z : Int) (hx : xs[k]? = some x) : z ∈ xs.take (k+1) ↔ (z ∈ xs.take k ∨ x = z) := by
  have hk : k < xs.length := (List.getElem?_eq_some_iff.1 hx).1
  have hxk : xs[k] = x := (List.getElem?_eq_some_iff.1 hx).2
  rw [List.take_succ_eq_append_getElem hk, List.mem_append, hxk, List.mem_singleton]
  constructor <;> (rintro (h | h); (· exact Or.inl h); exact Or.inr h.symm)

set_option maxHeartbeats 800000 in
theorem l1Has_any (A : Option Addr) (n c : Nat) (xs : List Int) (z : Int) (w : World) (h : RInts w A n xs) (hn : n ≤ maxLen) :
    Calls Try.prog 38 #[.slice A n c, .int .i64 z] w fun e w' => e = .returned (.bool (hasI xs z)) ∧ w = w' := by
  unfold maxLen at hn
  go_enter Try.func38, Try.ntmps38
  go_wp2
  go_loop [5] (fun i => ∃ k : Nat, k ≤ n ∧ i = .int .i64 k ∧ Hid (¬ z ∈ xs.take k)) (fun i => n - (intOf i).toNat)
  case atStart => exact ⟨0, Nat.zero_le _, rfl, by show ¬ _; simp⟩
  case round =>
    obtain ⟨k, hk, rfl, hno⟩ := hrel
    by_cases hlt : k < n
    · obtain ⟨ad, x, rfl, hb, hx, hc⟩ := h.at_ hlt
      have HT := Lib.hid (mem_take_succ xs k x z hx)
      have HM := Lib.hid (List.mem_of_getElem? hx)
      clear hx
      cases he : (x == z)
      · have hne : x ≠ z := by simpa using he
        go_wp2
        go_round
        case rel => exact ⟨k + 1, by omega, by go_num, fun hh => by rcases HT.out.1 hh with h1 | h1; (· exact hno.out h1); exact hne h1⟩
        case measure => simp [intOf]; omega
      · have heq : x = z := by simpa using he
        go_wp2
        go_ret
        exact ⟨ret_bool (by have := HM.out; rw [heq] at this; simp [hasI, this]), rfl⟩
    · obtain rfl : k = n := by omega
      rw [List.take_of_length_le (by rw [h.1]; exact Nat.le_refl _)] at hno
      go_wp2
      go_ret
      exact ⟨ret_bool (by simp [hasI, hno.out]), rfl⟩

/-- the ids below k that are in xs, in order -/
def sortF (xs : List Int) (k : Nat) : List Int := ((List.range k).map (fun j : Nat => (j : Int))).filter (fun j => hasI xs j)
theorem sortF_succ (xs : List Int) (k : Nat) : sortF xs (k+1) = sortF xs k ++ (if hasI xs k then [(k : Int)] else []) := by
  unfold sortF
  rw [List.range_succ, List.map_append, List.filter_append]
  cases h : hasI xs k <;> simp [h]
theorem sortF_len (xs : List Int) (k : Nat) : (sortF xs k).length ≤ k := by
  unfold sortF; exact Nat.le_trans (List.length_filter_le _ _) (by simp)
theorem int_info1 : (Try.prog.info? 3).map (fun i => (i.zero, i.size, i.bytes)) = some (some (.int .i64 0), 1, 8) := by kernel_rfl

theorem ints_snoc (xs : List Int) (x : Int) : ints xs ++ [Value.int .i64 x] = ints (xs ++ [x]) := by simp [ints]

/-- each once, in order -/
def sorted (xs : List Int) : List Int := sortF xs 991
theorem sorted_len (xs : List Int) : (sorted xs).length ≤ 991 := sortF_len xs 991
end Go.Proofs.Ytlmcejpjhdaanaa
