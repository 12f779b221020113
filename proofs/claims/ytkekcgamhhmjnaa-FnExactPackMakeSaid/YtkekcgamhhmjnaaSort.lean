/- Walks: l1Has, l1Sorted. -/
import Derived.Test.YtkekcgamhhmjnaaProg
import Derived.Test.YtkekcgamhhmjnaaApp
import Derived.WalkSpells
import Derived.WalkLawsBesides
import Derived.Handy
namespace Go.Proofs.Ytkekcgamhhmjnaa
open Go.RowKit Go.Sort

def hasI (xs : List Int) (z : Int) : Bool := decide (z ∈ xs)
theorem mem_take_succ (xs : List Int) (k : Nat) (x z : Int) (hx : xs[k]? = some x) : z ∈ xs.take (k+1) ↔ (z ∈ xs.take k ∨ x = z) := by
  have hk : k < xs.length := (List.getElem?_eq_some_iff.1 hx).1
  have hxk : xs[k] = x := (List.getElem?_eq_some_iff.1 hx).2
  rw [List.take_succ_eq_append_getElem hk, List.mem_append, hxk, List.mem_singleton]
  constructor <;> (rintro (h | h); (· exact Or.inl h); exact Or.inr h.symm)

set_option maxHeartbeats 800000 in
theorem l1Has_any (A : Option Addr) (n c : Nat) (xs : List Int) (z : Int) (w : World) (h : RInts w A n xs) (hn : n ≤ maxLen) :
    Calls Try.prog 71 #[.slice A n c, .int .i64 z] w fun e w' => e = .returned (.bool (hasI xs z)) ∧ w = w' := by
  unfold maxLen at hn
  go_enter Try.func71, Try.ntmps71
  go_wp2
  go_loop [5] (fun i => ∃ k : Nat, k ≤ n ∧ i = .int .i64 k ∧ Hid (¬ z ∈ xs.take k)) (fun i => n - (intOf i).toNat)
  case atStart => exact ⟨0, Nat.zero_le _, rfl, by show ¬ _; simp⟩
  case round =>
    obtain ⟨k, hk, rfl, hno⟩ := hrel
    by_cases hlt : k < n
    · obtain ⟨ad, x, rfl, hb, hx, hc⟩ := h.at_ hlt
      have HT := Lib.hid (mem_take_succ xs k x z hx)
      have HM := Lib.hid (List.mem_of_getElem? hx)
      clear hx
      cases he : (x == z)
      · have hne : x ≠ z := by simpa using he
        go_wp2
        go_round
        case rel => exact ⟨k + 1, by omega, by go_num, fun hh => by rcases HT.out.1 hh with h1 | h1; (· exact hno.out h1); exact hne h1⟩
        case measure => simp [intOf]; omega
      · have heq : x = z := by simpa using he
        go_wp2
        go_ret
        exact ⟨ret_bool (by have := HM.out; rw [heq] at this; simp [hasI, this]), rfl⟩
    · obtain rfl : k = n := by omega
      rw [List.take_of_length_le (by rw [h.1]; exact Nat.le_refl _)] at hno
      go_wp2
      go_ret
      exact ⟨ret_bool (by simp [hasI, hno.out]), rfl⟩

/-- the ids below k that are in xs, in order -/
def sortF (xs : List Int) (k : Nat) : List Int := ((List.range k).map (fun j : Nat => (j : Int))).filter (fun j => hasI xs j)
theorem sortF_succ (xs : List Int) (k : Nat) : sortF xs (k+1) = sortF xs k ++ (if hasI xs k then [(k : Int)] else []) := by
  unfold sortF
  rw [List.range_succ, List.map_append, List.filter_append]
  cases h : hasI xs k <;> simp [h]
theorem sortF_len (xs : List Int) (k : Nat) : (sortF xs k).length ≤ k := by
  unfold sortF; exact Nat.le_trans (List.length_filter_le _ _) (by simp)
theorem int_info1 : (Try.prog.info? 3).map (fun i => (i.zero, i.size, i.bytes)) = some (some (.int .i64 0), 1, 8) := by kernel_rfl

theorem ints_snoc (xs : List Int) (x : Int) : ints xs ++ [Value.int .i64 x] = ints (xs ++ [x]) := by simp [ints]

/-- each once, in order -/
def sorted (xs : List Int) : List Int := sortF xs 991
theorem sorted_len (xs : List Int) : (sorted xs).length ≤ 991 := sortF_len xs 991
set_option maxRecDepth 100000 in
set_option maxHeartbeats 1600000 in
theorem l1Sorted_any (A : Option Addr) (n c : Nat) (xs : List Int) (w : World) (h : RInts w A n xs) (hn : n ≤ maxLen) :
    Calls Try.prog 65 #[.slice A n c] w fun e w' => ∃ B d, e = .returned (.slice B (sorted xs).length d) ∧ w'.ownsRow w.heap.size 3 1 (.slice B (sorted xs).length d) (sorted xs).length (ints (sorted xs)) ∧ Below w.heap.size w w' := by
  go_enter Try.func65, Try.ntmps65
  go_wp2
  go_loopw [3, 4] (fun s i wr => ∃ (k : Nat) (B : Option Addr) (m d : Nat), k ≤ 991 ∧ i = .int .i64 k ∧ s = .slice B m d ∧ m ≤ k ∧ Hid (m = (sortF xs k).length) ∧ wr.ownsRow w.heap.size 3 1 (.slice B m d) m (ints (sortF xs k)) ∧ Below w.heap.size w wr) (fun _ i _ => (991 - intOf i).toNat)
  case atStart => exact ⟨0, _, 0, _, by omega, rfl, rfl, by omega, rfl, World.ownsRow_made w #[] 0 (Nat.le_refl _) (by simp [maxLen]) rfl, below_box _ _⟩
  case round =>
    obtain ⟨k, B, m, d, hk, rfl, rfl, hmk, hm, hown, hbr⟩ := hrel
    by_cases hlt : k < 991
    · have HS := Lib.hid (sortF_succ xs k)
      cases hh : hasI xs k
      · go_wp2_with (go_at_call 71; refine (l1Has_any _ _ _ xs _ _ (h.below hbr (Nat.le_refl _)) hn).mono ?_; rintro e w' ⟨rfl, rfl⟩)
        go_roundw
        case rel => exact ⟨k + 1, _, _, _, by omega, by go_num, rfl, by omega, by show m = _; rw [HS.out, hm.out, hh]; simp, by rw [HS.out, hh]; simpa using hown, hbr⟩
        case measure => simp [intOf]; omega
      · go_wp2_with (first
          | (go_at_call 71; refine (l1Has_any _ _ _ xs _ _ (h.below hbr (Nat.le_refl _)) hn).mono ?_; rintro e w' ⟨rfl, rfl⟩)
          | (at_builtin; refine wpList_app rfl (.tmp 13) (.tmp 15) 29 rfl w.heap.size 3 Try.underlying29 int_info1 rfl (by omega) (by omega) _ m _ rfl (hown.alloc _) ⟨wr.heap.size, 0, none⟩ 1 1 [.int .i64 k] rfl rfl (cell_one_new _ _ _) (by simp [Value.oneCell']) (by omega) (by have := hbr.size; simp; omega) ?_; intro B' d' w1 hown1 _ hb1 _ _))
        go_roundw
        case rel => exact ⟨k + 1, B', _, d', by omega, by go_num, rfl, by omega, by show m + 1 = _; rw [HS.out, hm.out, hh]; simp, by rw [HS.out, hh, ints_snoc] at *; exact hown1, (hbr.alloc hbr.size _).trans hb1⟩
        case measure => simp [intOf]; omega
    · obtain rfl : k = 991 := by omega
      obtain rfl : m = (sorted xs).length := hm.out
      go_wp2
      go_ret
      exact ⟨_, _, rfl, hown, hbr⟩
end Go.Proofs.Ytkekcgamhhmjnaa
