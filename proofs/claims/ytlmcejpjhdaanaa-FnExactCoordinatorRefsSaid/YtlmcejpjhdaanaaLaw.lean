/- Walks: the laws' own helpers on slices of ints and on objects: copies, comparisons, sizes. -/
import Derived.Test.YtlmcejpjhdaanaaIds
import Derived.Test.YtlmcejpjhdaanaaMem
namespace Go.Proofs.Ytlmcejpjhdaanaa
open Go.RowKit Go.Sort

theorem int_info : (Try.prog.info? 3).map (fun i => (i.zero, i.size, i.bytes)) = some (some (.int .i64 0), 1, 8) := by kernel_rfl

set_option maxHeartbeats 1600000 in
theorem toIntS_any (A : Option Addr) (n c : Nat) (xs : List Int) (w : World) (h : RInts w A n xs) (hn : n ≤ 2000000) :
    Calls Try.prog 46 #[.slice A n c] w fun e w' => e = .returned (.slice (some ⟨w.heap.size, 0, none⟩) n n) ∧ Blk w' w.heap.size 3 (ints xs) ∧ Below w.heap.size w w' := by
  have hmk := run_make_ints Try.underlying24 int_info n hn
  go_enter Try.func46, Try.ntmps46
  go_wp2
  go_loopw [4] (fun i wr => ∃ k : Nat, k ≤ n ∧ i = .int .i64 k ∧ Blk wr w.heap.size 3 (ints (fillI xs n k)) ∧ Below w.heap.size w wr) (fun i _ => n - (intOf i).toNat)
  case atStart => exact ⟨0, Nat.zero_le _, rfl, by rw [fillI_zero]; exact Blk.new _ _ _, below_box _ _⟩
  case round =>
    obtain ⟨k, hk, rfl, hblk, hbr⟩ := hrel
    have hr := h.below hbr (Nat.le_refl _)
    by_cases hlt : k < n
    · obtain ⟨ad, x, rfl, hb, hx, hc⟩ := hr.at_ hlt
      have hfr := hblk.frozen k
      have hce := (hblk.cell k).trans (fillI_get xs n k h.1 hlt)
      have hset := hblk.set_ k (.int .i64 x)
      rw [fillI_set xs n k x h.1 hx] at hset
      have hbs := below_store hbr (g := w.heap.size) (i := k) (Nat.le_refl _) (.int .i64 x)
      clear hx
      go_wp2
      go_roundw
      case rel => exact ⟨k + 1, by omega, by go_num, hset, hbs⟩
      case measure => simp [intOf]; omega
    · obtain rfl : k = n := by omega
      rw [fillI_all xs k h.1] at hblk
      go_wp2
      go_ret
      exact ⟨rfl, hblk, hbr⟩

/-- what is left of a budget -/
def szI (l : Int) (n : Nat) : Int := if l - n < 0 then -1 else l - n

set_option maxHeartbeats 400000 in
theorem szIntS_any (A : Option Addr) (n c : Nat) (l : Int) (w : World) (h0 : 0 ≤ l) (h1 : l ≤ 1048576) (hn : n ≤ maxLen) :
    Calls Try.prog 44 #[.slice A n c, .int .i64 l] w fun e w' => e = .returned (.int .i64 (szI l n)) ∧ w = w' := by
  unfold maxLen at hn
  go_enter Try.func44, Try.ntmps44
  go_wp2
  all_goals (go_ret; refine ⟨ret_int ?_, rfl⟩; unfold szI)
  · rw [if_pos (by omega)]
  · rw [if_neg (by omega)]

/-- of an object: its links, then its text -/
def szO (l : Int) (n m : Nat) : Int := if szI l n < 0 then -1 else szI (szI l n) m


theorem eq_take (xs ys : List Int) (k : Nat) (hl : xs.length = ys.length) (x y : Int) (hx : xs[k]? = some x) (hy : ys[k]? = some y) : (xs.take (k+1) = ys.take (k+1)) ↔ (xs.take k = ys.take k ∧ x = y) := by
  have hk : k < xs.length := (List.getElem?_eq_some_iff.1 hx).1
  have hk' : k < ys.length := by omega
  have hxk : xs[k] = x := (List.getElem?_eq_some_iff.1 hx).2
  have hyk : ys[k] = y := (List.getElem?_eq_some_iff.1 hy).2
  rw [List.take_succ_eq_append_getElem hk, List.take_succ_eq_append_getElem hk', hxk, hyk]
  constructor
  · intro h
    have := List.append_inj h (by simp; omega)
    exact ⟨this.1, by simpa using this.2⟩
  · rintro ⟨h1, h2⟩; rw [h1, h2]

def eqI (xs ys : List Int) : Bool := decide (xs = ys)

set_option maxHeartbeats 1600000 in
theorem eqIntS_any (A B : Option Addr) (n c m d : Nat) (xs ys : List Int) (w : World) (hx : RInts w A n xs) (hy : RInts w B m ys) (hn : n ≤ maxLen) (hm : m ≤ maxLen) :
    Calls Try.prog 26 #[.slice A n c, .slice B m d] w fun e w' => e = .returned (.bool (eqI xs ys)) ∧ Below w.heap.size w w' := by
  unfold maxLen at hn hm
  by_cases hnm : n = m
  · subst hnm
    go_enter Try.func26, Try.ntmps26
    go_wp2
    go_loopw [5] (fun i wr => ∃ k : Nat, k ≤ n ∧ i = .int .i64 k ∧ Hid (xs.take k = ys.take k) ∧ Below w.heap.size w wr) (fun i _ => n - (intOf i).toNat)
    case atStart => exact ⟨0, Nat.zero_le _, rfl, by show _ = _; simp, Below.refl _ _⟩
    case round =>
      obtain ⟨k, hk, rfl, hasc, hbr⟩ := hrel
      by_cases hlt : k < n
      · obtain ⟨ad, x, rfl, hb, hxk, hc⟩ := (hx.below hbr (Nat.le_refl _)).at_ hlt
        obtain ⟨ad', y, rfl, hb', hyk, hc'⟩ := (hy.below hbr (Nat.le_refl _)).at_ hlt
        have hT := eq_take xs ys k (hx.1.trans hy.1.symm) x y hxk hyk
        have HT := Lib.hid hT
        have hcg := cell_regrown hc
        have hcg' := cell_regrown hc'
        clear hT hxk hyk
        cases he : (x != y)
        · have hxy : x = y := by simpa using he
          go_wp2
          refine wp_region_ext (by kernel_rfl) (by kernel_rfl) ?_
          repeat (go_big_quiet_step (fail))
          refine wpQuiet_nil ?_
          intro w1 hb1
          go_wp2
          go_roundw
          case rel => exact ⟨k + 1, by omega, by go_num, HT.out.2 ⟨hasc.out, hxy⟩, below_ext hbr hb1⟩
          case measure => simp [intOf]; omega
        · have hxy : x ≠ y := by simpa using he
          go_wp2
          refine wp_region_ext (by kernel_rfl) (by kernel_rfl) ?_
          repeat (go_big_quiet_step (fail))
          refine wpQuiet_nil ?_
          intro w1 hb1
          go_wp2
          go_ret
          exact ⟨ret_bool (by
            have : xs ≠ ys := fun hh => hxy ((HT.out.1 (by rw [hh])).2)
            simp [eqI, this]), below_ext hbr hb1⟩
      · obtain rfl : k = n := by omega
        rw [List.take_of_length_le (by rw [hx.1]; exact Nat.le_refl _), List.take_of_length_le (by rw [hy.1]; exact Nat.le_refl _)] at hasc
        go_wp2
        go_ret
        exact ⟨ret_bool (by simp [eqI, hasc.out]), hbr⟩
  · have hne : ((n : Int) != (m : Int)) = true := by simp; omega
    have : xs ≠ ys := fun hh => hnm (by rw [← hx.1, ← hy.1, hh])
    go_enter Try.func26, Try.ntmps26
    go_wp2
    go_ret
    exact ⟨ret_bool (by simp [eqI, this]), Below.refl _ _⟩


end Go.Proofs.Ytlmcejpjhdaanaa
