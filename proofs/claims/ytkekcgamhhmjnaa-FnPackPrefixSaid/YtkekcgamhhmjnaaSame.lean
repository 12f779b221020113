/- Walks: the laws' sameInts, sameObject, sameObjects. -/
import Derived.Test.YtkekcgamhhmjnaaLaw
namespace Go.Proofs.Ytkekcgamhhmjnaa
open Go.RowKit Go.Sort

set_option maxHeartbeats 1600000 in
theorem sameInts_any (A B : Option Addr) (n c m d : Nat) (xs ys : List Int) (w : World) (hx : RInts w A n xs) (hy : RInts w B m ys) (hn : n ≤ maxLen) (hm : m ≤ maxLen) :
    Calls Try.prog 14 #[.slice A n c, .slice B m d] w fun e w' => e = .returned (.bool (eqI xs ys)) ∧ Below w.heap.size w w' := by
  unfold maxLen at hn hm
  by_cases hnm : n = m
  · subst hnm
    go_enter Try.func14, Try.ntmps14
    go_wp2
    go_loopw [5] (fun i wr => ∃ k : Nat, k ≤ n ∧ i = .int .i64 k ∧ Hid (xs.take k = ys.take k) ∧ Below w.heap.size w wr) (fun i _ => n - (intOf i).toNat)
    case atStart => exact ⟨0, Nat.zero_le _, rfl, by show _ = _; simp, Below.refl _ _⟩
    case round =>
      obtain ⟨k, hk, rfl, hasc, hbr⟩ := hrel
      by_cases hlt : k < n
      · obtain ⟨ad, x, rfl, hb, hxk, hc⟩ := (hx.below hbr (Nat.le_refl _)).at_ hlt
        obtain ⟨ad', y, rfl, hb', hyk, hc'⟩ := (hy.below hbr (Nat.le_refl _)).at_ hlt
        have hT := eq_take xs ys k (hx.1.trans hy.1.symm) x y hxk hyk
        have HT := Lib.hid hT
        have hcg := cell_regrown hc
        have hcg' := cell_regrown hc'
        clear hT hxk hyk
        cases he : (x != y)
        · have hxy : x = y := by simpa using he
          go_wp2
          refine wp_region_ext (by kernel_rfl) (by kernel_rfl) ?_
          repeat (go_big_quiet_step (fail))
          refine wpQuiet_nil ?_
          intro w1 hb1
          go_wp2
          go_roundw
          case rel => exact ⟨k + 1, by omega, by go_num, HT.out.2 ⟨hasc.out, hxy⟩, below_ext hbr hb1⟩
          case measure => simp [intOf]; omega
        · have hxy : x ≠ y := by simpa using he
          go_wp2
          refine wp_region_ext (by kernel_rfl) (by kernel_rfl) ?_
          repeat (go_big_quiet_step (fail))
          refine wpQuiet_nil ?_
          intro w1 hb1
          go_wp2
          go_ret
          exact ⟨ret_bool (by
            have : xs ≠ ys := fun hh => hxy ((HT.out.1 (by rw [hh])).2)
            simp [eqI, this]), below_ext hbr hb1⟩
      · obtain rfl : k = n := by omega
        rw [List.take_of_length_le (by rw [hx.1]; exact Nat.le_refl _), List.take_of_length_le (by rw [hy.1]; exact Nat.le_refl _)] at hasc
        go_wp2
        go_ret
        exact ⟨ret_bool (by simp [eqI, hasc.out]), hbr⟩
  · have hne : ((n : Int) != (m : Int)) = true := by simp; omega
    have : xs ≠ ys := fun hh => hnm (by rw [← hx.1, ← hy.1, hh])
    go_enter Try.func14, Try.ntmps14
    go_wp2
    go_ret
    exact ⟨ret_bool (by simp [eqI, this]), Below.refl _ _⟩

end Go.Proofs.Ytkekcgamhhmjnaa
