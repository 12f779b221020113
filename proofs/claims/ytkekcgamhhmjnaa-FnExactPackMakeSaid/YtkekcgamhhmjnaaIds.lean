/- Walks: numbers in range, lists of ids in order. -/
import Derived.Test.YtkekcgamhhmjnaaProg
import Derived.Test.YtkekcgamhhmjnaaPlain
import Derived.WalkSpells
import Derived.WalkLawsBesides
import Derived.Handy
import Derived.BigQuiet
namespace Go.Proofs.Ytkekcgamhhmjnaa
open Go.RowKit

set_option maxHeartbeats 400000 in
theorem inRange_any (n low high : Int) (w : World) :
    Calls Try.prog 40 #[.int .i64 n, .int .i64 low, .int .i64 high] w fun e w' => e = .returned (.bool (decide (low ≤ n) && decide (n ≤ high))) ∧ w = w' := by
  by_cases h : low ≤ n
  · go_enter Try.func40, Try.ntmps40
    go_wp2
    go_ret
    exact ⟨by simp [h], rfl⟩
  · have h' : decide (low ≤ n) = false := by simpa using h
    go_enter Try.func40, Try.ntmps40
    go_wp2
    go_ret
    exact ⟨by simp, rfl⟩

set_option maxHeartbeats 400000 in
theorem isId_any (n : Int) (w : World) :
    Calls Try.prog 67 #[.int .i64 n] w fun e w' => e = .returned (.bool (idB n)) ∧ w = w' := by
  go_enter Try.func67, Try.ntmps67
  go_wp2_with (go_at_call 40; refine (inRange_any _ _ _ _).mono ?_; rintro e w' ⟨rfl, rfl⟩)
  go_ret
  exact ⟨rfl, rfl⟩

set_option maxHeartbeats 800000 in
theorem idsOk_any (A : Option Addr) (n c : Nat) (xs : List Int) (w : World) (h : RInts w A n xs) (hn : n ≤ maxLen) :
    Calls Try.prog 53 #[.slice A n c] w fun e w' => e = .returned (.bool (idsOkB xs)) ∧ w = w' := by
  unfold maxLen at hn
  go_enter Try.func53, Try.ntmps53
  go_wp2
  go_loop [7] (fun i => ∃ k : Nat, k ≤ n ∧ i = .int .i64 k ∧ Hid (ascB (xs.take k) = true)) (fun i => n - (intOf i).toNat)
  case atStart => exact ⟨0, Nat.zero_le _, rfl, rfl⟩
  case round =>
    obtain ⟨k, hk, rfl, hasc⟩ := hrel
    by_cases hlt : k < n
    · obtain ⟨ad, x, rfl, hb, hx, hc⟩ := h.at_ hlt
      have hT := ascB_take xs k x hx
      have hF := ascB_false xs (k+1)
      rw [hasc.out, Bool.true_and] at hT
      have HT := Lib.hid hT
      have HF := Lib.hid hF
      clear hx hT hF
      cases hid : idB x
      · go_wp2_with (go_at_call 67; refine (isId_any _ _).mono ?_; rintro e w' ⟨rfl, rfl⟩)
        go_ret
        exact ⟨by unfold idsOkB; rw [HF.out (by rw [HT.out, hid]; rfl)]; rfl, rfl⟩
      · by_cases hk0 : k = 0
        · subst hk0
          have hc0 : w.cell? ad = some (.int .i64 x) := by simpa [Addr.add] using hc
          go_wp2_with (go_at_call 67; refine (isId_any _ _).mono ?_; rintro e w' ⟨rfl, rfl⟩)
          go_round
          case rel => exact ⟨1, by omega, by go_num, by show _ = true; rw [HT.out, hid]; rfl⟩
          case measure => simp [intOf]; omega
        · obtain ⟨ad', y, had, _, hy, hcy⟩ := h.at_ (k := k - 1) (by omega)
          obtain rfl : ad = ad' := by injection had
          have hyd : xs.getD (k-1) 0 = y := by simp [List.getD, hy]
          have HY := Lib.hid hyd
          clear hyd hy had
          by_cases hlt2 : y < x
          · go_wp2_with (go_at_call 67; refine (isId_any _ _).mono ?_; rintro e w' ⟨rfl, rfl⟩)
            go_round
            case rel => exact ⟨k + 1, by omega, by go_num, by show _ = true; rw [HT.out, hid, HY.out]; simp [hlt2]⟩
            case measure => simp [intOf]; omega
          · go_wp2_with (go_at_call 67; refine (isId_any _ _).mono ?_; rintro e w' ⟨rfl, rfl⟩)
            go_ret
            exact ⟨by unfold idsOkB; rw [HF.out (by rw [HT.out, hid, HY.out]; simp [hlt2, hk0])]; rfl, rfl⟩
    · obtain rfl : k = n := by omega
      rw [List.take_of_length_le (by rw [h.1]; exact Nat.le_refl _)] at hasc
      go_wp2
      go_ret
      exact ⟨by unfold idsOkB; rw [hasc.out, h.1]; rfl, rfl⟩

set_option maxHeartbeats 400000 in
theorem l6In_any (n low high : Int) (w : World) :
    Calls Try.prog 72 #[.int .i64 n, .int .i64 low, .int .i64 high] w fun e w' => e = .returned (.bool (decide (low ≤ n) && decide (n ≤ high))) ∧ w = w' := by
  by_cases h : low ≤ n
  · go_enter Try.func72, Try.ntmps72
    go_wp2
    go_ret
    exact ⟨by simp [h], rfl⟩
  · have h' : decide (low ≤ n) = false := by simpa using h
    go_enter Try.func72, Try.ntmps72
    go_wp2
    go_ret
    exact ⟨by simp, rfl⟩

set_option maxHeartbeats 400000 in
theorem l1Id_any (n : Int) (w : World) :
    Calls Try.prog 68 #[.int .i64 n] w fun e w' => e = .returned (.bool (idB n)) ∧ w = w' := by
  go_enter Try.func68, Try.ntmps68
  go_wp2_with (go_at_call 72; refine (l6In_any _ _ _ _).mono ?_; rintro e w' ⟨rfl, rfl⟩)
  go_ret
  exact ⟨rfl, rfl⟩

set_option maxHeartbeats 1600000 in
theorem l1Ids_any (A : Option Addr) (n c : Nat) (xs : List Int) (w : World) (h : RInts w A n xs) (hn : n ≤ maxLen) :
    Calls Try.prog 54 #[.slice A n c] w fun e w' => e = .returned (.bool (ascB xs)) ∧ Below w.heap.size w w' := by
  unfold maxLen at hn
  go_enter Try.func54, Try.ntmps54
  go_wp2
  go_loopw [3] (fun i wr => ∃ k : Nat, k ≤ n ∧ i = .int .i64 k ∧ Hid (ascB (xs.take k) = true) ∧ Below w.heap.size w wr) (fun i _ => n - (intOf i).toNat)
  case atStart => exact ⟨0, Nat.zero_le _, rfl, rfl, Below.refl _ _⟩
  case round =>
    obtain ⟨k, hk, rfl, hasc, hbr⟩ := hrel
    have hr := h.below hbr (Nat.le_refl _)
    by_cases hlt : k < n
    · obtain ⟨ad, x, rfl, hb, hx, hc⟩ := hr.at_ hlt
      have hT := ascB_take xs k x hx
      have hF := ascB_false xs (k+1)
      rw [hasc.out, Bool.true_and] at hT
      have HT := Lib.hid hT
      have HF := Lib.hid hF
      have hcg := cell_regrown hc
      clear hx hT hF
      cases hid : idB x
      · go_wp2
        refine wp_region_ext (by kernel_rfl) (by kernel_rfl) ?_
        repeat (go_big_quiet_step ((go_at_call 68; exact rg_same (l1Id_any _ _))))
        refine wpQuiet_nil ?_
        intro w1 hb1
        go_wp2
        go_ret
        exact ⟨by rw [HF.out (by rw [HT.out, hid]; rfl)]; rfl, below_ext hbr hb1⟩
      · by_cases hk0 : k = 0
        · subst hk0
          have hc0 : wr.cell? ad = some (.int .i64 x) := by simpa [Addr.add] using hc
          have hcg0 := cell_regrown hc0
          go_wp2
          refine wp_region_ext (by kernel_rfl) (by kernel_rfl) ?_
          repeat (go_big_quiet_step ((go_at_call 68; exact rg_same (l1Id_any _ _))))
          refine wpQuiet_nil ?_
          intro w1 hb1
          go_wp2
          go_roundw
          case rel => exact ⟨1, by omega, by go_num, by show _ = true; rw [HT.out, hid]; rfl, below_ext hbr hb1⟩
          case measure => simp [intOf]; omega
        · obtain ⟨ad', y, had, _, hy, hcy⟩ := hr.at_ (k := k - 1) (by omega)
          obtain rfl : ad = ad' := by injection had
          have hyd : xs.getD (k-1) 0 = y := by simp [List.getD, hy]
          have HY := Lib.hid hyd
          have hcyg := cell_regrown hcy
          have hkp : decide (0 < k) = true := by simp; omega
          clear hyd hy had
          by_cases hlt2 : y < x
          · have hxy : decide (x ≤ y) = false := by simp; omega
            go_wp2
            refine wp_region_ext (by kernel_rfl) (by kernel_rfl) ?_
            repeat (go_big_quiet_step ((go_at_call 68; exact rg_same (l1Id_any _ _))))
            refine wpQuiet_nil ?_
            intro w1 hb1
            go_wp2
            go_roundw
            case rel => exact ⟨k + 1, by omega, by go_num, by show _ = true; rw [HT.out, hid, HY.out]; simp [hlt2], below_ext hbr hb1⟩
            case measure => simp [intOf]; omega
          · have hxy : decide (x ≤ y) = true := by simp; omega
            go_wp2
            refine wp_region_ext (by kernel_rfl) (by kernel_rfl) ?_
            repeat (go_big_quiet_step ((go_at_call 68; exact rg_same (l1Id_any _ _))))
            refine wpQuiet_nil ?_
            intro w1 hb1
            go_wp2
            go_ret
            exact ⟨by rw [HF.out (by rw [HT.out, hid, HY.out]; simp [hlt2, hk0])]; rfl, below_ext hbr hb1⟩
    · obtain rfl : k = n := by omega
      rw [List.take_of_length_le (by rw [h.1]; exact Nat.le_refl _)] at hasc
      go_wp2
      go_ret
      exact ⟨by rw [hasc.out]; rfl, hbr⟩
end Go.Proofs.Ytkekcgamhhmjnaa
