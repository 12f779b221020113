/- Walks: the laws' sameInts, sameObject, sameObjects. -/
import Derived.Test.YtjofgbbofagoiaaObjLaw
namespace Go.Proofs.Ytjofgbbofagoiaa
open Go.RowKit Go.Sort

set_option maxHeartbeats 1600000 in
theorem sameInts_any (A B : Option Addr) (n c m d : Nat) (xs ys : List Int) (w : World) (hx : RInts w A n xs) (hy : RInts w B m ys) (hn : n ≤ maxLen) (hm : m ≤ maxLen) :
    Calls Try.prog 13 #[.slice A n c, .slice B m d] w fun e w' => e = .returned (.bool (eqI xs ys)) ∧ Below w.heap.size w w' := by
  unfold maxLen at hn hm
  by_cases hnm : n = m
  · subst hnm
    go_enter Try.func13, Try.ntmps13
    go_wp2
    go_loopw [5] (fun i wr => ∃ k : Nat, k ≤ n ∧ i = .int .i64 k ∧ Hid (xs.take k = ys.take k) ∧ Below w.heap.size w wr) (fun i _ => n - (intOf i).toNat)
    case atStart => exact ⟨0, Nat.zero_le _, rfl, by show _ = _; simp, Below.refl _ _⟩
    case round =>
      obtain ⟨k, hk, rfl, hasc, hbr⟩ := hrel
      by_cases hlt : k < n
      · obtain ⟨ad, x, rfl, hb, hxk, hc⟩ := (hx.below hbr (Nat.le_refl _)).at_ hlt
        obtain ⟨ad', y, rfl, hb', hyk, hc'⟩ := (hy.below hbr (Nat.le_refl _)).at_ hlt
        have hT := eq_take xs ys k (hx.1.trans hy.1.symm) x y hxk hyk
        have HT := Lib.hid hT
        have hcg := cell_regrown hc
        have hcg' := cell_regrown hc'
        clear hT hxk hyk
        cases he : (x != y)
        · have hxy : x = y := by simpa using he
          go_wp2
          refine wp_region_ext (by kernel_rfl) (by kernel_rfl) ?_
          repeat (go_big_quiet_step (fail))
          refine wpQuiet_nil ?_
          intro w1 hb1
          go_wp2
          go_roundw
          case rel => exact ⟨k + 1, by omega, by go_num, HT.out.2 ⟨hasc.out, hxy⟩, below_ext hbr hb1⟩
          case measure => simp [intOf]; omega
        · have hxy : x ≠ y := by simpa using he
          go_wp2
          refine wp_region_ext (by kernel_rfl) (by kernel_rfl) ?_
          repeat (go_big_quiet_step (fail))
          refine wpQuiet_nil ?_
          intro w1 hb1
          go_wp2
          go_ret
          exact ⟨ret_bool (by
            have : xs ≠ ys := fun hh => hxy ((HT.out.1 (by rw [hh])).2)
            simp [eqI, this]), below_ext hbr hb1⟩
      · obtain rfl : k = n := by omega
        rw [List.take_of_length_le (by rw [hx.1]; exact Nat.le_refl _), List.take_of_length_le (by rw [hy.1]; exact Nat.le_refl _)] at hasc
        go_wp2
        go_ret
        exact ⟨ret_bool (by simp [eqI, hasc.out]), hbr⟩
  · have hne : ((n : Int) != (m : Int)) = true := by simp; omega
    have : xs ≠ ys := fun hh => hnm (by rw [← hx.1, ← hy.1, hh])
    go_enter Try.func13, Try.ntmps13
    go_wp2
    go_ret
    exact ⟨ret_bool (by simp [eqI, this]), Below.refl _ _⟩

set_option maxHeartbeats 1600000 in
theorem sameObject_any (k k' : Int) (A B : Option Addr) (n c m d : Nat) (xs ys : List Int) (t t' : ByteArray) (w : World) (hx : RInts w A n xs) (hy : RInts w B m ys) (hn : n ≤ maxLen) (hm : m ≤ maxLen) :
    Calls Try.prog 76 #[.agg #[.int .i64 k, .slice A n c, .string t], .agg #[.int .i64 k', .slice B m d, .string t']] w fun e w' => e = .returned (.bool ((k == k') && eqI xs ys && (t.toList == t'.toList))) ∧ Below w.heap.size w w' := by
  have h1 := fun (o o' : Obj) => hx.below (below_box2 w o o') (Nat.le_refl _)
  have h2 := fun (o o' : Obj) => hy.below (below_box2 w o o') (Nat.le_refl _)
  cases hk : (k == k')
  · go_enter Try.func76, Try.ntmps76
    go_wp2
    go_ret
    exact ⟨ret_bool (by simp), below_box2 _ _ _⟩
  · cases ht : (t.toList == t'.toList)
    · go_enter Try.func76, Try.ntmps76
      go_wp2
      go_ret
      exact ⟨ret_bool (by simp), below_box2 _ _ _⟩
    · go_enter Try.func76, Try.ntmps76
      go_wp2_with (go_at_call 13; refine (sameInts_any _ _ _ _ _ _ xs ys _ (h1 _ _) (h2 _ _) hn hm).mono ?_; rintro e w1 ⟨rfl, hb⟩; obtain ⟨hc, hf⟩ := bcell hb)
      go_ret
      exact ⟨ret_bool (by simp), below_ext (below_box2 _ _ _) hb⟩
set_option maxHeartbeats 1600000 in
theorem sameObjects_any (A B : Option Addr) (n c m d : Nat) (xs ys : List Ob) (w : World) (hx : RObjs w A n xs) (hy : RObjs w B m ys) (hn : n ≤ maxLen) (hm : m ≤ maxLen) :
    Calls Try.prog 36 #[.slice A n c, .slice B m d] w fun e w' => e = .returned (.bool (eqOs xs ys)) ∧ Below w.heap.size w w' := by
  unfold maxLen at hn hm
  by_cases hnm : n = m
  · subst hnm
    go_enter Try.func36, Try.ntmps36
    go_wp2
    go_loopw [5] (fun i wr => ∃ k : Nat, k ≤ n ∧ i = .int .i64 k ∧ Hid (eqOs (xs.take k) (ys.take k) = true) ∧ Below w.heap.size w wr) (fun i _ => n - (intOf i).toNat)
    case atStart => exact ⟨0, Nat.zero_le _, rfl, by show _ = _; simp [eqOs], Below.refl _ _⟩
    case round =>
      obtain ⟨k, hk, rfl, hasc, hbr⟩ := hrel
      by_cases hlt : k < n
      · obtain ⟨b, off, o, rfl, hb, hxk, hob⟩ := (hx.next hbr).at_ hlt
        obtain ⟨b', off', o', rfl, hb', hyk, hob'⟩ := (hy.next hbr).at_ hlt
        obtain ⟨B, p, q, c0, c1, c2, hri, hp, ht⟩ := hob
        obtain ⟨B', p', q', d0, d1, d2, hri', hp', ht'⟩ := hob'
        have HT := Lib.hid (eqOs_take xs ys k o o' hxk hyk)
        have HF := Lib.hid (fun hh => eqOs_of_take xs ys (k+1) hh)
        clear hxk hyk
        cases he : eqO o o'
        · unfold eqO at he
          go_wp2
          have g0 := cell_regrown c0
          have g1 := cell_regrown c1
          have g2 := cell_regrown c2
          have k0 := cell_regrown d0
          have k1 := cell_regrown d1
          have k2 := cell_regrown d2
          clear c0 c1 c2 d0 d1 d2
          refine wp_region_ext (by kernel_rfl) (by kernel_rfl) ?_
          repeat (go_big_quiet_step ((go_at_call 76; exact rg_below (sameObject_any _ _ _ _ _ _ _ _ o.xs o'.xs _ _ _ (hri.regrown _ _) (hri'.regrown _ _) hp hp'))))
          refine wpQuiet_nil ?_
          intro w1 hb1
          go_wp2
          go_ret
          exact ⟨ret_bool (by
            cases hh : eqOs xs ys
            · rfl
            · have h1 := HF.out hh
              rw [HT.out] at h1
              unfold eqO at h1
              rw [he] at h1; simp at h1), below_ext hbr hb1⟩
        · unfold eqO at he
          go_wp2
          have g0 := cell_regrown c0
          have g1 := cell_regrown c1
          have g2 := cell_regrown c2
          have k0 := cell_regrown d0
          have k1 := cell_regrown d1
          have k2 := cell_regrown d2
          clear c0 c1 c2 d0 d1 d2
          refine wp_region_ext (by kernel_rfl) (by kernel_rfl) ?_
          repeat (go_big_quiet_step ((go_at_call 76; exact rg_below (sameObject_any _ _ _ _ _ _ _ _ o.xs o'.xs _ _ _ (hri.regrown _ _) (hri'.regrown _ _) hp hp'))))
          refine wpQuiet_nil ?_
          intro w1 hb1
          go_wp2
          go_roundw
          case rel => exact ⟨k + 1, by omega, by go_num, by show _ = _; rw [HT.out, hasc.out]; exact he, below_ext hbr hb1⟩
          case measure => simp [intOf]; omega
      · obtain rfl : k = n := by omega
        rw [List.take_of_length_le (by rw [hx.1]; exact Nat.le_refl _), List.take_of_length_le (by rw [hy.1]; exact Nat.le_refl _)] at hasc
        go_wp2
        go_ret
        exact ⟨ret_bool hasc.out.symm, hbr⟩
  · have hne : ((n : Int) != (m : Int)) = true := by simp; omega
    have : eqOs xs ys = false := by
      cases hh : eqOs xs ys
      · rfl
      · exact absurd (eqOs_len _ _ hh) (by rw [hx.1, hy.1]; exact hnm)
    go_enter Try.func36, Try.ntmps36
    go_wp2
    go_ret
    exact ⟨ret_bool this.symm, Below.refl _ _⟩
end Go.Proofs.Ytjofgbbofagoiaa
