/- The law FnTakeCross, walked: for every code it answers true. -/
import Derived.Test.YtpanclbmfpgalaaDoorDrawUps
import Derived.Test.YtpanclbmfpgalaaDoorFreePlain
import Derived.Test.YtpanclbmfpgalaaDoorSame
namespace Go.Proofs.YtpanclbmfpgalaaDoor
open Go.RowKit Go.Sort

set_option maxHeartbeats 3200000 in
theorem FnTakeCross_walk (A : Option Addr) (n c : Nat) (A' : Option Addr) (n' c' : Nat) (a : Addr) (w : World) (h : RBytes w w.heap.size A n ∧ n ≤ c) (hn : n ≤ maxLen) (h' : RBytes w w.heap.size A' n' ∧ n' ≤ c') (hn' : n' ≤ maxLen)
    (hE : w.cell? ⟨0, 0, none⟩ = some (.iface 76 (.pointer (some a)))) :
    Calls Tryd.prog 4 #[.slice A n c, .slice A' n' c'] w fun e w' => e = .returned (.bool true) ∧ Below w.heap.size w w' := by
  have hn0 := hn
  have hn0' := hn'
  unfold maxLen at hn0 hn0'
  have h0b := block_lt_of_cellL hE
  by_cases hs : 1048576 < n
  · go_enter Tryd.func4, Tryd.ntmps4
    go_wp2_with fail
    go_ret
    exact ⟨rfl, Below.refl _ _⟩
  by_cases hs' : 1048576 < n'
  · go_enter Tryd.func4, Tryd.ntmps4
    go_wp2_with fail
    go_ret
    exact ⟨rfl, Below.refl _ _⟩
  go_enter Tryd.func4, Tryd.ntmps4
  go_wp2_with fail
  refine (DrawLocksTake_any A n c w h.1 hn h.2).mono ?_
  rintro e w1 ⟨B1, n1, c1, xs, t, B2, n2, c2, cs, rfl, hn1, hn2, hown1, hown2, hic, hb1⟩
  obtain ⟨us, hu⟩ := RUps.of_own hown2 hic
  have hx := RInts.of_ownL hown1
  have hE1 := (hb1.cell (p := ⟨0, 0, none⟩) h0b).trans hE
  go_wp2_with fail
  refine (implLocksTake_any B1 n1 c1 xs t B2 n2 c2 us a w1 hx (by simp only [maxLen]; omega) hu (by simp only [maxLen]; omega) hE1).mono ?_
  rintro e w2 ⟨B3, d3, rfl, hown3, hb2⟩
  have hbb2 := below_ext hb1 hb2
  go_wp2_with fail
  refine (specLocksTake_any B1 n1 c1 xs t B2 n2 c2 us w2 (hx.next hb2) (by simp only [maxLen]; omega) (hu.next hb2) (by simp only [maxLen]; omega)).mono ?_
  rintro e w3 ⟨B4, d4, rfl, hown4, hb3⟩
  have hbb3 := below_ext hbb2 hb3
  have hx3 := RInts.of_ownL (own_belowL hown3 hb3)
  have hx4 := RInts.of_ownL hown4
  have hE3 := (hbb3.cell (p := ⟨0, 0, none⟩) h0b).trans hE
  have hu3 := (hu.next hb2).next hb3
  have hl4 := takeR_len4 (xs := xs) (t := t) (us := us)
  have hcr := fun t2 vs h h2 => take_cross (xs := xs) (t := t) (t2 := t2) (us := us) (vs := vs) h h2
  generalize hP : takeR xs t us = P at *
  have HP := Lib.hid hP
  have HA := Lib.hid hcr
  clear hP hcr
  obtain ⟨ps, b⟩ := P
  simp only at hx3 hx4 hl4
  generalize hM : ps.length = mp at *
  have HM := Lib.hid hM
  clear hM hown3 hown4 hown1 hown2
  go_wp2_with fail
  refine (sameInts_any B3 B4 mp d3 mp d4 ps ps _ hx3 hx4 (by simp only [maxLen]; omega) (by simp only [maxLen]; omega)).mono ?_
  rintro e w4 ⟨rfl, hb4⟩
  rw [eqI_refl ps]
  have hx5 := hx3.next hb4
  have hx6 := hx4.next hb4
  have hbb4 := below_ext hbb3 hb4
  have hxo := ((hx.next hb2).next hb3).next hb4
  have huo := hu3.next hb4
  cases b
  · go_wp2_with fail
    refine (sameInts_any B3 B4 mp d3 mp d4 ps ps _ hx5 hx6 (by simp only [maxLen]; omega) (by simp only [maxLen]; omega)).mono ?_
    rintro e w5 ⟨rfl, hb5⟩
    rw [eqI_refl ps]
    go_wp2_with fail
    go_ret
    exact ⟨rfl, below_ext hbb4 hb5⟩
  · have h24 : RBytes w4 w4.heap.size A' n' := fun hn => by
      obtain ⟨ad, e, hlt, hc⟩ := h'.1 hn
      exact ⟨ad, e, Nat.lt_of_lt_of_le hlt hbb4.size, fun i hi => by
        obtain ⟨b, b0, b1, hb⟩ := hc i hi
        exact ⟨b, b0, b1, (hbb4.cell (p := ad.add i) (by rw [block_of_add]; exact hlt)).trans hb⟩⟩
    have hd := DrawLocksTake_any A' n' c' w4 h24 hn' h'.2
    go_wp2_with fail
    refine hd.mono ?_
    rintro e w5 ⟨B5, n5, c5, xs5, t5, B6, n6, c6, cs6, rfl, hn5, hn6, hown5, hown6, hic6, hb5⟩
    obtain ⟨vs, hv⟩ := RUps.of_own hown6 hic6
    clear hown5 hown6 hic6
    have hbb5 := below_ext hbb4 hb5
    have hE5 := (hbb5.cell (p := ⟨0, 0, none⟩) h0b).trans hE
    go_wp2_with fail
    refine (implLocksTake_any B1 n1 c1 xs t5 B6 n6 c6 vs a w5 (hxo.next hb5) (by simp only [maxLen]; omega) hv (by simp only [maxLen]; omega) hE5).mono ?_
    unfold TakeTo
    have hcr := HA.out t5 vs trivial
    generalize takeR xs t5 vs = P7 at *
    obtain ⟨p7, b7⟩ := P7
    simp only at hcr ⊢
    have HC := Lib.hid hcr
    clear hcr
    rintro e w6 ⟨B7, d7, rfl, hown7, hb6⟩
    clear hown7
    generalize p7.length = m7
    have hbb6 := below_ext hbb5 hb6
    have hE6 := (hbb6.cell (p := ⟨0, 0, none⟩) h0b).trans hE
    go_wp2_with fail
    refine (implLocksTake_any B3 mp d3 ps t5 B6 n6 c6 vs a w6 ((hx5.next hb5).next hb6) (by simp only [maxLen]; omega) (hv.next hb6) (by simp only [maxLen]; omega) hE6).mono ?_
    unfold TakeTo
    generalize takeR ps t5 vs = P8 at *
    obtain ⟨p8, b8⟩ := P8
    simp only at HC ⊢
    rintro e w7 ⟨B8, d8, rfl, hown8, hb7⟩
    clear hown8
    generalize p8.length = m8
    have hbb7 := below_ext hbb6 hb7
    cases b7
    · go_wp2_with fail
      go_ret
      exact ⟨rfl, hbb7⟩
    · have hc := HC.out rfl
      go_wp2_with fail
      refine (updatesCross_any B2 n2 c2 us B6 n6 c6 vs w7 (((huo.next hb5).next hb6).next hb7) (by simp only [maxLen]; omega) ((hv.next hb6).next hb7) (by simp only [maxLen]; omega)).mono ?_
      rintro e w8 ⟨rfl, hb8⟩
      subst hc
      go_wp2_with fail
      go_ret
      exact ⟨ret_bool (by cases updB us <;> cases updB vs <;> cases crossR us vs <;> rfl), below_ext hbb7 hb8⟩
end Go.Proofs.YtpanclbmfpgalaaDoor
