/- The law FnTakeFree, walked: for every code it answers true. -/
import Derived.Test.YtpanclbmfpgalaaDoorDrawUps
import Derived.Test.YtpanclbmfpgalaaDoorFreePlain
import Derived.Test.YtpanclbmfpgalaaDoorSame
namespace Go.Proofs.YtpanclbmfpgalaaDoor
open Go.RowKit Go.Sort

set_option maxHeartbeats 3200000 in
theorem FnTakeFree_walk (A : Option Addr) (n c : Nat) (a : Addr) (w : World) (h : RBytes w w.heap.size A n ∧ n ≤ c) (hn : n ≤ maxLen) 
    (hE : w.cell? ⟨0, 0, none⟩ = some (.iface 76 (.pointer (some a)))) :
    Calls Tryd.prog 5 #[.slice A n c] w fun e w' => e = .returned (.bool true) ∧ Below w.heap.size w w' := by
  have hn0 := hn
  unfold maxLen at hn0
  have h0b := block_lt_of_cellL hE
  by_cases hs : 1048576 < n
  · go_enter Tryd.func5, Tryd.ntmps5
    go_wp2_with fail
    go_ret
    exact ⟨rfl, Below.refl _ _⟩
  go_enter Tryd.func5, Tryd.ntmps5
  go_wp2_with fail
  refine (DrawLocksTake_any A n c w h.1 hn h.2).mono ?_
  rintro e w1 ⟨B1, n1, c1, xs, t, B2, n2, c2, cs, rfl, hn1, hn2, hown1, hown2, hic, hb1⟩
  obtain ⟨us, hu⟩ := RUps.of_own hown2 hic
  have hx := RInts.of_ownL hown1
  have hE1 := (hb1.cell (p := ⟨0, 0, none⟩) h0b).trans hE
  go_wp2_with fail
  refine (implLocksTake_any B1 n1 c1 xs t B2 n2 c2 us a w1 hx (by simp only [maxLen]; omega) hu (by simp only [maxLen]; omega) hE1).mono ?_
  rintro e w2 ⟨B3, d3, rfl, hown3, hb2⟩
  have hbb2 := below_ext hb1 hb2
  go_wp2_with fail
  refine (specLocksTake_any B1 n1 c1 xs t B2 n2 c2 us w2 (hx.next hb2) (by simp only [maxLen]; omega) (hu.next hb2) (by simp only [maxLen]; omega)).mono ?_
  rintro e w3 ⟨B4, d4, rfl, hown4, hb3⟩
  have hbb3 := below_ext hbb2 hb3
  have hx3 := RInts.of_ownL (own_belowL hown3 hb3)
  have hx4 := RInts.of_ownL hown4
  have hE3 := (hbb3.cell (p := ⟨0, 0, none⟩) h0b).trans hE
  have hu3 := (hu.next hb2).next hb3
  have hl4 := takeR_len4 (xs := xs) (t := t) (us := us)
  have hmore := fun h => take_more (xs := xs) (t := t) (us := us) h
  have hfree := fun h => take_free (xs := xs) (t := t) (us := us) h
  have hl2 := hu.1
  have hlx := hx.1
  generalize hP : takeR xs t us = P at *
  have HP := Lib.hid hP
  have HA := Lib.hid hmore
  have HF := Lib.hid hfree
  clear hP hmore hfree
  obtain ⟨ps, b⟩ := P
  simp only at hx3 hx4 hl4
  generalize hM : ps.length = mp at *
  have HM := Lib.hid hM
  clear hM hown3 hown4 hown1 hown2
  go_wp2_with fail
  refine (sameInts_any B3 B4 mp d3 mp d4 ps ps _ hx3 hx4 (by simp only [maxLen]; omega) (by simp only [maxLen]; omega)).mono ?_
  rintro e w4 ⟨rfl, hb4⟩
  rw [eqI_refl ps]
  have hx5 := hx3.next hb4
  have hx6 := hx4.next hb4
  have hbb4 := below_ext hbb3 hb4
  have hxo := ((hx.next hb2).next hb3).next hb4
  cases b
  · go_wp2_with fail
    refine (sameInts_any B3 B4 mp d3 mp d4 ps ps _ hx5 hx6 (by simp only [maxLen]; omega) (by simp only [maxLen]; omega)).mono ?_
    rintro e w5 ⟨rfl, hb5⟩
    rw [eqI_refl ps]
    go_wp2_with fail
    go_ret
    exact ⟨rfl, below_ext hbb4 hb5⟩
  · go_wp2_with fail
    refine (implLocksOf_any B1 n1 c1 xs t w4 hxo (by simp only [maxLen]; omega)).mono ?_
    rintro e w5 ⟨⟨B5, d5, rfl⟩, hb5⟩
    have hbb5 := below_ext hbb4 hb5
    have hx7 := hx5.next hb5
    by_cases hq : 0 < ofN xs t
    · have hmo := HA.out trivial hq
      have hqi : (0 : Int) < (ofN xs t : Int) := by omega
      generalize ofN xs t = q at *
      go_wp2_with fail
      refine (implLocksOf_any B3 mp d3 ps t w5 hx7 (by simp only [maxLen]; omega)).mono ?_
      rintro e w6 ⟨⟨B6, d6, rfl⟩, hb6⟩
      have hmi : (n2 : Int) < (ofN ps t : Int) := by omega
      have hmb : decide ((n2 : Int) < (ofN ps t : Int)) = true := decide_eq_true hmi
      generalize ofN ps t = q2 at *
      go_wp2_with fail
      go_ret
      exact ⟨ret_bool (by first | exact hmb | simp), below_ext hbb5 hb6⟩
    · have hq0 : ofN xs t = 0 := by omega
      have hfr := HF.out trivial hq0
      rw [hq0]
      go_wp2_with fail
      refine (implLocksFree_any B3 mp d3 ps t w5 hx7 (by simp only [maxLen]; omega)).mono ?_
      unfold FreeTo
      rw [hfr]
      rintro e w6 ⟨B6, d6, rfl, hown6, hb6⟩
      have hx8 := RInts.of_ownL hown6
      simp only [hlx] at hx8
      simp only [hlx]
      go_wp2_with fail
      refine (sameInts_any B6 B1 n1 d6 n1 c1 xs xs _ hx8 ((hxo.next hb5).next hb6) (by simp only [maxLen]; omega) (by simp only [maxLen]; omega)).mono ?_
      rintro e w7 ⟨rfl, hb7⟩
      rw [eqI_refl xs]
      go_wp2_with fail
      go_ret
      exact ⟨rfl, below_ext (below_ext hbb5 hb6) hb7⟩
end Go.Proofs.YtpanclbmfpgalaaDoor
