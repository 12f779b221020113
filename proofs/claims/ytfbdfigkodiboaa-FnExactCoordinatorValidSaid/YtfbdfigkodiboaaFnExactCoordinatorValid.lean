/- The law FnExactCoordinatorValid, walked: for every argument it answers true. -/
import Derived.Test.YtfbdfigkodiboaaCoI
import Derived.Deep.RegionHeld3
namespace Go.Proofs.Ytfbdfigkodiboaa
open Go.RowKit Go.Sort

set_option maxRecDepth 100000 in
set_option maxHeartbeats 3200000 in
theorem FnExactCoordinatorValid_walk (cs : List Value) (q : Co) (w : World) (hv : repCo.V 0 w cs q) :
    Calls Try.prog 3 #[.agg cs.toArray] w fun e w' => e = .returned (.bool true) ∧ Below w.heap.size w w' := by
  have hV := hv
  obtain ⟨B0, m0, d0, B1, m1, d1, rfl, hr0, hm0, hr1, hm1⟩ := repCo_cells hv
  have hm00 := hm0
  have hm10 := hm1
  unfold maxLen at hm00 hm10
  have b0 := below_box w (.cells #[.slice B0 m0 d0, .slice B1 m1 d1] 25)
  have bx := Blk.new w 25 [.slice B0 m0 d0, .slice B1 m1 d1]
  obtain ⟨c00, c01⟩ := bx.cells2
  go_enter Try.func3, Try.ntmps3
  go_wp2_with fail
  refine (szCoordinator_g _ q _ _ (repCo.next hV b0) (by omega) (by omega)).mono ?_
  rintro e w1 ⟨⟨v, rfl, r, rfl, hs⟩, hb1⟩
  have b1 := below_ext b0 hb1
  have bx1 := bx.next hb1
  obtain ⟨c10, c11⟩ := bx1.cells2
  rcases hs with hs | ⟨hs0, hsl, hsm⟩
  · go_wp2_with fail
    go_ret
    exact ⟨rfl, b1⟩
  · have hs0b : decide (r < 0) = false := decide_eq_false (by omega)
    go_wp2_with fail
    refine (toCoordinator_g _ q _ (repCo.next hV b1) hsm).mono ?_
    rintro e w2 ⟨cs2, rfl, hv2, hb2⟩
    have hV2 := repCo.down hv2 (Nat.zero_le _)
    go_wp2_with fail
    refine (specCoordinatorValid_any _ q _ hV2).mono ?_
    rintro e w3 ⟨rfl, hb3⟩
    have b3 := below_ext (below_ext b1 hb2) hb3
    have bx3 := (bx1.next hb2).next hb3
    obtain ⟨c30, c31⟩ := bx3.cells2
    go_wp2_with fail
    refine (toCoordinator_g _ q _ (repCo.next hV b3) hsm).mono ?_
    rintro e w4 ⟨cs4, rfl, hv4, hb4⟩
    have hV4 := repCo.down hv4 (Nat.zero_le _)
    have hW4 := hV4
    obtain ⟨B0q, m0q, d0q, B1q, m1q, d1q, rfl, hr0q, hm0q, hr1q, hm1q⟩ := repCo_cells hW4
    clear hv4 hv2 hr0q hr1q hr0 hr1
    have be4 := below_box w4 (.cells #[.slice B0q m0q d0q, .slice B1q m1q d1q] 30)
    have ho := Blk.new w4 30 [.slice B0q m0q d0q, .slice B1q m1q d1q]
    obtain ⟨e40, e41⟩ := ho.cells2
    have b4 := below_ext (below_ext b3 hb4) be4
    go_wp2_with fail
    refine (implCoordinatorValid_any _ q _ (repCo.next hV4 be4) (by have := hsm.2; unfold smallI at this; omega) (by have := hsm.1.1; omega)).mono ?_
    rintro e w5 ⟨rfl, hb5⟩
    have b5 := below_ext b4 hb5
    have ho5 := ho.next hb5
    have bx5 := ((bx3.next hb4).next be4).next hb5
    have hV5 := repCo.next (repCo.next hV4 be4) hb5
    obtain ⟨c50, c51⟩ := bx5.cells2
    obtain ⟨d50, d51⟩ := ho5.cells2
    cases hvv : coB q
    all_goals
      go_wp2_with fail
      go_region_held3 (fun w' => w'.cell? ⟨w.heap.size, 0, none⟩ = some (.slice B0 m0 d0) ∧ w'.cell? ⟨w.heap.size, 1, none⟩ = some (.slice B1 m1 d1) ∧
          w'.cell? ⟨w4.heap.size, 0, none⟩ = some (.slice B0q m0q d0q) ∧ w'.cell? ⟨w4.heap.size, 1, none⟩ = some (.slice B1q m1q d1q))
        (first
          | exact ⟨c50, c51, d50, d51⟩
          | exact ⟨c60, c61, d60, d61⟩
          | exact ⟨c70, c71, d70, d71⟩)
        (first
          | (go_at_call 14; refine (toCoordinator_g _ q _ (repCo.next (repCo.next hV b5) (Below.refl _ _).drew) hsm).mono ?_
             rintro e w6 ⟨cs6, rfl, hv6, hb6⟩
             obtain ⟨c60, c61⟩ := (bx5.drew.next hb6).cells2
             obtain ⟨d60, d61⟩ := (ho5.drew.next hb6).cells2)
          | (go_at_call 16; refine (eqCoordinator_g _ _ q q _ (repCo.next (repCo.next hV5 (Below.refl _ _).drew) hb6) (repCo.down hv6 (Nat.zero_le _))).mono ?_
             rw [eqCo_refl q]
             rintro e w7 ⟨rfl, hb7⟩
             obtain ⟨c70, c71⟩ := ((bx5.drew.next hb6).next hb7).cells2
             obtain ⟨d70, d71⟩ := ((ho5.drew.next hb6).next hb7).cells2))
      all_goals
        go_wp2
        go_ret
        exact ⟨rfl, below_ext (below_ext b5.drew hb6) hb7⟩
end Go.Proofs.Ytfbdfigkodiboaa
