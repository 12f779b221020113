/- The law FnPackKinds, walked: for every code it answers true. -/
import Derived.Test.YtkekcgamhhmjnaaPkLaw
import Derived.BigQuiet
import Derived.Deep.RegionHeld3
namespace Go.Proofs.Ytkekcgamhhmjnaa
open Go.RowKit Go.Sort

set_option maxRecDepth 100000 in
set_option maxHeartbeats 3200000 in
theorem FnPackKinds_walk (A : Option Addr) (n c : Nat) (w : World) (hgl : Gl w) (h : RBytes w w.heap.size A n ∧ n ≤ c) (hn : n ≤ maxLen) :
    Calls Try.prog 3 #[.slice A n c] w fun e w' => e = .returned (.bool true) ∧ Below w.heap.size w w' := by
  have hn0 := hn
  unfold maxLen at hn0
  by_cases hs : 1048576 < n
  · go_enter Try.func3, Try.ntmps3
    go_wp2_with fail
    go_ret
    exact ⟨rfl, Below.refl _ _⟩
  · go_enter Try.func3, Try.ntmps3
    go_wp2_with fail
    refine (DrawPackMake_any A n c w h.1 hn h.2).mono ?_
    rintro e w1 ⟨L, m, d, os, rfl, hmd, hm17, hO, hb1⟩
    have hl := hO.1
    have HL := Lib.hid hl
    have hg1 := hgl.next hb1
    have hmx : m ≤ maxLen := by simp only [maxLen]; omega
    cases hpk : packable os
    · go_wp2_with fail
      refine (implPackMake_any L m d os w1 hO hmx hg1).mono ?_
      intro e w2 hq
      obtain ⟨X, cx, rfl, hX, hb2⟩ := hq.bad hpk
      clear hq hl
      go_wp2_with fail
      refine (specPackMake_any L m d os w2 (hO.next hb2) hmx).mono ?_
      intro e w3 hq
      obtain ⟨Y, cy, rfl, hY, hb3⟩ := hq.bad hpk
      clear hq
      have HPK := Lib.hid hpk
      clear hpk
      have hX3 := hX.next hb3
      go_wp2_with fail
      refine (samePack_same X Y 0 cx 0 cy [] w3 hX3 hY (Nat.zero_le _)).mono ?_
      rintro e w4 ⟨rfl, hb4⟩
      have b4 := below_ext (below_ext (below_ext hb1 hb2) hb3) hb4
      go_wp2_with fail
      refine (samePack_same X Y 0 cx 0 cy [] w4 (hX3.next hb4) (hY.next hb4) (Nat.zero_le _)).mono ?_
      rintro e w5 ⟨rfl, hb5⟩
      go_wp2_with fail
      go_ret
      exact ⟨rfl, below_ext b4 hb5⟩
    · go_wp2_with fail
      refine (implPackMake_any L m d os w1 hO hmx hg1).mono ?_
      intro e w2 hq
      obtain ⟨X, cx, rfl, hcx, hX, hb2⟩ := hq.good hpk hl
      clear hq
      go_wp2_with fail
      refine (specPackMake_any L m d os w2 (hO.next hb2) hmx).mono ?_
      intro e w3 hq
      obtain ⟨Y, cy, rfl, hcy, hY, hb3⟩ := hq.good hpk hl
      clear hq
      have hm16 := packable_len hpk hl
      have HPK := Lib.hid hpk
      clear hpk hl
      have hX3 := hX.next hb3
      go_wp2_with fail
      refine (samePack_same X Y m cx m cy _ w3 hX3 hY hmx).mono ?_
      rintro e w4 ⟨rfl, hb4⟩
      have b4 := below_ext (below_ext (below_ext hb1 hb2) hb3) hb4
      have hX4 := hX3.next hb4
      have hO4 := ((hO.next hb2).next hb3).next hb4
      have hg4 := hgl.next b4
      clear hX hY hX3 hO hg1 hb1 hb2 hb3 hb4
      go_wp2_with fail
      go_loopw [8] (fun i wr => ∃ k : Nat, k ≤ m ∧ i = .int .i64 k ∧ Below w4.heap.size w4 wr) (fun i _ => m - (intOf i).toNat)
      case atStart => exact ⟨0, Nat.zero_le _, rfl, Below.refl _ _⟩
      case round =>
        obtain ⟨k, hk, rfl, hbr⟩ := hrel
        by_cases hlt : k < m
        · obtain ⟨b, off, o, rfl, hb, hx, hob⟩ := (hO4.next hbr).at_ hlt
          obtain ⟨B', m', d', c0, c1, c2, hri, hm', ht⟩ := hob
          obtain ⟨b', off', x, cs, rfl, hb', hx', hc, hv⟩ := (hX4.next hbr).at_ hlt
          rw [packTo_entry hlt hx] at hx'
          injection hx' with hx'
          subst hx'
          obtain ⟨B1, m1, d1, B3, m3, d3, rfl, hr1, hm1, hr3, hm3⟩ := repPe_cells hv
          have g0 := cell_regrown (show wr.cell? ⟨b', off' + k * 4, none⟩ = some (.int .i64 o.k) from hc 0 _ rfl)
          have g1 := cell_regrown (show wr.cell? ⟨b', off' + k * 4 + 1, none⟩ = some (.slice B1 m1 d1) from hc 1 _ rfl)
          have j0 := cell_regrown c0
          have j1 := cell_regrown c1
          have hc1 : ∀ (dd : Nat) (oo : Array Obj), Calls Try.prog 14 #[.slice B1 m1 d1, .slice B' m' d'] (grow (redrawn wr dd) oo) fun e w' => e = .returned (.bool true) ∧ Below (grow (redrawn wr dd) oo).heap.size (grow (redrawn wr dd) oo) w' := fun dd oo => by
            have := sameInts_any B1 B' m1 d1 m' d' o.xs o.xs (grow (redrawn wr dd) oo) (hr1.next (below_regrown _ _ _)).rints (hri.next (below_regrown _ _ _)) hm1 hm'
            rwa [eqI_self] at this
          have z0 : (o.k != o.k) = false := by simp
          clear hx hc hv c0 c1 c2
          go_wp2_with fail
          refine wp_region_ext (by kernel_rfl) (by kernel_rfl) ?_
          repeat (go_big_quiet_step ((go_at_call 14; with_reducible exact rg_below (hc1 _ _))))
          refine wpQuiet_nil ?_
          intro w5 hb5
          go_wp2_with fail
          go_roundw
          case rel => exact ⟨k + 1, by omega, by go_num, below_ext hbr hb5⟩
          case measure => simp [intOf]; omega
        · obtain rfl : k = m := by omega
          have zz : ((k : Int) == (k : Int)) = true := by simp
          go_wp2_with fail
          go_ret
          exact ⟨rfl, below_ext b4 hbr⟩
end Go.Proofs.Ytkekcgamhhmjnaa
