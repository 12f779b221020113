/- The law FnPackDepth, walked: for every code it answers true. -/
import Derived.Test.YtkekcgamhhmjnaaPkLaw
import Derived.BigQuiet
import Derived.Deep.RegionHeld3
namespace Go.Proofs.Ytkekcgamhhmjnaa
open Go.RowKit Go.Sort

set_option maxRecDepth 100000 in
set_option maxHeartbeats 3200000 in
theorem FnPackDepth_walk (A : Option Addr) (n c : Nat) (w : World) (hgl : Gl w) (h : RBytes w w.heap.size A n ∧ n ≤ c) (hn : n ≤ maxLen) :
    Calls Try.prog 8 #[.slice A n c] w fun e w' => e = .returned (.bool true) ∧ Below w.heap.size w w' := by
  have hn0 := hn
  unfold maxLen at hn0
  by_cases hs : 1048576 < n
  · go_enter Try.func8, Try.ntmps8
    go_wp2_with fail
    go_ret
    exact ⟨rfl, Below.refl _ _⟩
  · go_enter Try.func8, Try.ntmps8
    go_wp2_with fail
    refine (DrawPackMake_any A n c w h.1 hn h.2).mono ?_
    rintro e w1 ⟨L, m, d, os, rfl, hmd, hm17, hO, hb1⟩
    have hl := hO.1
    have HL := Lib.hid hl
    have hg1 := hgl.next hb1
    have hmx : m ≤ maxLen := by simp only [maxLen]; omega
    cases hpk : packable os
    · go_wp2_with fail
      refine (implPackMake_any L m d os w1 hO hmx hg1).mono ?_
      intro e w2 hq
      obtain ⟨X, cx, rfl, hX, hb2⟩ := hq.bad hpk
      clear hq hl
      go_wp2_with fail
      refine (specPackMake_any L m d os w2 (hO.next hb2) hmx).mono ?_
      intro e w3 hq
      obtain ⟨Y, cy, rfl, hY, hb3⟩ := hq.bad hpk
      clear hq
      have HPK := Lib.hid hpk
      clear hpk
      have hX3 := hX.next hb3
      go_wp2_with fail
      refine (samePack_same X Y 0 cx 0 cy [] w3 hX3 hY (Nat.zero_le _)).mono ?_
      rintro e w4 ⟨rfl, hb4⟩
      have b4 := below_ext (below_ext (below_ext hb1 hb2) hb3) hb4
      go_wp2_with fail
      refine (samePack_same X Y 0 cx 0 cy [] w4 (hX3.next hb4) (hY.next hb4) (Nat.zero_le _)).mono ?_
      rintro e w5 ⟨rfl, hb5⟩
      go_wp2_with fail
      go_ret
      exact ⟨rfl, below_ext b4 hb5⟩
    · go_wp2_with fail
      refine (implPackMake_any L m d os w1 hO hmx hg1).mono ?_
      intro e w2 hq
      obtain ⟨X, cx, rfl, hcx, hX, hb2⟩ := hq.good hpk hl
      clear hq
      go_wp2_with fail
      refine (specPackMake_any L m d os w2 (hO.next hb2) hmx).mono ?_
      intro e w3 hq
      obtain ⟨Y, cy, rfl, hcy, hY, hb3⟩ := hq.good hpk hl
      clear hq
      have hm16 := packable_len hpk hl
      have HPK := Lib.hid hpk
      clear hpk hl
      have hX3 := hX.next hb3
      go_wp2_with fail
      refine (samePack_same X Y m cx m cy _ w3 hX3 hY hmx).mono ?_
      rintro e w4 ⟨rfl, hb4⟩
      have b4 := below_ext (below_ext (below_ext hb1 hb2) hb3) hb4
      have hX4 := hX3.next hb4
      have hO4 := ((hO.next hb2).next hb3).next hb4
      have hg4 := hgl.next b4
      clear hX hY hX3 hO hg1 hb1 hb2 hb3 hb4
      go_wp2_with fail
      go_loopw [8] (fun i wr => ∃ k : Nat, k ≤ m ∧ i = .int .i64 k ∧ Below w4.heap.size w4 wr) (fun i _ => m - (intOf i).toNat)
      case atStart => exact ⟨0, Nat.zero_le _, rfl, Below.refl _ _⟩
      case round =>
        obtain ⟨k, hk, rfl, hbr⟩ := hrel
        by_cases hlt : k < m
        · have hXr := hX4.next hbr
          obtain ⟨b', off', x, cs, rfl, hb', hx', hc, hv⟩ := hXr.at_ hlt
          obtain ⟨B1, m1, d1, B3, m3, d3, rfl, hr1, hm1, hr3, hm3⟩ := repPe_cells hv
          have hd2 := packTo_dep os m hlt
          have HOK := Lib.hid (packTo_okB os m)
          have hbd := HOK.out k x.b (by rw [List.getElem?_map, hx']; rfl)
          have HGB := Lib.hid (getD_b hx')
          have g2 : wr.cell? ⟨b', off' + k * 4 + 2, none⟩ = some (.int .i64 x.b) := hc 2 _ rfl
          obtain ⟨y, HY⟩ : ∃ y, Hid (dep ((packTo os m).map Pe.b) k = y) := ⟨_, Lib.hid rfl⟩
          rw [HY.out] at hd2
          clear hx' hc hv
          go_wp2_with fail
          refine (packDepth_any (some ⟨b', off', none⟩) m cx (k : Int) k _ wr hXr (by omega) rfl hlt HOK.out).mono ?_
          rw [HY.out]
          rintro e w5 ⟨rfl, hb5⟩
          have b5 := below_ext hbr hb5
          have g25 := (hb5.cell (p := ⟨b', off' + k * 4 + 2, none⟩) hb').trans g2
          have hX5 := hXr.next hb5
          clear g2 hXr
          have y0 : decide ((y : Int) < 0) = false := decide_eq_false (by omega)
          have y2 : decide ((y : Int) > 2) = false := decide_eq_false (by omega)
          have y3 : decide (2 < y) = false := decide_eq_false (by omega)
          have y4 : decide ((2 : Int) < (y : Int)) = false := decide_eq_false (by omega)
          by_cases h0 : x.b < 0
          · have hy : y = 0 := by rw [← HY.out]; exact dep_neg (by rw [HGB.out]; exact h0)
            subst hy
            have e0 : decide (x.b < 0) = true := decide_eq_true h0
            have e1 : decide (x.b ≥ 0) = false := decide_eq_false (by omega)
            have e2 : decide (0 ≤ x.b) = false := decide_eq_false (by omega)
            go_wp2_with fail
            go_roundw
            case rel => exact ⟨k + 1, by omega, by go_num, b5⟩
            case measure => simp [intOf]; omega
          · have e0 : decide (x.b < 0) = false := decide_eq_false h0
            have e1 : decide (x.b ≥ 0) = true := decide_eq_true (by omega)
            have e2 : decide (0 ≤ x.b) = true := decide_eq_true (by omega)
            obtain ⟨q, HQ⟩ : ∃ q : Nat, Hid (x.b = q) := ⟨x.b.toNat, Lib.hid (by omega)⟩
            have hqm : q < m := by have := HQ.out; omega
            obtain ⟨u, HU⟩ : ∃ u, Hid (dep ((packTo os m).map Pe.b) q = u) := ⟨_, Lib.hid rfl⟩
            have hyu : y = u + 1 := by
              rw [← HY.out, ← HU.out, dep_pos (bs := (packTo os m).map Pe.b) (i := k) (by rw [HGB.out]; omega) (by rw [HGB.out]; omega), HGB.out, show x.b.toNat = q by have := HQ.out; omega]
            have hw1 : IntKind.i64.wrap ((u : Int) + 1) = ((u + 1 : Nat) : Int) := by rw [IntKind.wrap_i64]; omega
            subst hyu
            have zz : (((u + 1 : Nat) : Int) != ((u + 1 : Nat) : Int)) = false := by simp
            go_wp2_with fail
            refine (packDepth_any (some ⟨b', off', none⟩) m cx x.b q _ w5 hX5 (by omega) HQ.out hqm HOK.out).mono ?_
            rw [HU.out]
            rintro e w6 ⟨rfl, hb6⟩
            go_wp2_with fail
            go_roundw
            case rel => exact ⟨k + 1, by omega, by go_num, below_ext b5 hb6⟩
            case measure => simp [intOf]; omega
        · obtain rfl : k = m := by omega
          go_wp2_with fail
          go_ret
          exact ⟨rfl, below_ext b4 hbr⟩
end Go.Proofs.Ytkekcgamhhmjnaa
