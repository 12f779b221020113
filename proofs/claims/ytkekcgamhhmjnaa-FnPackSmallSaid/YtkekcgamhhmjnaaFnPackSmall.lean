/- The law FnPackSmall, walked: for every code it answers true. -/
import Derived.Test.YtkekcgamhhmjnaaPkLaw
import Derived.BigQuiet
import Derived.Deep.RegionHeld3
namespace Go.Proofs.Ytkekcgamhhmjnaa
open Go.RowKit Go.Sort

set_option maxRecDepth 100000 in
set_option maxHeartbeats 3200000 in
theorem FnPackSmall_walk (A : Option Addr) (n c : Nat) (w : World) (hgl : Gl w) (h : RBytes w w.heap.size A n ∧ n ≤ c) (hn : n ≤ maxLen) :
    Calls Try.prog 5 #[.slice A n c] w fun e w' => e = .returned (.bool true) ∧ Below w.heap.size w w' := by
  have hn0 := hn
  unfold maxLen at hn0
  by_cases hs : 1048576 < n
  · go_enter Try.func5, Try.ntmps5
    go_wp2_with fail
    go_ret
    exact ⟨rfl, Below.refl _ _⟩
  · go_enter Try.func5, Try.ntmps5
    go_wp2_with fail
    refine (DrawPackMake_any A n c w h.1 hn h.2).mono ?_
    rintro e w1 ⟨L, m, d, os, rfl, hmd, hm17, hO, hb1⟩
    have hl := hO.1
    have HL := Lib.hid hl
    have hg1 := hgl.next hb1
    have hmx : m ≤ maxLen := by simp only [maxLen]; omega
    cases hpk : packable os
    · go_wp2_with fail
      refine (implPackMake_any L m d os w1 hO hmx hg1).mono ?_
      intro e w2 hq
      obtain ⟨X, cx, rfl, hX, hb2⟩ := hq.bad hpk
      clear hq hl
      go_wp2_with fail
      refine (specPackMake_any L m d os w2 (hO.next hb2) hmx).mono ?_
      intro e w3 hq
      obtain ⟨Y, cy, rfl, hY, hb3⟩ := hq.bad hpk
      clear hq
      have HPK := Lib.hid hpk
      clear hpk
      have hX3 := hX.next hb3
      go_wp2_with fail
      refine (samePack_same X Y 0 cx 0 cy [] w3 hX3 hY (Nat.zero_le _)).mono ?_
      rintro e w4 ⟨rfl, hb4⟩
      have b4 := below_ext (below_ext (below_ext hb1 hb2) hb3) hb4
      go_wp2_with fail
      refine (samePack_same X Y 0 cx 0 cy [] w4 (hX3.next hb4) (hY.next hb4) (Nat.zero_le _)).mono ?_
      rintro e w5 ⟨rfl, hb5⟩
      go_wp2_with fail
      go_ret
      exact ⟨rfl, below_ext b4 hb5⟩
    · go_wp2_with fail
      refine (implPackMake_any L m d os w1 hO hmx hg1).mono ?_
      intro e w2 hq
      obtain ⟨X, cx, rfl, hcx, hX, hb2⟩ := hq.good hpk hl
      clear hq
      go_wp2_with fail
      refine (specPackMake_any L m d os w2 (hO.next hb2) hmx).mono ?_
      intro e w3 hq
      obtain ⟨Y, cy, rfl, hcy, hY, hb3⟩ := hq.good hpk hl
      clear hq
      have hm16 := packable_len hpk hl
      have HPK := Lib.hid hpk
      clear hpk hl
      have hX3 := hX.next hb3
      go_wp2_with fail
      refine (samePack_same X Y m cx m cy _ w3 hX3 hY hmx).mono ?_
      rintro e w4 ⟨rfl, hb4⟩
      have b4 := below_ext (below_ext (below_ext hb1 hb2) hb3) hb4
      have hX4 := hX3.next hb4
      have hO4 := ((hO.next hb2).next hb3).next hb4
      have hg4 := hgl.next b4
      clear hX hY hX3 hO hg1 hb1 hb2 hb3 hb4
      go_wp2_with fail
      go_loopw [8] (fun i wr => ∃ k : Nat, k ≤ m ∧ i = .int .i64 k ∧ Below w4.heap.size w4 wr) (fun i _ => m - (intOf i).toNat)
      case atStart => exact ⟨0, Nat.zero_le _, rfl, Below.refl _ _⟩
      case round =>
        obtain ⟨k, hk, rfl, hbr⟩ := hrel
        by_cases hlt : k < m
        · obtain ⟨b, off, o, rfl, hb, hx, hob⟩ := (hO4.next hbr).at_ hlt
          obtain ⟨B', m', d', c0, c1, c2, hri, hm', ht⟩ := hob
          obtain ⟨b', off', x, cs, rfl, hb', hx', hc, hv⟩ := (hX4.next hbr).at_ hlt
          rw [packTo_entry hlt hx] at hx'
          injection hx' with hx'
          subst hx'
          obtain ⟨B1, m1, d1, B3, m3, d3, rfl, hr1, hm1, hr3, hm3⟩ := repPe_cells hv
          have HS := Lib.hid (bestTo_small (t := o.t) (ts := os.map Ob.t) (bs := (packTo os k).map Pe.b) k)
          have hrg := bestTo_range (t := o.t) (ts := os.map Ob.t) (bs := (packTo os k).map Pe.b) k
          have hD72 := bestTo_dsz (t := o.t) (ts := os.map Ob.t) (bs := (packTo os k).map Pe.b) k
          have g3 : wr.cell? ⟨b', off' + k * 4 + 3, none⟩ = some (.slice B3 m3 d3) := hc 3 _ rfl
          have g2 : wr.cell? ⟨b', off' + k * 4 + 2, none⟩ = some (.int .i64 (bestTo o.t (os.map Ob.t) ((packTo os k).map Pe.b) k).1) := hc 2 _ rfl
          have c3 : wr.cell? ⟨b, off + k * 3 + 2, none⟩ = some (.string o.t) := c2
          simp only at hr3
          obtain ⟨bi, HBI⟩ : ∃ bi, Hid ((bestTo o.t (os.map Ob.t) ((packTo os k).map Pe.b) k).1 = bi) := ⟨_, Lib.hid rfl⟩
          obtain ⟨D, HD⟩ : ∃ D, Hid (dsz (bestTo o.t (os.map Ob.t) ((packTo os k).map Pe.b) k).2 = D) := ⟨_, Lib.hid rfl⟩
          obtain ⟨z, HZ⟩ : ∃ z, Hid (dsz (dmake ⟨#[]⟩ o.t) = z) := ⟨_, Lib.hid rfl⟩
          have hDz : D ≤ z := by rw [← HD.out, ← HZ.out]; exact HS.out.1
          have hDz2 : 0 ≤ bi → D < z := fun h0 => by rw [← HD.out, ← HZ.out]; exact HS.out.2 (by rw [HBI.out]; exact h0)
          rw [HBI.out] at g2 hrg
          have HDZ := Lib.hid hDz2
          clear hx hc hv c0 c1 c2 hDz2
          go_wp2_with fail
          refine (implDeltaSize_any B3 m3 d3 _ wr hr3 hm3 (by omega)).mono ?_
          rw [HD.out]
          rintro e w5 ⟨rfl, hb5⟩
          have b5 := below_ext hbr hb5
          have c35 := (hb5.cell (p := ⟨b, off + k * 3 + 2, none⟩) hb).trans c3
          have g25 := (hb5.cell (p := ⟨b', off' + k * 4 + 2, none⟩) hb').trans g2
          have hbs5 := hb5.size
          clear c3 g2 g3
          go_wp2_with fail
          refine (implDeltaMake_any ⟨#[]⟩ o.t w5 (hg4.next b5)).mono ?_
          intro e w6 hq
          obtain ⟨A7, n7, c7, rfl, hn7, -, hR7, hb6⟩ := hq.reads
          clear hq
          have g26 := (hb6.cell (p := ⟨b', off' + k * 4 + 2, none⟩) (Nat.lt_of_lt_of_le hb' hbs5)).trans g25
          have hbs6 := hb6.size
          clear g25 c35
          go_wp2_with fail
          refine (implDeltaSize_any A7 n7 c7 _ w6 (hR7.down (Nat.zero_le _)) (by simp only [maxLen]; omega) (by have := dmake_dsz ⟨#[]⟩ o.t; omega)).mono ?_
          rw [HZ.out]
          rintro e w7 ⟨rfl, hb7⟩
          have g27 := (hb7.cell (p := ⟨b', off' + k * 4 + 2, none⟩) (Nat.lt_of_lt_of_le hb' (by omega))).trans g26
          have b7 := below_ext (below_ext b5 hb6) hb7
          have hgt : decide ((D : Int) > (z : Int)) = false := decide_eq_false (by omega)
          have hgt2 : decide (z < D) = false := decide_eq_false (by omega)
          have hgt3 : decide ((z : Int) < (D : Int)) = false := decide_eq_false (by omega)
          clear g26 hR7
          by_cases h0 : 0 ≤ bi
          · have hge : decide (bi ≥ 0) = true := decide_eq_true h0
            have hge2 : decide (0 ≤ bi) = true := decide_eq_true h0
            have hne : ((D : Int) == (z : Int)) = false := by rw [beq_eq_false_iff_ne]; have := HDZ.out h0; omega
            go_wp2_with fail
            go_roundw
            case rel => exact ⟨k + 1, by omega, by go_num, b7⟩
            case measure => simp [intOf]; omega
          · have hge : decide (bi ≥ 0) = false := decide_eq_false h0
            have hge2 : decide (0 ≤ bi) = false := decide_eq_false h0
            go_wp2_with fail
            go_roundw
            case rel => exact ⟨k + 1, by omega, by go_num, b7⟩
            case measure => simp [intOf]; omega
        · obtain rfl : k = m := by omega
          go_wp2_with fail
          go_ret
          exact ⟨rfl, below_ext b4 hbr⟩
end Go.Proofs.Ytkekcgamhhmjnaa
