/- The law FnPackBest, walked: for every code it answers true. -/
import Derived.Test.YtkekcgamhhmjnaaPkLaw
import Derived.BigQuiet
import Derived.Deep.RegionHeld3
namespace Go.Proofs.Ytkekcgamhhmjnaa
open Go.RowKit Go.Sort

set_option maxRecDepth 100000 in
set_option maxHeartbeats 3200000 in
theorem FnPackBest_walk (A : Option Addr) (n c : Nat) (w : World) (hgl : Gl w) (h : RBytes w w.heap.size A n ∧ n ≤ c) (hn : n ≤ maxLen) :
    Calls Try.prog 7 #[.slice A n c] w fun e w' => e = .returned (.bool true) ∧ Below w.heap.size w w' := by
  have hn0 := hn
  unfold maxLen at hn0
  by_cases hs : 1048576 < n
  · go_enter Try.func7, Try.ntmps7
    go_wp2_with fail
    go_ret
    exact ⟨rfl, Below.refl _ _⟩
  · go_enter Try.func7, Try.ntmps7
    go_wp2_with fail
    refine (DrawPackMake_any A n c w h.1 hn h.2).mono ?_
    rintro e w1 ⟨L, m, d, os, rfl, hmd, hm17, hO, hb1⟩
    have hl := hO.1
    have HL := Lib.hid hl
    have hg1 := hgl.next hb1
    have hmx : m ≤ maxLen := by simp only [maxLen]; omega
    cases hpk : packable os
    · go_wp2_with fail
      refine (implPackMake_any L m d os w1 hO hmx hg1).mono ?_
      intro e w2 hq
      obtain ⟨X, cx, rfl, hX, hb2⟩ := hq.bad hpk
      clear hq hl
      go_wp2_with fail
      refine (specPackMake_any L m d os w2 (hO.next hb2) hmx).mono ?_
      intro e w3 hq
      obtain ⟨Y, cy, rfl, hY, hb3⟩ := hq.bad hpk
      clear hq
      have HPK := Lib.hid hpk
      clear hpk
      have hX3 := hX.next hb3
      go_wp2_with fail
      refine (samePack_same X Y 0 cx 0 cy [] w3 hX3 hY (Nat.zero_le _)).mono ?_
      rintro e w4 ⟨rfl, hb4⟩
      have b4 := below_ext (below_ext (below_ext hb1 hb2) hb3) hb4
      go_wp2_with fail
      refine (samePack_same X Y 0 cx 0 cy [] w4 (hX3.next hb4) (hY.next hb4) (Nat.zero_le _)).mono ?_
      rintro e w5 ⟨rfl, hb5⟩
      go_wp2_with fail
      go_ret
      exact ⟨rfl, below_ext b4 hb5⟩
    · go_wp2_with fail
      refine (implPackMake_any L m d os w1 hO hmx hg1).mono ?_
      intro e w2 hq
      obtain ⟨X, cx, rfl, hcx, hX, hb2⟩ := hq.good hpk hl
      clear hq
      go_wp2_with fail
      refine (specPackMake_any L m d os w2 (hO.next hb2) hmx).mono ?_
      intro e w3 hq
      obtain ⟨Y, cy, rfl, hcy, hY, hb3⟩ := hq.good hpk hl
      clear hq
      have hm16 := packable_len hpk hl
      have HPK := Lib.hid hpk
      clear hpk hl
      have hX3 := hX.next hb3
      go_wp2_with fail
      refine (samePack_same X Y m cx m cy _ w3 hX3 hY hmx).mono ?_
      rintro e w4 ⟨rfl, hb4⟩
      have b4 := below_ext (below_ext (below_ext hb1 hb2) hb3) hb4
      have hX4 := hX3.next hb4
      have hO4 := ((hO.next hb2).next hb3).next hb4
      have hg4 := hgl.next b4
      clear hX hY hX3 hO hg1 hb1 hb2 hb3 hb4
      go_wp2_with fail
      go_loopw [8] (fun i wr => ∃ k : Nat, k ≤ m ∧ i = .int .i64 k ∧ Below w4.heap.size w4 wr) (fun i _ => m - (intOf i).toNat)
      case atStart => exact ⟨0, Nat.zero_le _, rfl, Below.refl _ _⟩
      case round =>
        obtain ⟨k, hk, rfl, hbr0⟩ := hrel
        by_cases hlt : k < m
        · go_wp2_with fail
          obtain ⟨wo, hwo⟩ : ∃ wo, wo = wr := ⟨_, rfl⟩
          subst hwo
          go_loopw [9] (fun i wr => ∃ j : Nat, j ≤ k ∧ i = .int .i64 j ∧ Below w4.heap.size w4 wr) (fun i _ => k - (intOf i).toNat)
          case atStart => exact ⟨0, Nat.zero_le _, rfl, hbr0⟩
          case round =>
            obtain ⟨j, hj, rfl, hbr⟩ := hrel
            by_cases hjk : j < k
            · have hXr := hX4.next hbr
              obtain ⟨b, off, o, rfl, hb, hx, hob⟩ := (hO4.next hbr).at_ hlt
              obtain ⟨B', m', d', c0, c1, c2, hri, hm', ht⟩ := hob
              obtain ⟨b', off', x, cs, rfl, hb', hx', hc, hv⟩ := (hX4.next hbr).at_ hlt
              rw [packTo_entry hlt hx] at hx'
              injection hx' with hx'
              subst hx'
              obtain ⟨B1, m1, d1, B3, m3, d3, rfl, hr1, hm1, hr3, hm3⟩ := repPe_cells hv
              obtain ⟨b2, off2, o2, e9, hb2, hx2, hob2⟩ := (hO4.next hbr).at_ (k := j) (by omega)
              injection e9 with e9
              injection e9 with e91 e92
              subst e91 e92
              obtain ⟨_, _, _, _, _, p2, _, _, _⟩ := hob2
              have HBB := Lib.hid (bestTo_best (t := o.t) (ts := os.map Ob.t) (bs := (packTo os k).map Pe.b) k j hjk)
              have HTJ := Lib.hid (show (os.map Ob.t).getD j ⟨#[]⟩ = o2.t by rw [List.getD_eq_getElem?_getD, List.getElem?_map, hx2]; rfl)
              have hD72 := bestTo_dsz (t := o.t) (ts := os.map Ob.t) (bs := (packTo os k).map Pe.b) k
              have HDE := Lib.hid (packTo_depEq (os := os) (m := m) (Nat.le_of_lt hlt) hjk)
              have HOK := Lib.hid (packTo_okB os m)
              have g3 : wr.cell? ⟨b', off' + k * 4 + 3, none⟩ = some (.slice B3 m3 d3) := hc 3 _ rfl
              have c3 : wr.cell? ⟨b, off + k * 3 + 2, none⟩ = some (.string o.t) := c2
              have p3 : wr.cell? ⟨b, off + j * 3 + 2, none⟩ = some (.string o2.t) := p2
              simp only at hr3
              have hgr := hg4.next hbr
              obtain ⟨y, HY⟩ : ∃ y, Hid (dep ((packTo os m).map Pe.b) j = y) := ⟨_, Lib.hid rfl⟩
              obtain ⟨D, HD⟩ : ∃ D, Hid (dsz (bestTo o.t (os.map Ob.t) ((packTo os k).map Pe.b) k).2 = D) := ⟨_, Lib.hid rfl⟩
              obtain ⟨z, HZ⟩ : ∃ z, Hid (dsz (dmake o2.t o.t) = z) := ⟨_, Lib.hid rfl⟩
              have hcp : ∀ W, Below wr.heap.size wr W → Calls Try.prog 18 #[.slice (some ⟨b', off', none⟩) m cx, .int .i64 (j : Int)] W fun e w' => e = .returned (.int .i64 (y : Nat)) ∧ Below W.heap.size W w' := fun W hW => by
                have := packDepth_any (some ⟨b', off', none⟩) m cx (j : Int) j _ W (hXr.next hW) (by omega) rfl (by omega) HOK.out
                rwa [HY.out] at this
              have hce : ∀ W, Below wr.heap.size wr W → Calls Try.prog 15 #[.slice B3 m3 d3] W fun e w' => e = .returned (.int .i64 (D : Nat)) ∧ Below W.heap.size W w' := fun W hW => by
                have := implDeltaSize_any B3 m3 d3 _ W (hr3.next hW) hm3 (by omega)
                rwa [HD.out] at this
              have HCP := Lib.hid hcp
              have HCE := Lib.hid hce
              have HK2 := Lib.hid (fun (w' : World) (hb9 : Below wr.heap.size wr w') => (⟨⟨(hb9.cell (p := ⟨b', off' + k * 4 + 3, none⟩) hb').trans g3, (hb9.cell (p := ⟨b, off + k * 3 + 2, none⟩) hb).trans c3, (hb9.cell (p := ⟨b, off + j * 3 + 2, none⟩) hb).trans p3⟩, hb9⟩ : (w'.cell? ⟨b', off' + k * 4 + 3, none⟩ = some (.slice B3 m3 d3) ∧ w'.cell? ⟨b, off + k * 3 + 2, none⟩ = some (.string o.t) ∧ w'.cell? ⟨b, off + j * 3 + 2, none⟩ = some (.string o2.t)) ∧ Below wr.heap.size wr w'))
              have hji : (j : Int) < (m : Int) := by omega
              have hki : (k : Int) < (m : Int) := by omega
              clear hx hc hv c0 c1 c2 hx2 p2 hXr hcp hce g3 c3 p3
              by_cases hy : y < 2
              · have hy1 : decide ((y : Int) < 2) = true := decide_eq_true (by omega)
                have hy2 : decide (y < 2) = true := decide_eq_true hy
                have hzD : ¬ z < D := by
                  have := HBB.out (by rw [← HDE.out, HY.out]; exact hy)
                  rw [HTJ.out, HZ.out, HD.out] at this
                  exact this
                have hz1 : decide ((z : Int) < (D : Int)) = false := decide_eq_false (by omega)
                have hz2 : decide (z < D) = false := decide_eq_false hzD
                go_wp2_with fail
                go_region_held3 (fun w' => (w'.cell? ⟨b', off' + k * 4 + 3, none⟩ = some (.slice B3 m3 d3) ∧ w'.cell? ⟨b, off + k * 3 + 2, none⟩ = some (.string o.t) ∧ w'.cell? ⟨b, off + j * 3 + 2, none⟩ = some (.string o2.t)) ∧ Below wr.heap.size wr w')
                  (first
                    | exact HK2.out _ (Below.refl _ _).drew
                    | exact HK2.out _ (below_ext (And.right (by assumption)) hb5)
                    | exact HK2.out _ (below_ext (And.right (by assumption)) hb6)
                    | exact HK2.out _ (below_ext (And.right (by assumption)) hb7)
                    | exact HK2.out _ (below_ext (And.right (by assumption)) hb8)
                    | exact And.intro (And.left (by assumption)) (And.right (by assumption)))
                  (first
                    | (go_at_call 18; refine (HCP.out _ (And.right (by assumption))).mono ?_
                       rintro e w5 ⟨rfl, hb5⟩)
                    | (go_at_call 16; refine (implDeltaMake_any o2.t o.t _ (hgr.next (And.right (by assumption)))).mono ?_
                       intro e w6 hq
                       obtain ⟨A7, n7, c7, rfl, hn7, -, hR7, hb6⟩ := hq.reads
                       clear hq
                       have hC7 : ∀ W, Below w6.heap.size w6 W → Calls Try.prog 15 #[.slice A7 n7 c7] W fun e w' => e = .returned (.int .i64 (z : Nat)) ∧ Below W.heap.size W w' := fun W hW => by
                         have := implDeltaSize_any A7 n7 c7 _ W ((hR7.down (Nat.zero_le _)).next hW) (by simp only [maxLen]; omega) (by have := dmake_dsz o2.t o.t; omega)
                         rwa [HZ.out] at this
                       have HC7 := Lib.hid hC7
                       clear hC7 hR7)
                    | (go_at_call 15; with_reducible refine (HC7.out _ (Below.refl _ _)).mono ?_
                       rintro e w7 ⟨rfl, hb7⟩)
                    | (go_at_call 15; refine (HCE.out _ (And.right (by assumption))).mono ?_
                       rintro e w8 ⟨rfl, hb8⟩)
                    | fail)
                all_goals
                  have b8 : Below wr.heap.size wr _ := And.right (by assumption)
                  go_wp2_with fail
                  go_roundw
                  case rel => exact ⟨j + 1, by omega, by go_num, below_ext hbr b8⟩
                  case measure => simp [intOf]; omega
              · have hy1 : decide ((y : Int) < 2) = false := decide_eq_false (by omega)
                have hy2 : decide (y < 2) = false := decide_eq_false hy
                go_wp2_with fail
                refine wp_region_ext (by kernel_rfl) (by kernel_rfl) ?_
                repeat (go_big_quiet_step ((go_at_call 18; exact rg_below (HCP.out _ (below_regrown _ _ _)))))
                refine wpQuiet_nil ?_
                intro w5 hb5
                go_wp2_with fail
                go_roundw
                case rel => exact ⟨j + 1, by omega, by go_num, below_ext hbr hb5⟩
                case measure => simp [intOf]; omega
            · obtain rfl : j = k := by omega
              go_wp2_with fail
              go_roundw
              case rel => exact ⟨j + 1, by omega, by go_num, hbr⟩
              case measure => simp [intOf]; omega
        · obtain rfl : k = m := by omega
          go_wp2_with fail
          go_ret
          exact ⟨rfl, below_ext b4 hbr0⟩
end Go.Proofs.Ytkekcgamhhmjnaa
