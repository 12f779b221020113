/- The law FnPackFail, walked: for every code it answers true. -/
import Derived.Test.YtkekcgamhhmjnaaPkLaw
import Derived.BigQuiet
import Derived.Deep.RegionHeld3
namespace Go.Proofs.Ytkekcgamhhmjnaa
open Go.RowKit Go.Sort

set_option maxRecDepth 100000 in
set_option maxHeartbeats 3200000 in
theorem FnPackFail_walk (A : Option Addr) (n c : Nat) (w : World) (hgl : Gl w) (h : RBytes w w.heap.size A n ∧ n ≤ c) (hn : n ≤ maxLen) :
    Calls Try.prog 6 #[.slice A n c] w fun e w' => e = .returned (.bool true) ∧ Below w.heap.size w w' := by
  have hn0 := hn
  unfold maxLen at hn0
  by_cases hs : 1048576 < n
  · go_enter Try.func6, Try.ntmps6
    go_wp2_with fail
    go_ret
    exact ⟨rfl, Below.refl _ _⟩
  · go_enter Try.func6, Try.ntmps6
    go_wp2_with fail
    refine (DrawPackMake_any A n c w h.1 hn h.2).mono ?_
    rintro e w1 ⟨L, m, d, os, rfl, hmd, hm17, hO, hb1⟩
    have hl := hO.1
    have HL := Lib.hid hl
    have hg1 := hgl.next hb1
    have hmx : m ≤ maxLen := by simp only [maxLen]; omega
    cases hpk : packable os
    · go_wp2_with fail
      refine (implPackMake_any L m d os w1 hO hmx hg1).mono ?_
      intro e w2 hq
      obtain ⟨X, cx, rfl, hX, hb2⟩ := hq.bad hpk
      clear hq hl
      go_wp2_with fail
      refine (specPackMake_any L m d os w2 (hO.next hb2) hmx).mono ?_
      intro e w3 hq
      obtain ⟨Y, cy, rfl, hY, hb3⟩ := hq.bad hpk
      clear hq
      have HPK := Lib.hid hpk
      clear hpk
      have hX3 := hX.next hb3
      go_wp2_with fail
      refine (samePack_same X Y 0 cx 0 cy [] w3 hX3 hY (Nat.zero_le _)).mono ?_
      rintro e w4 ⟨rfl, hb4⟩
      have b4 := below_ext (below_ext (below_ext hb1 hb2) hb3) hb4
      have hO4 := ((hO.next hb2).next hb3).next hb4
      clear hX hY hX3 hO hg1 hb1 hb2 hb3 hb4
      go_wp2_with fail
      go_loopw [8, 9] (fun g i wr => ∃ (k : Nat) (G : Bool), k ≤ m ∧ i = .int .i64 k ∧ g = .bool G ∧ Hid (G = (decide (m ≤ 16) && (os.take k).all Ob.ok)) ∧ Below w4.heap.size w4 wr) (fun _ i _ => m - (intOf i).toNat)
      case atStart => exact ⟨0, decide (m ≤ 16), Nat.zero_le _, rfl, by first | rfl | (congr 1; exact decide_eq_decide.2 (by omega)), Lib.hid (by simp), Below.refl _ _⟩
      case round =>
        obtain ⟨k, G, hk, rfl, rfl, HG, hbr⟩ := hrel
        by_cases hlt : k < m
        · obtain ⟨b, off, o, rfl, hb, hx, hob⟩ := (hO4.next hbr).at_ hlt
          obtain ⟨B', m', d', c0, c1, c2, hri, hm', ht⟩ := hob
          have hkl : k < os.length := (List.getElem?_eq_some_iff.1 hx).1
          have HT : Hid ((os.take (k + 1)).all Ob.ok = ((os.take k).all Ob.ok && o.ok)) := Lib.hid (by
            rw [List.take_succ_eq_append_getElem hkl, List.all_append, (List.getElem?_eq_some_iff.1 hx).2]; simp)
          clear hx
          cases G
          · go_wp2_with fail
            go_roundw
            case rel => exact ⟨k + 1, false, by omega, by go_num, rfl, Lib.hid (by rw [HT.out, ← Bool.and_assoc, ← HG.out]; rfl), hbr⟩
            case measure => simp [intOf]; omega
          · cases hok : o.ok
            all_goals
              go_wp2_with fail
              refine (implValid_any o.k B' m' d' o.xs o.t wr hri hm').mono ?_
              rw [show objOkB o.k o.xs o.t = _ from hok]
              rintro e w5 ⟨rfl, hb5⟩
              go_wp2_with fail
              go_roundw
              case rel => exact ⟨k + 1, _, by omega, by go_num, rfl, Lib.hid (by rw [HT.out, ← Bool.and_assoc, ← HG.out, hok]; rfl), below_ext hbr hb5⟩
              case measure => simp [intOf]; omega
        · obtain rfl : k = m := by omega
          have hG : G = false := by
            rw [HG.out, List.take_of_length_le (by rw [HL.out]; exact Nat.le_refl _)]
            have := HPK.out
            unfold packable at this
            rw [HL.out] at this
            exact this
          subst hG
          go_wp2_with fail
          go_ret
          exact ⟨rfl, below_ext b4 hbr⟩
    · go_wp2_with fail
      refine (implPackMake_any L m d os w1 hO hmx hg1).mono ?_
      intro e w2 hq
      obtain ⟨X, cx, rfl, hcx, hX, hb2⟩ := hq.good hpk hl
      clear hq
      go_wp2_with fail
      refine (specPackMake_any L m d os w2 (hO.next hb2) hmx).mono ?_
      intro e w3 hq
      obtain ⟨Y, cy, rfl, hcy, hY, hb3⟩ := hq.good hpk hl
      clear hq
      have hm16 := packable_len hpk hl
      have HPK := Lib.hid hpk
      clear hpk hl
      have hX3 := hX.next hb3
      go_wp2_with fail
      refine (samePack_same X Y m cx m cy _ w3 hX3 hY hmx).mono ?_
      rintro e w4 ⟨rfl, hb4⟩
      have b4 := below_ext (below_ext (below_ext hb1 hb2) hb3) hb4
      have hX4 := hX3.next hb4
      have hO4 := ((hO.next hb2).next hb3).next hb4
      have hg4 := hgl.next b4
      clear hX hY hX3 hO hg1 hb1 hb2 hb3 hb4
      go_wp2_with fail
      go_loopw [8, 9] (fun g i wr => ∃ (k : Nat) (G : Bool), k ≤ m ∧ i = .int .i64 k ∧ g = .bool G ∧ Hid (G = (decide (m ≤ 16) && (os.take k).all Ob.ok)) ∧ Below w4.heap.size w4 wr) (fun _ i _ => m - (intOf i).toNat)
      case atStart => exact ⟨0, decide (m ≤ 16), Nat.zero_le _, rfl, by first | rfl | (congr 1; exact decide_eq_decide.2 (by omega)), Lib.hid (by simp), Below.refl _ _⟩
      case round =>
        obtain ⟨k, G, hk, rfl, rfl, HG, hbr⟩ := hrel
        by_cases hlt : k < m
        · obtain ⟨b, off, o, rfl, hb, hx, hob⟩ := (hO4.next hbr).at_ hlt
          obtain ⟨B', m', d', c0, c1, c2, hri, hm', ht⟩ := hob
          have hkl : k < os.length := (List.getElem?_eq_some_iff.1 hx).1
          have HT : Hid ((os.take (k + 1)).all Ob.ok = ((os.take k).all Ob.ok && o.ok)) := Lib.hid (by
            rw [List.take_succ_eq_append_getElem hkl, List.all_append, (List.getElem?_eq_some_iff.1 hx).2]; simp)
          clear hx
          cases G
          · go_wp2_with fail
            go_roundw
            case rel => exact ⟨k + 1, false, by omega, by go_num, rfl, Lib.hid (by rw [HT.out, ← Bool.and_assoc, ← HG.out]; rfl), hbr⟩
            case measure => simp [intOf]; omega
          · cases hok : o.ok
            all_goals
              go_wp2_with fail
              refine (implValid_any o.k B' m' d' o.xs o.t wr hri hm').mono ?_
              rw [show objOkB o.k o.xs o.t = _ from hok]
              rintro e w5 ⟨rfl, hb5⟩
              go_wp2_with fail
              go_roundw
              case rel => exact ⟨k + 1, _, by omega, by go_num, rfl, Lib.hid (by rw [HT.out, ← Bool.and_assoc, ← HG.out, hok]; rfl), below_ext hbr hb5⟩
              case measure => simp [intOf]; omega
        · obtain rfl : k = m := by omega
          have hG : G = true := by
            rw [HG.out, List.take_of_length_le (by rw [HL.out]; exact Nat.le_refl _)]
            have := HPK.out
            unfold packable at this
            rw [HL.out] at this
            exact this
          subst hG
          go_wp2_with fail
          go_ret
          exact ⟨rfl, below_ext b4 hbr⟩
end Go.Proofs.Ytkekcgamhhmjnaa
