/- The law FnPackPrefix, walked: for every code it answers true. -/
import Derived.Test.YtkekcgamhhmjnaaPkLaw
import Derived.BigQuiet
import Derived.Deep.RegionHeld3
namespace Go.Proofs.Ytkekcgamhhmjnaa
open Go.RowKit Go.Sort

theorem RObjs.take {w : World} {A : Option Addr} {n k : Nat} {os : List Ob} (h : RObjs w A n os) (hk : k ≤ n) : RObjs w A k (os.take k) := by
  refine ⟨by rw [List.length_take, h.1]; omega, fun h0 => ?_⟩
  obtain ⟨b, off, e, h1, hc⟩ := h.2 (by omega)
  refine ⟨b, off, e, h1, fun i o ho => ?_⟩
  have hi : i < k := by have := (List.getElem?_eq_some_iff.1 ho).1; rw [List.length_take] at this; omega
  rw [List.getElem?_take_of_lt hi] at ho
  exact hc i o ho
theorem packable_take {os : List Ob} {k : Nat} (h : packable os = true) : packable (os.take k) = true := by
  unfold packable at h ⊢
  rw [Bool.and_eq_true, decide_eq_true_eq, List.all_eq_true] at h ⊢
  exact ⟨by rw [List.length_take]; omega, fun o ho => h.2 o (List.mem_of_mem_take ho)⟩
set_option maxRecDepth 100000 in
set_option maxHeartbeats 3200000 in
theorem FnPackPrefix_walk (A : Option Addr) (n c : Nat) (A2 : Option Addr) (n2 c2 : Nat) (w : World) (hgl : Gl w) (h : RBytes w w.heap.size A n ∧ n ≤ c) (hn : n ≤ maxLen) (_h2 : RBytes w w.heap.size A2 n2 ∧ n2 ≤ c2) (hn2 : n2 ≤ maxLen) :
    Calls Try.prog 4 #[.slice A n c, .slice A2 n2 c2] w fun e w' => e = .returned (.bool true) ∧ Below w.heap.size w w' := by
  have hn0 := hn
  unfold maxLen at hn0
  have hn20 := hn2
  unfold maxLen at hn20
  by_cases hs : 1048576 < n
  · go_enter Try.func4, Try.ntmps4
    go_wp2_with fail
    go_ret
    exact ⟨rfl, Below.refl _ _⟩
  · by_cases hs2 : 1048576 < n2
    · go_enter Try.func4, Try.ntmps4
      go_wp2_with fail
      go_ret
      exact ⟨rfl, Below.refl _ _⟩
    · go_enter Try.func4, Try.ntmps4
      go_wp2_with fail
      refine (DrawPackMake_any A n c w h.1 hn h.2).mono ?_
      rintro e w1 ⟨L, m, d, os, rfl, hmd, hm17, hO, hb1⟩
      have hl := hO.1
      have HL := Lib.hid hl
      have hg1 := hgl.next hb1
      have hmx : m ≤ maxLen := by simp only [maxLen]; omega
      cases hpk : packable os
      · go_wp2_with fail
        refine (implPackMake_any L m d os w1 hO hmx hg1).mono ?_
        intro e w2 hq
        obtain ⟨X, cx, rfl, hX, hb2⟩ := hq.bad hpk
        clear hq hl
        go_wp2_with fail
        refine (specPackMake_any L m d os w2 (hO.next hb2) hmx).mono ?_
        intro e w3 hq
        obtain ⟨Y, cy, rfl, hY, hb3⟩ := hq.bad hpk
        clear hq
        have HPK := Lib.hid hpk
        clear hpk
        have hX3 := hX.next hb3
        go_wp2_with fail
        refine (samePack_same X Y 0 cx 0 cy [] w3 hX3 hY (Nat.zero_le _)).mono ?_
        rintro e w4 ⟨rfl, hb4⟩
        have b4 := below_ext (below_ext (below_ext hb1 hb2) hb3) hb4
        go_wp2_with fail
        refine (samePack_same X Y 0 cx 0 cy [] w4 (hX3.next hb4) (hY.next hb4) (Nat.zero_le _)).mono ?_
        rintro e w5 ⟨rfl, hb5⟩
        go_wp2_with fail
        go_ret
        exact ⟨rfl, below_ext b4 hb5⟩
      · go_wp2_with fail
        refine (implPackMake_any L m d os w1 hO hmx hg1).mono ?_
        intro e w2 hq
        obtain ⟨X, cx, rfl, hcx, hX, hb2⟩ := hq.good hpk hl
        clear hq
        go_wp2_with fail
        refine (specPackMake_any L m d os w2 (hO.next hb2) hmx).mono ?_
        intro e w3 hq
        obtain ⟨Y, cy, rfl, hcy, hY, hb3⟩ := hq.good hpk hl
        clear hq
        have hm16 := packable_len hpk hl
        have HPK := Lib.hid hpk
        clear hpk hl
        have hX3 := hX.next hb3
        go_wp2_with fail
        refine (samePack_same X Y m cx m cy _ w3 hX3 hY hmx).mono ?_
        rintro e w4 ⟨rfl, hb4⟩
        have b4 := below_ext (below_ext (below_ext hb1 hb2) hb3) hb4
        have hX4 := hX3.next hb4
        have hO4 := ((hO.next hb2).next hb3).next hb4
        have hg4 := hgl.next b4
        clear hX hY hX3 hO hg1 hb1 hb2 hb3 hb4
        have hq0 : (0 : Int) ≤ ((n2 % (m + 1) : Nat) : Int) := by omega
        have hqm : n2 % (m + 1) ≤ m := by have := Nat.mod_lt n2 (show 0 < m + 1 by omega); omega
        have hw1 : IntKind.i64.wrap ((m : Int) + 1) = ((m + 1 : Nat) : Int) := by rw [IntKind.wrap_i64]; omega
        have hmod : Int.tmod (n2 : Int) ((m : Int) + 1) = ((n2 % (m + 1) : Nat) : Int) := by
          rw [show ((m : Int) + 1) = ((m + 1 : Nat) : Int) by omega, ← Int.ofNat_tmod]
        have hmod2 : (n2 : Int) % ((m : Int) + 1) = ((n2 % (m + 1) : Nat) : Int) := by
          rw [show ((m : Int) + 1) = ((m + 1 : Nat) : Int) by omega, ← Int.natCast_emod]
        generalize n2 % (m + 1) = q at *
        have hqd : (q : Int) ≤ (d : Int) := by omega
        have hqx : (q : Int) ≤ (cx : Int) := by omega
        have hqm1 : (q : Int) ≤ (m : Int) := by omega
        have hOq : RObjs w4 L q (os.take q) := hO4.take hqm
        have hpq : packable (os.take q) = true := packable_take HPK.out
        have hlq : (os.take q).length = q := by rw [List.length_take, HL.out]; omega
        go_wp2_with fail
        refine (implPackMake_any L q d (os.take q) w4 hOq (by simp only [maxLen]; omega) hg4).mono ?_
        intro e w5 hq
        obtain ⟨Z, cz, rfl, hcz, hZ, hb5⟩ := hq.good hpq hlq
        clear hq
        rw [packTo_part q (Nat.le_refl _)] at hZ
        have hX5 := (hX4.next hb5).take hqm
        rw [packTo_take m hqm] at hX5
        clear hmod hmod2 hw1
        go_wp2_with fail
        refine (samePack_same Z X q cz q cx _ w5 hZ hX5 (by simp only [maxLen]; omega)).mono ?_
        rintro e w6 ⟨rfl, hb6⟩
        go_wp2_with fail
        go_ret
        exact ⟨rfl, below_ext (below_ext b4 hb5) hb6⟩
end Go.Proofs.Ytkekcgamhhmjnaa
