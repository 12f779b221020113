/- The law FnReach, walked: for every code it answers true. -/
import Derived.Test.YteldghgdpklkfaaSGet
namespace Go.Proofs.Yteldghgdpklkfaa
open Go.RowKit Go.Sort

set_option maxRecDepth 100000 in
set_option maxHeartbeats 1600000 in
theorem FnReach_walk (A : Option Addr) (n c : Nat) (w : World) (h : RBytes w w.heap.size A n ∧ n ≤ c) (hn : n ≤ maxLen) :
    Calls Try.prog 8 #[.slice A n c] w fun e w' => e = .returned (.bool true) ∧ Below w.heap.size w w' := by
  have hn0 := hn
  unfold maxLen at hn0
  by_cases hs0 : 1048576 < n
  · go_enter Try.func8, Try.ntmps8
    go_wp2_with fail
    go_ret
    exact ⟨rfl, Below.refl _ _⟩
  go_enter Try.func8, Try.ntmps8
  go_wp2_with fail
  refine (DrawStoreReach_any A n c w h.1 hn h.2).mono ?_
  rintro e w1 ⟨v, F, nf, cf, fs, rfl, ⟨m, os, hO, hm, hok⟩, hownF, hnf, hb1⟩
  obtain ⟨LA, ld, rfl, hmd⟩ := hO.form
  have hF1 := RInts.of_own hownF
  clear hownF
  go_wp2_with fail
  refine (implStoreReach_any LA m ld os F nf cf fs w1 hO.reads (by simp only [maxLen]; omega) hF1 (by simp only [maxLen]; omega)).mono ?_
  rintro e w2 ⟨B, d, L, rfl, hL, hownL, hb2⟩
  have hO2 := hO.next hb2
  have hF2 := hF1.below hb2 (Nat.le_refl _)
  have hR2 := RInts.of_own hownL
  have bb2 := below_ext hb1 hb2
  clear hO hF1 hownL hb1 hb2
  go_wp2_with fail
  refine (specStoreReach_any LA m ld os F nf cf fs w2 hO2.reads (by simp only [maxLen]; omega) hF2 (by simp only [maxLen]; omega)).mono ?_
  rintro e w3 ⟨B3, d3, L3, rfl, hL3, hownL3, hb3⟩
  obtain rfl := hL.uniq hL3
  have hll := hL.len
  have hO3 := hO2.next hb3
  have hF3 := hF2.below hb3 (Nat.le_refl _)
  have hR3 := hR2.below hb3 (Nat.le_refl _)
  have hW3 := RInts.of_own hownL3
  have bb3 := below_ext bb2 hb3
  clear hO2 hF2 hR2 bb2 hb3 hownL3 hL3
  go_wp2_with fail
  refine (sameInts_any B B3 L.length d L.length d3 L L w3 hR3 hW3 (by simp only [maxLen]; omega) (by simp only [maxLen]; omega)).mono ?_
  rw [eqI_same]
  rintro e w4 ⟨rfl, hb4⟩
  have hO4 := (hO3.next hb4).reads
  have hF4 := hF3.below hb4 (Nat.le_refl _)
  have hR4 := hR3.below hb4 (Nat.le_refl _)
  have hW4 := hW3.below hb4 (Nat.le_refl _)
  have bb4 := below_ext bb3 hb4
  have HFL := Lib.hid hF4.1
  clear hO3 hF3 hR3 hW3 bb3 hb4
  by_cases hL0 : L.length = 0
  · have h0b : ((L.length : Int) == 0) = true := by simp [hL0]
    clear hL0
    go_wp2_with fail
    refine (sameInts_any B B3 L.length d L.length d3 L L w4 hR4 hW4 (by simp only [maxLen]; omega) (by simp only [maxLen]; omega)).mono ?_
    rw [eqI_same]
    rintro e w5 ⟨rfl, hb5⟩
    go_wp2_with fail
    go_ret
    exact ⟨rfl, below_ext bb4 hb5⟩
  have h0b : ((L.length : Int) == 0) = false := by rw [beq_eq_false_iff_ne]; omega
  obtain ⟨hs, hi, hA⟩ := hL.good (fun e => hL0 (by rw [e]; rfl))
  have HASC := Lib.hid hL.asc
  have HA := Lib.hid hA
  clear hL hA hL0
  go_wp2_with fail
  go_loopw [7] (fun i wr => ∃ k : Nat, k ≤ L.length ∧ i = .int .i64 (k : Int) ∧ Below w4.heap.size w4 wr) (fun i _ => L.length - (intOf i).toNat)
  case atStart => exact ⟨0, Nat.zero_le _, rfl, Below.refl _ _⟩
  case round =>
    obtain ⟨k, hk, rfl, hbr⟩ := hrel
    by_cases hlt : k < L.length
    · obtain ⟨ad, x, rfl, hbl, hx, hcx⟩ := (hR4.below hbr (Nat.le_refl _)).at_ hlt
      have hki : (k : Int) < (L.length : Int) := by omega
      have hxL := (HA.out.2 x).1 (List.mem_of_getElem? hx)
      have hst : isSt os x = true := hxL.2
      have HRX := Lib.hid hxL.1
      clear hxL hx
      go_wp2_with fail
      refine (sget_any LA m ld os x wr (hO4.next hbr) (by simp only [maxLen]; omega) hmd hs).mono ?_
      rintro e w5 ⟨k5, t5, B5, m5, d5, rfl, h5, hm5, hb5⟩
      have eb5 := below_box w5 (.cells #[.int .i64 k5, .slice B5 m5 d5, .string t5] 29)
      have x5 := Blk.new w5 29 [.int .i64 k5, .slice B5 m5 d5, .string t5]
      have h5n := h5.below eb5 (Nat.le_refl _)
      have bz5 := below_ext (below_ext hbr hb5) eb5
      have hw5 := below_ext hb5 eb5
      clear h5 hb5 eb5
      rw [hst]
      go_wp2_with fail
      generalize hWW : w5.alloc (.cells #[.int .i64 k5, .slice B5 m5 d5, .string t5] 29) = w6 at *
      clear hWW
      generalize w5.heap.size = g5 at *
      go_loopw [10] (fun j wr2 => ∃ q : Nat, q ≤ m5 ∧ j = .int .i64 (q : Int) ∧ Below w6.heap.size w6 wr2) (fun j _ => m5 - (intOf j).toNat)
      case atStart => exact ⟨0, Nat.zero_le _, rfl, Below.refl _ _⟩
      case round =>
        obtain ⟨q, hq, rfl, hbr2⟩ := hrel
        have bz6 := below_ext bz5 hbr2
        obtain ⟨y50, y51, y52⟩ := (x5.next hbr2).cells3
        by_cases hlt2 : q < m5
        · obtain ⟨ad2, y, rfl, hbl2, hy, hcy⟩ := (h5n.below hbr2 (Nat.le_refl _)).at_ hlt2
          have hqi : (q : Int) < (m5 : Int) := by omega
          have hRY : Rch os fs y := .step HRX.out (List.mem_of_getElem? hy)
          have HY := Lib.hid hRY
          have HYG := Lib.hid hy
          clear hy hRY
          go_wp2_with fail
          refine (sget_any LA m ld os y wr (hO4.next bz6) (by simp only [maxLen]; omega) hmd hs).mono ?_
          rintro e w7 ⟨k7, t7, B7, m7, d7, rfl, h7, hm7, hb7⟩
          have eb7 := below_box w7 (.cells #[.int .i64 k7, .slice B7 m7 d7, .string t7] 29)
          have x7 := Blk.new w7 29 [.int .i64 k7, .slice B7 m7 d7, .string t7]
          have h7n := h7.below eb7 (Nat.le_refl _)
          have bz7 := below_ext (below_ext bz6 hb7) eb7
          have hw7 := below_ext hb7 eb7
          clear h7 hb7 eb7
          obtain ⟨y60, y61, y62⟩ := ((x5.next hbr2).next hw7).cells3
          have h5w := (h5n.below hbr2 (Nat.le_refl _)).below hw7 (Nat.le_refl _)
          obtain ⟨ad3, y3, e3, hbl3, hy3, hcy3⟩ := h5w.at_ hlt2
          injection e3 with e3
          subst e3
          obtain rfl : y3 = y := by
            have h1 := HYG.out
            rw [h1] at hy3
            injection hy3 with hy3
            exact hy3.symm
          clear hy3 h5w
          cases hsy : isSt os y3
          · go_wp2_with fail
            go_roundw
            case rel => exact ⟨q + 1, by omega, by go_num, below_ext hbr2 hw7⟩
            case measure => simp [intOf]; omega
          · have hyL : hasI L y3 = true := has_mem ((HA.out.2 y3).2 ⟨HY.out, hsy⟩)
            go_wp2_with fail
            generalize hWW : w7.alloc (.cells #[.int .i64 k7, .slice B7 m7 d7, .string t7] 29) = w8 at *
            clear hWW
            refine (hasInt_any _ L.length d L y3 w8 (hR4.below bz7 (Nat.le_refl _)) (by simp only [maxLen]; omega)).mono ?_
            rw [hyL]
            rintro e w9 ⟨rfl, rfl⟩
            go_wp2_with fail
            go_roundw
            case rel => exact ⟨q + 1, by omega, by go_num, below_ext hbr2 hw7⟩
            case measure => simp [intOf]; omega
        · obtain rfl : q = m5 := by omega
          go_wp2_with fail
          go_roundw
          case rel => exact ⟨k + 1, by omega, by go_num, bz6⟩
          case measure => simp [intOf]; omega
    · obtain rfl : k = L.length := by omega
      go_wp2_with fail
      go_loopw [13] (fun i wr2 => ∃ q : Nat, q ≤ nf ∧ i = .int .i64 (q : Int) ∧ Below w4.heap.size w4 wr2) (fun i _ => nf - (intOf i).toNat)
      case atStart => exact ⟨0, Nat.zero_le _, rfl, hbr⟩
      case round =>
        obtain ⟨q, hq, rfl, hbr2⟩ := hrel
        by_cases hlt2 : q < nf
        · obtain ⟨ad2, y, rfl, hbl2, hy, hcy⟩ := (hF4.below hbr2 (Nat.le_refl _)).at_ hlt2
          have hqi : (q : Int) < (nf : Int) := by omega
          have hyf := List.mem_of_getElem? hy
          have HYG := Lib.hid hy
          clear hy
          go_wp2_with fail
          refine (sget_any LA m ld os y wr (hO4.next hbr2) (by simp only [maxLen]; omega) hmd hs).mono ?_
          rintro e w7 ⟨k7, t7, B7, m7, d7, rfl, h7, hm7, hb7⟩
          have eb7 := below_box w7 (.cells #[.int .i64 k7, .slice B7 m7 d7, .string t7] 29)
          have x7 := Blk.new w7 29 [.int .i64 k7, .slice B7 m7 d7, .string t7]
          have h7n := h7.below eb7 (Nat.le_refl _)
          have bz7 := below_ext (below_ext hbr2 hb7) eb7
          have hw7 := below_ext hb7 eb7
          clear h7 hb7 eb7
          obtain ⟨ad3, y3, e3, hbl3, hy3, hcy3⟩ := ((hF4.below hbr2 (Nat.le_refl _)).below hw7 (Nat.le_refl _)).at_ hlt2
          injection e3 with e3
          subst e3
          obtain rfl : y3 = y := by
            have h1 := HYG.out
            rw [h1] at hy3
            injection hy3 with hy3
            exact hy3.symm
          clear hy3
          have hhas : hasI L y3 = isSt os y3 := by
            cases hsy : isSt os y3
            · unfold hasI
              exact decide_eq_false (fun hm => by have := ((HA.out.2 y3).1 hm).2; rw [hsy] at this; cases this)
            · exact has_mem ((HA.out.2 y3).2 ⟨.base hyf, hsy⟩)
          have hne : (isSt os y3 != isSt os y3) = false := by cases isSt os y3 <;> rfl
          go_wp2_with fail
          generalize hWW : w7.alloc (.cells #[.int .i64 k7, .slice B7 m7 d7, .string t7] 29) = w8 at *
          clear hWW
          refine (hasInt_any _ L.length d L y3 w8 (hR4.below bz7 (Nat.le_refl _)) (by simp only [maxLen]; omega)).mono ?_
          rw [hhas]
          rintro e w9 ⟨rfl, rfl⟩
          go_wp2_with fail
          go_roundw
          case rel => exact ⟨q + 1, by omega, by go_num, bz7⟩
          case measure => simp [intOf]; omega
        · obtain rfl : q = nf := by omega
          go_wp2_with fail
          refine (ascending_any B L.length d L wr (hR4.below hbr2 (Nat.le_refl _)) (by simp only [maxLen]; omega) HASC.out).mono ?_
          rintro e w5 ⟨rfl, hb5⟩
          go_wp2_with fail
          go_ret
          exact ⟨rfl, below_ext bb4 (below_ext hbr2 hb5)⟩
end Go.Proofs.Yteldghgdpklkfaa
