/- The law FnMissingNone, walked: for every code it answers true. -/
import Derived.Test.YteldghgdpklkfaaSGet
namespace Go.Proofs.Yteldghgdpklkfaa
open Go.RowKit Go.Sort

set_option maxRecDepth 100000 in
set_option maxHeartbeats 1600000 in
theorem FnMissingNone_walk (A : Option Addr) (n c : Nat) (w : World) (h : RBytes w w.heap.size A n ∧ n ≤ c) (hn : n ≤ maxLen) :
    Calls Try.prog 9 #[.slice A n c] w fun e w' => e = .returned (.bool true) ∧ Below w.heap.size w w' := by
  have hn0 := hn
  unfold maxLen at hn0
  by_cases hs0 : 1048576 < n
  · go_enter Try.func9, Try.ntmps9
    go_wp2_with fail
    go_ret
    exact ⟨rfl, Below.refl _ _⟩
  go_enter Try.func9, Try.ntmps9
  go_wp2_with fail
  refine (DrawStoreMissing_any A n c w h.1 hn h.2).mono ?_
  rintro e w1 ⟨v, F, nf, cf, fs, rfl, ⟨m, os, hO, hm, hok⟩, hownF, hnf, hb1⟩
  obtain ⟨LA, ld, rfl, hmd⟩ := hO.form
  have hF1 := RInts.of_own hownF
  clear hownF
  go_wp2_with fail
  refine (implStoreMissing_any LA m ld os F nf cf fs w1 hO.reads (by simp only [maxLen]; omega) hF1 (by simp only [maxLen]; omega)).mono ?_
  rintro e w2 ⟨B, d, L, rfl, hL, hownL, hb2⟩
  have hO2 := hO.next hb2
  have hF2 := hF1.below hb2 (Nat.le_refl _)
  have hR2 := RInts.of_own hownL
  have bb2 := below_ext hb1 hb2
  clear hO hF1 hownL hb1 hb2
  go_wp2_with fail
  refine (specStoreMissing_any LA m ld os F nf cf fs w2 hO2.reads (by simp only [maxLen]; omega) hF2 (by simp only [maxLen]; omega)).mono ?_
  rintro e w3 ⟨B3, d3, L3, rfl, hL3, hownL3, hb3⟩
  obtain rfl := hL.uniq hL3
  have hll := hL.len
  have hO3 := hO2.next hb3
  have hF3 := hF2.below hb3 (Nat.le_refl _)
  have hR3 := hR2.below hb3 (Nat.le_refl _)
  have hW3 := RInts.of_own hownL3
  have bb3 := below_ext bb2 hb3
  clear hO2 hF2 hR2 bb2 hb3 hownL3 hL3
  go_wp2_with fail
  refine (sameInts_any B B3 L.length d L.length d3 L L w3 hR3 hW3 (by simp only [maxLen]; omega) (by simp only [maxLen]; omega)).mono ?_
  rw [eqI_same]
  rintro e w4 ⟨rfl, hb4⟩
  have hO4 := (hO3.next hb4).reads
  have hF4 := hF3.below hb4 (Nat.le_refl _)
  have hR4 := hR3.below hb4 (Nat.le_refl _)
  have hW4 := hW3.below hb4 (Nat.le_refl _)
  have bb4 := below_ext bb3 hb4
  have HFL := Lib.hid hF4.1
  clear hO3 hF3 hR3 hW3 bb3 hb4
  by_cases hL0 : 0 < L.length
  · have h0b : decide ((L.length : Int) > 0) = true := decide_eq_true (by omega)
    have h0c : decide (0 < L.length) = true := decide_eq_true hL0
    clear hL0
    go_wp2_with fail
    refine (sameInts_any B B3 L.length d L.length d3 L L w4 hR4 hW4 (by simp only [maxLen]; omega) (by simp only [maxLen]; omega)).mono ?_
    rw [eqI_same]
    rintro e w5 ⟨rfl, hb5⟩
    go_wp2_with fail
    go_ret
    exact ⟨rfl, below_ext bb4 hb5⟩
  have h0b : decide ((L.length : Int) > 0) = false := decide_eq_false (by omega)
  have h0c : decide (0 < L.length) = false := decide_eq_false hL0
  have hnil : L = [] := List.eq_nil_of_length_eq_zero (by omega)
  have HNIL := Lib.hid hnil
  have HLL := Lib.hid hL
  clear hL0 hnil hL
  go_wp2_with fail
  refine (implStoreReach_any LA m ld os F nf cf fs w4 hO4 (by simp only [maxLen]; omega) hF4 (by simp only [maxLen]; omega)).mono ?_
  rintro e w5 ⟨C, dR, R, rfl, hRc, hownR, hb5⟩
  have hRR := RInts.of_own hownR
  have hrl := hRc.len
  have bb5 := below_ext bb4 hb5
  clear hownR
  go_wp2_with fail
  go_loopw [8] (fun i wr => ∃ k : Nat, k ≤ R.length ∧ i = .int .i64 (k : Int) ∧ Below w5.heap.size w5 wr) (fun i _ => R.length - (intOf i).toNat)
  case atStart => exact ⟨0, Nat.zero_le _, rfl, Below.refl _ _⟩
  case round =>
    obtain ⟨k, hk, rfl, hbr⟩ := hrel
    by_cases hlt : k < R.length
    · obtain ⟨ad, x, rfl, hbl, hx, hcx⟩ := (hRR.below hbr (Nat.le_refl _)).at_ hlt
      obtain ⟨hs, hi, hA⟩ := hRc.good (fun e => by rw [e] at hlt; exact absurd hlt (by simp))
      have HA := Lib.hid hA
      have hxR := (hA.2 x).1 (List.mem_of_getElem? hx)
      have HRX := Lib.hid hxR.1
      have hki : (k : Int) < (R.length : Int) := by omega
      clear hA hxR hx
      have hbr4 := below_ext hb5 hbr
      go_wp2_with fail
      refine (sget_any LA m ld os x wr (hO4.next hbr4) (by simp only [maxLen]; omega) hmd hs).mono ?_
      rintro e w6 ⟨k5, t5, B5, m5, d5, rfl, h5, hm5, hb5⟩
      have eb5 := below_box w6 (.cells #[.int .i64 k5, .slice B5 m5 d5, .string t5] 29)
      have x5 := Blk.new w6 29 [.int .i64 k5, .slice B5 m5 d5, .string t5]
      have h5n := h5.below eb5 (Nat.le_refl _)
      have bz5 := below_ext (below_ext hbr4 hb5) eb5
      have hw5 := below_ext hb5 eb5
      clear h5 hb5 eb5
      go_wp2_with fail
      generalize hWW : w6.alloc (.cells #[.int .i64 k5, .slice B5 m5 d5, .string t5] 29) = w7 at *
      clear hWW
      generalize w6.heap.size = g5 at *
      go_loopw [11] (fun j wr2 => ∃ q : Nat, q ≤ m5 ∧ j = .int .i64 (q : Int) ∧ Below w7.heap.size w7 wr2) (fun j _ => m5 - (intOf j).toNat)
      case atStart => exact ⟨0, Nat.zero_le _, rfl, Below.refl _ _⟩
      case round =>
        obtain ⟨q, hq, rfl, hbr2⟩ := hrel
        have bz6 := below_ext (below_ext hbr hw5) hbr2
        obtain ⟨y50, y51, y52⟩ := (x5.next hbr2).cells3
        by_cases hlt2 : q < m5
        · obtain ⟨ad2, y, rfl, hbl2, hy, hcy⟩ := (h5n.below hbr2 (Nat.le_refl _)).at_ hlt2
          have hqi : (q : Int) < (m5 : Int) := by omega
          have hRY : Rch os fs y := .step HRX.out (List.mem_of_getElem? hy)
          have hsy : isSt os y = true := by
            cases h : isSt os y
            · have h1 := HLL.out
              unfold IsRch at h1
              rw [hs, hi, if_pos (by simp)] at h1
              have h2 := (h1.2 y).2 ⟨hRY, h⟩
              rw [HNIL.out] at h2
              cases h2
            · rfl
          have hyR : hasI R y = true := has_mem ((HA.out.2 y).2 ⟨hRY, hsy⟩)
          clear hy hRY hsy
          go_wp2_with fail
          refine (hasInt_any _ R.length dR R y wr (hRR.below bz6 (Nat.le_refl _)) (by simp only [maxLen]; omega)).mono ?_
          rw [hyR]
          rintro e w9 ⟨rfl, rfl⟩
          go_wp2_with fail
          go_roundw
          case rel => exact ⟨q + 1, by omega, by go_num, hbr2⟩
          case measure => simp [intOf]; omega
        · obtain rfl : q = m5 := by omega
          go_wp2_with fail
          go_roundw
          case rel => exact ⟨k + 1, by omega, by go_num, bz6⟩
          case measure => simp [intOf]; omega
    · obtain rfl : k = R.length := by omega
      go_wp2_with fail
      go_ret
      exact ⟨rfl, below_ext bb5 hbr⟩
end Go.Proofs.Yteldghgdpklkfaa
