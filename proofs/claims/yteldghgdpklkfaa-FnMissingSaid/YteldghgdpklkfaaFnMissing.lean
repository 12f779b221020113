/- The law FnMissing, walked: for every code it answers true. -/
import Derived.Test.YteldghgdpklkfaaSGet
namespace Go.Proofs.Yteldghgdpklkfaa
open Go.RowKit Go.Sort

theorem any_takeM {xs : List Int} {q : Nat} {y : Int} (p : Int → Bool) (h : xs[q]? = some y) : (xs.take (q + 1)).any p = ((xs.take q).any p || p y) := by
  obtain ⟨h1, h2⟩ := List.getElem?_eq_some_iff.1 h
  rw [List.take_succ_eq_append_getElem h1, List.any_append, h2]
  simp
theorem rch_whyM {os : List Ob} {fs : List Int} {x : Int} (h : Rch os fs x) : x ∈ fs ∨ ∃ y, Rch os fs y ∧ isSt os y = true ∧ x ∈ lnk os y := by
  cases h with
  | base h => exact Or.inl h
  | step h hy =>
    refine Or.inr ⟨_, h, ?_, hy⟩
    unfold lnk at hy
    unfold isSt
    cases hg : getO os _ with
    | none => rw [hg] at hy; cases hy
    | some o => rfl
theorem IsRch.valid {os : List Ob} {fs L : List Int} {b : Bool} (h : IsRch os fs b L) (hs : storeB os = true) (hi : idsOkB fs = true) : AscMem L (fun x => Rch os fs x ∧ isSt os x = b) := by
  unfold IsRch at h
  rwa [hs, hi, if_pos (by simp)] at h
set_option maxRecDepth 100000 in
set_option maxHeartbeats 1600000 in
theorem FnMissing_walk (A : Option Addr) (n c : Nat) (w : World) (h : RBytes w w.heap.size A n ∧ n ≤ c) (hn : n ≤ maxLen) :
    Calls Try.prog 10 #[.slice A n c] w fun e w' => e = .returned (.bool true) ∧ Below w.heap.size w w' := by
  have hn0 := hn
  unfold maxLen at hn0
  by_cases hs0 : 1048576 < n
  · go_enter Try.func10, Try.ntmps10
    go_wp2_with fail
    go_ret
    exact ⟨rfl, Below.refl _ _⟩
  go_enter Try.func10, Try.ntmps10
  go_wp2_with fail
  refine (DrawStoreMissing_any A n c w h.1 hn h.2).mono ?_
  rintro e w1 ⟨v, F, nf, cf, fs, rfl, ⟨m, os, hO, hm, hok⟩, hownF, hnf, hb1⟩
  obtain ⟨LA, ld, rfl, hmd⟩ := hO.form
  have hF1 := RInts.of_own hownF
  clear hownF
  go_wp2_with fail
  refine (implStoreMissing_any LA m ld os F nf cf fs w1 hO.reads (by simp only [maxLen]; omega) hF1 (by simp only [maxLen]; omega)).mono ?_
  rintro e w2 ⟨B, d, L, rfl, hL, hownL, hb2⟩
  have hO2 := hO.next hb2
  have hF2 := hF1.below hb2 (Nat.le_refl _)
  have hR2 := RInts.of_own hownL
  have bb2 := below_ext hb1 hb2
  clear hO hF1 hownL hb1 hb2
  go_wp2_with fail
  refine (specStoreMissing_any LA m ld os F nf cf fs w2 hO2.reads (by simp only [maxLen]; omega) hF2 (by simp only [maxLen]; omega)).mono ?_
  rintro e w3 ⟨B3, d3, L3, rfl, hL3, hownL3, hb3⟩
  obtain rfl := hL.uniq hL3
  have hll := hL.len
  have hO3 := hO2.next hb3
  have hF3 := hF2.below hb3 (Nat.le_refl _)
  have hR3 := hR2.below hb3 (Nat.le_refl _)
  have hW3 := RInts.of_own hownL3
  have bb3 := below_ext bb2 hb3
  clear hO2 hF2 hR2 bb2 hb3 hownL3 hL3
  go_wp2_with fail
  refine (sameInts_any B B3 L.length d L.length d3 L L w3 hR3 hW3 (by simp only [maxLen]; omega) (by simp only [maxLen]; omega)).mono ?_
  rw [eqI_same]
  rintro e w4 ⟨rfl, hb4⟩
  have hO4 := (hO3.next hb4).reads
  have hF4 := hF3.below hb4 (Nat.le_refl _)
  have hR4 := hR3.below hb4 (Nat.le_refl _)
  have hW4 := hW3.below hb4 (Nat.le_refl _)
  have bb4 := below_ext bb3 hb4
  have HFL := Lib.hid hF4.1
  clear hO3 hF3 hR3 hW3 bb3 hb4
  have HASC := Lib.hid hL.asc
  go_wp2_with fail
  refine (implStoreReach_any LA m ld os F nf cf fs w4 hO4 (by simp only [maxLen]; omega) hF4 (by simp only [maxLen]; omega)).mono ?_
  rintro e w5 ⟨C, dR, R, rfl, hRc, hownR, hb5⟩
  have hRR := RInts.of_own hownR
  have hrl := hRc.len
  have bb5 := below_ext bb4 hb5
  have hR5 := hR4.below hb5 (Nat.le_refl _)
  have hF5 := hF4.below hb5 (Nat.le_refl _)
  clear hownR
  go_wp2_with fail
  go_loopw [8] (fun i wr => ∃ k : Nat, k ≤ L.length ∧ i = .int .i64 (k : Int) ∧ Below w5.heap.size w5 wr) (fun i _ => L.length - (intOf i).toNat)
  case atStart => exact ⟨0, Nat.zero_le _, rfl, Below.refl _ _⟩
  case round =>
    obtain ⟨k, hk, rfl, hbr⟩ := hrel
    by_cases hlt : k < L.length
    · obtain ⟨ad, x, rfl, hbl, hx, hcx⟩ := (hR5.below hbr (Nat.le_refl _)).at_ hlt
      obtain ⟨hs, hi, hA⟩ := hL.good (fun e => by rw [e] at hlt; exact absurd hlt (by simp))
      have HR := Lib.hid (hRc.valid hs hi)
      have hxA := (hA.2 x).1 (List.mem_of_getElem? hx)
      have hst : isSt os x = false := hxA.2
      have HXR := Lib.hid hxA.1
      have HXK := Lib.hid hx
      have hki : (k : Int) < (L.length : Int) := by omega
      have hbr45 := below_ext hb5 hbr
      clear hA hxA hx
      go_wp2_with fail
      refine (sget_any LA m ld os x wr (hO4.next hbr45) (by simp only [maxLen]; omega) hmd hs).mono ?_
      rintro e w6 ⟨k5, t5, B5, m5, d5, rfl, h5, hm5, hb5⟩
      have eb5 := below_box w6 (.cells #[.int .i64 k5, .slice B5 m5 d5, .string t5] 29)
      have x5 := Blk.new w6 29 [.int .i64 k5, .slice B5 m5 d5, .string t5]
      have h5n := h5.below eb5 (Nat.le_refl _)
      have bz5 := below_ext (below_ext hbr45 hb5) eb5
      have hw5 := below_ext hb5 eb5
      clear h5 hb5 eb5
      rw [hst]
      obtain ⟨ad2, x2, e2, hbl2, hx2, hcx2⟩ := ((hR5.below hbr (Nat.le_refl _)).below hw5 (Nat.le_refl _)).at_ hlt
      injection e2 with e2
      subst e2
      obtain rfl : x2 = x := by
        have h1 := HXK.out
        rw [h1] at hx2
        injection hx2 with hx2
        exact hx2.symm
      clear hx2 hcx
      go_wp2_with fail
      generalize hWW : w6.alloc (.cells #[.int .i64 k5, .slice B5 m5 d5, .string t5] 29) = w7 at *
      clear hWW
      generalize w6.heap.size = g5 at *
      have b57 := below_ext hbr hw5
      refine (hasInt_any F nf cf fs x2 w7 (hF5.below b57 (Nat.le_refl _)) (by simp only [maxLen]; omega)).mono ?_
      rintro e w8 ⟨rfl, rfl⟩
      go_wp2_with fail
      go_loopw [11, 12] (fun vu j wr2 => ∃ (q : Nat) (u : Bool), q ≤ R.length ∧ j = .int .i64 (q : Int) ∧ vu = .bool u ∧ Hid (u = (hasI fs x2 || (R.take q).any (fun y => hasI (lnk os y) x2))) ∧ Below w7.heap.size w7 wr2) (fun _ j _ => R.length - (intOf j).toNat)
      case atStart => exact ⟨0, _, Nat.zero_le _, rfl, rfl, Lib.hid (by simp), Below.refl _ _⟩
      case round =>
        obtain ⟨q, u, hq, rfl, rfl, HUU, hbr2⟩ := hrel
        have hbr5 := below_ext b57 hbr2
        have hbr4 := below_ext hb5 hbr5
        by_cases hlt2 : q < R.length
        · obtain ⟨ad4, y, rfl, hbl4, hy, hcy⟩ := (hRR.below hbr5 (Nat.le_refl _)).at_ hlt2
          have hqi : (q : Int) < (R.length : Int) := by omega
          have HU2 := Lib.hid (show (hasI fs x2 || (R.take (q + 1)).any (fun y => hasI (lnk os y) x2)) = ((hasI fs x2 || (R.take q).any (fun y => hasI (lnk os y) x2)) || hasI (lnk os y) x2) by rw [any_takeM _ hy, Bool.or_assoc])
          clear hy
          go_wp2_with fail
          refine (sget_any LA m ld os y wr (hO4.next hbr4) (by simp only [maxLen]; omega) hmd hs).mono ?_
          rintro e w7b ⟨k7, t7, B7, m7, d7, rfl, h7, hm7, hb7⟩
          have eb7 := below_box w7b (.cells #[.int .i64 k7, .slice B7 m7 d7, .string t7] 29)
          have x7 := Blk.new w7b 29 [.int .i64 k7, .slice B7 m7 d7, .string t7]
          have h7n := h7.below eb7 (Nat.le_refl _)
          have bz7 := below_ext (below_ext hbr4 hb7) eb7
          have hw7 := below_ext hb7 eb7
          clear h7 hb7 eb7
          obtain ⟨ad3, x3, e3, hbl3, hx3, hcx2⟩ := ((hR5.below hbr5 (Nat.le_refl _)).below hw7 (Nat.le_refl _)).at_ hlt
          injection e3 with e3
          subst e3
          obtain rfl : x3 = x2 := by
            have h1 := HXK.out
            rw [h1] at hx3
            injection hx3 with hx3
            exact hx3.symm
          clear hx3
          obtain ⟨y0, y1, y2⟩ := x7.cells3
          go_wp2_with fail
          generalize hWW : w7b.alloc (.cells #[.int .i64 k7, .slice B7 m7 d7, .string t7] 29) = w8 at *
          clear hWW
          generalize w7b.heap.size = g7 at *
          cases hu : u
          · skip
            have gy := cell_regrown y1
            have gx := cell_regrown hcx2
            have hreg := fun (dd : Nat) (oo : Array Obj) => rg_same (hasInt_any B7 m7 d7 (lnk os y) x3 (grow (redrawn w8 dd) oo) (h7n.regrown dd oo) (by simp only [maxLen]; omega))
            clear y0 y1 y2 hcx2
            refine wp_region_ext (by kernel_rfl) (by kernel_rfl) ?_
            repeat (go_big_quiet_step ((go_at_call 15; exact hreg _ _)))
            refine wpQuiet_nil ?_
            intro w9 hb9
            go_wp2_with fail
            go_roundw
            case rel => exact ⟨q + 1, _, by omega, by go_num, rfl, Lib.hid (by rw [HU2.out, ← HUU.out, hu]; rfl), below_ext hbr2 (below_ext hw7 hb9)⟩
            case measure => simp [intOf]; omega
          · have gy := cell_regrown y1
            have gx := cell_regrown hcx2
            clear y0 y1 y2 hcx2
            refine wp_region_ext (by kernel_rfl) (by kernel_rfl) ?_
            repeat (go_big_quiet_step (fail))
            refine wpQuiet_nil ?_
            intro w9 hb9
            go_wp2_with fail
            go_roundw
            case rel => exact ⟨q + 1, true, by omega, by go_num, rfl, Lib.hid (by rw [HU2.out, ← HUU.out, hu]; rfl), below_ext hbr2 (below_ext hw7 hb9)⟩
            case measure => simp [intOf]; omega
        · obtain rfl : q = R.length := by omega
          have hu1 : u = true := by
            rw [HUU.out, List.take_of_length_le (Nat.le_refl _), Bool.or_eq_true]
            rcases rch_whyM HXR.out with h1 | ⟨y, h1, h2, h3⟩
            · exact Or.inl (has_mem h1)
            · exact Or.inr (List.any_eq_true.2 ⟨y, (HR.out.2 y).2 ⟨h1, h2⟩, has_mem h3⟩)
          subst hu1
          go_wp2_with fail
          go_roundw
          case rel => exact ⟨k + 1, by omega, by go_num, hbr5⟩
          case measure => simp [intOf]; omega
    · obtain rfl : k = L.length := by omega
      go_wp2_with fail
      refine (ascending_any B L.length d L wr (hR5.below hbr (Nat.le_refl _)) (by simp only [maxLen]; omega) HASC.out).mono ?_
      rintro e w6 ⟨rfl, hb6⟩
      go_wp2_with fail
      go_ret
      exact ⟨rfl, below_ext bb5 (below_ext hbr hb6)⟩
end Go.Proofs.Yteldghgdpklkfaa
