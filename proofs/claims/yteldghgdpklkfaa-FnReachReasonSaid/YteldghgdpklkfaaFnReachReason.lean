/- The law FnReachReason, walked: for every code it answers true. -/
import Derived.Test.YteldghgdpklkfaaSGet
namespace Go.Proofs.Yteldghgdpklkfaa
open Go.RowKit Go.Sort

theorem any_take {xs : List Int} {q : Nat} {y : Int} (p : Int → Bool) (h : xs[q]? = some y) : (xs.take (q + 1)).any p = ((xs.take q).any p || p y) := by
  obtain ⟨h1, h2⟩ := List.getElem?_eq_some_iff.1 h
  rw [List.take_succ_eq_append_getElem h1, List.any_append, h2]
  simp
theorem rch_why {os : List Ob} {fs : List Int} {x : Int} (h : Rch os fs x) : x ∈ fs ∨ ∃ y, Rch os fs y ∧ isSt os y = true ∧ x ∈ lnk os y := by
  cases h with
  | base h => exact Or.inl h
  | step h hy =>
    refine Or.inr ⟨_, h, ?_, hy⟩
    unfold lnk at hy
    unfold isSt
    cases hg : getO os _ with
    | none => rw [hg] at hy; cases hy
    | some o => rfl
set_option maxRecDepth 100000 in
set_option maxHeartbeats 1600000 in
theorem FnReachReason_walk (A : Option Addr) (n c : Nat) (w : World) (h : RBytes w w.heap.size A n ∧ n ≤ c) (hn : n ≤ maxLen) :
    Calls Try.prog 7 #[.slice A n c] w fun e w' => e = .returned (.bool true) ∧ Below w.heap.size w w' := by
  have hn0 := hn
  unfold maxLen at hn0
  by_cases hs0 : 1048576 < n
  · go_enter Try.func7, Try.ntmps7
    go_wp2_with fail
    go_ret
    exact ⟨rfl, Below.refl _ _⟩
  go_enter Try.func7, Try.ntmps7
  go_wp2_with fail
  refine (DrawStoreReach_any A n c w h.1 hn h.2).mono ?_
  rintro e w1 ⟨v, F, nf, cf, fs, rfl, ⟨m, os, hO, hm, hok⟩, hownF, hnf, hb1⟩
  obtain ⟨LA, ld, rfl, hmd⟩ := hO.form
  have hF1 := RInts.of_own hownF
  clear hownF
  go_wp2_with fail
  refine (implStoreReach_any LA m ld os F nf cf fs w1 hO.reads (by simp only [maxLen]; omega) hF1 (by simp only [maxLen]; omega)).mono ?_
  rintro e w2 ⟨B, d, L, rfl, hL, hownL, hb2⟩
  have hO2 := hO.next hb2
  have hF2 := hF1.below hb2 (Nat.le_refl _)
  have hR2 := RInts.of_own hownL
  have bb2 := below_ext hb1 hb2
  clear hO hF1 hownL hb1 hb2
  go_wp2_with fail
  refine (specStoreReach_any LA m ld os F nf cf fs w2 hO2.reads (by simp only [maxLen]; omega) hF2 (by simp only [maxLen]; omega)).mono ?_
  rintro e w3 ⟨B3, d3, L3, rfl, hL3, hownL3, hb3⟩
  obtain rfl := hL.uniq hL3
  have hll := hL.len
  have hO3 := hO2.next hb3
  have hF3 := hF2.below hb3 (Nat.le_refl _)
  have hR3 := hR2.below hb3 (Nat.le_refl _)
  have hW3 := RInts.of_own hownL3
  have bb3 := below_ext bb2 hb3
  clear hO2 hF2 hR2 bb2 hb3 hownL3 hL3
  go_wp2_with fail
  refine (sameInts_any B B3 L.length d L.length d3 L L w3 hR3 hW3 (by simp only [maxLen]; omega) (by simp only [maxLen]; omega)).mono ?_
  rw [eqI_same]
  rintro e w4 ⟨rfl, hb4⟩
  have hO4 := (hO3.next hb4).reads
  have hF4 := hF3.below hb4 (Nat.le_refl _)
  have hR4 := hR3.below hb4 (Nat.le_refl _)
  have hW4 := hW3.below hb4 (Nat.le_refl _)
  have bb4 := below_ext bb3 hb4
  have HFL := Lib.hid hF4.1
  clear hO3 hF3 hR3 hW3 bb3 hb4
  go_wp2_with fail
  go_loopw [7] (fun i wr => ∃ k : Nat, k ≤ L.length ∧ i = .int .i64 (k : Int) ∧ Below w4.heap.size w4 wr) (fun i _ => L.length - (intOf i).toNat)
  case atStart => exact ⟨0, Nat.zero_le _, rfl, Below.refl _ _⟩
  case round =>
    obtain ⟨k, hk, rfl, hbr⟩ := hrel
    by_cases hlt : k < L.length
    · obtain ⟨ad, x, rfl, hbl, hx, hcx⟩ := (hR4.below hbr (Nat.le_refl _)).at_ hlt
      obtain ⟨hs, hi, hA⟩ := hL.good (fun e => by rw [e] at hlt; exact absurd hlt (by simp))
      have HA := Lib.hid hA
      have HXK := Lib.hid hx
      have hki : (k : Int) < (L.length : Int) := by omega
      clear hA hx
      go_wp2_with fail
      refine (hasInt_any F nf cf fs x wr (hF4.below hbr (Nat.le_refl _)) (by simp only [maxLen]; omega)).mono ?_
      rintro e w5 ⟨rfl, rfl⟩
      go_wp2_with fail
      go_loopw [8, 9] (fun vu j wr2 => ∃ (q : Nat) (u : Bool), q ≤ L.length ∧ j = .int .i64 (q : Int) ∧ vu = .bool u ∧ Hid (u = (hasI fs x || (L.take q).any (fun y => hasI (lnk os y) x))) ∧ Below wr.heap.size wr wr2) (fun _ j _ => L.length - (intOf j).toNat)
      case atStart => exact ⟨0, _, Nat.zero_le _, rfl, rfl, Lib.hid (by simp), Below.refl _ _⟩
      case round =>
        obtain ⟨q, u, hq, rfl, rfl, HUU, hbr2⟩ := hrel
        have hbr4 := below_ext hbr hbr2
        by_cases hlt2 : q < L.length
        · obtain ⟨ad2, y, e2, hbl2, hy, hcy⟩ := (hR4.below hbr4 (Nat.le_refl _)).at_ hlt2
          injection e2 with e2
          subst e2
          have hqi : (q : Int) < (L.length : Int) := by omega
          have HU2 := Lib.hid (show (hasI fs x || (L.take (q + 1)).any (fun y => hasI (lnk os y) x)) = ((hasI fs x || (L.take q).any (fun y => hasI (lnk os y) x)) || hasI (lnk os y) x) by rw [any_take _ hy, Bool.or_assoc])
          clear hy
          go_wp2_with fail
          refine (sget_any LA m ld os y wr (hO4.next hbr4) (by simp only [maxLen]; omega) hmd hs).mono ?_
          rintro e w7 ⟨k7, t7, B7, m7, d7, rfl, h7, hm7, hb7⟩
          have eb7 := below_box w7 (.cells #[.int .i64 k7, .slice B7 m7 d7, .string t7] 29)
          have x7 := Blk.new w7 29 [.int .i64 k7, .slice B7 m7 d7, .string t7]
          have h7n := h7.below eb7 (Nat.le_refl _)
          have bz7 := below_ext (below_ext hbr4 hb7) eb7
          have hw7 := below_ext hb7 eb7
          clear h7 hb7 eb7
          obtain ⟨ad3, x3, e3, hbl3, hx3, hcx2⟩ := (hR4.below bz7 (Nat.le_refl _)).at_ hlt
          injection e3 with e3
          subst e3
          obtain rfl : x3 = x := by
            have h1 := HXK.out
            rw [h1] at hx3
            injection hx3 with hx3
            exact hx3.symm
          clear hx3
          obtain ⟨y0, y1, y2⟩ := x7.cells3
          go_wp2_with fail
          generalize hWW : w7.alloc (.cells #[.int .i64 k7, .slice B7 m7 d7, .string t7] 29) = w8 at *
          clear hWW
          generalize w7.heap.size = g7 at *
          cases hu : u
          · skip
            have gy := cell_regrown y1
            have gx := cell_regrown hcx2
            have hreg := fun (dd : Nat) (oo : Array Obj) => rg_same (hasInt_any B7 m7 d7 (lnk os y) x3 (grow (redrawn w8 dd) oo) (h7n.regrown dd oo) (by simp only [maxLen]; omega))
            clear y0 y1 y2 hcx2
            refine wp_region_ext (by kernel_rfl) (by kernel_rfl) ?_
            repeat (go_big_quiet_step ((go_at_call 15; exact hreg _ _)))
            refine wpQuiet_nil ?_
            intro w9 hb9
            go_wp2_with fail
            go_roundw
            case rel => exact ⟨q + 1, _, by omega, by go_num, rfl, Lib.hid (by rw [HU2.out, ← HUU.out, hu]; rfl), below_ext hbr2 (below_ext hw7 hb9)⟩
            case measure => simp [intOf]; omega
          · have gy := cell_regrown y1
            have gx := cell_regrown hcx2
            clear y0 y1 y2 hcx2
            refine wp_region_ext (by kernel_rfl) (by kernel_rfl) ?_
            repeat (go_big_quiet_step (fail))
            refine wpQuiet_nil ?_
            intro w9 hb9
            go_wp2_with fail
            go_roundw
            case rel => exact ⟨q + 1, true, by omega, by go_num, rfl, Lib.hid (by rw [HU2.out, ← HUU.out, hu]; rfl), below_ext hbr2 (below_ext hw7 hb9)⟩
            case measure => simp [intOf]; omega
        · obtain rfl : q = L.length := by omega
          have hu1 : u = true := by
            rw [HUU.out, List.take_of_length_le (Nat.le_refl _), Bool.or_eq_true]
            rcases rch_why ((HA.out.2 x).1 (List.mem_of_getElem? HXK.out)).1 with h1 | ⟨y, h1, h2, h3⟩
            · exact Or.inl (has_mem h1)
            · exact Or.inr (List.any_eq_true.2 ⟨y, (HA.out.2 y).2 ⟨h1, h2⟩, has_mem h3⟩)
          subst hu1
          go_wp2_with fail
          go_roundw
          case rel => exact ⟨k + 1, by omega, by go_num, hbr4⟩
          case measure => simp [intOf]; omega
    · obtain rfl : k = L.length := by omega
      go_wp2_with fail
      go_ret
      exact ⟨rfl, below_ext bb4 hbr⟩
end Go.Proofs.Yteldghgdpklkfaa
