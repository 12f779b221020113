/- The law FnRefsBegin, walked: for every code it answers true. -/
import Derived.Test.YtlmcejpjhdaanaaRefsV
import Derived.Test.YtlmcejpjhdaanaaSameC
namespace Go.Proofs.Ytlmcejpjhdaanaa
open Go.RowKit Go.Sort

theorem CoAt.ord {B : Nat} {w : World} {A : Option Addr} {n c : Nat} {C : Option Addr} {m d : Nat} {q : Co} (h : CoAt B w [.slice A n c, .slice C m d] q) : (m ≤ d ∧ (C = none → d = 0)) ∧ Hid (n = q.ts.length) ∧ Hid (m = q.ord.length) := by
  obtain ⟨S, h1, h2, h3⟩ := h
  obtain ⟨A', n', c', C', m', d', S1, S2, e, _, _, _, h4, h5⟩ := sepCo_cells h2
  simp only [List.cons.injEq, Value.slice.injEq, and_true] at e
  obtain ⟨⟨rfl, rfl, rfl⟩, rfl, rfl, rfl⟩ := e
  refine ⟨⟨h5.small.1, fun hC => ?_⟩, Lib.hid h4.1.symm, Lib.hid h5.1.symm⟩
  obtain ⟨_, ⟨_, _, rfl⟩ | ⟨g, css, hA, _⟩⟩ := h5
  · rfl
  · rw [hC] at hA; cases hA
set_option maxRecDepth 100000 in
set_option maxHeartbeats 3200000 in
theorem FnRefsBegin_walk (A : Option Addr) (n c : Nat) (w : World) (h : RBytes w w.heap.size A n ∧ n ≤ c) (hn : n ≤ maxLen) :
    Calls Try.prog 7 #[.slice A n c] w fun e w' => e = .returned (.bool true) ∧ Below w.heap.size w w' := by
  have hn0 := hn
  unfold maxLen at hn0
  by_cases hs : 1048576 < n
  · go_enter Try.func7, Try.ntmps7
    go_wp2_with fail
    go_ret
    exact ⟨rfl, Below.refl _ _⟩
  · go_enter Try.func7, Try.ntmps7
    go_wp2_with fail
    refine (DrawCoordinatorRefs_any A n c w h.1 hn h.2).mono ?_
    rintro e w1 ⟨cs, q, s, z, rfl, hQ, hz0, hz1, hb1⟩
    obtain ⟨A2, n2, c2, C2, m2, d2, rfl⟩ := hQ.two
    obtain ⟨⟨hcap, hnil⟩, HN2, HM2⟩ := hQ.ord
    have htn := hQ.tiny
    have htn1 := htn.1
    have htn2 := htn.2.1
    have hRc_1 := hQ.rep0
    have HTN := Lib.hid htn
    clear hQ htn
    have ebbc := below_box w1 (.cells #[.slice A2 n2 c2, .slice C2 m2 d2] 26)
    have hRc_2 := repCo.next hRc_1 ebbc
    have bt_3 := below_ext hb1 ebbc
    have bc_4 := Blk.new w1 26 [.slice A2 n2 c2, .slice C2 m2 d2]
    obtain ⟨ybc_4_0, ybc_4_1⟩ := bc_4.cells2
    clear hRc_1 ebbc
    have hl4 : (refsOut q s z).length ≤ 4 := by
      unfold refsOut
      split
      · rw [refsQ_len]; exact Nat.le_refl 4
      · simp
    go_wp2_with fail
    generalize hWW : w1.alloc (.cells #[.slice A2 n2 c2, .slice C2 m2 d2] 26) = w2 at *
    clear hWW
    generalize w1.heap.size = gbc at *
    refine (implRefs_any A2 n2 c2 C2 m2 d2 q s z _ hRc_2 (by omega) (by omega) hcap hnil).mono ?_
    rintro e w3 ⟨B3, m3, d3, rfl, hown3, hb3⟩
    clear ybc_4_0 ybc_4_1
    have hRc_5 := repCo.next hRc_2 hb3
    have bc_6 := bc_4.next hb3
    have bt_7 := below_ext bt_3 hb3
    obtain ⟨ybc_6_0, ybc_6_1⟩ := bc_6.cells2
    clear hRc_2 bc_4 bt_3 hb3
    have r3_8 := RInts.of_ownL hown3
    have hn3 := r3_8.1
    clear hown3
    go_wp2_with fail
    refine (specRefs_any _ q s z _ hRc_5).mono ?_
    rintro e w4 ⟨B4, m4, d4, rfl, hown4, hb4⟩
    clear ybc_6_0 ybc_6_1
    have hRc_9 := repCo.next hRc_5 hb4
    have bc_10 := bc_6.next hb4
    have r3_11 := r3_8.next hb4
    have bt_12 := below_ext bt_7 hb4
    obtain ⟨ybc_10_0, ybc_10_1⟩ := bc_10.cells2
    clear hRc_5 bc_6 r3_8 bt_7 hb4
    have r4_13 := RInts.of_ownL hown4
    have hn4 := r4_13.1
    clear hown4
    go_wp2_with fail
    refine (sameInts_any _ _ _ _ _ _ _ _ _ r3_11 r4_13 (by simp only [maxLen]; omega) (by simp only [maxLen]; omega)).mono ?_
    rw [eqI_self]
    rintro e w5 ⟨rfl, hbS⟩
    clear ybc_10_0 ybc_10_1
    have hRc_14 := repCo.next hRc_9 hbS
    have bc_15 := bc_10.next hbS
    have r3_16 := r3_11.next hbS
    have r4_17 := r4_13.next hbS
    have bt_18 := below_ext bt_12 hbS
    obtain ⟨ybc_15_0, ybc_15_1⟩ := bc_15.cells2
    clear hRc_9 bc_10 r3_11 r4_13 bt_12 hbS
    cases hv : refsOk q s z
    · have HE := Lib.hid (refsOut_bad hv)
      have hz3 : m3 = 0 := by rw [HE.out] at hn3; exact hn3.symm
      subst hz3
      go_wp2_with fail
      refine (sameInts_any _ _ _ _ _ _ _ _ _ r3_16 r4_17 (by simp only [maxLen]; omega) (by simp only [maxLen]; omega)).mono ?_
      rw [eqI_self]
      rintro e w6 ⟨rfl, hbT⟩
      clear ybc_15_0 ybc_15_1
      have hRc_19 := repCo.next hRc_14 hbT
      have bc_20 := bc_15.next hbT
      have r3_21 := r3_16.next hbT
      have r4_22 := r4_17.next hbT
      have bt_23 := below_ext bt_18 hbT
      obtain ⟨ybc_20_0, ybc_20_1⟩ := bc_20.cells2
      clear hRc_14 bc_15 r3_16 r4_17 bt_18 hbT
      go_wp2_with fail
      go_ret
      exact ⟨rfl, bt_23⟩
    · have HE := Lib.hid (refsOut_ok hv)
      obtain ⟨hcb, hs3, hz3⟩ := refsOk_parts hv
      have hm34 : m3 = 4 := by rw [HE.out, refsQ_len] at hn3; exact hn3.symm
      subst hm34
      have HE0 := Lib.hid (show refsOut q s 0 = no4 by rw [refsOut_ok (refsOk_mk hcb hs3 ⟨by omega, by omega⟩)]; rfl)
      have HV := Lib.hid (show valsB (refsOut q s z) = true by rw [HE.out]; exact refsQ_vals hcb s _)
      clear hcb
      go_wp2_with fail
      refine (implRefs_any A2 n2 c2 C2 m2 d2 q s 0 _ hRc_14 (by omega) (by omega) hcap hnil).mono ?_
      rintro e w6 ⟨B5, m5, d5, rfl, hown5, hb5⟩
      clear ybc_15_0 ybc_15_1
      have hRc_19 := repCo.next hRc_14 hb5
      have bc_20 := bc_15.next hb5
      have r3_21 := r3_16.next hb5
      have r4_22 := r4_17.next hb5
      have bt_23 := below_ext bt_18 hb5
      obtain ⟨ybc_20_0, ybc_20_1⟩ := bc_20.cells2
      clear hRc_14 bc_15 r3_16 r4_17 bt_18 hb5
      rw [HE0.out] at hown5
      have r5_24 := RInts.of_ownL hown5
      have hn5 : m5 = 4 := r5_24.1.symm
      subst hn5
      clear hown5
      clear ybc_20_0 ybc_20_1
      have ebr6 := below_box w6 (.cells #[.int .i64 (-1), .int .i64 (-1), .int .i64 (-1), .int .i64 (-1)] 3)
      have hRc_25 := repCo.next hRc_19 ebr6
      have bc_26 := bc_20.next ebr6
      have r3_27 := r3_21.next ebr6
      have r4_28 := r4_22.next ebr6
      have r5_29 := r5_24.next ebr6
      have bt_30 := below_ext bt_23 ebr6
      have r6_31 := (show RInts (w6.alloc (.cells #[.int .i64 (-1), .int .i64 (-1), .int .i64 (-1), .int .i64 (-1)] 3)) (some ⟨w6.heap.size, 0, none⟩) 4 no4 from rints_new w6 3 no4)
      obtain ⟨ybc_26_0, ybc_26_1⟩ := bc_26.cells2
      clear hRc_19 bc_20 r3_21 r4_22 r5_24 bt_23 ebr6
      go_wp2_with fail
      generalize hWW : w6.alloc (.cells #[.int .i64 (-1), .int .i64 (-1), .int .i64 (-1), .int .i64 (-1)] 3) = w7 at *
      clear hWW
      generalize w6.heap.size = gr6 at *
      refine (sameInts_any _ _ 4 _ _ _ no4 no4 _ r5_29 r6_31 (by simp only [maxLen]; omega) (by simp only [maxLen]; omega)).mono ?_
      rw [eqI_self]
      rintro e w8 ⟨rfl, hbU⟩
      clear ybc_26_0 ybc_26_1
      have hRc_32 := repCo.next hRc_25 hbU
      have bc_33 := bc_26.next hbU
      have r3_34 := r3_27.next hbU
      have r4_35 := r4_28.next hbU
      have r5_36 := r5_29.next hbU
      have r6_37 := r6_31.next hbU
      have bt_38 := below_ext bt_30 hbU
      obtain ⟨ybc_33_0, ybc_33_1⟩ := bc_33.cells2
      clear hRc_25 bc_26 r3_27 r4_28 r5_29 r6_31 bt_30 hbU
      go_wp2_with fail
      refine (refsValid_any _ _ _ _ r3_34 HV.out).mono ?_
      rintro e w9 ⟨rfl, rfl⟩
      go_wp2_with fail
      go_ret
      exact ⟨rfl, bt_38⟩
end Go.Proofs.Ytlmcejpjhdaanaa
