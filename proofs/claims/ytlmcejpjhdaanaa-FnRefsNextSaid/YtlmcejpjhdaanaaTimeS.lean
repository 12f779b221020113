/- Walks: the reference's CoordinatorTimeout. -/
import Derived.Test.YtlmcejpjhdaanaaCoM
namespace Go.Proofs.Ytlmcejpjhdaanaa
open Go.RowKit Go.Sort

set_option maxRecDepth 100000 in
set_option maxHeartbeats 3200000 in
theorem specTimeout_any (cs : List Value) (q : Co) (t : Int) (w : World) (hv : repCo.V 0 w cs q) :
    Calls Try.prog 11 #[.agg cs.toArray, .int .i64 t] w (CoTo2 w (timeoutQ q t)) := by
  obtain ⟨B0, m0, d0, B1, m1, d1, rfl, hr0, hm0, -, hm1⟩ := repCo_cells hv
  have hl0 := hr0.1
  have b2 : Below w.heap.size w ((w.alloc (.cells #[.slice B0 m0 d0, .slice B1 m1 d1] 26)).alloc (.cells #[.slice none 0 0, .slice none 0 0] 26)) := below_ext (below_box w _) (below_box _ _)
  have x0 : Blk ((w.alloc (.cells #[.slice B0 m0 d0, .slice B1 m1 d1] 26)).alloc (.cells #[.slice none 0 0, .slice none 0 0] 26)) w.heap.size 26 [.slice B0 m0 d0, .slice B1 m1 d1] := (Blk.new w _ _).alloc _
  have x1 : Blk ((w.alloc (.cells #[.slice B0 m0 d0, .slice B1 m1 d1] 26)).alloc (.cells #[.slice none 0 0, .slice none 0 0] 26)) (w.heap.size + 1) 26 [.slice none 0 0, .slice none 0 0] := by simpa using Blk.new (w.alloc (.cells #[.slice B0 m0 d0, .slice B1 m1 d1] 26)) 26 [.slice none 0 0, .slice none 0 0]
  obtain ⟨y0, y1⟩ := x0.cells2
  have HZ0 := Lib.hid (show ((w.alloc (.cells #[.slice B0 m0 d0, .slice B1 m1 d1] 26)).alloc (.cells #[.slice none 0 0, .slice none 0 0] 26)).heap.size = w.heap.size + 2 by simp)
  have hmm : m0 ≤ maxLen := hm0
  unfold maxLen at hmm
  have hwr : IntKind.i64.wrap ((m0 : Int) - 1) = (m0 : Int) - 1 := by rw [IntKind.wrap_i64]; omega
  by_cases hb : coB q = true
  · by_cases hin : 0 ≤ t ∧ t ≤ (m0 : Int) - 1
    · obtain ⟨tn, rfl⟩ : ∃ tn : Nat, t = (tn : Int) := ⟨t.toNat, by omega⟩
      have hlt : tn < m0 := by omega
      obtain ⟨bq, off, x, cs', rfl, hbq, hx, hcx, hvx⟩ := hr0.at_ hlt
      obtain ⟨P0, p0, f0, P1, p1, f1, rfl, -, -, -, -⟩ := repTx_cells hvx
      have cd : w.cell? ⟨bq, off + tn * 3 + 1 + 1, none⟩ = some (.int .i64 x.dec) := hcx 2 _ rfl
      have hin1 : decide ((0 : Int) ≤ (tn : Int)) = true := by simp
      have hin2 : decide ((tn : Int) ≤ (m0 : Int) - 1) = true := by simp; omega
      clear hcx hvx
      by_cases hd : x.dec = 0
      · have HB := Lib.hid (show timeoutQ q (tn : Int) = (⟨q.ts.set tn ⟨x.ps, x.vs, 3⟩, q.ord⟩, true) by unfold timeoutQ; rw [hb, if_pos rfl, openQ_in hx, if_pos hd]; rfl)
        rw [hd] at cd
        go_enter Try.func11, Try.ntmps11
        go_wp2_with (first
        | (go_at_call 13; refine (specCoordinatorValid_any _ q _ (repCo.next hv b2)).mono ?_; rintro e1 w1 ⟨rfl, hb1⟩
           have x01 := x0.next hb1
           have x11 := x1.next hb1
           obtain ⟨y01, y11⟩ := x01.cells2
           obtain ⟨v01, v11⟩ := x11.cells2
           have fv01 := x11.frozen 0
           have fv11 := x11.frozen 1)
        | (go_at_call 34; refine (l22Copy_any _ q _ (repCo.next (repCo.next hv b2) hb1) (coB_small hb)).mono ?_; rintro e3 w2 ⟨csC, rfl, hC, hb2⟩
           have hCk := hC
           obtain ⟨Q0, k, c0, O0, k1, e0, S1, S2, rfl, q1, q2, q3, hSX, hSO⟩ := sepCo_cells hC
           have hkl := hSX.1
           have hr0c := ((hr0.next b2).next hb1).next hb2
           have b3 := below_box w2 (.cells #[.slice Q0 k c0, .slice O0 k1 e0] 26)
           have x03 := (x01.next hb2).next b3
           have x13 := (x11.next hb2).next b3
           have hT3 := Blk.new w2 26 [.slice Q0 k c0, .slice O0 k1 e0]
           obtain ⟨y03, y13⟩ := x03.cells2
           obtain ⟨v03, v13⟩ := x13.cells2
           obtain ⟨t03, t13⟩ := hT3.cells2
           have ft03 := hT3.frozen 0
           have ft13 := hT3.frozen 1
           have fv03 := x13.frozen 0
           have fv13 := x13.frozen 1
           obtain ⟨g, P4, p4, d4, V4, m4, e4, hAg, hSg, hlg, hgl, u0, u1, u2, fu, hml, -, -, -, -, -⟩ := (hSX.next b3 (fun b hb2 => (q1 b hb2).2)).txCells hx
           subst hAg
           have fu2 := fu (tn * 3 + 1 + 1)
           have cd3 := ((((b2.trans (hb1.mono b2.size)).trans (hb2.mono (Nat.le_trans b2.size hb1.size))).trans (b3.mono (Nat.le_trans b2.size (Nat.le_trans hb1.size hb2.size)))).cell (p := ⟨bq, off + tn * 3 + 1 + 1, none⟩) hbq).trans cd)
        | (go_at_call 35; refine (l6In_any _ _ _ _).mono ?_; rintro e w' ⟨rfl, rfl⟩))
        have hz1 := b2.size
        have hz2 := hb1.size
        have hz4 := hb2.size
        have hz0 := HZ0.out
        have hne1 : w.heap.size + 1 ≠ g := by omega
        have hg2 := (q1 g hSg).2
        have hbe3 : Below w.heap.size w (w2.alloc (.cells #[.slice (some ⟨g, 0, none⟩) k c0, .slice O0 k1 e0] 26)) := below_ext (b2.trans ((hb1.mono (by omega)).trans (hb2.mono (by omega)))) (below_box _ _)
        have hRR := ((x13.far (p := ⟨g, tn * 3 + 2, none⟩) hne1 (.int .i64 3)).set_ 0 (.slice (some ⟨g, 0, none⟩) k c0)).set_ 1 (.slice O0 k1 e0)
        simp only [List.set_cons_zero, List.set_cons_succ] at hRR
        obtain ⟨r0, r1⟩ := hRR.cells2
        have hS9 := (hSX.next b3 (fun b hb2 => (q1 b hb2).2)).setDec hx rfl 3
        have hSO9 := (hSO.next b3 (fun b hb2 => (q2 b hb2).2)).kept (w' := (w2.alloc (.cells #[.slice (some ⟨g, 0, none⟩) k c0, .slice O0 k1 e0] 26)).setCell ⟨g, tn * 3 + 1 + 1, none⟩ (.int .i64 3)) (fun b hb2 => Below.heap_setCell _ ⟨g, tn * 3 + 1 + 1, none⟩ _ b (fun (e : b = g) => q3 g hSg (e ▸ hb2)))
        refine bodyPost_ret (v := .tuple #[.agg #[.slice (some ⟨g, 0, none⟩) k c0, .slice O0 k1 e0], .bool true]) (by simp [results, Try.results11, go_sem, r0, r1]) rfl ?_
        refine ⟨[.slice (some ⟨g, 0, none⟩) k c0, .slice O0 k1 e0], by rw [HB.out], ?_, ((hbe3.setCell (by dsimp only; omega) _).setCell (by dsimp only; omega) _).setCell (by dsimp only; omega) _⟩
        rw [HB.out]
        exact out_set hS9 hSO9 q1 q2 q3 (by omega) (fun b n1 n2 => by rw [Below.heap_setCell _ _ _ b (by dsimp only; omega), Below.heap_setCell _ _ _ b (by dsimp only; omega)]) (by simp)
      · have HB := Lib.hid (show timeoutQ q (tn : Int) = (q, false) by unfold timeoutQ; rw [hb, if_pos rfl, openQ_in hx, if_neg hd])
        go_enter Try.func11, Try.ntmps11
        go_wp2_with (first
        | (go_at_call 13; refine (specCoordinatorValid_any _ q _ (repCo.next hv b2)).mono ?_; rintro e1 w1 ⟨rfl, hb1⟩
           have x01 := x0.next hb1
           have x11 := x1.next hb1
           obtain ⟨y01, y11⟩ := x01.cells2
           obtain ⟨v01, v11⟩ := x11.cells2
           have fv01 := x11.frozen 0
           have fv11 := x11.frozen 1)
        | (go_at_call 34; refine (l22Copy_any _ q _ (repCo.next (repCo.next hv b2) hb1) (coB_small hb)).mono ?_; rintro e3 w2 ⟨csC, rfl, hC, hb2⟩
           have hCk := hC
           obtain ⟨Q0, k, c0, O0, k1, e0, S1, S2, rfl, q1, q2, q3, hSX, hSO⟩ := sepCo_cells hC
           have hkl := hSX.1
           have hr0c := ((hr0.next b2).next hb1).next hb2
           have b3 := below_box w2 (.cells #[.slice Q0 k c0, .slice O0 k1 e0] 26)
           have x03 := (x01.next hb2).next b3
           have x13 := (x11.next hb2).next b3
           have hT3 := Blk.new w2 26 [.slice Q0 k c0, .slice O0 k1 e0]
           obtain ⟨y03, y13⟩ := x03.cells2
           obtain ⟨v03, v13⟩ := x13.cells2
           obtain ⟨t03, t13⟩ := hT3.cells2
           have ft03 := hT3.frozen 0
           have ft13 := hT3.frozen 1
           have fv03 := x13.frozen 0
           have fv13 := x13.frozen 1
           have cd3 := ((((b2.trans (hb1.mono b2.size)).trans (hb2.mono (Nat.le_trans b2.size hb1.size))).trans (b3.mono (Nat.le_trans b2.size (Nat.le_trans hb1.size hb2.size)))).cell (p := ⟨bq, off + tn * 3 + 1 + 1, none⟩) hbq).trans cd)
        | (go_at_call 35; refine (l6In_any _ _ _ _).mono ?_; rintro e w' ⟨rfl, rfl⟩))
        have hz1 := b2.size
        have hz2 := hb1.size
        have hz4 := hb2.size
        have hz0 := HZ0.out
        have hbe3 : Below w.heap.size w (w2.alloc (.cells #[.slice Q0 k c0, .slice O0 k1 e0] 26)) := below_ext (b2.trans ((hb1.mono (by omega)).trans (hb2.mono (by omega)))) (below_box _ _)
        have hRR := (x13.set_ 0 (.slice Q0 k c0)).set_ 1 (.slice O0 k1 e0)
        simp only [List.set_cons_zero, List.set_cons_succ] at hRR
        obtain ⟨r0, r1⟩ := hRR.cells2
        refine bodyPost_ret (v := .tuple #[.agg #[.slice Q0 k c0, .slice O0 k1 e0], .bool false]) (by simp [results, Try.results11, go_sem, r0, r1]) rfl ?_
        refine ⟨[.slice Q0 k c0, .slice O0 k1 e0], by rw [HB.out], ?_, (hbe3.setCell (by dsimp only; omega) _).setCell (by dsimp only; omega) _⟩
        rw [HB.out]
        exact out_copy hCk (fun b n1 n2 => by rw [Below.heap_setCell _ _ _ b (by dsimp only; omega), Below.heap_setCell _ _ _ b (by dsimp only; omega)]; exact b3.block b n2) (by omega) (by simp)
    · have hin1 : (decide ((0 : Int) ≤ t) && decide (t ≤ (m0 : Int) - 1)) = false := by
        cases h1 : (decide ((0 : Int) ≤ t) && decide (t ≤ (m0 : Int) - 1))
        · rfl
        · exact absurd (by simpa using h1) hin
      have HB := Lib.hid (show timeoutQ q t = (q, false) by unfold timeoutQ; rw [hb, if_pos rfl, openQ_out (by rw [hl0]; exact hin)])
      clear hin
      go_enter Try.func11, Try.ntmps11
      go_wp2_with (first
        | (go_at_call 13; refine (specCoordinatorValid_any _ q _ (repCo.next hv b2)).mono ?_; rintro e1 w1 ⟨rfl, hb1⟩
           have x01 := x0.next hb1
           have x11 := x1.next hb1
           obtain ⟨y01, y11⟩ := x01.cells2
           obtain ⟨v01, v11⟩ := x11.cells2
           have fv01 := x11.frozen 0
           have fv11 := x11.frozen 1)
        | (go_at_call 34; refine (l22Copy_any _ q _ (repCo.next (repCo.next hv b2) hb1) (coB_small hb)).mono ?_; rintro e3 w2 ⟨csC, rfl, hC, hb2⟩
           have hCk := hC
           obtain ⟨Q0, k, c0, O0, k1, e0, S1, S2, rfl, q1, q2, q3, hSX, hSO⟩ := sepCo_cells hC
           have hkl := hSX.1
           have hr0c := ((hr0.next b2).next hb1).next hb2
           have b3 := below_box w2 (.cells #[.slice Q0 k c0, .slice O0 k1 e0] 26)
           have x03 := (x01.next hb2).next b3
           have x13 := (x11.next hb2).next b3
           have hT3 := Blk.new w2 26 [.slice Q0 k c0, .slice O0 k1 e0]
           obtain ⟨y03, y13⟩ := x03.cells2
           obtain ⟨v03, v13⟩ := x13.cells2
           obtain ⟨t03, t13⟩ := hT3.cells2
           have ft03 := hT3.frozen 0
           have ft13 := hT3.frozen 1
           have fv03 := x13.frozen 0
           have fv13 := x13.frozen 1)
        | (go_at_call 35; refine (l6In_any _ _ _ _).mono ?_; rintro e w' ⟨rfl, rfl⟩))
      have hz1 := b2.size
      have hz2 := hb1.size
      have hz4 := hb2.size
      have hz0 := HZ0.out
      have hbe3 : Below w.heap.size w (w2.alloc (.cells #[.slice Q0 k c0, .slice O0 k1 e0] 26)) := below_ext (b2.trans ((hb1.mono (by omega)).trans (hb2.mono (by omega)))) (below_box _ _)
      have hRR := (x13.set_ 0 (.slice Q0 k c0)).set_ 1 (.slice O0 k1 e0)
      simp only [List.set_cons_zero, List.set_cons_succ] at hRR
      obtain ⟨r0, r1⟩ := hRR.cells2
      refine bodyPost_ret (v := .tuple #[.agg #[.slice Q0 k c0, .slice O0 k1 e0], .bool false]) (by simp [results, Try.results11, go_sem, r0, r1]) rfl ?_
      refine ⟨[.slice Q0 k c0, .slice O0 k1 e0], by rw [HB.out], ?_, (hbe3.setCell (by dsimp only; omega) _).setCell (by dsimp only; omega) _⟩
      rw [HB.out]
      exact out_copy hCk (fun b n1 n2 => by rw [Below.heap_setCell _ _ _ b (by dsimp only; omega), Below.heap_setCell _ _ _ b (by dsimp only; omega)]; exact b3.block b n2) (by omega) (by simp)
  · have hb' : coB q = false := by simpa using hb
    have HB := Lib.hid (show timeoutQ q t = (noQ, false) by unfold timeoutQ; rw [hb']; rfl)
    go_enter Try.func11, Try.ntmps11
    go_wp2_with (first
        | (go_at_call 13; refine (specCoordinatorValid_any _ q _ (repCo.next hv b2)).mono ?_; rintro e1 w1 ⟨rfl, hb1⟩
           have x01 := x0.next hb1
           have x11 := x1.next hb1
           obtain ⟨y01, y11⟩ := x01.cells2
           obtain ⟨v01, v11⟩ := x11.cells2
           have fv01 := x11.frozen 0
           have fv11 := x11.frozen 1))
    have hz1 := b2.size
    have hz0 := HZ0.out
    have hbe3 : Below w.heap.size w w1 := b2.trans (hb1.mono (by omega))
    have hRR := (x11.set_ 0 (.slice none 0 0)).set_ 1 (.slice none 0 0)
    simp only [List.set_cons_zero, List.set_cons_succ] at hRR
    obtain ⟨r0, r1⟩ := hRR.cells2
    refine bodyPost_ret (v := .tuple #[.agg #[.slice none 0 0, .slice none 0 0], .bool false]) (by simp [results, Try.results11, go_sem, r0, r1]) rfl ?_
    refine ⟨[.slice none 0 0, .slice none 0 0], by rw [HB.out], ?_, (hbe3.setCell (by dsimp only; omega) _).setCell (by dsimp only; omega) _⟩
    rw [HB.out]
    exact noQ_sep
end Go.Proofs.Ytlmcejpjhdaanaa
