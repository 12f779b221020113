/- Walks: the program's CoordinatorTimeout. -/
import Derived.Test.YtlmcejpjhdaanaaCoM
import Derived.Test.YtlmcejpjhdaanaaCopyI
import Derived.Test.YtlmcejpjhdaanaaCoI
import Derived.Test.YtlmcejpjhdaanaaWaits
namespace Go.Proofs.Ytlmcejpjhdaanaa
open Go.RowKit Go.Sort

set_option maxRecDepth 100000 in
set_option maxHeartbeats 3200000 in
theorem implTimeout_any (cs : List Value) (q : Co) (t : Int) (w : World) (hv : repCo.V 0 w cs q) (hbig : q.ord.length ≤ 100000000) (hbig0 : q.ts.length ≤ 100000000) :
    Calls Try.prog 10 #[.agg cs.toArray, .int .i64 t] w (CoTo2 w (timeoutQ q t)) := by
  obtain ⟨B0, m0, d0, B1, m1, d1, rfl, hr0, hm0, -, hm1⟩ := repCo_cells hv
  have b2 : Below w.heap.size w ((w.alloc (.cells #[.slice B0 m0 d0, .slice B1 m1 d1] 26)).alloc (.cells #[.slice none 0 0, .slice none 0 0] 26)) := below_ext (below_box w _) (below_box _ _)
  have x0 : Blk ((w.alloc (.cells #[.slice B0 m0 d0, .slice B1 m1 d1] 26)).alloc (.cells #[.slice none 0 0, .slice none 0 0] 26)) w.heap.size 26 [.slice B0 m0 d0, .slice B1 m1 d1] := (Blk.new w _ _).alloc _
  have x1 : Blk ((w.alloc (.cells #[.slice B0 m0 d0, .slice B1 m1 d1] 26)).alloc (.cells #[.slice none 0 0, .slice none 0 0] 26)) (w.heap.size + 1) 26 [.slice none 0 0, .slice none 0 0] := by simpa using Blk.new (w.alloc (.cells #[.slice B0 m0 d0, .slice B1 m1 d1] 26)) 26 [.slice none 0 0, .slice none 0 0]
  obtain ⟨y0, y1⟩ := x0.cells2
  have HZ0 := Lib.hid (show ((w.alloc (.cells #[.slice B0 m0 d0, .slice B1 m1 d1] 26)).alloc (.cells #[.slice none 0 0, .slice none 0 0] 26)).heap.size = w.heap.size + 2 by simp)
  go_enter Try.func10, Try.ntmps10
  go_wp2_with fail
  refine (implCoordinatorValid_any _ q _ (repCo.next hv b2) hbig hbig0).mono ?_
  rintro e1 w1 ⟨rfl, hb1⟩
  have x01 := x0.next hb1
  have x11 := x1.next hb1
  obtain ⟨y01, y11⟩ := x01.cells2
  obtain ⟨v01, v11⟩ := x11.cells2
  have fv01 := x11.frozen 0
  have fv11 := x11.frozen 1
  have hv1 := repCo.next (repCo.next hv b2) hb1
  have hz1 := b2.size
  have hz2 := hb1.size
  have hbe1 : Below w.heap.size w w1 := b2.trans (hb1.mono (by have := HZ0.out; omega))
  clear y0 y1 x0
  cases hb : coB q
  · have HB := Lib.hid (show timeoutQ q t = (noQ, false) by unfold timeoutQ; rw [hb]; rfl)
    go_wp2_with fail
    have hRR := (x11.set_ 0 (.slice none 0 0)).set_ 1 (.slice none 0 0)
    simp only [List.set_cons_zero, List.set_cons_succ] at hRR
    obtain ⟨r0, r1⟩ := hRR.cells2
    refine bodyPost_ret (v := .tuple #[.agg #[.slice none 0 0, .slice none 0 0], .bool false]) (by simp [results, Try.results10, go_sem, r0, r1]) rfl ?_
    refine ⟨[.slice none 0 0, .slice none 0 0], by rw [HB.out], ?_, (hbe1.setCell (by dsimp only; omega) _).setCell (by dsimp only; omega) _⟩
    rw [HB.out]
    exact noQ_sep
  · go_wp2_with fail
    refine (copyCo_any _ q _ hv1 (coB_small hb)).mono ?_
    rintro e3 w2 ⟨csC, rfl, hC, hb2⟩
    have hCk := hC
    obtain ⟨Q0, k, c0, O0, k1, e0, S1, S2, rfl, q1, q2, q3, hSX, hSO⟩ := sepCo_cells hC
    have hkl := hSX.1
    have HKL := Lib.hid hkl
    clear hkl
    have hkm := hSX.small
    have b3 := below_box w2 (.cells #[.slice Q0 k c0, .slice O0 k1 e0] 26)
    have x13 := (x11.next hb2).next b3
    have hT3 := Blk.new w2 26 [.slice Q0 k c0, .slice O0 k1 e0]
    obtain ⟨t03, t13⟩ := hT3.cells2
    have hSX3 := hSX.next b3 (fun b hb2 => (q1 b hb2).2)
    have hz4 := hb2.size
    have hz5 := b3.size
    clear y01 y11 v01 v11 fv01 fv11 hv1 hC
    go_wp2_with fail
    refine (open_any Q0 k c0 _ q t _ (hSX3.reads.down (Nat.zero_le _)) (by omega) ⟨_, _, _, rfl⟩).mono ?_
    rintro e4 w4 ⟨hb4, ⟨hno, rfl⟩ | ⟨x, bq, off, tn, rfl, hx, hd, ho, hQ, rfl⟩⟩
    · have HB := Lib.hid (show timeoutQ q t = (q, false) by unfold timeoutQ; rw [hb, if_pos rfl, hno])
      clear hno
      have x14 := x13.next hb4
      have hT4 := hT3.next hb4
      obtain ⟨v04, v14⟩ := x14.cells2
      obtain ⟨t04, t14⟩ := hT4.cells2
      have fv04 := x14.frozen 0
      have fv14 := x14.frozen 1
      clear t03 t13
      go_wp2_with fail
      have hz0 := HZ0.out
      have hz6 := hb4.size
      have hbe3 : Below w.heap.size w w4 := hbe1.trans (((hb2.mono (by omega)).trans (b3.mono (by omega))).trans (hb4.mono (by omega)))
      have hRR := (x14.set_ 0 (.slice Q0 k c0)).set_ 1 (.slice O0 k1 e0)
      simp only [List.set_cons_zero, List.set_cons_succ] at hRR
      obtain ⟨r0, r1⟩ := hRR.cells2
      refine bodyPost_ret (v := .tuple #[.agg #[.slice Q0 k c0, .slice O0 k1 e0], .bool false]) (by simp [results, Try.results10, go_sem, r0, r1]) rfl ?_
      refine ⟨[.slice Q0 k c0, .slice O0 k1 e0], by rw [HB.out], ?_, (hbe3.setCell (by dsimp only; omega) _).setCell (by dsimp only; omega) _⟩
      rw [HB.out]
      exact out_copy hCk (fun b n1 n2 => by rw [Below.heap_setCell _ _ _ b (by dsimp only; omega), Below.heap_setCell _ _ _ b (by dsimp only; omega), hb4.block b (by omega)]; exact b3.block b n2) (by omega) (by simp only [sz_set]; omega)
    · have HB := Lib.hid (show timeoutQ q (tn : Int) = (⟨q.ts.set tn ⟨x.ps, x.vs, 3⟩, q.ord⟩, true) by unfold timeoutQ; rw [hb, if_pos rfl, ho]; rfl)
      have HX := Lib.hid hx
      clear ho hx hd
      obtain ⟨g, P4, p4, d4, V4, m4, e4', hAg, hSg, hlg, hgl, u0, u1, u2, fu, hml, -, -, -, -, -⟩ := (hSX3.next hb4 (fun b hb2 => by have := (q1 b hb2).2; omega)).txCells HX.out
      rw [hQ] at hAg
      injection hAg with hAg
      injection hAg with hA1 hA2
      subst hA1 hA2
      have hQ0 := hQ
      subst hQ0
      have hS4 := hSX3.next hb4 (fun b hb2 => by have := (q1 b hb2).2; omega)
      have hSO4 := (hSO.next b3 (fun b hb2 => (q2 b hb2).2)).next hb4 (fun b hb2 => by have := (q2 b hb2).2; omega)
      have x14 := x13.next hb4
      have hT4 := hT3.next hb4
      obtain ⟨v04, v14⟩ := x14.cells2
      obtain ⟨t04, t14⟩ := hT4.cells2
      have fv04 := x14.frozen 0
      have fv14 := x14.frozen 1
      have fu2 := fu (tn * 3 + 1 + 1)
      have fu2' : w4.frozen? ⟨bq, tn * 3 + 2, none⟩ = false := fu2
      have u2' : w4.cell? ⟨bq, tn * 3 + 2, none⟩ = some (.int .i64 x.dec) := u2
      clear t03 t13 u0 u1
      have hg2 := (q1 bq hSg).2
      have hg1 := (q1 bq hSg).1
      have hz0 := HZ0.out
      have hz6 := hb4.size
      have hne1 : w.heap.size + 1 ≠ bq := by omega
      have hne2 : w2.heap.size ≠ bq := by omega
      have hT5 := hT4.far (p := ⟨bq, tn * 3 + 2, none⟩) hne2 (.int .i64 3)
      have x15 := x14.far (p := ⟨bq, tn * 3 + 2, none⟩) hne1 (.int .i64 3)
      obtain ⟨t05, t15⟩ := hT5.cells2
      obtain ⟨v05, v15⟩ := x15.cells2
      have fv05 := x15.frozen 0
      have fv15 := x15.frozen 1
      have HS := Lib.hid (And.intro hg1 hz0)
      clear hz0 hne1 hne2 hg1
      simp only [Nat.zero_add] at *
      go_wp2_with fail
      have hz0 := HS.out.2
      have hbe3 : Below w.heap.size w w4 := hbe1.trans (((hb2.mono (by omega)).trans (b3.mono (by omega))).trans (hb4.mono (by omega)))
      have hRR := (x15.set_ 0 (.slice (some ⟨bq, 0, none⟩) k c0)).set_ 1 (.slice O0 k1 e0)
      simp only [List.set_cons_zero, List.set_cons_succ] at hRR
      obtain ⟨r0, r1⟩ := hRR.cells2
      have hS9 := hS4.setDec HX.out rfl 3
      have hSO9 := hSO4.kept (w' := w4.setCell ⟨bq, tn * 3 + 1 + 1, none⟩ (.int .i64 3)) (fun b hb2 => Below.heap_setCell _ ⟨bq, tn * 3 + 1 + 1, none⟩ _ b (fun (e : b = bq) => q3 bq hSg (e ▸ hb2)))
      refine bodyPost_ret (v := .tuple #[.agg #[.slice (some ⟨bq, 0, none⟩) k c0, .slice O0 k1 e0], .bool true]) (by simp [results, Try.results10, go_sem, r0, r1]) rfl ?_
      refine ⟨[.slice (some ⟨bq, 0, none⟩) k c0, .slice O0 k1 e0], by rw [HB.out], ?_, ((hbe3.setCell (by dsimp only; have := HS.out.1; omega) _).setCell (by dsimp only; omega) _).setCell (by dsimp only; omega) _⟩
      rw [HB.out]
      exact out_set hS9 hSO9 q1 q2 q3 (by omega) (fun b n1 n2 => by rw [Below.heap_setCell _ _ _ b (by dsimp only; omega), Below.heap_setCell _ _ _ b (by dsimp only; omega)]) (by simp only [sz_set]; omega)
end Go.Proofs.Ytlmcejpjhdaanaa
