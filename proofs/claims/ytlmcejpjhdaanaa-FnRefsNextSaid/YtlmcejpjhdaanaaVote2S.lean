/- Walks: the reference's CoordinatorVote. -/
import Derived.Test.YtlmcejpjhdaanaaVoteS
namespace Go.Proofs.Ytlmcejpjhdaanaa
open Go.RowKit Go.Sort

set_option maxRecDepth 100000 in
set_option maxHeartbeats 3200000 in
theorem specVote_any (cs : List Value) (q : Co) (t s : Int) (yes : Bool) (w : World) (hv : repCo.V 0 w cs q) :
    Calls Try.prog 59 #[.agg cs.toArray, .int .i64 t, .int .i64 s, .bool yes] w (CoTo2 w (voteQ q t s yes)) := by
  obtain ⟨B0, m0, d0, B1, m1, d1, rfl, hr0, hm0, -, hm1⟩ := repCo_cells hv
  have hl0 := hr0.1
  have b2 : Below w.heap.size w ((w.alloc (.cells #[.slice B0 m0 d0, .slice B1 m1 d1] 26)).alloc (.cells #[.slice none 0 0, .slice none 0 0] 26)) := below_ext (below_box w _) (below_box _ _)
  have x0 : Blk ((w.alloc (.cells #[.slice B0 m0 d0, .slice B1 m1 d1] 26)).alloc (.cells #[.slice none 0 0, .slice none 0 0] 26)) w.heap.size 26 [.slice B0 m0 d0, .slice B1 m1 d1] := (Blk.new w _ _).alloc _
  have x1 : Blk ((w.alloc (.cells #[.slice B0 m0 d0, .slice B1 m1 d1] 26)).alloc (.cells #[.slice none 0 0, .slice none 0 0] 26)) (w.heap.size + 1) 26 [.slice none 0 0, .slice none 0 0] := by simpa using Blk.new (w.alloc (.cells #[.slice B0 m0 d0, .slice B1 m1 d1] 26)) 26 [.slice none 0 0, .slice none 0 0]
  obtain ⟨y0, y1⟩ := x0.cells2
  have HZ0 := Lib.hid (show ((w.alloc (.cells #[.slice B0 m0 d0, .slice B1 m1 d1] 26)).alloc (.cells #[.slice none 0 0, .slice none 0 0] 26)).heap.size = w.heap.size + 2 by simp)
  have hmm : m0 ≤ maxLen := hm0
  unfold maxLen at hmm
  have hwr : IntKind.i64.wrap ((m0 : Int) - 1) = (m0 : Int) - 1 := by rw [IntKind.wrap_i64]; omega
  by_cases hb : coB q = true
  · by_cases hin : 0 ≤ t ∧ t ≤ (m0 : Int) - 1
    · obtain ⟨tn, rfl⟩ : ∃ tn : Nat, t = (tn : Int) := ⟨t.toNat, by omega⟩
      have hlt : tn < m0 := by omega
      obtain ⟨bq, off, x, cs', rfl, hbq, hx, hcx, hvx⟩ := hr0.at_ hlt
      obtain ⟨P0, p0, f0, P1, p1, f1, rfl, hrp, hmp, hrv, hmv⟩ := repTx_cells hvx
      have dq0 : w.cell? ⟨bq, off + tn * 3, none⟩ = some (.slice P0 p0 f0) := hcx 0 _ rfl
      have dq1 : w.cell? ⟨bq, off + tn * 3 + 1, none⟩ = some (.slice P1 p1 f1) := hcx 1 _ rfl
      have dq2 : w.cell? ⟨bq, off + tn * 3 + 1 + 1, none⟩ = some (.int .i64 x.dec) := hcx 2 _ rfl
      have hin1 : decide ((0 : Int) ≤ (tn : Int)) = true := by simp
      have hin2 : decide ((tn : Int) ≤ (m0 : Int) - 1) = true := by simp; omega
      have hlv := hrv.1
      have hlen : x.vs.length = x.ps.length := (txB_parts ((coB_parts hb).1 x (List.mem_of_getElem? hx))).2.1
      clear hcx hvx
      cases hsh : shAt x.ps s with
      | none =>
        have HSH := Lib.hid hsh
        have HB := Lib.hid (show voteQ q (tn : Int) s yes = (q, false) by
          unfold voteQ; rw [hb, if_pos rfl, openQ_in hx]
          by_cases hd : x.dec = 0
          · rw [if_pos hd]; simp only [hsh]
          · rw [if_neg hd])
        clear hsh
        go_enter Try.func59, Try.ntmps59
        go_wp2_with (first
        | (go_at_call 13; refine (specCoordinatorValid_any _ q _ (repCo.next hv b2)).mono ?_; rintro e1 w1 ⟨rfl, hb1⟩
           have x01 := x0.next hb1
           have x11 := x1.next hb1
           obtain ⟨y01, y11⟩ := x01.cells2
           obtain ⟨v01, v11⟩ := x11.cells2
           have fv01 := x11.frozen 0
           have fv11 := x11.frozen 1
           have bw1 : Below w.heap.size w w1 := b2.trans (hb1.mono b2.size)
           have d10 := (bw1.cell (p := ⟨bq, off + tn * 3, none⟩) hbq).trans dq0
           have d11 := (bw1.cell (p := ⟨bq, off + tn * 3 + 1, none⟩) hbq).trans dq1
           have d12 := (bw1.cell (p := ⟨bq, off + tn * 3 + 1 + 1, none⟩) hbq).trans dq2)
        | (go_at_call 35; refine (l6In_any _ _ _ _).mono ?_; rintro e w' ⟨rfl, rfl⟩)
        | (go_at_call 76; refine (l22Shard_any _ _ _ x.ps _ _ (hrp.next bw1) hmp).mono ?_; rintro e w' ⟨rfl, rfl⟩; (try rw [HSH.out]); (try simp only [idxI]))
        | (go_at_call 34; refine (l22Copy_any _ q _ (repCo.next (repCo.next hv b2) hb1) (coB_small hb)).mono ?_; rintro e3 w2 ⟨csC, rfl, hC, hb2⟩
           have hCk := hC
           obtain ⟨Q0, k, c0, O0, k1, e0, S1, S2, rfl, q1, q2, q3, hSX, hSO⟩ := sepCo_cells hC
           have hkl := hSX.1
           have hr0c := ((hr0.next b2).next hb1).next hb2
           have x03 := x01.next hb2
           have x13 := x11.next hb2
           obtain ⟨y03, y13⟩ := x03.cells2
           obtain ⟨v03, v13⟩ := x13.cells2
           have fv03 := x13.frozen 0
           have fv13 := x13.frozen 1))
        have hz1 := b2.size
        have hz2 := hb1.size
        have hz4 := hb2.size
        have hz0 := HZ0.out
        have hbe3 : Below w.heap.size w (w2) := b2.trans ((hb1.mono (by omega)).trans (hb2.mono (by omega)))
        have hRR := (x13.set_ 0 (.slice Q0 k c0)).set_ 1 (.slice O0 k1 e0)
        simp only [List.set_cons_zero, List.set_cons_succ] at hRR
        obtain ⟨r0, r1⟩ := hRR.cells2
        refine bodyPost_ret (v := .tuple #[.agg #[.slice Q0 k c0, .slice O0 k1 e0], .bool false]) (by simp [results, Try.results59, go_sem, r0, r1]) rfl ?_
        refine ⟨[.slice Q0 k c0, .slice O0 k1 e0], by rw [HB.out], ?_, (hbe3.setCell (by dsimp only; omega) _).setCell (by dsimp only; omega) _⟩
        rw [HB.out]
        exact out_copy hCk (fun b n1 n2 => by rw [Below.heap_setCell _ _ _ b (by dsimp only; omega), Below.heap_setCell _ _ _ b (by dsimp only; omega)]) (by omega) (by simp)
      | some kv =>
        have HSH := Lib.hid hsh
        obtain ⟨p, hp, -⟩ := shAt_lt hsh
        have hkv : kv < x.vs.length := by have := (List.getElem?_eq_some_iff.1 hp).1; omega
        have hk0 : ¬ ((kv : Int) < 0) := by omega
        obtain ⟨bv, ov, v, cv, rfl, hbv, hvk, hcv, hvv⟩ := hrv.at_ (show kv < p1 by omega)
        have hv1 := hvv.1
        subst hv1
        have dv : w.cell? ⟨bv, ov + kv, none⟩ = some (.int .i64 v) := by
          have := hcv 0 _ rfl
          rwa [show ov + kv * repIntW.sz + 0 = ov + kv by show ov + kv * 1 + 0 = ov + kv; omega] at this
        clear hcv hvv hp
        by_cases hd : x.dec = 0
        · by_cases hz : v = 0
          · have HB := Lib.hid (show voteQ q (tn : Int) s yes = (vote1 q tn x kv yes, true) by
              unfold voteQ; rw [hb, if_pos rfl, openQ_in hx, if_pos hd]; simp only [hsh]; rw [hvk, hz, if_pos rfl]; rfl)
            rw [hd] at dq2
            rw [hz] at dv
            clear hsh hvk
            go_enter Try.func59, Try.ntmps59
            go_wp2_with (first
        | (go_at_call 13; refine (specCoordinatorValid_any _ q _ (repCo.next hv b2)).mono ?_; rintro e1 w1 ⟨rfl, hb1⟩
           have x01 := x0.next hb1
           have x11 := x1.next hb1
           obtain ⟨y01, y11⟩ := x01.cells2
           obtain ⟨v01, v11⟩ := x11.cells2
           have fv01 := x11.frozen 0
           have fv11 := x11.frozen 1
           have bw1 : Below w.heap.size w w1 := b2.trans (hb1.mono b2.size)
           have d10 := (bw1.cell (p := ⟨bq, off + tn * 3, none⟩) hbq).trans dq0
           have d11 := (bw1.cell (p := ⟨bq, off + tn * 3 + 1, none⟩) hbq).trans dq1
           have d12 := (bw1.cell (p := ⟨bq, off + tn * 3 + 1 + 1, none⟩) hbq).trans dq2
           have d13 := (bw1.cell (p := ⟨bv, ov + kv, none⟩) hbv).trans dv)
        | (go_at_call 35; refine (l6In_any _ _ _ _).mono ?_; rintro e w' ⟨rfl, rfl⟩)
        | (go_at_call 76; refine (l22Shard_any _ _ _ x.ps _ _ (hrp.next bw1) hmp).mono ?_; rintro e w' ⟨rfl, rfl⟩; (try rw [HSH.out]); (try simp only [idxI]))
        | (go_at_call 80; refine (l22Vote_any _ q tn kv x yes _ (repCo.next (repCo.next hv b2) hb1) (coB_small hb) hx hkv).mono ?_; rintro e3 w2 ⟨csC, rfl, hC, hb2⟩
           have hCk := hC
           obtain ⟨Q0, k, c0, O0, k1, e0, S1, S2, rfl, q1, q2, q3, hSX, hSO⟩ := sepCo_cells hC
           have hkl := hSX.1
           have hr0c := ((hr0.next b2).next hb1).next hb2
           have x03 := x01.next hb2
           have x13 := x11.next hb2
           obtain ⟨y03, y13⟩ := x03.cells2
           obtain ⟨v03, v13⟩ := x13.cells2
           have fv03 := x13.frozen 0
           have fv13 := x13.frozen 1))
            have hz1 := b2.size
            have hz2 := hb1.size
            have hz4 := hb2.size
            have hz0 := HZ0.out
            have hbe3 : Below w.heap.size w (w2) := b2.trans ((hb1.mono (by omega)).trans (hb2.mono (by omega)))
            have hRR := (x13.set_ 0 (.slice Q0 k c0)).set_ 1 (.slice O0 k1 e0)
            simp only [List.set_cons_zero, List.set_cons_succ] at hRR
            obtain ⟨r0, r1⟩ := hRR.cells2
            refine bodyPost_ret (v := .tuple #[.agg #[.slice Q0 k c0, .slice O0 k1 e0], .bool true]) (by simp [results, Try.results59, go_sem, r0, r1]) rfl ?_
            refine ⟨[.slice Q0 k c0, .slice O0 k1 e0], by rw [HB.out], ?_, (hbe3.setCell (by dsimp only; omega) _).setCell (by dsimp only; omega) _⟩
            rw [HB.out]
            exact out_copy hCk (fun b n1 n2 => by rw [Below.heap_setCell _ _ _ b (by dsimp only; omega), Below.heap_setCell _ _ _ b (by dsimp only; omega)]) (by omega) (by simp)
          · have HB := Lib.hid (show voteQ q (tn : Int) s yes = (q, false) by
              unfold voteQ; rw [hb, if_pos rfl, openQ_in hx, if_pos hd]; simp only [hsh]; rw [hvk, if_neg (by intro e; injection e with e; exact hz e)])
            rw [hd] at dq2
            have hzb : (v != 0) = true := by simpa using hz
            clear hsh hvk
            go_enter Try.func59, Try.ntmps59
            go_wp2_with (first
        | (go_at_call 13; refine (specCoordinatorValid_any _ q _ (repCo.next hv b2)).mono ?_; rintro e1 w1 ⟨rfl, hb1⟩
           have x01 := x0.next hb1
           have x11 := x1.next hb1
           obtain ⟨y01, y11⟩ := x01.cells2
           obtain ⟨v01, v11⟩ := x11.cells2
           have fv01 := x11.frozen 0
           have fv11 := x11.frozen 1
           have bw1 : Below w.heap.size w w1 := b2.trans (hb1.mono b2.size)
           have d10 := (bw1.cell (p := ⟨bq, off + tn * 3, none⟩) hbq).trans dq0
           have d11 := (bw1.cell (p := ⟨bq, off + tn * 3 + 1, none⟩) hbq).trans dq1
           have d12 := (bw1.cell (p := ⟨bq, off + tn * 3 + 1 + 1, none⟩) hbq).trans dq2
           have d13 := (bw1.cell (p := ⟨bv, ov + kv, none⟩) hbv).trans dv)
        | (go_at_call 35; refine (l6In_any _ _ _ _).mono ?_; rintro e w' ⟨rfl, rfl⟩)
        | (go_at_call 76; refine (l22Shard_any _ _ _ x.ps _ _ (hrp.next bw1) hmp).mono ?_; rintro e w' ⟨rfl, rfl⟩; (try rw [HSH.out]); (try simp only [idxI]))
        | (go_at_call 34; refine (l22Copy_any _ q _ (repCo.next (repCo.next hv b2) hb1) (coB_small hb)).mono ?_; rintro e3 w2 ⟨csC, rfl, hC, hb2⟩
           have hCk := hC
           obtain ⟨Q0, k, c0, O0, k1, e0, S1, S2, rfl, q1, q2, q3, hSX, hSO⟩ := sepCo_cells hC
           have hkl := hSX.1
           have hr0c := ((hr0.next b2).next hb1).next hb2
           have x03 := x01.next hb2
           have x13 := x11.next hb2
           obtain ⟨y03, y13⟩ := x03.cells2
           obtain ⟨v03, v13⟩ := x13.cells2
           have fv03 := x13.frozen 0
           have fv13 := x13.frozen 1))
            have hz1 := b2.size
            have hz2 := hb1.size
            have hz4 := hb2.size
            have hz0 := HZ0.out
            have hbe3 : Below w.heap.size w (w2) := b2.trans ((hb1.mono (by omega)).trans (hb2.mono (by omega)))
            have hRR := (x13.set_ 0 (.slice Q0 k c0)).set_ 1 (.slice O0 k1 e0)
            simp only [List.set_cons_zero, List.set_cons_succ] at hRR
            obtain ⟨r0, r1⟩ := hRR.cells2
            refine bodyPost_ret (v := .tuple #[.agg #[.slice Q0 k c0, .slice O0 k1 e0], .bool false]) (by simp [results, Try.results59, go_sem, r0, r1]) rfl ?_
            refine ⟨[.slice Q0 k c0, .slice O0 k1 e0], by rw [HB.out], ?_, (hbe3.setCell (by dsimp only; omega) _).setCell (by dsimp only; omega) _⟩
            rw [HB.out]
            exact out_copy hCk (fun b n1 n2 => by rw [Below.heap_setCell _ _ _ b (by dsimp only; omega), Below.heap_setCell _ _ _ b (by dsimp only; omega)]) (by omega) (by simp)
        · have HB := Lib.hid (show voteQ q (tn : Int) s yes = (q, false) by unfold voteQ; rw [hb, if_pos rfl, openQ_in hx, if_neg hd])
          clear hsh hvk
          go_enter Try.func59, Try.ntmps59
          go_wp2_with (first
        | (go_at_call 13; refine (specCoordinatorValid_any _ q _ (repCo.next hv b2)).mono ?_; rintro e1 w1 ⟨rfl, hb1⟩
           have x01 := x0.next hb1
           have x11 := x1.next hb1
           obtain ⟨y01, y11⟩ := x01.cells2
           obtain ⟨v01, v11⟩ := x11.cells2
           have fv01 := x11.frozen 0
           have fv11 := x11.frozen 1
           have bw1 : Below w.heap.size w w1 := b2.trans (hb1.mono b2.size)
           have d10 := (bw1.cell (p := ⟨bq, off + tn * 3, none⟩) hbq).trans dq0
           have d11 := (bw1.cell (p := ⟨bq, off + tn * 3 + 1, none⟩) hbq).trans dq1
           have d12 := (bw1.cell (p := ⟨bq, off + tn * 3 + 1 + 1, none⟩) hbq).trans dq2
           have d13 := (bw1.cell (p := ⟨bv, ov + kv, none⟩) hbv).trans dv)
        | (go_at_call 35; refine (l6In_any _ _ _ _).mono ?_; rintro e w' ⟨rfl, rfl⟩)
        | (go_at_call 76; refine (l22Shard_any _ _ _ x.ps _ _ (hrp.next bw1) hmp).mono ?_; rintro e w' ⟨rfl, rfl⟩; (try rw [HSH.out]); (try simp only [idxI]))
        | (go_at_call 34; refine (l22Copy_any _ q _ (repCo.next (repCo.next hv b2) hb1) (coB_small hb)).mono ?_; rintro e3 w2 ⟨csC, rfl, hC, hb2⟩
           have hCk := hC
           obtain ⟨Q0, k, c0, O0, k1, e0, S1, S2, rfl, q1, q2, q3, hSX, hSO⟩ := sepCo_cells hC
           have hkl := hSX.1
           have hr0c := ((hr0.next b2).next hb1).next hb2
           have x03 := x01.next hb2
           have x13 := x11.next hb2
           obtain ⟨y03, y13⟩ := x03.cells2
           obtain ⟨v03, v13⟩ := x13.cells2
           have fv03 := x13.frozen 0
           have fv13 := x13.frozen 1))
          have hz1 := b2.size
          have hz2 := hb1.size
          have hz4 := hb2.size
          have hz0 := HZ0.out
          have hbe3 : Below w.heap.size w (w2) := b2.trans ((hb1.mono (by omega)).trans (hb2.mono (by omega)))
          have hRR := (x13.set_ 0 (.slice Q0 k c0)).set_ 1 (.slice O0 k1 e0)
          simp only [List.set_cons_zero, List.set_cons_succ] at hRR
          obtain ⟨r0, r1⟩ := hRR.cells2
          refine bodyPost_ret (v := .tuple #[.agg #[.slice Q0 k c0, .slice O0 k1 e0], .bool false]) (by simp [results, Try.results59, go_sem, r0, r1]) rfl ?_
          refine ⟨[.slice Q0 k c0, .slice O0 k1 e0], by rw [HB.out], ?_, (hbe3.setCell (by dsimp only; omega) _).setCell (by dsimp only; omega) _⟩
          rw [HB.out]
          exact out_copy hCk (fun b n1 n2 => by rw [Below.heap_setCell _ _ _ b (by dsimp only; omega), Below.heap_setCell _ _ _ b (by dsimp only; omega)]) (by omega) (by simp)
    · have hin1 : (decide ((0 : Int) ≤ t) && decide (t ≤ (m0 : Int) - 1)) = false := by
        cases h1 : (decide ((0 : Int) ≤ t) && decide (t ≤ (m0 : Int) - 1))
        · rfl
        · exact absurd (by simpa using h1) hin
      have HB := Lib.hid (show voteQ q t s yes = (q, false) by unfold voteQ; rw [hb, if_pos rfl, openQ_out (by rw [hl0]; exact hin)])
      clear hin
      go_enter Try.func59, Try.ntmps59
      go_wp2_with (first
        | (go_at_call 13; refine (specCoordinatorValid_any _ q _ (repCo.next hv b2)).mono ?_; rintro e1 w1 ⟨rfl, hb1⟩
           have x01 := x0.next hb1
           have x11 := x1.next hb1
           obtain ⟨y01, y11⟩ := x01.cells2
           obtain ⟨v01, v11⟩ := x11.cells2
           have fv01 := x11.frozen 0
           have fv11 := x11.frozen 1)
        | (go_at_call 35; refine (l6In_any _ _ _ _).mono ?_; rintro e w' ⟨rfl, rfl⟩)
        | (go_at_call 34; refine (l22Copy_any _ q _ (repCo.next (repCo.next hv b2) hb1) (coB_small hb)).mono ?_; rintro e3 w2 ⟨csC, rfl, hC, hb2⟩
           have hCk := hC
           obtain ⟨Q0, k, c0, O0, k1, e0, S1, S2, rfl, q1, q2, q3, hSX, hSO⟩ := sepCo_cells hC
           have hkl := hSX.1
           have hr0c := ((hr0.next b2).next hb1).next hb2
           have x03 := x01.next hb2
           have x13 := x11.next hb2
           obtain ⟨y03, y13⟩ := x03.cells2
           obtain ⟨v03, v13⟩ := x13.cells2
           have fv03 := x13.frozen 0
           have fv13 := x13.frozen 1))
      have hz1 := b2.size
      have hz2 := hb1.size
      have hz4 := hb2.size
      have hz0 := HZ0.out
      have hbe3 : Below w.heap.size w (w2) := b2.trans ((hb1.mono (by omega)).trans (hb2.mono (by omega)))
      have hRR := (x13.set_ 0 (.slice Q0 k c0)).set_ 1 (.slice O0 k1 e0)
      simp only [List.set_cons_zero, List.set_cons_succ] at hRR
      obtain ⟨r0, r1⟩ := hRR.cells2
      refine bodyPost_ret (v := .tuple #[.agg #[.slice Q0 k c0, .slice O0 k1 e0], .bool false]) (by simp [results, Try.results59, go_sem, r0, r1]) rfl ?_
      refine ⟨[.slice Q0 k c0, .slice O0 k1 e0], by rw [HB.out], ?_, (hbe3.setCell (by dsimp only; omega) _).setCell (by dsimp only; omega) _⟩
      rw [HB.out]
      exact out_copy hCk (fun b n1 n2 => by rw [Below.heap_setCell _ _ _ b (by dsimp only; omega), Below.heap_setCell _ _ _ b (by dsimp only; omega)]) (by omega) (by simp)
  · have hb' : coB q = false := by simpa using hb
    have HB := Lib.hid (show voteQ q t s yes = (noQ, false) by unfold voteQ; rw [hb']; rfl)
    go_enter Try.func59, Try.ntmps59
    go_wp2_with (first
        | (go_at_call 13; refine (specCoordinatorValid_any _ q _ (repCo.next hv b2)).mono ?_; rintro e1 w1 ⟨rfl, hb1⟩
           have x01 := x0.next hb1
           have x11 := x1.next hb1
           obtain ⟨y01, y11⟩ := x01.cells2
           obtain ⟨v01, v11⟩ := x11.cells2
           have fv01 := x11.frozen 0
           have fv11 := x11.frozen 1))
    have hz1 := b2.size
    have hz0 := HZ0.out
    have hbe3 : Below w.heap.size w w1 := b2.trans (hb1.mono (by omega))
    have hRR := (x11.set_ 0 (.slice none 0 0)).set_ 1 (.slice none 0 0)
    simp only [List.set_cons_zero, List.set_cons_succ] at hRR
    obtain ⟨r0, r1⟩ := hRR.cells2
    refine bodyPost_ret (v := .tuple #[.agg #[.slice none 0 0, .slice none 0 0], .bool false]) (by simp [results, Try.results59, go_sem, r0, r1]) rfl ?_
    refine ⟨[.slice none 0 0, .slice none 0 0], by rw [HB.out], ?_, (hbe3.setCell (by dsimp only; omega) _).setCell (by dsimp only; omega) _⟩
    rw [HB.out]
    exact noQ_sep
end Go.Proofs.Ytlmcejpjhdaanaa
