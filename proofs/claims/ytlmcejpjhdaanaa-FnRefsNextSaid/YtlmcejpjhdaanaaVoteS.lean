/- Walks: the reference's l22Vote, CoordinatorVote. -/
import Derived.Test.YtlmcejpjhdaanaaShardS
import Derived.Deep.Cut
namespace Go.Proofs.Ytlmcejpjhdaanaa
open Go.RowKit Go.Sort

set_option maxRecDepth 100000 in
set_option maxHeartbeats 3200000 in
theorem l22Vote_any (cs : List Value) (q : Co) (tn kv : Nat) (x : Tx) (yes : Bool) (w : World) (hv : repCo.V 0 w cs q) (hsm : smallQ q) (hx : q.ts[tn]? = some x) (hk : kv < x.vs.length) :
    Calls Try.prog 80 #[.agg cs.toArray, .int .i64 tn, .int .i64 kv, .bool yes] w (CoTo w (vote1 q tn x kv yes)) := by
  obtain ⟨B0, m0, d0, B1, m1, d1, rfl, hr0, hm0, -, hm1⟩ := repCo_cells hv
  have hl0 := hr0.1
  have b2 : Below w.heap.size w ((w.alloc (.cells #[.slice B0 m0 d0, .slice B1 m1 d1] 26)).alloc (.cells #[.slice none 0 0, .slice none 0 0] 26)) := below_ext (below_box w _) (below_box _ _)
  have x0 : Blk ((w.alloc (.cells #[.slice B0 m0 d0, .slice B1 m1 d1] 26)).alloc (.cells #[.slice none 0 0, .slice none 0 0] 26)) w.heap.size 26 [.slice B0 m0 d0, .slice B1 m1 d1] := (Blk.new w _ _).alloc _
  have x1 : Blk ((w.alloc (.cells #[.slice B0 m0 d0, .slice B1 m1 d1] 26)).alloc (.cells #[.slice none 0 0, .slice none 0 0] 26)) (w.heap.size + 1) 26 [.slice none 0 0, .slice none 0 0] := by simpa using Blk.new (w.alloc (.cells #[.slice B0 m0 d0, .slice B1 m1 d1] 26)) 26 [.slice none 0 0, .slice none 0 0]
  obtain ⟨y0, y1⟩ := x0.cells2
  obtain ⟨v00, v01⟩ := x1.cells2
  have HZ0 := Lib.hid (show ((w.alloc (.cells #[.slice B0 m0 d0, .slice B1 m1 d1] 26)).alloc (.cells #[.slice none 0 0, .slice none 0 0] 26)).heap.size = w.heap.size + 2 by simp)
  have hmm : m0 ≤ maxLen := hm0
  unfold maxLen at hmm
  have hsmx := hsm.2.2 x (List.mem_of_getElem? hx)
  have htl : tn < q.ts.length := (List.getElem?_eq_some_iff.1 hx).1
  have hsm0 := hsm.1
  have hsm1 := hsm.2.1
  have hsmv := hsmx.2
  clear hr0 hm1
  cases yes
  · have HB := Lib.hid (show vote1 q tn x kv false = ⟨q.ts.set tn ⟨x.ps, x.vs.set kv (-1), 3⟩, q.ord⟩ by unfold vote1; rw [if_neg (by simp)])
    go_enter Try.func80, Try.ntmps80
    go_upto_region 2 with (first
        | (go_at_call 34; refine (l22Copy_any _ q _ (repCo.next hv b2) hsm).mono ?_; rintro e3 w2 ⟨csC, rfl, hC, hb2⟩
           obtain ⟨Q0, k, c0, O0, k1, e0, S1, S2, rfl, q1, q2, q3, hSX, hSO⟩ := sepCo_cells hC))
    have b3 := below_box w2 (.cells #[.slice Q0 k c0, .slice O0 k1 e0] 26)
    have x13 := (x1.next hb2).next b3
    have hT3 := Blk.new w2 26 [.slice Q0 k c0, .slice O0 k1 e0]
    have hSX3 := hSX.next b3 (fun b hb2 => (q1 b hb2).2)
    have hSO3 := hSO.next b3 (fun b hb2 => (q2 b hb2).2)
    have hkl := hSX.1
    have hkl1 := hSO.1
    have hz2 := hb2.size
    have hz3 := b3.size
    have hz1 := HZ0.out
    have hbe3 : Below w.heap.size w (w2.alloc (.cells #[.slice Q0 k c0, .slice O0 k1 e0] 26)) := below_ext (b2.trans (hb2.mono (by omega))) (below_box _ _)
    generalize hWx : (w2.alloc (.cells #[.slice Q0 k c0, .slice O0 k1 e0] 26)) = w3 at *
    have HWx := Lib.hid hWx
    clear hWx
    generalize hlo : ((w.alloc (.cells #[.slice B0 m0 d0, .slice B1 m1 d1] 26)).alloc (.cells #[.slice none 0 0, .slice none 0 0] 26)).heap.size = lo at *
    have HLO := Lib.hid hlo
    clear hlo hC hSX hSO x1 x0 y0 y1 v00 v01 b2 hb2
    obtain ⟨g, g2, m4, e4, rfl, hSg, hSg2, hg2g, hlg, hlg2, hgl, hgl2, hml, u1, u2, ue, fge, hri, hS4, w1, w2', fw2, hri4⟩ := vote_store hSX3 hx hk (-1) (by unfold wf64; omega)
    have hq2 := (q1 g hSg).2
    have hq2' := (q1 g2 hSg2).2
    have n1 : g ≠ w2.heap.size := by omega
    have n2 : g2 ≠ w2.heap.size := by omega
    have n3 : g ≠ w.heap.size + 1 := by omega
    have n4 : g2 ≠ w.heap.size + 1 := by omega
    have n5 : w2.heap.size ≠ w.heap.size + 1 := by omega
    have x14 := x13.far (p := ⟨g2, kv, none⟩) n4.symm (.int .i64 (-1))
    have hT4 := hT3.far (p := ⟨g2, kv, none⟩) n2.symm (.int .i64 (-1))
    have hO4 := hSO3.kept (w' := w3.setCell ⟨g2, kv, none⟩ (.int .i64 (-1))) (fun b hb => Below.heap_setCell _ ⟨g2, kv, none⟩ _ b (fun (e : b = g2) => q3 g2 hSg2 (e ▸ hb)))
    have hbe4 := hbe3.setCell (p := ⟨g2, kv, none⟩) (by dsimp only; omega) (.int .i64 (-1))
    obtain ⟨s0, s1⟩ := hT3.cells2
    obtain ⟨t0, t1⟩ := hT4.cells2
    have hT5 := hT4.far (p := ⟨g, tn * 3 + 1 + 1, none⟩) n1.symm (.int .i64 3)
    have x15 := x14.far (p := ⟨g, tn * 3 + 1 + 1, none⟩) n3.symm (.int .i64 3)
    have hS5 := hS4.setDec (k := tn) (x := ⟨x.ps, x.vs.set kv (-1), x.dec⟩) (by rw [List.getElem?_set_self htl]) rfl 3
    rw [List.set_set] at hS5
    have hO5 := hO4.kept (w' := (w3.setCell ⟨g2, kv, none⟩ (.int .i64 (-1))).setCell ⟨g, tn * 3 + 1 + 1, none⟩ (.int .i64 3)) (fun b hb => Below.heap_setCell _ ⟨g, tn * 3 + 1 + 1, none⟩ _ b (fun (e : b = g) => q3 g hSg (e ▸ hb)))
    have hbe5 := hbe4.setCell (p := ⟨g, tn * 3 + 1 + 1, none⟩) (by dsimp only; omega) (.int .i64 3)
    have hsz5 : ((w3.setCell ⟨g2, kv, none⟩ (.int .i64 (-1))).setCell ⟨g, tn * 3 + 1 + 1, none⟩ (.int .i64 3)).heap.size = w3.heap.size := by rw [sz_set, sz_set]
    obtain ⟨t50, t51⟩ := hT5.cells2
    obtain ⟨v50, v51⟩ := x15.cells2
    have fv50 := x15.frozen 0
    have fv51 := x15.frozen 1
    go_wp2_with fail
    have hRR := (x15.set_ 0 (.slice (some ⟨g, 0, none⟩) k c0)).set_ 1 (.slice O0 k1 e0)
    simp only [List.set_cons_zero, List.set_cons_succ] at hRR
    obtain ⟨r0, r1⟩ := hRR.cells2
    refine bodyPost_ret (v := .agg #[.slice (some ⟨g, 0, none⟩) k c0, .slice O0 k1 e0]) (by simp [results, Try.results80, go_sem, r0, r1]) rfl ?_
    refine ⟨[.slice (some ⟨g, 0, none⟩) k c0, .slice O0 k1 e0], rfl, ?_, (hbe5.setCell (by dsimp only; omega) _).setCell (by dsimp only; omega) _⟩
    rw [HB.out]
    exact out_set hS5 hO5 q1 q2 q3 (by omega) (fun b n1 n2 => by rw [Below.heap_setCell _ _ _ b (by dsimp only; omega), Below.heap_setCell _ _ _ b (by dsimp only; omega)]) (by rw [sz_set, sz_set, sz_set, sz_set]; omega)
  · go_enter Try.func80, Try.ntmps80
    go_upto_region 2 with (first
        | (go_at_call 34; refine (l22Copy_any _ q _ (repCo.next hv b2) hsm).mono ?_; rintro e3 w2 ⟨csC, rfl, hC, hb2⟩
           obtain ⟨Q0, k, c0, O0, k1, e0, S1, S2, rfl, q1, q2, q3, hSX, hSO⟩ := sepCo_cells hC))
    have b3 := below_box w2 (.cells #[.slice Q0 k c0, .slice O0 k1 e0] 26)
    have x13 := (x1.next hb2).next b3
    have hT3 := Blk.new w2 26 [.slice Q0 k c0, .slice O0 k1 e0]
    have hSX3 := hSX.next b3 (fun b hb2 => (q1 b hb2).2)
    have hSO3 := hSO.next b3 (fun b hb2 => (q2 b hb2).2)
    have hkl := hSX.1
    have hkl1 := hSO.1
    have hz2 := hb2.size
    have hz3 := b3.size
    have hz1 := HZ0.out
    have hbe3 : Below w.heap.size w (w2.alloc (.cells #[.slice Q0 k c0, .slice O0 k1 e0] 26)) := below_ext (b2.trans (hb2.mono (by omega))) (below_box _ _)
    generalize hWx : (w2.alloc (.cells #[.slice Q0 k c0, .slice O0 k1 e0] 26)) = w3 at *
    have HWx := Lib.hid hWx
    clear hWx
    generalize hlo : ((w.alloc (.cells #[.slice B0 m0 d0, .slice B1 m1 d1] 26)).alloc (.cells #[.slice none 0 0, .slice none 0 0] 26)).heap.size = lo at *
    have HLO := Lib.hid hlo
    clear hlo hC hSX hSO x1 x0 y0 y1 v00 v01 b2 hb2
    obtain ⟨g, g2, m4, e4, rfl, hSg, hSg2, hg2g, hlg, hlg2, hgl, hgl2, hml, u1, u2, ue, fge, hri, hS4, w1, w2', fw2, hri4⟩ := vote_store hSX3 hx hk 1 (by unfold wf64; omega)
    have hq2 := (q1 g hSg).2
    have hq2' := (q1 g2 hSg2).2
    have n1 : g ≠ w2.heap.size := by omega
    have n2 : g2 ≠ w2.heap.size := by omega
    have n3 : g ≠ w.heap.size + 1 := by omega
    have n4 : g2 ≠ w.heap.size + 1 := by omega
    have n5 : w2.heap.size ≠ w.heap.size + 1 := by omega
    have x14 := x13.far (p := ⟨g2, kv, none⟩) n4.symm (.int .i64 1)
    have hT4 := hT3.far (p := ⟨g2, kv, none⟩) n2.symm (.int .i64 1)
    have hO4 := hSO3.kept (w' := w3.setCell ⟨g2, kv, none⟩ (.int .i64 1)) (fun b hb => Below.heap_setCell _ ⟨g2, kv, none⟩ _ b (fun (e : b = g2) => q3 g2 hSg2 (e ▸ hb)))
    have hbe4 := hbe3.setCell (p := ⟨g2, kv, none⟩) (by dsimp only; omega) (.int .i64 1)
    obtain ⟨s0, s1⟩ := hT3.cells2
    obtain ⟨t0, t1⟩ := hT4.cells2
    have hsz4 : (w3.setCell ⟨g2, kv, none⟩ (.int .i64 1)).heap.size = w3.heap.size := by simp [World.setCell]
    go_wp2_with fail
    subst hml
    have hne4 : ∀ b, b ≠ g2 → (w3.setCell ⟨g2, kv, none⟩ (.int .i64 1)).heap[b]? = w3.heap[b]? := fun b hb => Below.heap_setCell _ ⟨g2, kv, none⟩ _ b (fun (e : b = g2) => hb e)
    clear s0 s1 u1 u2 ue fge hri hSX3 hSO3 hT3 x13 b3 hne4
    generalize hWy : w3.setCell ⟨g2, kv, none⟩ (.int .i64 1) = w4 at *
    clear hWy
    go_loopw [10] (fun i wr => ∃ j : Nat, j ≤ x.vs.length ∧ i = .int .i64 j ∧ wr = w4 ∧ Hid (∀ (a : Nat) (v : Int), (x.vs.set kv 1)[a]? = some v → a < j → v = 1)) (fun i _ => x.vs.length - (intOf i).toNat)
    case atStart => exact ⟨0, Nat.zero_le _, rfl, rfl, fun a v _ h => absurd h (by omega)⟩
    case round =>
      obtain ⟨j, hj, rfl, rfl, hH⟩ := hrel
      by_cases hlt : j < x.vs.length
      · have hje : (x.vs.set kv 1)[j]? = some ((x.vs.set kv 1)[j]'(by simpa using hlt)) := List.getElem?_eq_getElem _
        have hcj := rints_cell hri4 hje
        generalize hvj : (x.vs.set kv 1)[j]'(by simpa using hlt) = v at *
        have HE := Lib.hid hje
        clear hvj hje
        by_cases hv1 : v = 1
        · subst hv1
          go_wp2_with fail
          go_roundw
          case rel => exact ⟨j + 1, by omega, by go_num, trivial, fun a u hu ha => by
            by_cases e : a = j
            · subst e
              have := HE.out
              rw [hu] at this
              injection this
            · exact hH.out a u hu (by omega)⟩
          case measure => simp [intOf]; omega
        · have HB := Lib.hid (show vote1 q tn x kv true = ⟨q.ts.set tn ⟨x.ps, x.vs.set kv 1, x.dec⟩, q.ord⟩ by
            unfold vote1
            rw [if_pos rfl, if_neg]
            intro hall
            have := List.all_eq_true.1 hall v (List.mem_of_getElem? HE.out)
            exact hv1 (by simpa using this))
          obtain ⟨v40, v41⟩ := x14.cells2
          have fv40 := x14.frozen 0
          have fv41 := x14.frozen 1
          go_wp2_with fail
          have hRR := (x14.set_ 0 (.slice (some ⟨g, 0, none⟩) k c0)).set_ 1 (.slice O0 k1 e0)
          simp only [List.set_cons_zero, List.set_cons_succ] at hRR
          obtain ⟨r0, r1⟩ := hRR.cells2
          refine bodyPost_ret (v := .agg #[.slice (some ⟨g, 0, none⟩) k c0, .slice O0 k1 e0]) (by simp [results, Try.results80, go_sem, r0, r1]) rfl ?_
          refine ⟨[.slice (some ⟨g, 0, none⟩) k c0, .slice O0 k1 e0], rfl, ?_, (hbe4.setCell (by dsimp only; omega) _).setCell (by dsimp only; omega) _⟩
          rw [HB.out]
          exact out_set hS4 hO4 q1 q2 q3 (by omega) (fun b n1 n2 => by rw [Below.heap_setCell _ _ _ b (by dsimp only; omega), Below.heap_setCell _ _ _ b (by dsimp only; omega)]) (by rw [sz_set, sz_set]; omega)
      · obtain rfl : j = x.vs.length := by omega
        have HB := Lib.hid (show vote1 q tn x kv true = ⟨q.ts.set tn ⟨x.ps, x.vs.set kv 1, 2⟩, q.ord ++ [(tn : Int)]⟩ by
          unfold vote1
          rw [if_pos rfl, if_pos]
          rw [List.all_eq_true]
          intro v hv
          obtain ⟨a, ha⟩ := List.mem_iff_getElem?.1 hv
          have hal := (List.getElem?_eq_some_iff.1 ha).1
          rw [List.length_set] at hal
          simpa using hH.out a v ha hal)
        clear hlt
        have hT5 := hT4.far (p := ⟨g, tn * 3 + 1 + 1, none⟩) n1.symm (.int .i64 2)
        have x15 := x14.far (p := ⟨g, tn * 3 + 1 + 1, none⟩) n3.symm (.int .i64 2)
        have hS5 := hS4.setDec (k := tn) (x := ⟨x.ps, x.vs.set kv 1, x.dec⟩) (by rw [List.getElem?_set_self htl]) rfl 2
        rw [List.set_set] at hS5
        have hO5 := hO4.kept (w' := (wr).setCell ⟨g, tn * 3 + 1 + 1, none⟩ (.int .i64 2)) (fun b hb => Below.heap_setCell _ ⟨g, tn * 3 + 1 + 1, none⟩ _ b (fun (e : b = g) => q3 g hSg (e ▸ hb)))
        have hbe5 := hbe4.setCell (p := ⟨g, tn * 3 + 1 + 1, none⟩) (by dsimp only; omega) (.int .i64 2)
        have hsz5 : ((wr).setCell ⟨g, tn * 3 + 1 + 1, none⟩ (.int .i64 2)).heap.size = w3.heap.size := by rw [sz_set, hsz4]
        go_upto_region 13 with fail
        clear fw2 hO4 hbe4 hT4 x14 t0 t1 w1 w2' hri4 hS4 hsz4
        generalize hWz : wr.setCell ⟨g, tn * 3 + 2, none⟩ (.int .i64 2) = w5 at *
        clear hWz
        have hsz6 : w3.heap.size ≤ w5.heap.size := by omega
        clear hsz5
        obtain ⟨t50, t51⟩ := hT5.cells2
        have ba := below_box w5 (.cells #[.int .i64 tn] 3)
        have hneT : some w2.heap.size ≠ (Value.slice O0 k1 e0).ownBlock := fun e => by have := (q2 _ (hO5.ownS _ e.symm)).2; omega
        have hneR : some (w.heap.size + 1) ≠ (Value.slice O0 k1 e0).ownBlock := fun e => by have := (q2 _ (hO5.ownS _ e.symm)).1; omega
        go_wp2_with (at_builtin; go_loud (refine wpList_app rfl (.tmp 65) (.tmp 67) 24 rfl lo 3 Try.underlying24 int_info1 rfl (by omega) (by omega) _ k1 (ints q.ord) rfl (own_belowS hO5.ints_own ba) ⟨w5.heap.size, 0, none⟩ 1 1 [.int .i64 tn] rfl rfl ((Blk.new w5 3 [.int .i64 tn]).cellsAtG) (by simp [Value.oneCell']) (by omega) (by have := ba.size; omega) ?_; intro O9 d9 w9 hown9 _ hb9 hg9 hloc9; have hT9 : Blk w9 w2.heap.size 26 [.slice (some ⟨g, 0, none⟩) k c0, .slice O0 k1 e0] := (hT5.next ba).grown hg9 hneT; have hT10 := hT9.set_ 1 (.slice O9 (k1 + 1) d9); simp only [List.set_cons_zero, List.set_cons_succ] at hT10; obtain ⟨t90, t91⟩ := hT9.cells2; obtain ⟨t100, t101⟩ := hT10.cells2; have ft9 := hT9.frozen 1; have x19 := ((x15.next ba).grown hg9 hneR); have x20 := x19.far (p := ⟨w2.heap.size, 1, none⟩) n5.symm (.slice O9 (k1 + 1) d9); obtain ⟨v90, v91⟩ := x20.cells2; have fv90 := x20.frozen 0; have fv91 := x20.frozen 1))
        have hz9 := hg9.size
        have hz8 : (w5.alloc (.cells #[.int .i64 tn] 3)).heap.size = w5.heap.size + 1 := by simp
        have hS9 := (hS5.next ba (fun b hb => by have := (q1 b hb).2; omega)).kept (w' := w9) (fun b hb => hg9.block b (by have := (q1 b hb).2; omega) (fun e => q3 b hb (hO5.ownS _ e.symm)))
        have hbe9 := (below_ext hbe5 (below_box w5 (.cells #[.int .i64 tn] 3))).trans (hb9.mono (by omega))
        have hnew : ∀ b, (Value.slice O9 (k1 + 1) d9).ownBlock = some b → S2 b ∨ b = w5.heap.size + 1 := fun b hb => by
          rcases hloc9 with e | e
          · exact Or.inl (hO5.ownS _ (e ▸ hb))
          · rw [e] at hb; injection hb with hb; right; omega
        have hRR := (x20.set_ 0 (.slice (some ⟨g, 0, none⟩) k c0)).set_ 1 (.slice O9 (k1 + 1) d9)
        simp only [List.set_cons_zero, List.set_cons_succ] at hRR
        obtain ⟨r0, r1⟩ := hRR.cells2
        refine bodyPost_ret (v := .agg #[.slice (some ⟨g, 0, none⟩) k c0, .slice O9 (k1 + 1) d9]) (by simp [results, Try.results80, go_sem, r0, r1]) rfl ?_
        refine ⟨[.slice (some ⟨g, 0, none⟩) k c0, .slice O9 (k1 + 1) d9], rfl, ?_, ((hbe9.setCell (p := ⟨w2.heap.size, 1, none⟩) (by dsimp only; omega) _).setCell (by dsimp only; omega) _).setCell (by dsimp only; omega) _⟩
        rw [HB.out]
        exact out_order hS9 (by rw [← ints_snoc]; exact hown9) q1 (fun b hb => by rcases hnew b hb with h | h; (· exact fun h' => q3 b h' h); (· intro h'; have := (q1 b h').2; omega)) (by omega) (fun b n1 n2 => by rw [Below.heap_setCell _ _ _ b (by dsimp only; omega), Below.heap_setCell _ _ _ b (by dsimp only; omega), Below.heap_setCell _ _ _ b (fun (e : b = w2.heap.size) => n2 e)]) (fun b hb => by rcases hnew b hb with h | h; (· have := (q2 b h).2; omega); (· omega)) (by rw [sz_set, sz_set, sz_set]; omega) (by omega)
end Go.Proofs.Ytlmcejpjhdaanaa
