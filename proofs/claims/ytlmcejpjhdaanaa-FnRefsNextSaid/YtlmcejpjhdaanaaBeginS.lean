/- Walks: the reference's CoordinatorBegin. -/
import Derived.Test.YtlmcejpjhdaanaaCoP
namespace Go.Proofs.Ytlmcejpjhdaanaa
open Go.RowKit Go.Sort

theorem int_infoM : (Try.prog.info? 3).map (fun i => (i.zero, i.size, i.bytes)) = some (some (.int .i64 0), 1, 8) := by kernel_rfl
set_option maxRecDepth 100000 in
set_option maxHeartbeats 3200000 in
theorem specBegin_any (cs : List Value) (q : Co) (A : Option Addr) (n c : Nat) (ps : List Pt) (w : World) (hv : repCo.V 0 w cs q) (hp : RSl repPt 0 w A n ps) (hnm : n ≤ maxLen) :
    Calls Try.prog 57 #[.agg cs.toArray, .slice A n c] w (CoTo2 w (beginQ q ps)) := by
  obtain ⟨B0, m0, d0, B1, m1, d1, rfl, hr0, hm0, -, hm1⟩ := repCo_cells hv
  have hl0 := hr0.1
  have hlp := hp.1
  have b2 : Below w.heap.size w ((w.alloc (.cells #[.slice B0 m0 d0, .slice B1 m1 d1] 26)).alloc (.cells #[.slice none 0 0, .slice none 0 0] 26)) := below_ext (below_box w _) (below_box _ _)
  have x0 : Blk ((w.alloc (.cells #[.slice B0 m0 d0, .slice B1 m1 d1] 26)).alloc (.cells #[.slice none 0 0, .slice none 0 0] 26)) w.heap.size 26 [.slice B0 m0 d0, .slice B1 m1 d1] := (Blk.new w _ _).alloc _
  have x1 : Blk ((w.alloc (.cells #[.slice B0 m0 d0, .slice B1 m1 d1] 26)).alloc (.cells #[.slice none 0 0, .slice none 0 0] 26)) (w.heap.size + 1) 26 [.slice none 0 0, .slice none 0 0] := by simpa using Blk.new (w.alloc (.cells #[.slice B0 m0 d0, .slice B1 m1 d1] 26)) 26 [.slice none 0 0, .slice none 0 0]
  obtain ⟨y0, y1⟩ := x0.cells2
  have hmm : m0 ≤ maxLen := hm0
  unfold maxLen at hmm
  by_cases hb : coB q = true
  · by_cases hpo : partsB ps = true
    · have hsmp := partsB_small hpo
      have hn3 : n ≤ 100000000 := by have := (partsB_len hpo).2.1; omega
      have hn2 : n ≤ 2000000 := by have := (partsB_len hpo).2.1; omega
      have hlen := (coB_parts hb).2.2.1
      by_cases hlt : m0 < 12
      · have HB := Lib.hid (show beginQ q ps = (⟨q.ts ++ [newTx ps], q.ord⟩, true) by unfold beginQ; rw [hb, hpo, Bool.true_and, if_pos rfl, if_pos (by omega)])
        go_enter Try.func57, Try.ntmps57
        go_wp2_with (first
        | (go_at_call 13; refine (specCoordinatorValid_any _ q _ (repCo.next hv b2)).mono ?_; rintro e1 w1 ⟨rfl, hb1⟩
           have x01 := x0.next hb1
           have x11 := x1.next hb1
           obtain ⟨y01, y11⟩ := x01.cells2
           obtain ⟨v01, v11⟩ := x11.cells2
           have fv01 := x11.frozen 0
           have fv11 := x11.frozen 1)
        | (go_at_call 63; refine (specParts_any A n c ps _ ((hp.next b2).next hb1) hnm).mono ?_; rintro e2 wp ⟨rfl, hbp⟩
           have x02 := x01.next hbp
           have x12 := x11.next hbp
           obtain ⟨y02, y12⟩ := x02.cells2
           obtain ⟨v02, v12⟩ := x12.cells2
           have fv02 := x12.frozen 0
           have fv12 := x12.frozen 1)
        | (go_at_call 34; refine (l22Copy_any _ q _ (repCo.next (repCo.next (repCo.next hv b2) hb1) hbp) (coB_small hb)).mono ?_; rintro e3 w2 ⟨csC, rfl, hC, hb2⟩
           have hCk := hC
           obtain ⟨Q0, k, c0, O0, k1, e0, S1, S2, rfl, q1, q2, q3, hSX, hSO⟩ := sepCo_cells hC
           have b3 := below_box w2 (.cells #[.slice Q0 k c0, .slice O0 k1 e0] 26)
           have x03 := (x02.next hb2).next b3
           have x13 := (x12.next hb2).next b3
           have hT3 := Blk.new w2 26 [.slice Q0 k c0, .slice O0 k1 e0]
           obtain ⟨y03, y13⟩ := x03.cells2
           obtain ⟨v03, v13⟩ := x13.cells2
           obtain ⟨t03, t13⟩ := hT3.cells2
           have hkl := hSX.1
           have fv03 := x13.frozen 0
           have fv13 := x13.frozen 1))
        have hz1 := b2.size
        have hz2 := hb1.size
        have hz3 := hbp.size
        have hz4 := hb2.size
        have hz0 : ((w.alloc (.cells #[.slice B0 m0 d0, .slice B1 m1 d1] 26)).alloc (.cells #[.slice none 0 0, .slice none 0 0] 26)).heap.size = w.heap.size + 2 := by simp
        have hbe3 : Below w.heap.size w (w2.alloc (.cells #[.slice Q0 k c0, .slice O0 k1 e0] 26)) := below_ext (b2.trans ((hb1.mono (by omega)).trans ((hbp.mono (by omega)).trans (hb2.mono (by omega))))) (below_box _ _)
        have hR3 := x13
        obtain ⟨cs0, hown', hgrow'⟩ := hSX.grow
        have hneT : some w2.heap.size ≠ (Value.slice Q0 k c0).ownBlock := fun e => by have := (q1 _ (hSX.ownS _ e.symm)).2; omega
        have hneR : some (w.heap.size + 1) ≠ (Value.slice Q0 k c0).ownBlock := fun e => by have := (q1 _ (hSX.ownS _ e.symm)).1; omega
        have hneO : ∀ b, S2 b → some b ≠ (Value.slice Q0 k c0).ownBlock := fun b hb2 e => q3 _ (hSX.ownS _ e.symm) hb2
        have hSX3 := hSX.next b3 (fun b hb2 => (q1 b hb2).2)
        have hSO3 := hSO.next b3 (fun b hb2 => (q2 b hb2).2)
        have hp3 := ((((hp.next b2).next hb1).next hbp).next hb2).next b3
        clear hSO hSX hown' hgrow' hC hCk hv y0 y1 y01 y11 v01 v11 y02 y12 v02 v12 y03 y13 v03 v13 fv01 fv11 fv02 fv12 fv03 fv13 x13 x12 x11 x1 x0 x01 x02 x03 t03 t13 hp hr0
        have hzw3 : (w2.alloc (.cells #[.slice Q0 k c0, .slice O0 k1 e0] 26)).heap.size = w2.heap.size + 1 := by simp
        generalize hlo : wp.heap.size = lo at *
        generalize hW3 : w2.alloc (.cells #[.slice Q0 k c0, .slice O0 k1 e0] 26) = w3 at *
        have HW3 := Lib.hid hzw3
        have hzw3' : w2.heap.size < w3.heap.size := by omega
        have hlo2 : w.heap.size + 2 ≤ lo := by omega
        clear hzw3
        have HWT := Lib.hid hW3
        clear hW3 hlo hb1 hbp hb2 b2 b3 hz0 hz1 hz2 hz3
        obtain ⟨cs0, hown, hgrow⟩ := hSX3.grow
        have hSO := hSO3
        obtain ⟨s0, s1⟩ := hT3.cells2
        have hmk := run_make_ints (P := Try.prog) Try.underlying24 int_infoM n hn2
        have hbd : Below w3.heap.size w3 w3.drew := (Below.refl _ _).drew
        have hS0 : ∀ (b : Bool) (w' : World), (until_ b (w'.cell? ⟨w2.heap.size, 0, none⟩ = some (.slice Q0 k c0)) ∧ True) → True := fun _ _ _ => trivial
        refine wp_region_L (fun b w' => until_ b (w'.cell? ⟨w2.heap.size, 0, none⟩ = some (.slice Q0 k c0)) ∧ True) 9 (by kernel_rfl) ⟨fun _ => s0, trivial⟩ (fun hHeld => ?_)
        refine wpAnyL_take (i := 0) (v := ?_) op0 (by kernel_rfl) (by kernel_rfl) (by kernel_rfl) (by rfl) (fun _ _ _ h => h) (b := false) (by kernel_rfl) hHeld hS0 (Or.inl ⟨by rfl, ?_⟩) (by kernel_rfl) ?_
        rotate_left
        · intro wS hSw; (try dsimp only at hSw); go_simp; (try with_reducible rfl)
        (try simp only [Act.put, List.setIfInBounds_toArray, List.set_cons_zero, List.set_cons_succ])
        refine wpAnyL_takeS (i := 1) (v := ?_) op1 (by kernel_rfl) (by kernel_rfl) (by kernel_rfl) (by rfl) (fun _ _ _ h => h) hHeld (by kernel_rfl) (by kernel_rfl) (Or.inl ⟨by rfl, ?_⟩) ?_
        rotate_left
        · intro wS hSw; have hSs := hSw.1 rfl; clear hSw; go_simp; (try with_reducible rfl)
        (try simp only [Act.put, List.setIfInBounds_toArray, List.set_cons_zero, List.set_cons_succ])
        refine wpAnyL_take (i := 2) (v := ?_) op2 (by kernel_rfl) (by kernel_rfl) (by kernel_rfl) (by rfl) (fun _ _ _ h => h) (b := false) (by kernel_rfl) hHeld hS0 (Or.inl ⟨by rfl, ?_⟩) (by kernel_rfl) ?_
        rotate_left
        · intro wS hSw; (try dsimp only at hSw); go_simp; (try with_reducible rfl)
        (try simp only [Act.put, List.setIfInBounds_toArray, List.set_cons_zero, List.set_cons_succ])
        refine wpAnyL_take (i := 4) (v := ?_) op4 (by kernel_rfl) (by kernel_rfl) (by kernel_rfl) (by rfl) (fun _ _ _ h => h) (b := false) (by kernel_rfl) hHeld hS0 (Or.inl ⟨by rfl, ?_⟩) (by kernel_rfl) ?_
        rotate_left
        · intro wS hSw; (try dsimp only at hSw); go_simp; (try with_reducible rfl)
        (try simp only [Act.put, List.setIfInBounds_toArray, List.set_cons_zero, List.set_cons_succ])
        refine wpAnyL_take (i := 5) (v := ?_) op5 (by kernel_rfl) (by kernel_rfl) (by kernel_rfl) (by rfl) (fun _ _ _ h => h) (b := false) (by kernel_rfl) hHeld hS0 (Or.inl ⟨by rfl, ?_⟩) (by kernel_rfl) ?_
        rotate_left
        · intro wS hSw; (try dsimp only at hSw); go_simp; (try with_reducible rfl)
        (try simp only [Act.put, List.setIfInBounds_toArray, List.set_cons_zero, List.set_cons_succ])
        refine wpAnyL_ready (rs := [3, 6]) (by kernel_rfl) rfl ?_
        refine AllReadyL.cons (b := false) op3 (by kernel_rfl) (fun K hK => ?_) (AllReadyL.cons (b := false) op6 (by kernel_rfl) (fun K hK => ?_) AllReadyL.nil)
        · go_simp
          go_at_call 61
          refine (l22Parts2_any A n c ps _ (hp3.next hbd) hsmp).mono ?_
          rintro e w4 ⟨A4, d4, rfl, hS4, hb4⟩
          have bz4 : Below w3.heap.size w3 w4 := below_ext hbd hb4
          obtain ⟨s40, s41⟩ := (hT3.next bz4).cells2
          go_wp2_with fail
          refine hK.out _ _ (⟨fun _ => s40, trivial⟩) (fun hHeld => ?_)
          clear hK K
          (try simp only [Act.put, List.setIfInBounds_toArray, List.set_cons_zero, List.set_cons_succ])
          refine wpAnyL_ready (rs := [6]) (by kernel_rfl) rfl ?_
          refine AllReadyL.cons (b := false) op6 (by kernel_rfl) (fun K hK => ?_) AllReadyL.nil
          go_simp
          have bz5 := below_ext bz4 (below_box w4 (.cells (ints (List.replicate n 0)).toArray 3))
          obtain ⟨s50, s51⟩ := (hT3.next bz5).cells2
          have hF : Fin w3.heap.size (w4.alloc (.cells (ints (List.replicate n 0)).toArray 3)) A4 n d4 (some ⟨w4.heap.size, 0, none⟩) n n (newTx ps) := fin_z1 hS4 hb4 hbd.size hlp hn3
          refine hK.out _ _ (⟨fun _ => s50, trivial⟩) (fun hHeld => ?_)
          clear hK K
          (try simp only [Act.put, List.setIfInBounds_toArray, List.set_cons_zero, List.set_cons_succ])
          refine wpAnyL_take (i := 7) (v := ?_) op7 (by kernel_rfl) (by kernel_rfl) (by kernel_rfl) (by rfl) (fun _ _ _ h => h) (b := false) (by kernel_rfl) hHeld hS0 (Or.inl ⟨by rfl, ?_⟩) (by kernel_rfl) ?_
          rotate_left
          · intro wS hSw; (try dsimp only at hSw); go_simp; (try with_reducible rfl)
          (try simp only [Act.put, List.setIfInBounds_toArray, List.set_cons_zero, List.set_cons_succ])
          refine wpAnyL_ready (rs := [8]) (by kernel_rfl) rfl ?_
          refine AllReadyL.cons (b := false) op8 (by kernel_rfl) (fun K hK => ?_) AllReadyL.nil
          go_simp
          have bzl := below_ext bz5 (below_box (w4.alloc (.cells (ints (List.replicate n 0)).toArray 3)) (.cells #[.slice A4 n d4, .slice (some ⟨w4.heap.size, 0, none⟩) n n, .int .i64 0] 35))
          have hTl := hT3.next bzl
          obtain ⟨sl0, sl1⟩ := hTl.cells2
          refine hK.out _ _ (⟨fun _ => sl0, trivial⟩) (fun hHeld => ?_)
          clear hK K
          (try simp only [Act.put, List.setIfInBounds_toArray, List.set_cons_zero, List.set_cons_succ])
          refine wpAnyL_ready (rs := [9]) (by kernel_rfl) rfl ?_
          refine AllReadyL.cons (b := true) op9 (by kernel_rfl) (fun K hK => ?_) AllReadyL.nil
          refine step_app rfl (.tmp 24) (.tmp 31) 23 rfl lo 35 Try.underlying23 txn_info1 rfl (by omega) (by omega) _ k cs0 rfl (own_belowS hown bzl) ⟨_, 0, none⟩ 1 1 [.slice A4 n d4, .slice (some ⟨w4.heap.size, 0, none⟩) n n, .int .i64 0] rfl rfl ((Blk.new (w4.alloc (.cells (ints (List.replicate n 0)).toArray 3)) 35 [.slice A4 n d4, .slice (some ⟨w4.heap.size, 0, none⟩) n n, .int .i64 0]).cellsAtH (by simp)) (by simp [Value.oneCell']) (by omega) (by have hh := bzl.size; omega) ?_
          intro A9 d9 w9 hown9 _ hb9 hg9 hloc9
          have hT9 : Blk w9 w2.heap.size 26 [.slice Q0 k c0, .slice O0 k1 e0] := hTl.grown hg9 hneT
          obtain ⟨s90, s91⟩ := hT9.cells2
          have f90 := hT9.frozen 0
          refine hK.out _ _ (⟨fun h => Bool.noConfusion h, trivial⟩) (fun hHeld => ?_)
          clear hK K
          (try simp only [Act.put, List.setIfInBounds_toArray, List.set_cons_zero, List.set_cons_succ])
          refine wpAnyL_take (i := 10) (v := ?_) op10 (by kernel_rfl) (by kernel_rfl) (by kernel_rfl) (by rfl) (fun _ _ _ h => h) (b := true) (by kernel_rfl) hHeld hS0 (Or.inl ⟨by rfl, ?_⟩) (by kernel_rfl) ?_
          rotate_left
          · intro wS hSw; (try dsimp only at hSw); go_simp; (try with_reducible rfl)
          (try simp only [Act.put, List.setIfInBounds_toArray, List.set_cons_zero, List.set_cons_succ])
          refine wpAnyL_ready (rs := [11]) (by kernel_rfl) rfl ?_
          refine AllReadyL.cons (b := true) op11 (by kernel_rfl) (fun K hK => ?_) AllReadyL.nil
          go_simp
          refine hK.out _ _ (⟨fun h => Bool.noConfusion h, trivial⟩) (fun hHeld => ?_)
          clear hK K
          (try simp only [Act.put, List.setIfInBounds_toArray, List.set_cons_zero, List.set_cons_succ])
          refine wpAnyL_done (by kernel_rfl) ?_ _
          have hSF := begin_grow hF hgrow rfl (by omega) (fun b hb => (q1 b hb).2) (by omega) (bz5) hown9 hg9 hloc9
          rw [HW3.out] at hSF
          have z9 : w2.heap.size < w9.heap.size := by
            have h1 := bzl.size
            have h2 := hg9.size
            have h3 : ((w4.alloc (.cells (ints (List.replicate n 0)).toArray 3)).alloc (.cells #[.slice A4 n d4, .slice (some ⟨w4.heap.size, 0, none⟩) n n, .int .i64 0] 35)).heap.size = (w4.alloc (.cells (ints (List.replicate n 0)).toArray 3)).heap.size + 1 := by simp
            have h4 := (bz5).size
            omega
          have hR9 : Blk w9 (w.heap.size + 1) 26 [.slice none 0 0, .slice none 0 0] := (hR3.next bzl).grown hg9 hneR
          have hSO9 : SSl 3 sepInt lo S2 w9 O0 k1 e0 q.ord := (hSO.next bzl (fun b hb => by have := (q2 b hb).2; omega)).kept (fun b hb => hg9.block b (by have := (q2 b hb).2; have := bzl.size; omega) (hneO b hb))
          have hbe9 : Below w.heap.size w w9 := hbe3.trans ((bzl.mono hbe3.size).trans (hb9.mono (by omega)))
          have hT10 := (hT9.set_ 0 (.slice A9 (k + 1) d9))
          simp only [List.set_cons_zero] at hT10
          obtain ⟨u0, u1⟩ := hT10.cells2
          have hR10 := hR9.far (p := ⟨w2.heap.size, 0, none⟩) (by dsimp only; omega) (.slice A9 (k + 1) d9)
          obtain ⟨v0, v1⟩ := hR10.cells2
          have fv0 := hR10.frozen 0
          have fv1 := hR10.frozen 1
          clear hT9 hTl hown9 hgrow hown s90 s91 f90
          go_wp2_with fail
          have hRR := (hR10.set_ 0 (.slice A9 (k + 1) d9)).set_ 1 (.slice O0 k1 e0)
          simp only [List.set_cons_zero, List.set_cons_succ] at hRR
          obtain ⟨r0, r1⟩ := hRR.cells2
          refine bodyPost_ret (v := .tuple #[.agg #[.slice A9 (k + 1) d9, .slice O0 k1 e0], .bool true]) (by simp [results, Try.results57, go_sem, r0, r1]) rfl ?_
          refine ⟨[.slice A9 (k + 1) d9, .slice O0 k1 e0], by rw [HB.out], ?_, ((hbe9.setCell (by dsimp only; omega) _).setCell (by dsimp only; omega) _).setCell (by dsimp only; omega) _⟩
          rw [HB.out]
          exact out_begin hSF hSO9 q1 q2 q3 (by omega) (by omega) z9 (fun b n1 n2 => by rw [Below.heap_setCell _ _ _ b (fun e => n2 e), Below.heap_setCell _ _ _ b (fun e => n2 e), Below.heap_setCell _ _ _ b (fun e => n1 e)]) (by simp)
        · go_simp
          have bz5 := below_ext hbd (below_box w3.drew (.cells (ints (List.replicate n 0)).toArray 3))
          obtain ⟨s50, s51⟩ := (hT3.next bz5).cells2
          refine hK.out _ _ (⟨fun _ => s50, trivial⟩) (fun hHeld => ?_)
          clear hK K
          (try simp only [Act.put, List.setIfInBounds_toArray, List.set_cons_zero, List.set_cons_succ])
          refine wpAnyL_ready (rs := [3]) (by kernel_rfl) rfl ?_
          refine AllReadyL.cons (b := false) op3 (by kernel_rfl) (fun K hK => ?_) AllReadyL.nil
          go_simp
          go_at_call 61
          refine (l22Parts2_any A n c ps _ (hp3.next bz5) hsmp).mono ?_
          rintro e w4 ⟨A4, d4, rfl, hS4, hb4⟩
          have bz4 : Below w3.heap.size w3 w4 := below_ext bz5 hb4
          obtain ⟨s40, s41⟩ := (hT3.next bz4).cells2
          go_wp2_with fail
          have hF : Fin w3.heap.size w4 A4 n d4 (some ⟨w3.heap.size, 0, none⟩) n n (newTx ps) := fin_z2 (w3 := w3.drew) hS4 hb4 (Nat.le_refl _) hlp hn3
          refine hK.out _ _ (⟨fun _ => s40, trivial⟩) (fun hHeld => ?_)
          clear hK K
          (try simp only [Act.put, List.setIfInBounds_toArray, List.set_cons_zero, List.set_cons_succ])
          refine wpAnyL_take (i := 7) (v := ?_) op7 (by kernel_rfl) (by kernel_rfl) (by kernel_rfl) (by rfl) (fun _ _ _ h => h) (b := false) (by kernel_rfl) hHeld hS0 (Or.inl ⟨by rfl, ?_⟩) (by kernel_rfl) ?_
          rotate_left
          · intro wS hSw; (try dsimp only at hSw); go_simp; (try with_reducible rfl)
          (try simp only [Act.put, List.setIfInBounds_toArray, List.set_cons_zero, List.set_cons_succ])
          refine wpAnyL_ready (rs := [8]) (by kernel_rfl) rfl ?_
          refine AllReadyL.cons (b := false) op8 (by kernel_rfl) (fun K hK => ?_) AllReadyL.nil
          go_simp
          have bzl := below_ext bz4 (below_box (w4) (.cells #[.slice A4 n d4, .slice (some ⟨w3.heap.size, 0, none⟩) n n, .int .i64 0] 35))
          have hTl := hT3.next bzl
          obtain ⟨sl0, sl1⟩ := hTl.cells2
          refine hK.out _ _ (⟨fun _ => sl0, trivial⟩) (fun hHeld => ?_)
          clear hK K
          (try simp only [Act.put, List.setIfInBounds_toArray, List.set_cons_zero, List.set_cons_succ])
          refine wpAnyL_ready (rs := [9]) (by kernel_rfl) rfl ?_
          refine AllReadyL.cons (b := true) op9 (by kernel_rfl) (fun K hK => ?_) AllReadyL.nil
          refine step_app rfl (.tmp 24) (.tmp 31) 23 rfl lo 35 Try.underlying23 txn_info1 rfl (by omega) (by omega) _ k cs0 rfl (own_belowS hown bzl) ⟨_, 0, none⟩ 1 1 [.slice A4 n d4, .slice (some ⟨w3.heap.size, 0, none⟩) n n, .int .i64 0] rfl rfl ((Blk.new (w4) 35 [.slice A4 n d4, .slice (some ⟨w3.heap.size, 0, none⟩) n n, .int .i64 0]).cellsAtH (by simp)) (by simp [Value.oneCell']) (by omega) (by have hh := bzl.size; omega) ?_
          intro A9 d9 w9 hown9 _ hb9 hg9 hloc9
          have hT9 : Blk w9 w2.heap.size 26 [.slice Q0 k c0, .slice O0 k1 e0] := hTl.grown hg9 hneT
          obtain ⟨s90, s91⟩ := hT9.cells2
          have f90 := hT9.frozen 0
          refine hK.out _ _ (⟨fun h => Bool.noConfusion h, trivial⟩) (fun hHeld => ?_)
          clear hK K
          (try simp only [Act.put, List.setIfInBounds_toArray, List.set_cons_zero, List.set_cons_succ])
          refine wpAnyL_take (i := 10) (v := ?_) op10 (by kernel_rfl) (by kernel_rfl) (by kernel_rfl) (by rfl) (fun _ _ _ h => h) (b := true) (by kernel_rfl) hHeld hS0 (Or.inl ⟨by rfl, ?_⟩) (by kernel_rfl) ?_
          rotate_left
          · intro wS hSw; (try dsimp only at hSw); go_simp; (try with_reducible rfl)
          (try simp only [Act.put, List.setIfInBounds_toArray, List.set_cons_zero, List.set_cons_succ])
          refine wpAnyL_ready (rs := [11]) (by kernel_rfl) rfl ?_
          refine AllReadyL.cons (b := true) op11 (by kernel_rfl) (fun K hK => ?_) AllReadyL.nil
          go_simp
          refine hK.out _ _ (⟨fun h => Bool.noConfusion h, trivial⟩) (fun hHeld => ?_)
          clear hK K
          (try simp only [Act.put, List.setIfInBounds_toArray, List.set_cons_zero, List.set_cons_succ])
          refine wpAnyL_done (by kernel_rfl) ?_ _
          have hSF := begin_grow hF hgrow rfl (by omega) (fun b hb => (q1 b hb).2) (by omega) (bz4) hown9 hg9 hloc9
          rw [HW3.out] at hSF
          have z9 : w2.heap.size < w9.heap.size := by
            have h1 := bzl.size
            have h2 := hg9.size
            have h3 : ((w4).alloc (.cells #[.slice A4 n d4, .slice (some ⟨w3.heap.size, 0, none⟩) n n, .int .i64 0] 35)).heap.size = (w4).heap.size + 1 := by simp
            have h4 := (bz4).size
            omega
          have hR9 : Blk w9 (w.heap.size + 1) 26 [.slice none 0 0, .slice none 0 0] := (hR3.next bzl).grown hg9 hneR
          have hSO9 : SSl 3 sepInt lo S2 w9 O0 k1 e0 q.ord := (hSO.next bzl (fun b hb => by have := (q2 b hb).2; omega)).kept (fun b hb => hg9.block b (by have := (q2 b hb).2; have := bzl.size; omega) (hneO b hb))
          have hbe9 : Below w.heap.size w w9 := hbe3.trans ((bzl.mono hbe3.size).trans (hb9.mono (by omega)))
          have hT10 := (hT9.set_ 0 (.slice A9 (k + 1) d9))
          simp only [List.set_cons_zero] at hT10
          obtain ⟨u0, u1⟩ := hT10.cells2
          have hR10 := hR9.far (p := ⟨w2.heap.size, 0, none⟩) (by dsimp only; omega) (.slice A9 (k + 1) d9)
          obtain ⟨v0, v1⟩ := hR10.cells2
          have fv0 := hR10.frozen 0
          have fv1 := hR10.frozen 1
          clear hT9 hTl hown9 hgrow hown s90 s91 f90
          go_wp2_with fail
          have hRR := (hR10.set_ 0 (.slice A9 (k + 1) d9)).set_ 1 (.slice O0 k1 e0)
          simp only [List.set_cons_zero, List.set_cons_succ] at hRR
          obtain ⟨r0, r1⟩ := hRR.cells2
          refine bodyPost_ret (v := .tuple #[.agg #[.slice A9 (k + 1) d9, .slice O0 k1 e0], .bool true]) (by simp [results, Try.results57, go_sem, r0, r1]) rfl ?_
          refine ⟨[.slice A9 (k + 1) d9, .slice O0 k1 e0], by rw [HB.out], ?_, ((hbe9.setCell (by dsimp only; omega) _).setCell (by dsimp only; omega) _).setCell (by dsimp only; omega) _⟩
          rw [HB.out]
          exact out_begin hSF hSO9 q1 q2 q3 (by omega) (by omega) z9 (fun b n1 n2 => by rw [Below.heap_setCell _ _ _ b (fun e => n2 e), Below.heap_setCell _ _ _ b (fun e => n2 e), Below.heap_setCell _ _ _ b (fun e => n1 e)]) (by simp)
      · have HB := Lib.hid (show beginQ q ps = (q, false) by unfold beginQ; rw [hb, hpo, Bool.true_and, if_pos rfl, if_neg (by omega)])
        go_enter Try.func57, Try.ntmps57
        go_wp2_with (first
        | (go_at_call 13; refine (specCoordinatorValid_any _ q _ (repCo.next hv b2)).mono ?_; rintro e1 w1 ⟨rfl, hb1⟩
           have x01 := x0.next hb1
           have x11 := x1.next hb1
           obtain ⟨y01, y11⟩ := x01.cells2
           obtain ⟨v01, v11⟩ := x11.cells2
           have fv01 := x11.frozen 0
           have fv11 := x11.frozen 1)
        | (go_at_call 63; refine (specParts_any A n c ps _ ((hp.next b2).next hb1) hnm).mono ?_; rintro e2 wp ⟨rfl, hbp⟩
           have x02 := x01.next hbp
           have x12 := x11.next hbp
           obtain ⟨y02, y12⟩ := x02.cells2
           obtain ⟨v02, v12⟩ := x12.cells2
           have fv02 := x12.frozen 0
           have fv12 := x12.frozen 1)
        | (go_at_call 34; refine (l22Copy_any _ q _ (repCo.next (repCo.next (repCo.next hv b2) hb1) hbp) (coB_small hb)).mono ?_; rintro e3 w2 ⟨csC, rfl, hC, hb2⟩
           have hCk := hC
           obtain ⟨Q0, k, c0, O0, k1, e0, S1, S2, rfl, q1, q2, q3, hSX, hSO⟩ := sepCo_cells hC
           have b3 := below_box w2 (.cells #[.slice Q0 k c0, .slice O0 k1 e0] 26)
           have x03 := (x02.next hb2).next b3
           have x13 := (x12.next hb2).next b3
           have hT3 := Blk.new w2 26 [.slice Q0 k c0, .slice O0 k1 e0]
           obtain ⟨y03, y13⟩ := x03.cells2
           obtain ⟨v03, v13⟩ := x13.cells2
           obtain ⟨t03, t13⟩ := hT3.cells2
           have hkl := hSX.1
           have fv03 := x13.frozen 0
           have fv13 := x13.frozen 1))
        have hz1 := b2.size
        have hz2 := hb1.size
        have hz3 := hbp.size
        have hz4 := hb2.size
        have hz0 : ((w.alloc (.cells #[.slice B0 m0 d0, .slice B1 m1 d1] 26)).alloc (.cells #[.slice none 0 0, .slice none 0 0] 26)).heap.size = w.heap.size + 2 := by simp
        have hbe3 : Below w.heap.size w (w2.alloc (.cells #[.slice Q0 k c0, .slice O0 k1 e0] 26)) := below_ext (b2.trans ((hb1.mono (by omega)).trans ((hbp.mono (by omega)).trans (hb2.mono (by omega))))) (below_box _ _)
        have hRR := (x13.set_ 0 (.slice Q0 k c0)).set_ 1 (.slice O0 k1 e0)
        simp only [List.set_cons_zero, List.set_cons_succ] at hRR
        obtain ⟨r0, r1⟩ := hRR.cells2
        refine bodyPost_ret (v := .tuple #[.agg #[.slice Q0 k c0, .slice O0 k1 e0], .bool false]) (by simp [results, Try.results57, go_sem, r0, r1]) rfl ?_
        refine ⟨[.slice Q0 k c0, .slice O0 k1 e0], by rw [HB.out], ?_, (hbe3.setCell (by dsimp only; omega) _).setCell (by dsimp only; omega) _⟩
        rw [HB.out]
        exact out_copy hCk (fun b n1 n2 => by rw [Below.heap_setCell _ _ _ b (by dsimp only; omega), Below.heap_setCell _ _ _ b (by dsimp only; omega)]; exact b3.block b n2) (by omega) (by simp)
    · have hpo' : partsB ps = false := by simpa using hpo
      have HB := Lib.hid (show beginQ q ps = (noQ, false) by unfold beginQ; rw [hb, hpo']; rfl)
      go_enter Try.func57, Try.ntmps57
      go_wp2_with (first
        | (go_at_call 13; refine (specCoordinatorValid_any _ q _ (repCo.next hv b2)).mono ?_; rintro e1 w1 ⟨rfl, hb1⟩
           have x01 := x0.next hb1
           have x11 := x1.next hb1
           obtain ⟨y01, y11⟩ := x01.cells2
           obtain ⟨v01, v11⟩ := x11.cells2
           have fv01 := x11.frozen 0
           have fv11 := x11.frozen 1)
        | (go_at_call 63; refine (specParts_any A n c ps _ ((hp.next b2).next hb1) hnm).mono ?_; rintro e2 wp ⟨rfl, hbp⟩
           have x02 := x01.next hbp
           have x12 := x11.next hbp
           obtain ⟨y02, y12⟩ := x02.cells2
           obtain ⟨v02, v12⟩ := x12.cells2
           have fv02 := x12.frozen 0
           have fv12 := x12.frozen 1))
      have hz1 := b2.size
      have hz2 := hb1.size
      have hz3 := hbp.size
      have hz0 : ((w.alloc (.cells #[.slice B0 m0 d0, .slice B1 m1 d1] 26)).alloc (.cells #[.slice none 0 0, .slice none 0 0] 26)).heap.size = w.heap.size + 2 := by simp
      have hbe3 : Below w.heap.size w wp := b2.trans ((hb1.mono (by omega)).trans (hbp.mono (by omega)))
      have hRR := (x12.set_ 0 (.slice none 0 0)).set_ 1 (.slice none 0 0)
      simp only [List.set_cons_zero, List.set_cons_succ] at hRR
      obtain ⟨r0, r1⟩ := hRR.cells2
      refine bodyPost_ret (v := .tuple #[.agg #[.slice none 0 0, .slice none 0 0], .bool false]) (by simp [results, Try.results57, go_sem, r0, r1]) rfl ?_
      refine ⟨[.slice none 0 0, .slice none 0 0], by rw [HB.out], ?_, (hbe3.setCell (by dsimp only; omega) _).setCell (by dsimp only; omega) _⟩
      rw [HB.out]
      exact noQ_sep
  · have hb' : coB q = false := by simpa using hb
    have HB := Lib.hid (show beginQ q ps = (noQ, false) by unfold beginQ; rw [hb']; rfl)
    go_enter Try.func57, Try.ntmps57
    go_wp2_with (first
        | (go_at_call 13; refine (specCoordinatorValid_any _ q _ (repCo.next hv b2)).mono ?_; rintro e1 w1 ⟨rfl, hb1⟩
           have x01 := x0.next hb1
           have x11 := x1.next hb1
           obtain ⟨y01, y11⟩ := x01.cells2
           obtain ⟨v01, v11⟩ := x11.cells2
           have fv01 := x11.frozen 0
           have fv11 := x11.frozen 1))
    have hz1 := b2.size
    have hz2 := hb1.size
    have hz0 : ((w.alloc (.cells #[.slice B0 m0 d0, .slice B1 m1 d1] 26)).alloc (.cells #[.slice none 0 0, .slice none 0 0] 26)).heap.size = w.heap.size + 2 := by simp
    have hbe3 : Below w.heap.size w w1 := b2.trans (hb1.mono (by omega))
    have hRR := (x11.set_ 0 (.slice none 0 0)).set_ 1 (.slice none 0 0)
    simp only [List.set_cons_zero, List.set_cons_succ] at hRR
    obtain ⟨r0, r1⟩ := hRR.cells2
    refine bodyPost_ret (v := .tuple #[.agg #[.slice none 0 0, .slice none 0 0], .bool false]) (by simp [results, Try.results57, go_sem, r0, r1]) rfl ?_
    refine ⟨[.slice none 0 0, .slice none 0 0], by rw [HB.out], ?_, (hbe3.setCell (by dsimp only; omega) _).setCell (by dsimp only; omega) _⟩
    rw [HB.out]
    exact noQ_sep
end Go.Proofs.Ytlmcejpjhdaanaa
