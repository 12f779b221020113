/- Walks: l92Coordinator: a coordinator is drawn; only what bounds the result is said. -/
import Derived.Test.YtlmcejpjhdaanaaDrawCo
import Derived.Test.YtlmcejpjhdaanaaBeginS
import Derived.Test.YtlmcejpjhdaanaaTimeS
import Derived.Test.YtlmcejpjhdaanaaVote2S
import Derived.Deep.RegionHeld3
namespace Go.Proofs.Ytlmcejpjhdaanaa
open Go.RowKit Go.Sort

set_option maxRecDepth 100000 in
set_option maxHeartbeats 12800000 in
theorem l92Coordinator_any (g p : Nat) (w : World) (h : Rd w g p) (hp : p ≤ 500000) :
    Calls Try.prog 30 #[.pointer (some ⟨g, 0, none⟩)] w (Drawn g p 40000 w (IsCo w.heap.size)) := by
  have hgw := h.lt
  have x0 : Blk ((((w.alloc (.cells #[.slice none 0 0, .slice none 0 0] 26)).alloc (.cells #[] 35)).alloc (.cells #[] 3)).alloc (.cells #[.slice (some ⟨w.heap.size + 1, 0, none⟩) 0 0, .slice (some ⟨w.heap.size + 1 + 1, 0, none⟩) 0 0] 26)) w.heap.size 26 [.slice none 0 0, .slice none 0 0] := (((Blk.new w 26 [.slice none 0 0, .slice none 0 0]).alloc _).alloc _).alloc _
  have x1 : Blk ((((w.alloc (.cells #[.slice none 0 0, .slice none 0 0] 26)).alloc (.cells #[] 35)).alloc (.cells #[] 3)).alloc (.cells #[.slice (some ⟨w.heap.size + 1, 0, none⟩) 0 0, .slice (some ⟨w.heap.size + 1 + 1, 0, none⟩) 0 0] 26)) (w.heap.size + 1) 35 [] := by simpa using ((Blk.new (w.alloc (.cells #[.slice none 0 0, .slice none 0 0] 26)) 35 []).alloc (.cells #[] 3)).alloc (.cells #[.slice (some ⟨w.heap.size + 1, 0, none⟩) 0 0, .slice (some ⟨w.heap.size + 1 + 1, 0, none⟩) 0 0] 26)
  have x2 : Blk ((((w.alloc (.cells #[.slice none 0 0, .slice none 0 0] 26)).alloc (.cells #[] 35)).alloc (.cells #[] 3)).alloc (.cells #[.slice (some ⟨w.heap.size + 1, 0, none⟩) 0 0, .slice (some ⟨w.heap.size + 1 + 1, 0, none⟩) 0 0] 26)) (w.heap.size + 1 + 1) 3 [] := by simpa using (Blk.new ((w.alloc (.cells #[.slice none 0 0, .slice none 0 0] 26)).alloc (.cells #[] 35)) 3 []).alloc (.cells #[.slice (some ⟨w.heap.size + 1, 0, none⟩) 0 0, .slice (some ⟨w.heap.size + 1 + 1, 0, none⟩) 0 0] 26)
  have x3 : Blk ((((w.alloc (.cells #[.slice none 0 0, .slice none 0 0] 26)).alloc (.cells #[] 35)).alloc (.cells #[] 3)).alloc (.cells #[.slice (some ⟨w.heap.size + 1, 0, none⟩) 0 0, .slice (some ⟨w.heap.size + 1 + 1, 0, none⟩) 0 0] 26)) (w.heap.size + 3) 26 [.slice (some ⟨w.heap.size + 1, 0, none⟩) 0 0, .slice (some ⟨w.heap.size + 1 + 1, 0, none⟩) 0 0] := by simpa using Blk.new (((w.alloc (.cells #[.slice none 0 0, .slice none 0 0] 26)).alloc (.cells #[] 35)).alloc (.cells #[] 3)) 26 [.slice (some ⟨w.heap.size + 1, 0, none⟩) 0 0, .slice (some ⟨w.heap.size + 1 + 1, 0, none⟩) 0 0]
  have hb0 : Below w.heap.size w ((((w.alloc (.cells #[.slice none 0 0, .slice none 0 0] 26)).alloc (.cells #[] 35)).alloc (.cells #[] 3)).alloc (.cells #[.slice (some ⟨w.heap.size + 1, 0, none⟩) 0 0, .slice (some ⟨w.heap.size + 1 + 1, 0, none⟩) 0 0] 26)) := below_ext (below_box3 w _ _ _) (below_box _ _)
  have hP0 : CoP g w (fun b => b = w.heap.size + 1 ∨ b = w.heap.size + 1 + 1) (w.heap.size + 4) [.slice (some ⟨w.heap.size + 1, 0, none⟩) 0 0, .slice (some ⟨w.heap.size + 1 + 1, 0, none⟩) 0 0] ⟨[], []⟩ p ((((w.alloc (.cells #[.slice none 0 0, .slice none 0 0] 26)).alloc (.cells #[] 35)).alloc (.cells #[] 3)).alloc (.cells #[.slice (some ⟨w.heap.size + 1, 0, none⟩) 0 0, .slice (some ⟨w.heap.size + 1 + 1, 0, none⟩) 0 0] 26)) :=
    ⟨fun b hb => by rcases hb with rfl | rfl <;> omega, by simp, Nat.le_refl _, sepCo_mk (S1 := fun b => b = w.heap.size + 1) (S2 := fun b => b = w.heap.size + 1 + 1) (fun _ h => Or.inl h) (fun _ h => Or.inr h) (fun b h1 h2 => by omega) (SSl.emp x1 (Nat.le_refl _) rfl) (SSl.emp x2 (Nat.le_succ _) rfl), x3, x0, coB_empty, h.keep hb0, grown_below (World.grownBy.refl w _) hb0⟩
  go_enter Try.func30, Try.ntmps30
  go_upto_region 2 with fail
  rw [show w.heap.size + 1 + 1 + 1 = w.heap.size + 3 from rfl]
  clear x0 x1 x2 x3 hb0
  generalize hW0 : ((((w.alloc (.cells #[.slice none 0 0, .slice none 0 0] 26)).alloc (.cells #[] 35)).alloc (.cells #[] 3)).alloc (.cells #[.slice (some ⟨w.heap.size + 1, 0, none⟩) 0 0, .slice (some ⟨w.heap.size + 1 + 1, 0, none⟩) 0 0] 26)) = w0 at *
  clear hW0
  go_upto_region 3 with (go_at_call 50; refine (pick_any g _ 24 _ hP0.rd (by omega) (by omega) (by omega)).mono ?_; rintro e w1 ⟨v1, rfl, i10, i11, i1r, i1g⟩)
  have hP1 := hP0.pick hgw i1r i1g
  go_upto_if 16 with (go_at_call 50; refine (pick_any g _ 10 _ hP1.rd (by omega) (by omega) (by omega)).mono ?_; rintro e w2 ⟨v2, rfl, i20, i21, i2r, i2g⟩)
  have hP2 := hP1.pick hgw i2r i2g
  go_cut [4] from 14 (fun s wx => ∃ n : Nat, s = .int .i64 n ∧ n ≤ 50 ∧ wx = w2)
  case first =>
    by_cases h2 : v2 = 0
    · subst h2
      go_wp2
      go_meet
      case rel => exact ⟨50, rfl, by omega, rfl⟩
    · have h2b : (v2 == 0) = false := by simpa using h2
      go_wp2
      go_meet
      case rel => exact ⟨v1.toNat, by rw [Int.toNat_of_nonneg i10], by omega, rfl⟩
  obtain ⟨n, rfl, hn50, rfl⟩ := hcut
  clear hP0 hP1 i1r i1g i2r i2g i10 i11 i20 i21 h
  go_wp2_with fail
  go_loopw [5] (fun i wr => ∃ (k : Nat) (S : Nat → Prop) (hi : Nat) (cs : List Value) (q : Co) (qn : Nat), k ≤ n ∧ i = .int .i64 k ∧ qn ≤ p + 1 + 1 + 600 * k ∧ CoP g w S hi cs q qn wr) (fun i _ => n - (intOf i).toNat)
  case atStart => exact ⟨0, _, _, _, _, _, Nat.zero_le _, rfl, by omega, hP2⟩
  case round =>
    obtain ⟨k, S, hi, cs, q, qn, hk, rfl, hqn, hP⟩ := hrel
    obtain ⟨A, na, ca, B, nb, cb, S1, S2, rfl, q1, q2, q3, hSX, hSO⟩ := hP.two
    have htn := coB_tiny hP.ok
    have hna := hSX.1
    have hnb := hSO.1
    by_cases hlt : k < n
    · obtain ⟨c0, c1⟩ := hP.box.cells2
      have ea := below_box wr (.cells #[.slice A na ca, .slice B nb cb] 26)
      have hNB1 := Blk.new wr 26 [.slice A na ca, .slice B nb cb]
      have hP1 := hP.next ea
      obtain ⟨c10, c11⟩ := hP1.box.cells2
      have hgr : g < wr.heap.size := hP.rd.lt
      clear hSX hSO
      go_upto_region 10 with (go_at_call 50; refine (pick_any g _ _ _ hP1.rd (by omega) (by first | omega | (simp; omega)) (by first | omega | (simp; omega))).mono ?_; rintro e w3 ⟨v2, rfl, i20, i21, i2r, i2g⟩)
      have hP2 := hP1.pick hgw i2r i2g
      have hNB2 := hNB1.grown i2g (by intro e; injection e with e; omega)
      obtain ⟨c20, c21⟩ := hP2.box.cells2
      go_upto_region 12 with (go_at_call 50; refine (pick_any g _ 5 _ hP2.rd (by omega) (by first | omega | (simp; omega)) (by first | omega | (simp; omega))).mono ?_; rintro e w4 ⟨v3, rfl, i30, i31, i3r, i3g⟩)
      have hP3 := hP2.pick hgw i3r i3g
      have hNB3 := hNB2.grown i3g (by intro e; injection e with e; omega)
      obtain ⟨n30, n31⟩ := hNB3.cells2
      clear c0 c1 c10 c11 c20 c21
      by_cases h3 : v3 = 0
      · subst h3
        go_upto_region 13 with fail
        have hP3d := hP3.next (Below.refl _ _).drew
        have hNB3d := hNB3.next (Below.refl _ _).drew
        obtain ⟨k30, k31⟩ := hP3.box.cells2
        go_region_held3 (fun w' => w'.cell? ⟨w.heap.size + 3, 0, none⟩ = some (.slice A na ca) ∧ w'.cell? ⟨w.heap.size + 3, 1, none⟩ = some (.slice B nb cb)) (first
          | exact ⟨k30, k31⟩
          | exact ⟨k50, k51⟩
          | exact ⟨k60, k61⟩
          | exact kst _ _) (first
          | (go_simp; go_at_call 58; refine (l92Parts_any g _ _ hP3d.rd (by omega)).mono ?_
             rintro e w5 ⟨v5, q5, rfl, ⟨PA, pn, pc, ps, rfl, hpn, hps, hpsm⟩, hq5, hr5, hg5⟩
             have hP5 := hP3d.pick hgw hr5 hg5
             have hNB5 := hNB3d.grown (w' := w5) hg5 (by intro e; injection e with e; omega)
             obtain ⟨k50, k51⟩ := hP5.box.cells2)
          | (go_simp; go_at_call 57; refine (specBegin_any _ q PA pn pc ps _ hP5.rep0 (hps.down (Nat.zero_le _)) (by unfold maxLen; omega)).mono ?_
             rintro e w6 ⟨cs2, rfl, hC2, hb6⟩
             have hCk := hC2
             obtain ⟨A2, n2, c2, B2, m2, d2, T1, T2, rfl, -, -, -, -, -⟩ := sepCo_cells hC2
             have hP6 := hP5.next hb6
             obtain ⟨k60, k61⟩ := hP6.box.cells2
             have kst := fun u v => ((hP6.far (gn := wr.heap.size) (i := 0) hgw hP.le u).far (gn := wr.heap.size) (i := 1) hgw hP.le v).box.cells2
             have hNB6 := hNB5.next hb6
             obtain ⟨n60, n61⟩ := hNB6.cells2
             have fn60 := hNB6.frozen 0
             have fn61 := hNB6.frozen 1))
        have hNB7 := (hNB6.set_ 0 (.slice A2 n2 c2)).set_ 1 (.slice B2 m2 d2)
        simp only [List.set_cons_zero, List.set_cons_succ] at hNB7
        have hP7 := (hP6.far (gn := wr.heap.size) (i := 0) hgw hP.le (.slice A2 n2 c2)).far (gn := wr.heap.size) (i := 1) hgw hP.le (.slice B2 m2 d2)
        have hzP : wr.heap.size < w5.heap.size := by have h2 := i2g.size; simp at h2; have := hg5.size; have := i3g.size; have h9 : w4.drew.heap.size = w4.heap.size := rfl; omega
        have hC7 : sepCo.V w5.heap.size (Iv w5.heap.size w6.heap.size) ((w6.setCell ⟨wr.heap.size, 0, none⟩ (.slice A2 n2 c2)).setCell ⟨wr.heap.size, 1, none⟩ (.slice B2 m2 d2)) [.slice A2 n2 c2, .slice B2 m2 d2] ((beginQ q ps).1) := sepCo.kept hCk (fun b hb => by rw [Below.heap_setCell _ _ _ b (by have := hb.1; dsimp only; omega), Below.heap_setCell _ _ _ b (by have := hb.1; dsimp only; omega)])
        have hF7 : w6.heap.size ≤ ((w6.setCell ⟨wr.heap.size, 0, none⟩ (.slice A2 n2 c2)).setCell ⟨wr.heap.size, 1, none⟩ (.slice B2 m2 d2)).heap.size := by rw [sz_set, sz_set]; exact Nat.le_refl _
        have hR7 := repCo.down (sepCo.reads hC7) (Nat.zero_le _)
        have hPP : w.heap.size + 4 ≤ w5.heap.size := by have := hP.lo; have := hP.le; omega
        have hHI : w.heap.size + 4 ≤ w6.heap.size := by have := hb6.size; have := hP.lo; have := hP.le; omega
        clear hC2 hCk hP6 hNB6 n60 n61 fn60 fn61 k60 k61 kst
        generalize hWf : (w6.setCell ⟨wr.heap.size, 0, none⟩ (.slice A2 n2 c2)).setCell ⟨wr.heap.size, 1, none⟩ (.slice B2 m2 d2) = wf at *
        clear hWf
        obtain ⟨nb0, nb1⟩ := hNB7.cells2
        go_upto_if 63 with (go_at_call 13; refine (specCoordinatorValid_any [.slice A2 n2 c2, .slice B2 m2 d2] ((beginQ q ps).1) _ hR7).mono ?_; rintro e w8 ⟨rfl, hb8⟩)
        have hP8 := hP7.next hb8
        obtain ⟨nc0, nc1⟩ := (hNB7.next hb8).cells2
        have f0 := hP8.box.frozen 0
        have f1 := hP8.box.frozen 1
        obtain ⟨b80, b81⟩ := hP8.box.cells2
        cases hvv : coB ((beginQ q ps).1)
        · go_wp2_with fail
          go_roundw
          case rel => exact ⟨k + 1, S, hi, _, _, q5, by omega, by go_num, by omega, hP8⟩
          case measure => simp [intOf]; omega
        · have hC8 := sepCo.next hC7 hb8 (fun b hb => Nat.lt_of_lt_of_le hb.2 hF7)
          have hP9 := hP8.put hgw rfl hC8 hPP (fun b hb => hb) (Nat.le_trans hF7 hb8.size) hHI hvv
          go_wp2_with fail
          go_roundw
          case rel => exact ⟨k + 1, _, _, _, _, q5, by omega, by go_num, by omega, hP9⟩
          case measure => simp [intOf]; omega
      · have h3b : (v3 == 0) = false := by simpa using h3
        by_cases h31 : v3 = 1
        · subst h31
          clear h3
          go_upto_if 55 with (go_at_call 50; refine (pick_any g _ 3 _ hP3.rd (by omega) (by first | omega | (simp; omega)) (by first | omega | (simp; omega))).mono ?_; rintro e w5 ⟨v4, rfl, i40, i41, i4r, i4g⟩)
          have hP5 := hP3.pick hgw i4r i4g
          have hNB5 := hNB3.grown i4g (by intro e; injection e with e; omega)
          obtain ⟨k50, k51⟩ := hP5.box.cells2
          obtain ⟨n50, n51⟩ := hNB5.cells2
          by_cases h4 : v4 = 0
          · subst h4
            go_upto_region 17 with (first
                  | (go_at_call 11; refine (specTimeout_any _ q v2 _ hP5.rep0).mono ?_
                     rintro e w6 ⟨cs2, rfl, hC2, hb6⟩
                     have hCk := hC2
                     obtain ⟨A2, n2, c2, B2, m2, d2, T1, T2, rfl, -, -, -, -, -⟩ := sepCo_cells hC2
                     have hP6 := hP5.next hb6
                     obtain ⟨k60, k61⟩ := hP6.box.cells2
                     have kst := fun u v => ((hP6.far (gn := wr.heap.size) (i := 0) hgw hP.le u).far (gn := wr.heap.size) (i := 1) hgw hP.le v).box.cells2
                     have hNB6 := hNB5.next hb6
                     obtain ⟨n60, n61⟩ := hNB6.cells2
                     have fn60 := hNB6.frozen 0
                     have fn61 := hNB6.frozen 1))
            have hNB7 := (hNB6.set_ 0 (.slice A2 n2 c2)).set_ 1 (.slice B2 m2 d2)
            simp only [List.set_cons_zero, List.set_cons_succ] at hNB7
            have hP7 := (hP6.far (gn := wr.heap.size) (i := 0) hgw hP.le (.slice A2 n2 c2)).far (gn := wr.heap.size) (i := 1) hgw hP.le (.slice B2 m2 d2)
            have hzP : wr.heap.size < w5.heap.size := by have h2 := i2g.size; simp at h2; have := i4g.size; have := i3g.size; omega
            have hC7 : sepCo.V w5.heap.size (Iv w5.heap.size w6.heap.size) ((w6.setCell ⟨wr.heap.size, 0, none⟩ (.slice A2 n2 c2)).setCell ⟨wr.heap.size, 1, none⟩ (.slice B2 m2 d2)) [.slice A2 n2 c2, .slice B2 m2 d2] ((timeoutQ q v2).1) := sepCo.kept hCk (fun b hb => by rw [Below.heap_setCell _ _ _ b (by have := hb.1; dsimp only; omega), Below.heap_setCell _ _ _ b (by have := hb.1; dsimp only; omega)])
            have hF7 : w6.heap.size ≤ ((w6.setCell ⟨wr.heap.size, 0, none⟩ (.slice A2 n2 c2)).setCell ⟨wr.heap.size, 1, none⟩ (.slice B2 m2 d2)).heap.size := by rw [sz_set, sz_set]; exact Nat.le_refl _
            have hR7 := repCo.down (sepCo.reads hC7) (Nat.zero_le _)
            have hPP : w.heap.size + 4 ≤ w5.heap.size := by have := hP.lo; have := hP.le; omega
            have hHI : w.heap.size + 4 ≤ w6.heap.size := by have := hb6.size; have := hP.lo; have := hP.le; omega
            clear hC2 hCk hP6 hNB6 n60 n61 fn60 fn61 k60 k61 kst
            generalize hWf : (w6.setCell ⟨wr.heap.size, 0, none⟩ (.slice A2 n2 c2)).setCell ⟨wr.heap.size, 1, none⟩ (.slice B2 m2 d2) = wf at *
            clear hWf
            obtain ⟨nb0, nb1⟩ := hNB7.cells2
            go_upto_if 63 with (go_at_call 13; refine (specCoordinatorValid_any [.slice A2 n2 c2, .slice B2 m2 d2] ((timeoutQ q v2).1) _ hR7).mono ?_; rintro e w8 ⟨rfl, hb8⟩)
            have hP8 := hP7.next hb8
            obtain ⟨nc0, nc1⟩ := (hNB7.next hb8).cells2
            have f0 := hP8.box.frozen 0
            have f1 := hP8.box.frozen 1
            obtain ⟨b80, b81⟩ := hP8.box.cells2
            cases hvv : coB ((timeoutQ q v2).1)
            · go_wp2_with fail
              go_roundw
              case rel => exact ⟨k + 1, S, hi, _, _, qn + 1 + 1 + 1, by omega, by go_num, by omega, hP8⟩
              case measure => simp [intOf]; omega
            · have hC8 := sepCo.next hC7 hb8 (fun b hb => Nat.lt_of_lt_of_le hb.2 hF7)
              have hP9 := hP8.put hgw rfl hC8 hPP (fun b hb => hb) (Nat.le_trans hF7 hb8.size) hHI hvv
              go_wp2_with fail
              go_roundw
              case rel => exact ⟨k + 1, _, _, _, _, qn + 1 + 1 + 1, by omega, by go_num, by omega, hP9⟩
              case measure => simp [intOf]; omega
          · have h4b : (v4 == 0) = false := by simpa using h4
            clear h4
            go_upto_region 17 with fail
            have hP7 := hP5
            have hNB7 := hNB5
            have hR7 := hP5.rep0
            obtain ⟨nb0, nb1⟩ := hNB7.cells2
            go_upto_if 63 with (go_at_call 13; refine (specCoordinatorValid_any [.slice A na ca, .slice B nb cb] (q) _ hR7).mono ?_; rintro e w8 ⟨rfl, hb8⟩)
            have hP8 := hP7.next hb8
            obtain ⟨nc0, nc1⟩ := (hNB7.next hb8).cells2
            have f0 := hP8.box.frozen 0
            have f1 := hP8.box.frozen 1
            obtain ⟨b80, b81⟩ := hP8.box.cells2
            have hvv : coB q = true := hP8.ok
            rw [hvv]
            have hP9 := hP8.same hgw
            go_wp2_with fail
            go_roundw
            case rel => exact ⟨k + 1, _, _, _, _, qn + 1 + 1 + 1, by omega, by go_num, by omega, hP9⟩
            case measure => simp [intOf]; omega
        · have h31b : (v3 == 1) = false := by simpa using h31
          clear h3 h31
          go_upto_region 11 with fail
          have hP3d := hP3.next (Below.refl _ _).drew
          have hNB3d := hNB3.next (Below.refl _ _).drew
          obtain ⟨k30, k31⟩ := hP3d.box.cells2
          refine wp_region_L (fun (_ : Bool) w' => w'.cell? ⟨w.heap.size + 3, 0, none⟩ = some (.slice A na ca) ∧ w'.cell? ⟨w.heap.size + 3, 1, none⟩ = some (.slice B nb cb)) 12 (by kernel_rfl) ⟨k30, k31⟩ (fun hHeld => ?_)
          refine wpAnyL_take (i := 0) (v := ?_) op0 (by kernel_rfl) (by kernel_rfl) (by kernel_rfl) (by rfl) (fun _ _ _ h => h) (b := true) (by kernel_rfl) hHeld (fun _ _ h => h) (Or.inl ⟨by rfl, ?_⟩) (by kernel_rfl) ?_
          rotate_left
          · intro wS hSw; (try dsimp only at hSw); go_simp; (try with_reducible rfl)
          (try simp only [Act.put, List.setIfInBounds_toArray, List.set_cons_zero, List.set_cons_succ])
          refine wpAnyL_take (i := 1) (v := ?_) op1 (by kernel_rfl) (by kernel_rfl) (by kernel_rfl) (by rfl) (fun _ _ _ h => h) (b := true) (by kernel_rfl) hHeld (fun _ _ h => h) (Or.inl ⟨by rfl, ?_⟩) (by kernel_rfl) ?_
          rotate_left
          · intro wS hSw; (try dsimp only at hSw); go_simp; (try with_reducible rfl)
          (try simp only [Act.put, List.setIfInBounds_toArray, List.set_cons_zero, List.set_cons_succ])
          refine wpAnyL_take (i := 2) (v := ?_) op2 (by kernel_rfl) (by kernel_rfl) (by kernel_rfl) (by rfl) (fun _ _ _ h => h) (b := true) (by kernel_rfl) hHeld (fun _ _ h => h) (Or.inl ⟨by rfl, ?_⟩) (by kernel_rfl) ?_
          rotate_left
          · intro wS hSw; (try dsimp only at hSw); go_simp; (try with_reducible rfl)
          (try simp only [Act.put, List.setIfInBounds_toArray, List.set_cons_zero, List.set_cons_succ])
          refine wpAnyL_take (i := 4) (v := ?_) op4 (by kernel_rfl) (by kernel_rfl) (by kernel_rfl) (by rfl) (fun _ _ _ h => h) (b := true) (by kernel_rfl) hHeld (fun _ _ h => h) (Or.inl ⟨by rfl, ?_⟩) (by kernel_rfl) ?_
          rotate_left
          · intro wS hSw; (try dsimp only at hSw); go_simp; (try with_reducible rfl)
          (try simp only [Act.put, List.setIfInBounds_toArray, List.set_cons_zero, List.set_cons_succ])
          refine wpAnyL_ready (rs := [3]) (by kernel_rfl) rfl ?_
          refine AllReadyL.cons (b := true) op3 (by kernel_rfl) (fun K hK => ?_) AllReadyL.nil
          go_simp
          go_at_call 50
          refine (pick_any g _ 3 _ hP3d.rd (by omega) (by omega) (by omega)).mono ?_
          rintro e w4b ⟨v4, rfl, i40, i41, i4r, i4g⟩
          have hP4 := hP3d.pick hgw i4r i4g
          have hNB4 := hNB3d.grown (w' := w4b) i4g (by intro e; injection e with e; omega)
          obtain ⟨k40, k41⟩ := hP4.box.cells2
          go_wp2_with fail
          refine hK.out _ _ (⟨k40, k41⟩) (fun hHeld => ?_)
          clear hK K
          (try simp only [Act.put, List.setIfInBounds_toArray, List.set_cons_zero, List.set_cons_succ])
          refine wpAnyL_ready (rs := [5]) (by kernel_rfl) rfl ?_
          refine AllReadyL.cons (b := true) op5 (by kernel_rfl) (fun K hK => ?_) AllReadyL.nil
          go_simp
          go_at_call 50
          refine (pick_any g _ 6 _ hP4.rd (by omega) (by omega) (by omega)).mono ?_
          rintro e w5 ⟨v5, rfl, i50, i51, i5r, i5g⟩
          have hP5 := hP4.pick hgw i5r i5g
          have hNB5 := hNB4.grown i5g (by intro e; injection e with e; omega)
          obtain ⟨k50, k51⟩ := hP5.box.cells2
          go_wp2_with fail
          refine hK.out _ _ (⟨k50, k51⟩) (fun hHeld => ?_)
          clear hK K
          (try simp only [Act.put, List.setIfInBounds_toArray, List.set_cons_zero, List.set_cons_succ])
          refine wpAnyL_take (i := 6) (v := ?_) op6 (by kernel_rfl) (by kernel_rfl) (by kernel_rfl) (by rfl) (fun _ _ _ h => h) (b := true) (by kernel_rfl) hHeld (fun _ _ h => h) (Or.inl ⟨by rfl, ?_⟩) (by kernel_rfl) ?_
          rotate_left
          · intro wS hSw; (try dsimp only at hSw); go_simp; (try with_reducible rfl)
          (try simp only [Act.put, List.setIfInBounds_toArray, List.set_cons_zero, List.set_cons_succ])
          refine wpAnyL_ready (rs := [7]) (by kernel_rfl) rfl ?_
          refine AllReadyL.cons (b := true) op7 (by kernel_rfl) (fun K hK => ?_) AllReadyL.nil
          go_simp
          go_at_call 59
          refine (specVote_any _ q v2 v4 _ _ hP5.rep0).mono ?_
          rintro e w6 ⟨cs2, rfl, hC2, hb6⟩
          have hCk := hC2
          obtain ⟨A2, n2, c2, B2, m2, d2, T1, T2, rfl, -, -, -, -, -⟩ := sepCo_cells hC2
          have hP6 := hP5.next hb6
          obtain ⟨k60, k61⟩ := hP6.box.cells2
          have kst := fun u v => ((hP6.far (gn := wr.heap.size) (i := 0) hgw hP.le u).far (gn := wr.heap.size) (i := 1) hgw hP.le v).box.cells2
          have hNB6 := hNB5.next hb6
          obtain ⟨n60, n61⟩ := hNB6.cells2
          have fn60 := hNB6.frozen 0
          have fn61 := hNB6.frozen 1
          go_wp2_with fail
          refine hK.out _ _ (⟨k60, k61⟩) (fun hHeld => ?_)
          clear hK K
          (try simp only [Act.put, List.setIfInBounds_toArray, List.set_cons_zero, List.set_cons_succ])
          refine wpAnyL_take (i := 8) (v := ?_) op8 (by kernel_rfl) (by kernel_rfl) (by kernel_rfl) (by rfl) (fun _ _ _ h => h) (b := true) (by kernel_rfl) hHeld (fun _ _ h => h) (Or.inl ⟨by rfl, ?_⟩) (by kernel_rfl) ?_
          rotate_left
          · intro wS hSw; (try dsimp only at hSw); go_simp; (try with_reducible rfl)
          (try simp only [Act.put, List.setIfInBounds_toArray, List.set_cons_zero, List.set_cons_succ])
          refine wpAnyL_take (i := 9) (v := ?_) op9 (by kernel_rfl) (by kernel_rfl) (by kernel_rfl) (by rfl) (fun _ _ _ h => h) (b := true) (by kernel_rfl) hHeld (fun _ _ h => h) (Or.inl ⟨by rfl, ?_⟩) (by kernel_rfl) ?_
          rotate_left
          · intro wS hSw; (try dsimp only at hSw); go_simp; (try with_reducible rfl)
          (try simp only [Act.put, List.setIfInBounds_toArray, List.set_cons_zero, List.set_cons_succ])
          refine wpAnyL_take (i := 10) (v := ?_) op10 (by kernel_rfl) (by kernel_rfl) (by kernel_rfl) (by rfl) (fun _ _ _ h => h) (b := true) (by kernel_rfl) hHeld (fun _ _ h => h) (Or.inl ⟨by rfl, ?_⟩) (by kernel_rfl) ?_
          rotate_left
          · intro wS hSw; (try dsimp only at hSw); go_simp; (try with_reducible rfl)
          (try simp only [Act.put, List.setIfInBounds_toArray, List.set_cons_zero, List.set_cons_succ])
          refine wpAnyL_ready (rs := [11]) (by kernel_rfl) rfl ?_
          refine AllReadyL.cons (b := true) op11 (by kernel_rfl) (fun K hK => ?_) AllReadyL.nil
          go_simp
          refine hK.out _ _ (kst _ _) (fun hHeld => ?_)
          clear hK K
          (try simp only [Act.put, List.setIfInBounds_toArray, List.set_cons_zero, List.set_cons_succ])
          refine wpAnyL_done (by kernel_rfl) ?_ _
          have hNB7 := (hNB6.set_ 0 (.slice A2 n2 c2)).set_ 1 (.slice B2 m2 d2)
          simp only [List.set_cons_zero, List.set_cons_succ] at hNB7
          have hP7 := (hP6.far (gn := wr.heap.size) (i := 0) hgw hP.le (.slice A2 n2 c2)).far (gn := wr.heap.size) (i := 1) hgw hP.le (.slice B2 m2 d2)
          have hzP : wr.heap.size < w5.heap.size := by have h2 := i2g.size; simp at h2; have := i5g.size; have := i4g.size; have := i3g.size; have h9 : w4.drew.heap.size = w4.heap.size := rfl; omega
          have hC7 : sepCo.V w5.heap.size (Iv w5.heap.size w6.heap.size) ((w6.setCell ⟨wr.heap.size, 0, none⟩ (.slice A2 n2 c2)).setCell ⟨wr.heap.size, 1, none⟩ (.slice B2 m2 d2)) [.slice A2 n2 c2, .slice B2 m2 d2] ((voteQ q v2 v4 (decide (v5 > 0))).1) := sepCo.kept hCk (fun b hb => by rw [Below.heap_setCell _ _ _ b (by have := hb.1; dsimp only; omega), Below.heap_setCell _ _ _ b (by have := hb.1; dsimp only; omega)])
          have hF7 : w6.heap.size ≤ ((w6.setCell ⟨wr.heap.size, 0, none⟩ (.slice A2 n2 c2)).setCell ⟨wr.heap.size, 1, none⟩ (.slice B2 m2 d2)).heap.size := by rw [sz_set, sz_set]; exact Nat.le_refl _
          have hR7 := repCo.down (sepCo.reads hC7) (Nat.zero_le _)
          have hPP : w.heap.size + 4 ≤ w5.heap.size := by have := hP.lo; have := hP.le; omega
          have hHI : w.heap.size + 4 ≤ w6.heap.size := by have := hb6.size; have := hP.lo; have := hP.le; omega
          clear hC2 hCk hP6 hNB6 n60 n61 fn60 fn61 k60 k61 kst
          generalize hWf : (w6.setCell ⟨wr.heap.size, 0, none⟩ (.slice A2 n2 c2)).setCell ⟨wr.heap.size, 1, none⟩ (.slice B2 m2 d2) = wf at *
          clear hWf
          obtain ⟨nb0, nb1⟩ := hNB7.cells2
          go_upto_if 63 with (go_at_call 13; refine (specCoordinatorValid_any [.slice A2 n2 c2, .slice B2 m2 d2] ((voteQ q v2 v4 (decide (v5 > 0))).1) _ hR7).mono ?_; rintro e w8 ⟨rfl, hb8⟩)
          have hP8 := hP7.next hb8
          obtain ⟨nc0, nc1⟩ := (hNB7.next hb8).cells2
          have f0 := hP8.box.frozen 0
          have f1 := hP8.box.frozen 1
          obtain ⟨b80, b81⟩ := hP8.box.cells2
          cases hvv : coB ((voteQ q v2 v4 (decide (v5 > 0))).1)
          · go_wp2_with fail
            go_roundw
            case rel => exact ⟨k + 1, S, hi, _, _, qn + 1 + 1 + 1 + 1, by omega, by go_num, by omega, hP8⟩
            case measure => simp [intOf]; omega
          · have hC8 := sepCo.next hC7 hb8 (fun b hb => Nat.lt_of_lt_of_le hb.2 hF7)
            have hP9 := hP8.put hgw rfl hC8 hPP (fun b hb => hb) (Nat.le_trans hF7 hb8.size) hHI hvv
            go_wp2_with fail
            go_roundw
            case rel => exact ⟨k + 1, _, _, _, _, qn + 1 + 1 + 1 + 1, by omega, by go_num, by omega, hP9⟩
            case measure => simp [intOf]; omega
    · have hke : k = n := by omega
      clear hlt
      obtain ⟨c0, c1⟩ := hP.box.cells2
      by_cases hz : na = 0
      · have hzb : ((na : Int) == 0) = true := by simpa using hz
        clear hz
        obtain ⟨rs0, rs1⟩ := hP.res.cells2
        have rf0 := hP.res.frozen 0
        have rf1 := hP.res.frozen 1
        go_wp2_with fail
        have hRR := (hP.res.set_ 0 (.slice A na ca)).set_ 1 (.slice B nb cb)
        simp only [List.set_cons_zero, List.set_cons_succ] at hRR
        obtain ⟨r0, r1⟩ := hRR.cells2
        refine bodyPost_ret (v := .agg #[.slice A na ca, .slice B nb cb]) (by simp [results, Try.results30, go_sem, r0, r1]) rfl ?_
        exact co_out (hi := hi) hSX hSO (fun b hb => ⟨(hP.inS b (q1 b hb)).1, (hP.inS b (q1 b hb)).2.1⟩) (fun b hb => ⟨(hP.inS b (q2 b hb)).1, (hP.inS b (q2 b hb)).2.1⟩) q3 hP.le rfl ⟨htn.1, Nat.le_succ_of_le htn.2.1, htn.2.2⟩ hgw hP.rd hP.gr (by omega)
      · have hzb : ((na : Int) == 0) = false := by simpa using hz
        have hn1 : (1 : Int) ≤ (na : Int) := by omega
        have hn2 : (na : Int) ≤ 1000 := by omega
        go_upto_region 22 with (go_at_call 50; refine (pick_any g _ (na : Int) _ hP.rd (by omega) hn1 hn2).mono ?_; rintro e w2 ⟨v2, rfl, i20, i21, i2r, i2g⟩)
        have hP2 := hP.pick hgw i2r i2g
        obtain ⟨kk, rfl⟩ : ∃ kk : Nat, v2 = (kk : Int) := ⟨v2.toNat, by omega⟩
        have hkk : kk < na := by omega
        clear hz i20
        go_upto_region 23 with (go_at_call 50; refine (pick_any g _ 20 _ hP2.rd (by omega) (by first | omega | (simp; omega)) (by first | omega | (simp; omega))).mono ?_; rintro e w4 ⟨v3, rfl, i30, i31, i3r, i3g⟩)
        have hP3 := hP2.pick hgw i3r i3g
        have lt1 : ∀ b, S1 b → b < wr.heap.size ∧ b ≠ g := fun b hb => ⟨by have := (hP.inS b (q1 b hb)).2.1; have := hP.le; omega, by have := (hP.inS b (q1 b hb)).1; omega⟩
        have lt2 : ∀ b, S2 b → b < wr.heap.size ∧ b ≠ g := fun b hb => ⟨by have := (hP.inS b (q2 b hb)).2.1; have := hP.le; omega, by have := (hP.inS b (q2 b hb)).1; omega⟩
        have lt1' : ∀ b, S1 b → b < w2.heap.size ∧ b ≠ g := fun b hb => ⟨by have := (lt1 b hb).1; have := i2g.size; omega, (lt1 b hb).2⟩
        have lt2' : ∀ b, S2 b → b < w2.heap.size ∧ b ≠ g := fun b hb => ⟨by have := (lt2 b hb).1; have := i2g.size; omega, (lt2 b hb).2⟩
        have hSX3 := (hSX.grownG i2g lt1).grownG i3g lt1'
        have hSO3 := (hSO.grownG i2g lt2).grownG i3g lt2'
        have lt3 : ∀ b, S1 b → b < w4.heap.size ∧ b ≠ g := fun b hb => ⟨by have := (lt1' b hb).1; have := i3g.size; omega, (lt1 b hb).2⟩
        have lt4 : ∀ b, S2 b → b < w4.heap.size ∧ b ≠ g := fun b hb => ⟨by have := (lt2' b hb).1; have := i3g.size; omega, (lt2 b hb).2⟩
        obtain ⟨x, hx⟩ : ∃ x, q.ts[kk]? = some x := ⟨_, List.getElem?_eq_getElem (show kk < q.ts.length by omega)⟩
        clear hSX hSO lt1 lt2 lt1' lt2' c0 c1
        obtain ⟨c30, c31⟩ := hP3.box.cells2
        by_cases h30 : v3 = 0
        · subst h30
          go_upto_region 24 with fail
          have hP3d := hP3.next (Below.refl _ _).drew
          go_region_held3 (fun w' => w'.cell? ⟨w.heap.size + 3, 0, none⟩ = some (.slice A na ca)) (first
            | exact c30
            | exact c50
            | exact (hP5.box.far (p := ⟨g1, kk * 3 + 1 + 1, none⟩) hg13.symm _).cells2.1) (first
            | (go_simp; go_at_call 50; refine (pick_any g _ 5 _ hP3d.rd (by omega) (by omega) (by omega)).mono ?_
               rintro e w5 ⟨v5, rfl, i50, i51, i5r, i5g⟩
               have hP5 := hP3d.pick hgw i5r i5g
               have hSX5 := (hSX3.next (Below.refl _ _).drew (fun b hb => (lt3 b hb).1)).grownG (w' := w5) i5g lt3
               have hSO5 := (hSO3.next (Below.refl _ _).drew (fun b hb => (lt4 b hb).1)).grownG (w' := w5) i5g lt4
               obtain ⟨c50, c51⟩ := hP5.box.cells2
               obtain ⟨g1, P5, p5, d5, V5, m5, e5, rfl, hSg1, -, -, w50, w51, w52, f5, -, -, -, -, -, -⟩ := hSX5.txCells hx
               have hg13 : g1 ≠ w.heap.size + 3 := (hP.inS g1 (q1 g1 hSg1)).2.2
               have hg14 : g1 ≠ w.heap.size := by have := (hP.inS g1 (q1 g1 hSg1)).1; omega
               have fw5 := f5 (kk * 3 + 1 + 1)))
          have hS6 := hSX5.setDec hx rfl v5
          have hO6 := hSO5.kept (w' := w5.setCell ⟨g1, kk * 3 + 1 + 1, none⟩ (.int .i64 v5)) (fun b hb => Below.heap_setCell _ ⟨g1, kk * 3 + 1 + 1, none⟩ _ b (fun (e : b = g1) => q3 g1 hSg1 (e ▸ hb)))
          have hbx6 := hP5.box.far (p := ⟨g1, kk * 3 + 1 + 1, none⟩) hg13.symm (.int .i64 v5)
          have hrs6 := hP5.res.far (p := ⟨g1, kk * 3 + 1 + 1, none⟩) hg14.symm (.int .i64 v5)
          have hr6 := hP5.rd.store (b := g1) (i := kk * 3 + 1 + 1) (by have := (hP.inS g1 (q1 g1 hSg1)).1; omega) (.int .i64 v5)
          have hgr6 := grown_set (b := g1) (i := kk * 3 + 1 + 1) hP5.gr (by have := (hP.inS g1 (q1 g1 hSg1)).1; omega) (.int .i64 v5)
          have hle6 : hi ≤ (w5.setCell ⟨g1, kk * 3 + 1 + 1, none⟩ (.int .i64 v5)).heap.size := by rw [sz_set]; exact hP5.le
          obtain ⟨c60, c61⟩ := hbx6.cells2
          have htiny := tiny_set hP.ok hx (y := ⟨x.ps, x.vs, v5⟩) rfl rfl
          obtain ⟨rs0, rs1⟩ := hrs6.cells2
          have rf0 := hrs6.frozen 0
          have rf1 := hrs6.frozen 1
          go_wp2_with fail
          have hRR := (hrs6.set_ 0 (.slice (some ⟨g1, 0, none⟩) na ca)).set_ 1 (.slice B nb cb)
          simp only [List.set_cons_zero, List.set_cons_succ] at hRR
          obtain ⟨r0, r1⟩ := hRR.cells2
          refine bodyPost_ret (v := .agg #[.slice (some ⟨g1, 0, none⟩) na ca, .slice B nb cb]) (by simp [results, Try.results30, go_sem, r0, r1]) rfl ?_
          exact co_out (hi := hi) hS6 hO6 (fun b hb => ⟨(hP.inS b (q1 b hb)).1, (hP.inS b (q1 b hb)).2.1⟩) (fun b hb => ⟨(hP.inS b (q2 b hb)).1, (hP.inS b (q2 b hb)).2.1⟩) q3 hle6 rfl htiny hgw hr6 hgr6 (by omega)
        · have h30b : (v3 == 0) = false := by simpa using h30
          by_cases h31 : v3 = 1
          · subst h31
            clear h30
            go_upto_region 26 with fail
            have ba := below_box w4 (.cells #[.int .i64 kk] 3)
            have hneT : some (w.heap.size + 3) ≠ (Value.slice B nb cb).ownBlock := fun e => (hP.inS _ (q2 _ (hSO3.ownS _ e.symm))).2.2 rfl
            have hneR : some w.heap.size ≠ (Value.slice B nb cb).ownBlock := fun e => by have := (hP.inS _ (q2 _ (hSO3.ownS _ e.symm))).1; omega
            have hneg : some g ≠ (Value.slice B nb cb).ownBlock := fun e => by have := (hP.inS _ (q2 _ (hSO3.ownS _ e.symm))).1; omega
            have hzl := hP.lo
            have hzl2 := hP3.le
            go_wp2_with (at_builtin; go_loud (refine wpList_app rfl (.tmp 89) (.tmp 91) 24 rfl (w.heap.size + 1) 3 Try.underlying24 int_info1 rfl (by omega) (by omega) _ nb (ints q.ord) rfl (own_belowS hSO3.ints_own ba) ⟨w4.heap.size, 0, none⟩ 1 1 [.int .i64 kk] rfl rfl ((Blk.new w4 3 [.int .i64 kk]).cellsAtG) (by simp [Value.oneCell']) (by omega) (by have := ba.size; omega) ?_; intro O9 d9 w9 hown9 _ hb9 hg9 hloc9; have hT9 : Blk w9 (w.heap.size + 3) 26 [.slice A na ca, .slice B nb cb] := (hP3.box.next ba).grown hg9 hneT; have hT10 := hT9.set_ 1 (.slice O9 (nb + 1) d9); simp only [List.set_cons_zero, List.set_cons_succ] at hT10; obtain ⟨t90, t91⟩ := hT9.cells2; obtain ⟨t100, t101⟩ := hT10.cells2; have ft9 := hT9.frozen 1; have hrs9 := (hP3.res.next ba).grown hg9 hneR; have hrs10 := hrs9.far (p := ⟨w.heap.size + 3, 1, none⟩) (by dsimp only; omega) (.slice O9 (nb + 1) d9); obtain ⟨rs0, rs1⟩ := hrs10.cells2; have rf0 := hrs10.frozen 0; have rf1 := hrs10.frozen 1))
            have hz9 := hg9.size
            have hz8 : (w4.alloc (.cells #[.int .i64 kk] 3)).heap.size = w4.heap.size + 1 := by simp
            have hS9 := ((hSX3.next ba (fun b hb => (lt3 b hb).1)).kept (w' := w9) (fun b hb => hg9.block b (by have := (lt3 b hb).1; omega) (fun e => q3 b hb (hSO3.ownS _ e.symm)))).kept (w' := w9.setCell ⟨w.heap.size + 3, 1, none⟩ (.slice O9 (nb + 1) d9)) (fun b hb => Below.heap_setCell w9 ⟨w.heap.size + 3, 1, none⟩ _ b (hP.inS b (q1 b hb)).2.2)
            have hnew : ∀ b, (Value.slice O9 (nb + 1) d9).ownBlock = some b → S2 b ∨ b = w4.heap.size + 1 := fun b hb => by
              rcases hloc9 with e | e
              · exact Or.inl (hSO3.ownS _ (e ▸ hb))
              · rw [e] at hb; injection hb with hb; right; omega
            have hO9 := (SSl.of_ints (S := fun b => (Value.slice O9 (nb + 1) d9).ownBlock = some b) (by rw [← ints_snoc]; exact hown9) (fun b _ _ h => h)).kept (w' := w9.setCell ⟨w.heap.size + 3, 1, none⟩ (.slice O9 (nb + 1) d9)) (fun b hb => Below.heap_setCell w9 ⟨w.heap.size + 3, 1, none⟩ _ b (by
              rcases hnew b hb with h | h
              · exact (hP.inS b (q2 b h)).2.2
              · dsimp only; omega))
            have hr9 := ((hP3.rd.keep ba).keepB hb9 (by omega)).store (b := w.heap.size + 3) (i := 1) (by omega) (.slice O9 (nb + 1) d9)
            have hgr9 := grown_set (b := w.heap.size + 3) (i := 1) (grown_belowB (grown_below hP3.gr ba) hb9 (by omega)) (by omega) (.slice O9 (nb + 1) d9)
            have hRR := (hrs10.set_ 0 (.slice A na ca)).set_ 1 (.slice O9 (nb + 1) d9)
            simp only [List.set_cons_zero, List.set_cons_succ] at hRR
            obtain ⟨r0, r1⟩ := hRR.cells2
            refine bodyPost_ret (v := .agg #[.slice A na ca, .slice O9 (nb + 1) d9]) (by simp [results, Try.results30, go_sem, r0, r1]) rfl ?_
            exact co_out (hi := w9.heap.size) hS9 hO9 (fun b hb => ⟨(hP.inS b (q1 b hb)).1, by have := (lt3 b hb).1; omega⟩) (fun b hb => ⟨(hown9.lt b hb).1, (hown9.lt b hb).2⟩) (fun b hb hc => by rcases hnew b hc with h | h; (· exact q3 b hb h); (· have := (lt3 b hb).1; omega)) (by rw [sz_set]; exact Nat.le_refl _) rfl ⟨htn.1, by have := htn.2.1; simp; omega, htn.2.2⟩ hgw hr9 hgr9 (by omega)
          · have h31b : (v3 == 1) = false := by simpa using h31
            by_cases h32 : v3 = 2
            · subst h32
              clear h30 h31
              obtain ⟨g1, P5, p5, d5, V5, m5, e5, rfl, hSg1, hlg1, hgl1, w50, w51, w52, f5, hm5, -, -, -, -, hV5⟩ := hSX3.txCells hx
              have hg13 : g1 ≠ w.heap.size + 3 := (hP.inS g1 (q1 g1 hSg1)).2.2
              by_cases hm0 : 0 < m5
              · have hm0b : decide ((m5 : Int) > 0) = true := by simpa using hm0
                obtain ⟨g2, rfl, hSg2, hg21, hlg2, hgl2, f2⟩ := hV5 hm0
                have hg23 : g2 ≠ w.heap.size + 3 := (hP.inS g2 (q1 g2 hSg2)).2.2
                have hg24 : g2 ≠ w.heap.size := by have := (hP.inS g2 (q1 g2 hSg2)).1; omega
                go_upto_region 29 with fail
                have hP3d := hP3.next (Below.refl _ _).drew
                go_region_held3 (fun w' => w'.cell? ⟨w.heap.size + 3, 0, none⟩ = some (.slice (some ⟨g1, 0, none⟩) na ca) ∧ w'.cell? ⟨g1, kk * 3 + 1, none⟩ = some (.slice (some ⟨g2, 0, none⟩) m5 e5)) (first
                  | exact ⟨c30, w51⟩
                  | exact ⟨c50, u1⟩
                  | exact ⟨(hP5.box.far (p := ⟨g2, 0, none⟩) hg23.symm _).cells2.1, by rw [World.cell?_setCell_other _ _ _ _ (fun e => hg21 (by injection e))]; exact u1⟩) (first
                  | (go_simp; go_at_call 50; refine (pick_any g _ 4 _ hP3d.rd (by omega) (by omega) (by omega)).mono ?_
                     rintro e w5 ⟨v5, rfl, i50, i51, i5r, i5g⟩
                     have hP5 := hP3d.pick hgw i5r i5g
                     have hSX5 := (hSX3.next (Below.refl _ _).drew (fun b hb => (lt3 b hb).1)).grownG (w' := w5) i5g lt3
                     have hSO5 := (hSO3.next (Below.refl _ _).drew (fun b hb => (lt4 b hb).1)).grownG (w' := w5) i5g lt4
                     obtain ⟨c50, c51⟩ := hP5.box.cells2
                     have hwrp : IntKind.i64.wrap (v5 - 2) = v5 - 2 := by rw [IntKind.wrap_i64]; omega
                     obtain ⟨g1', g2', m6, e6, eg1, -, -, -, -, -, -, -, -, u1', -, ue', fe', -, hS6', -⟩ := vote_store hSX5 hx (kv := 0) (by omega) (v5 - 2) (by unfold wf64; omega)
                     injection eg1 with eg1
                     injection eg1 with eg1
                     subst eg1
                     have u1 : w5.cell? ⟨g1, kk * 3 + 1, none⟩ = some (.slice (some ⟨g2, 0, none⟩) m5 e5) := (World.cell?_of_block (i5g.block g1 (lt3 g1 hSg1).1 (by intro e; injection e with e; exact (lt3 g1 hSg1).2 e))).trans w51
                     rw [u1] at u1'
                     injection u1' with u1'
                     injection u1' with j1 j2 j3
                     injection j1 with j1
                     injection j1 with j1
                     subst j1 j2 j3))
                have hO6 := hSO5.kept (w' := w5.setCell ⟨g2, 0, none⟩ (.int .i64 (v5 - 2))) (fun b hb => Below.heap_setCell _ ⟨g2, 0, none⟩ _ b (fun (e : b = g2) => q3 g2 hSg2 (e ▸ hb)))
                have hbx6 := hP5.box.far (p := ⟨g2, 0, none⟩) hg23.symm (.int .i64 (v5 - 2))
                have hrs6 := hP5.res.far (p := ⟨g2, 0, none⟩) hg24.symm (.int .i64 (v5 - 2))
                have hr6 := hP5.rd.store (b := g2) (i := 0) (by have := (hP.inS g2 (q1 g2 hSg2)).1; omega) (.int .i64 (v5 - 2))
                have hgr6 := grown_set (b := g2) (i := 0) hP5.gr (by have := (hP.inS g2 (q1 g2 hSg2)).1; omega) (.int .i64 (v5 - 2))
                have hle6 : hi ≤ (w5.setCell ⟨g2, 0, none⟩ (.int .i64 (v5 - 2))).heap.size := by rw [sz_set]; exact hP5.le
                obtain ⟨c60, c61⟩ := hbx6.cells2
                have htiny := tiny_set hP.ok hx (y := ⟨x.ps, x.vs.set 0 (v5 - 2), x.dec⟩) rfl (by simp)
                obtain ⟨rs0, rs1⟩ := hrs6.cells2
                have rf0 := hrs6.frozen 0
                have rf1 := hrs6.frozen 1
                go_wp2_with fail
                have hRR := (hrs6.set_ 0 (.slice (some ⟨g1, 0, none⟩) na ca)).set_ 1 (.slice B nb cb)
                simp only [List.set_cons_zero, List.set_cons_succ] at hRR
                obtain ⟨r0, r1⟩ := hRR.cells2
                refine bodyPost_ret (v := .agg #[.slice (some ⟨g1, 0, none⟩) na ca, .slice B nb cb]) (by simp [results, Try.results30, go_sem, r0, r1]) rfl ?_
                exact co_out (hi := hi) hS6' hO6 (fun b hb => ⟨(hP.inS b (q1 b hb)).1, (hP.inS b (q1 b hb)).2.1⟩) (fun b hb => ⟨(hP.inS b (q2 b hb)).1, (hP.inS b (q2 b hb)).2.1⟩) q3 hle6 rfl htiny hgw hr6 hgr6 (by omega)
              · have hm0b : decide ((m5 : Int) > 0) = false := by simpa using hm0
                go_upto_region 30 with fail
                obtain ⟨rs0, rs1⟩ := hP3.res.cells2
                have rf0 := hP3.res.frozen 0
                have rf1 := hP3.res.frozen 1
                go_wp2_with fail
                have hRR := (hP3.res.set_ 0 (.slice (some ⟨g1, 0, none⟩) na ca)).set_ 1 (.slice B nb cb)
                simp only [List.set_cons_zero, List.set_cons_succ] at hRR
                obtain ⟨r0, r1⟩ := hRR.cells2
                refine bodyPost_ret (v := .agg #[.slice (some ⟨g1, 0, none⟩) na ca, .slice B nb cb]) (by simp [results, Try.results30, go_sem, r0, r1]) rfl ?_
                exact co_out (hi := hi) hSX3 hSO3 (fun b hb => ⟨(hP.inS b (q1 b hb)).1, (hP.inS b (q1 b hb)).2.1⟩) (fun b hb => ⟨(hP.inS b (q2 b hb)).1, (hP.inS b (q2 b hb)).2.1⟩) q3 hP3.le rfl ⟨htn.1, Nat.le_succ_of_le htn.2.1, htn.2.2⟩ hgw hP3.rd hP3.gr (by omega)
            · have h32b : (v3 == 2) = false := by simpa using h32
              go_upto_region 30 with fail
              obtain ⟨rs0, rs1⟩ := hP3.res.cells2
              have rf0 := hP3.res.frozen 0
              have rf1 := hP3.res.frozen 1
              go_wp2_with fail
              have hRR := (hP3.res.set_ 0 (.slice A na ca)).set_ 1 (.slice B nb cb)
              simp only [List.set_cons_zero, List.set_cons_succ] at hRR
              obtain ⟨r0, r1⟩ := hRR.cells2
              refine bodyPost_ret (v := .agg #[.slice A na ca, .slice B nb cb]) (by simp [results, Try.results30, go_sem, r0, r1]) rfl ?_
              exact co_out (hi := hi) hSX3 hSO3 (fun b hb => ⟨(hP.inS b (q1 b hb)).1, (hP.inS b (q1 b hb)).2.1⟩) (fun b hb => ⟨(hP.inS b (q2 b hb)).1, (hP.inS b (q2 b hb)).2.1⟩) q3 hP3.le rfl ⟨htn.1, Nat.le_succ_of_le htn.2.1, htn.2.2⟩ hgw hP3.rd hP3.gr (by omega)
end Go.Proofs.Ytlmcejpjhdaanaa
