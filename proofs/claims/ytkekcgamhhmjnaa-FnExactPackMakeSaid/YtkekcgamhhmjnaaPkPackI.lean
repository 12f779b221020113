/- Walks: the program's PackMake. -/
import Derived.Test.YtkekcgamhhmjnaaPkSt
import Derived.Deep.RegionHeld3
namespace Go.Proofs.Ytkekcgamhhmjnaa
open Go.RowKit Go.Sort

theorem bestTo_tx {t : ByteArray} {ts : List ByteArray} {bs : List Int} (k : Nat) {y : Dp} (hy : y ∈ (bestTo t ts bs k).2) : y.tx.size ≤ maxLen := by
  rw [bestTo_ops] at hy
  have := (dmake_small _ _).2 y hy
  simp only [maxLen]; omega
theorem bestTo_len {t : ByteArray} {ts : List ByteArray} {bs : List Int} (k : Nat) : (bestTo t ts bs k).2.length ≤ 8 := by
  rw [bestTo_ops]
  exact (dmake_small _ _).1
theorem OwnD.read {w : World} {B n c : Nat} {A : Option Addr} {ops : List Dp} (h : OwnD w B A n c ops) (ht : ∀ o ∈ ops, o.tx.size ≤ maxLen) : RSl repDp 0 w A n ops :=
  ((h.ssl (S := fun _ => True) ht (fun _ _ _ _ => trivial)).reads).down (Nat.zero_le _)
set_option maxRecDepth 100000 in
set_option maxHeartbeats 1600000 in
theorem implPackMake_any (A : Option Addr) (n c : Nat) (os : List Ob) (w : World) (h : RObjs w A n os) (hn : n ≤ maxLen) (hgl : Gl w) :
    Calls Try.prog 11 #[.slice A n c] w (PackTo w os) := by
  have hl := h.1
  have hn0 := hn
  unfold maxLen at hn0
  have bad : ∀ w1, packable os = false → Below w.heap.size w w1 → PackTo w os (.returned (.tuple #[.slice none 0 0, .bool false])) w1 := fun w1 hp hb => by
    unfold PackTo
    rw [packP_no hp]
    exact ⟨none, 0, 0, rfl, SSl.nil, hb⟩
  have BAD := Lib.hid bad
  clear bad
  go_enter Try.func11, Try.ntmps11
  by_cases hn16 : n ≤ 16
  · have hd16 : decide ((n : Int) > 16) = false := decide_eq_false (by omega)
    have hd16' : decide (16 < (n : Int)) = false := decide_eq_false (by omega)
    cases hall : os.all Ob.ok
    · have hp := Lib.hid (show packable os = false by unfold packable; rw [hall, Bool.and_false])
      go_wp2_with fail
      refine (anyBad_any A n c os w h hn).mono ?_
      rw [hall]
      rintro e w1 ⟨rfl, hb1⟩
      go_wp2_with fail
      refine bodyPost_ret (v := .tuple #[.slice none 0 0, .bool false]) (by simp [results, Try.results11, go_sem]) rfl ?_
      exact BAD.out w1 hp.out hb1
    · have hp := Lib.hid (show packable os = true by unfold packable; rw [hall, Bool.and_true]; exact decide_eq_true (by omega))
      go_wp2_with fail
      refine (anyBad_any A n c os w h hn).mono ?_
      rw [hall]
      rintro e w1 ⟨rfl, hb1⟩
      have hok : ∀ (j : Nat) (o : Ob), os[j]? = some o → o.ok = true := fun j o ho => List.all_eq_true.1 hall o (List.mem_of_getElem? ho)
      have HOK := Lib.hid hok
      have HLL := Lib.hid hl
      clear hall hok hl
      have hg1 := hgl.next hb1
      go_wp2_with fail
      go_loopw [4, 5, 22] (fun v u i wr => ∃ (k : Nat) (N : Option Addr) (cN : Nat) (A2 : Option Addr) (c2 : Nat) (gs : List Nat) (S : Nat → Prop), k ≤ n ∧ v = .slice N k cN ∧ u = .slice A2 k c2 ∧ i = .int .i64 k ∧ Hid (St w wr os k N cN A2 c2 gs S)) (fun _ _ i _ => n - (intOf i).toNat)
      case atStart => exact ⟨0, none, 0, none, 0, [], fun _ => False, Nat.zero_le _, rfl, rfl, rfl, Lib.hid (St.start os hb1)⟩
      case round =>
        obtain ⟨k, N, cN, A2, c2, gs, S, hk, rfl, rfl, rfl, HST⟩ := hrel
        have hbr := HST.out.2.2.2.2.2.2
        have hgr := hgl.next hbr
        by_cases hlt : k < n
        · obtain ⟨b, off, o, rfl, hb, hx, hob⟩ := (h.next hbr).at_ hlt
          obtain ⟨B', m', d', c0, c1, c2', hri, hm', ht⟩ := hob
          have HX := Lib.hid hx
          have HOO := Lib.hid (ObjOk.of (HOK.out k o hx))
          clear hx
          have ba := below_box wr (.cells #[.int .i64 o.k, .slice B' m' d', .string o.t] 34)
          have bo := Blk.new wr 34 [.int .i64 o.k, .slice B' m' d', .string o.t]
          have hria := hri.next ba
          have hga := hgr.next ba
          have hza := ba.size
          have hzs := size_alloc wr (.cells #[.int .i64 o.k, .slice B' m' d', .string o.t] 34)
          go_wp2_with fail
          generalize hW : wr.alloc (.cells #[.int .i64 o.k, .slice B' m' d', .string o.t] 34) = wa at *
          have HW := Lib.hid hW
          clear hW
          have hm4 : m' ≤ 4 := by have := HOO.out.len; have := hri.1; omega
          have HK2 := Lib.hid (fun (w' : World) (hb' : Below wa.heap.size wa w') => (⟨(bo.next hb').cells3, hb'⟩ : (w'.cell? ⟨wr.heap.size, 0, none⟩ = some (.int .i64 o.k) ∧ w'.cell? ⟨wr.heap.size, 1, none⟩ = some (.slice B' m' d') ∧ w'.cell? ⟨wr.heap.size, 2, none⟩ = some (.string o.t)) ∧ Below wa.heap.size wa w'))
          have E1 : Blk (wa.alloc (.cells zE.toArray 32)).drew wa.heap.size 32 zE := Blk.new wa _ zE
          clear hzs
          go_region_held3 (fun w' => (w'.cell? ⟨wr.heap.size, 0, none⟩ = some (.int .i64 o.k) ∧ w'.cell? ⟨wr.heap.size, 1, none⟩ = some (.slice B' m' d') ∧ w'.cell? ⟨wr.heap.size, 2, none⟩ = some (.string o.t)) ∧ Below wa.heap.size wa w')
            (first
              | exact HK2.out _ (Below.refl _ _).drew
              | exact HK2.out _ (below_ext (And.right (by assumption)) (below_box _ _))
              | exact HK2.out _ bb5
              | exact HK2.out _ bb7
              | exact HK2.out _ (below_ext bb7 (below_box _ _))
              | exact HK2.out _ ((((bb7.setCell (p := ⟨wa.heap.size, 0, none⟩) (Nat.le_refl _) _).setCell (p := ⟨wa.heap.size, 1, none⟩) (Nat.le_refl _) _).setCell (p := ⟨wa.heap.size, 2, none⟩) (Nat.le_refl _) _).setCell (p := ⟨wa.heap.size, 3, none⟩) (Nat.le_refl _) _)
              | exact HK2.out _ ((((bb7.setCell (p := ⟨w5.heap.size, 0, none⟩) bb5.size _).setCell (p := ⟨w5.heap.size, 1, none⟩) bb5.size _).setCell (p := ⟨w5.heap.size, 2, none⟩) bb5.size _).setCell (p := ⟨w5.heap.size, 3, none⟩) bb5.size _)
              | exact And.intro (And.left (by assumption)) (And.right (by assumption)))
            (first
              | (go_at_call 31; refine (cloneI_any _ _ _ o.xs _ (hria.next (And.right (by assumption))) (by omega)).mono ?_
                 rintro e w5 ⟨A5, c5, rfl, hown5, hb5⟩
                 have bb5 : Below wa.heap.size wa w5 := below_ext (And.right (by assumption)) hb5
                 have hown5b : w5.ownsRow wr.heap.size 3 1 (.slice A5 m' c5) m' (ints o.xs) := own_base hown5 (Nat.le_trans hza (Below.size (And.right (by assumption) : Below wa.heap.size wa _)))
                 try (have G1 : Blk w5 wa.heap.size 32 zE := E1.next hb5))
              | (go_at_call 16; refine (implDeltaMake_any _ _ _ (hga.next (And.right (by assumption)))).mono ?_
                 rintro e w7 ⟨A7, n7, c7, rfl, hO7, hb7⟩
                 have bb7 : Below wa.heap.size wa w7 := below_ext (And.right (by assumption)) hb7
                 have hO7b : OwnD w7 wr.heap.size A7 n7 c7 (dmake ⟨#[]⟩ o.t) := own_base hO7 (Nat.le_trans hza (Below.size (And.right (by assumption) : Below wa.heap.size wa _)))
                 have bo7 := bo.next bb7
                 have bw7 : Below wr.heap.size wr w7 := below_ext ba bb7
                 have M7 : w7.ownsRow wr.heap.size 3 1 (.slice A5 m' c5) m' (ints o.xs) := (by first | with_reducible exact own_below hown5b hb7 | exact own_below (own_below hown5b (below_box w5 _)) hb7)
                 have FE3 := fin_alloc (o := o) (b := -1) bw7 M7 hO7b bo7
                 try (have G7 : Blk w7 wa.heap.size 32 zE := G1.next hb7; have FE := fin_store (o := o) (b := -1) hza G7 bw7 M7 hO7b bo7; have ZZ := G7.cells4; have zf := G7.frozen; obtain ⟨z0, z1, z2, z3⟩ := ZZ)
                 try (have G7 : Blk w7 w5.heap.size 32 zE := (Blk.new w5 32 zE).next hb7; have FE := fin_store (o := o) (b := -1) (Nat.le_trans hza bb5.size) G7 bw7 M7 hO7b bo7; have ZZ := G7.cells4; have zf := G7.frozen; obtain ⟨z0, z1, z2, z3⟩ := ZZ))
              | fail)
          all_goals first
            | (generalize hWF : (((w7.setCell ⟨wa.heap.size, 0, none⟩ (.int .i64 o.k)).setCell ⟨wa.heap.size, 1, none⟩ (.slice A5 m' c5)).setCell ⟨wa.heap.size, 2, none⟩ (.int .i64 (-1))).setCell ⟨wa.heap.size, 3, none⟩ (.slice A7 n7 c7) = wf at FE ⊢; generalize hGE : wa.heap.size = ge at FE ⊢; have FX : Hid (EntryAt wr wf ge o B' m' d' A5 m' c5 (-1) A7 n7 c7 (dmake ⟨#[]⟩ o.t)) := (by with_reducible exact Lib.hid FE))
            | (generalize hWF : (((w7.setCell ⟨w5.heap.size, 0, none⟩ (.int .i64 o.k)).setCell ⟨w5.heap.size, 1, none⟩ (.slice A5 m' c5)).setCell ⟨w5.heap.size, 2, none⟩ (.int .i64 (-1))).setCell ⟨w5.heap.size, 3, none⟩ (.slice A7 n7 c7) = wf at FE ⊢; generalize hGE : w5.heap.size = ge at FE ⊢; have FX : Hid (EntryAt wr wf ge o B' m' d' A5 m' c5 (-1) A7 n7 c7 (dmake ⟨#[]⟩ o.t)) := (by with_reducible exact Lib.hid FE))
            | (generalize hWF : w7.alloc (.cells #[.int .i64 o.k, .slice A5 m' c5, .int .i64 (-1), .slice A7 n7 c7] 32) = wf at FE3 ⊢; generalize hGE : w7.heap.size = ge at FE3 ⊢; have FX : Hid (EntryAt wr wf ge o B' m' d' A5 m' c5 (-1) A7 n7 c7 (dmake ⟨#[]⟩ o.t)) := (by with_reducible exact Lib.hid FE3))
          all_goals
            clear hWF hGE FE3 hO7 hb7 bb7 hO7b bo7 bw7 M7 hown5 hb5 bb5 hown5b E1 HK2 HW hria hga hza bo ba hri c0 c1 c2'
            try clear FE z0 z1 z2 z3 zf G7
            try clear G1
            obtain ⟨q1, q2, q3, q4, q5, q6⟩ := FX.out
            obtain ⟨o0, o1, o2⟩ := q6.cells3
            clear q1 q2 q3 q4 q5 q6
            have HIN := Lib.hid (In.start (gs := gs) FX.out)
            clear FX
            go_wp2_with fail
            generalize hWG : wf.alloc (.cells #[.int .i64 0, .slice none 0 0, .int .i64 0, .slice none 0 0, .pointer none, .string o.t] 57) = wg at HIN ⊢
            generalize hGN : wf.heap.size = gn at HIN ⊢
            clear hWG hGN o0 o1 o2
            obtain ⟨wo, hwo⟩ : ∃ wo, wo = wr := ⟨_, rfl⟩
            subst hwo
            go_loopw [41] (fun i wx => ∃ (j : Nat) (Bj : Int) (Aj : Option Addr) (nj cj : Nat), j ≤ k ∧ i = .int .i64 j ∧ Hid ((bestTo o.t (os.map Ob.t) ((packTo os k).map Pe.b) j).1 = Bj) ∧ Hid (In wo wx ge gn gs o B' m' d' A5 m' c5 Bj Aj nj cj (bestTo o.t (os.map Ob.t) ((packTo os k).map Pe.b) j).2)) (fun i _ => k - (intOf i).toNat)
            case atStart => exact ⟨0, -1, A7, n7, c7, Nat.zero_le _, rfl, Lib.hid rfl, HIN⟩
            case round =>
              obtain ⟨j, Bj, Aj, nj, cj, hj, rfl, HBJ, HJ⟩ := hrel
              obtain ⟨q1, q2, q3, q4, q5, q6⟩ := HJ.out.1
              by_cases hjk : j < k
              · have H4 := Lib.hid q4
                have HN1 := HST.out.1
                obtain ⟨g0, gb, rfl, hg0, hgb, hpc⟩ := HN1.at_ hjk
                have hpx := (q5.cell (p := ⟨g0, j, none⟩) hg0).trans hpc
                obtain ⟨bj, tj, hbj, htj, hgb1, hgB⟩ := HST.out.2.1.at_ hgb
                have hgBx := hgB.next q5
                have HNP := Lib.hid (HST.out.2.1.nodeP.next q5)
                have HGB := Lib.hid hgb
                have HTJ := Lib.hid (show (os.map Ob.t).getD j ⟨#[]⟩ = tj by rw [List.getD_eq_getElem?_getD, htj]; rfl)
                have hdp := packTo_dep os k hjk
                have hlen := HN1.len
                have HLN := Lib.hid hlen
                have hgx := hgr.next q5
                have hzo := q5.size
                have hbtx := q6.cells3.2.2
                have hgt := hgBx.cell 5
                clear hpc hgb hbj htj hgb1 hgB q1 q3 q4 HN1 hlen
                go_wp2_with fail
                refine (depth_any j gb gs ((packTo os k).map Pe.b) wr HNP.out HGB.out (by have := HLN.out; omega) (packTo_okB os k)).mono ?_
                rintro e w8 ⟨rfl, rfl⟩
                obtain ⟨y, HY⟩ : ∃ y, Hid (dep ((packTo os k).map Pe.b) j = y) := ⟨_, Lib.hid rfl⟩
                rw [HY.out] at hdp ⊢
                by_cases hy2 : y = 2
                · subst hy2
                  have HE := Lib.hid (bestTo_no (t := o.t) (bs := (packTo os k).map Pe.b) HTJ.out (fun hh => by rw [HY.out] at hh; omega))
                  go_wp2_with fail
                  go_roundw
                  case rel => exact ⟨j + 1, Bj, Aj, nj, cj, by omega, by go_num, Lib.hid (by rw [HE.out]; exact HBJ.out), by rw [HE.out]; exact HJ⟩
                  case measure => simp [intOf]; omega
                · have hyb : ((y : Int) == 2) = false := by simp; omega
                  have HK3 := Lib.hid (fun (w' : World) (hb' : Below wr.heap.size wr w') => (⟨⟨(hgBx.next hb').cell 5, (q6.next hb').cells3.2.2⟩, hb'⟩ : (w'.cell? ⟨gb, 5, none⟩ = some (.string tj) ∧ w'.cell? ⟨wo.heap.size, 2, none⟩ = some (.string o.t)) ∧ Below wr.heap.size wr w'))
                  go_wp2_with fail
                  go_region_held3 (fun w' => (w'.cell? ⟨gb, 5, none⟩ = some (.string tj) ∧ w'.cell? ⟨wo.heap.size, 2, none⟩ = some (.string o.t)) ∧ Below wr.heap.size wr w')
                    (first
                      | exact HK3.out _ (Below.refl _ _).drew
                      | exact HK3.out _ (below_ext (And.right (by assumption)) hb8)
                      | exact And.intro (And.left (by assumption)) (And.right (by assumption)))
                    (first
                      | (go_at_call 16; refine (implDeltaMake_any _ _ _ (hgx.next (And.right (by assumption)))).mono ?_
                         rintro e w8 ⟨A8, n8, c8, rfl, hO8, hb8⟩
                         have hO8b := own_base hO8 (Below.size (And.right (by assumption) : Below wr.heap.size wr _)))
                      | fail)
                  have b8 : Below wr.heap.size wr w8 := And.right (by assumption)
                  have hO8c : OwnD w8 wo.heap.size A8 n8 c8 (dmake tj o.t) := own_base hO8b hzo
                  have hR8 := hO8c.read (fun y hy => by have := (dmake_small tj o.t).2 y hy; simp only [maxLen]; omega)
                  have hRj := (OwnD.next H4.out b8).read (fun y hy => bestTo_tx _ hy)
                  have hn8 : n8 ≤ maxLen := by have := (dmake_small tj o.t).1; have := OwnD.len hO8c; simp only [maxLen]; omega
                  have hnj : nj ≤ maxLen := by have := bestTo_len (t := o.t) (ts := os.map Ob.t) (bs := (packTo os k).map Pe.b) j; have := OwnD.len H4.out; simp only [maxLen]; omega
                  obtain ⟨z, HZ⟩ : ∃ z, Hid (dsz (dmake tj o.t) = z) := ⟨_, Lib.hid rfl⟩
                  obtain ⟨D, HD⟩ : ∃ D, Hid (dsz (bestTo o.t (os.map Ob.t) ((packTo os k).map Pe.b) j).2 = D) := ⟨_, Lib.hid rfl⟩
                  have hc8 : ∀ (dd : Nat) (oo : Array Obj), Calls Try.prog 15 #[.slice A8 n8 c8] (grow (redrawn w8 dd) oo) fun e w' => e = .returned (.int .i64 (z : Nat)) ∧ Below (grow (redrawn w8 dd) oo).heap.size (grow (redrawn w8 dd) oo) w' := fun dd oo => by
                    have := implDeltaSize_any A8 n8 c8 _ (grow (redrawn w8 dd) oo) (hR8.next (below_regrown _ _ _)) hn8 (by have := dmake_dsz tj o.t; omega)
                    rwa [HZ.out] at this
                  have hcj : ∀ (dd : Nat) (oo : Array Obj), Calls Try.prog 15 #[.slice Aj nj cj] (grow (redrawn w8 dd) oo) fun e w' => e = .returned (.int .i64 (D : Nat)) ∧ Below (grow (redrawn w8 dd) oo).heap.size (grow (redrawn w8 dd) oo) w' := fun dd oo => by
                    have := implDeltaSize_any Aj nj cj _ (grow (redrawn w8 dd) oo) (hRj.next (below_regrown _ _ _)) hnj (by have := bestTo_dsz (t := o.t) (ts := os.map Ob.t) (bs := (packTo os k).map Pe.b) j; omega)
                    rwa [HD.out] at this
                  have hge3 := (q2.next b8).cells4.2.2.2
                  have J8 := Lib.hid (HJ.out.next b8)
                  have H8 := Lib.hid hO8c
                  have hz8 := b8.size
                  clear hR8 hRj hO8 hO8b hb8 hO8c HK3 hpx hgt hbtx
                  by_cases hzD : z < D
                  · have hzd : decide ((z : Int) < (D : Int)) = true := decide_eq_true (by omega)
                    have hzd2 : decide (z < D) = true := decide_eq_true hzD
                    have HE := Lib.hid (bestTo_yes (t := o.t) (bs := (packTo os k).map Pe.b) HTJ.out (by rw [HY.out]; omega) (by rw [HZ.out, HD.out]; exact hzD))
                    go_wp2_with fail
                    have g3 := cell_regrown hge3
                    clear hge3
                    refine wp_region_ext (by kernel_rfl) (by kernel_rfl) ?_
                    repeat (go_big_quiet_step ((go_at_call 15; first | with_reducible exact rg_below (hc8 _ _) | with_reducible exact rg_below (hcj _ _))))
                    refine wpQuiet_nil ?_
                    intro w9 hb9
                    have J9 := Lib.hid (J8.out.next hb9)
                    have HB := Lib.hid (J9.out.better (own_below H8.out hb9) HGB.out)
                    obtain ⟨r0, r1, r2, r3⟩ := J9.out.1.2.1.cells4
                    have rf := J9.out.1.2.1.frozen
                    have r4 := J9.out.2.2.cell 4
                    have rg := J9.out.2.2.frozen 4
                    have hgne := blk_ne J9.out.1.2.1 J9.out.2.2 (by decide)
                    clear g3 hc8 hcj
                    go_wp2_with fail
                    go_roundw
                    case rel => exact ⟨j + 1, (j : Int), A8, n8, c8, by omega, by go_num, Lib.hid (by rw [HE.out]), by rw [HE.out]; exact HB⟩
                    case measure => simp [intOf]; omega
                  · have hzd : decide ((z : Int) < (D : Int)) = false := decide_eq_false (by omega)
                    have hzd2 : decide (z < D) = false := decide_eq_false hzD
                    have HE := Lib.hid (bestTo_no (t := o.t) (bs := (packTo os k).map Pe.b) HTJ.out (fun hh => hzD (by rw [← HZ.out, ← HD.out]; exact hh.2)))
                    go_wp2_with fail
                    have g3 := cell_regrown hge3
                    clear hge3
                    refine wp_region_ext (by kernel_rfl) (by kernel_rfl) ?_
                    repeat (go_big_quiet_step ((go_at_call 15; first | with_reducible exact rg_below (hc8 _ _) | with_reducible exact rg_below (hcj _ _))))
                    refine wpQuiet_nil ?_
                    intro w9 hb9
                    clear g3 hc8 hcj
                    go_wp2_with fail
                    go_roundw
                    case rel => exact ⟨j + 1, Bj, Aj, nj, cj, by omega, by go_num, Lib.hid (by rw [HE.out]; exact HBJ.out), by rw [HE.out]; exact Lib.hid (J8.out.next hb9)⟩
                    case measure => simp [intOf]; omega
              · have hjk2 : j = k := by omega
                subst hjk2
                have hbp := below_box wr (.cells #[.pointer (some ⟨gn, 0, none⟩)] 55)
                have hON : (wr.alloc (.cells #[.pointer (some ⟨gn, 0, none⟩)] 55)).ownsRow w.heap.size 55 1 (.slice N j cN) j (ptrs gs) := own_below (own_below HST.out.1 q5) hbp
                have hCC := (Blk.new wr 55 [.pointer (some ⟨gn, 0, none⟩)]).cellsAt
                have hzB : w.heap.size ≤ (wr.alloc (.cells #[.pointer (some ⟨gn, 0, none⟩)] 55)).heap.size := Nat.le_trans hbr.size (Nat.le_trans q5.size hbp.size)
                clear q1 q3 q4 q6
                go_wp2_with (first
                  | (at_builtin; (refine wpList_app rfl (.tmp 71) (.tmp 73) 53 rfl w.heap.size 55 Try.underlying53 ptr_info rfl (by omega) (by omega) _ j (ptrs gs) rfl hON ⟨wr.heap.size, 0, none⟩ 1 1 [.pointer (some ⟨gn, 0, none⟩)] rfl rfl hCC (by simp [Value.oneCell']) (by omega) hzB ?_; intro N' cN' w10 hown10 _ _ hg10 hloc10; have DD := St.done HST.out (by rw [HBJ.out]; exact HJ.out) HX.out hown10 hg10 hloc10; rw [HBJ.out] at DD; obtain ⟨cs0, z1, z2, z3, z4, z5⟩ := DD; obtain ⟨e0, e1, e2, e3⟩ := z1.cells4; have Z5 := Lib.hid z5; clear z5))
                  | (at_builtin; (refine wpList_app rfl (.tmp 75) (.tmp 77) 25 rfl w.heap.size 32 Try.underlying25 pe_info1 rfl (by omega) (by omega) _ j cs0 rfl z2 ⟨w10.heap.size, 0, none⟩ 1 1 [.int .i64 o.k, .slice A5 m' c5, .int .i64 Bj, .slice Aj nj cj] rfl rfl z3 (by simp [Value.oneCell']) (by omega) z4 ?_; intro A' c' w11 hown11 _ _ hg11 hloc11)))
                go_roundw
                case rel =>
                  obtain ⟨S', hS'⟩ := Z5.out A' c' w11 hown11 hg11 hloc11
                  exact ⟨j + 1, N', cN', A', c', gs ++ [gn], S', by omega, rfl, rfl, by go_num, Lib.hid hS'⟩
                case measure => simp [intOf]; omega
        · obtain rfl : k = n := by omega
          go_wp2_with fail
          refine bodyPost_ret (v := .tuple #[.slice A2 k c2, .bool true]) (by simp [results, Try.results11, go_sem]) rfl ?_
          obtain ⟨s1, s2, s3, s4, s5, s6, s7⟩ := HST.out
          unfold PackTo
          rw [packP_yes hp.out, HLL.out]
          exact ⟨A2, k, c2, rfl, s3.wide (fun b hb => s4 b hb), hbr⟩
  · have hd16 : decide ((n : Int) > 16) = true := decide_eq_true (by omega)
    have hd16' : decide (16 < (n : Int)) = true := decide_eq_true (by omega)
    have hp := Lib.hid (packable_big (os := os) (by omega))
    go_wp2_with fail
    refine bodyPost_ret (v := .tuple #[.slice none 0 0, .bool false]) (by simp [results, Try.results11, go_sem]) rfl ?_
    exact BAD.out w hp.out (Below.refl _ _)
end Go.Proofs.Ytkekcgamhhmjnaa
