/- Walk: l13Set: the area of a transaction replaced, or removed. -/
import Derived.Test.YtjofgbbofagoiaaQuCopy
namespace Go.Proofs.Ytjofgbbofagoiaa
open Go.RowKit Go.Sort

/-- the areas with that of t set to ls; b: it is in its place already -/
def setA (t : Int) (ls : List Ob) : Bool → List Ar → List Ar
  | b, [] => if b then [] else [⟨t, ls⟩]
  | b, a :: l => (if !b && decide (t ≤ a.t) then [⟨t, ls⟩] else []) ++ (if a.t = t then [] else [a]) ++ setA t ls (b || decide (t ≤ a.t)) l
def setQ (q : Qu) (t : Int) (ls : List Ob) : Qu := ⟨q.main, setA t ls ((ls.length : Int) == 0) q.ars⟩
theorem setA_step {t : Int} {ls : List Ob} {b : Bool} {ars : List Ar} {k : Nat} {x : Ar} (h : ars[k]? = some x) : setA t ls b (ars.drop k) = (if !b && decide (t ≤ x.t) then [⟨t, ls⟩] else []) ++ (if x.t = t then [] else [x]) ++ setA t ls (b || decide (t ≤ x.t)) (ars.drop (k + 1)) := by
  obtain ⟨h1, h2⟩ := List.getElem?_eq_some_iff.1 h
  rw [List.drop_eq_getElem_cons h1, h2]
  rfl
set_option maxRecDepth 100000 in
set_option maxHeartbeats 12800000 in
theorem l13Set_any (cs : List Value) (q : Qu) (t : Int) (D : Option Addr) (r dd : Nat) (ls : List Ob) (w : World) (hv : repQu.V 0 w cs q) (hq : quarB q = true) (hl : RObjs w D r ls) (hr : r ≤ 100) (hls : ∀ o ∈ ls, o.ok = true) :
    Calls Try.prog 70 #[.agg cs.toArray, .int .i64 t, .slice D r dd] w (QuTo w (setQ q t ls)) := by
  have hxsL := ok_small hls
  have HR := Lib.hid hl.1
  obtain ⟨B0, m0, d0, B1, m1, d1, rfl, hr0, hm0, hr1, hm1⟩ := repQu_cells hv
  obtain ⟨hq1, hq2, hq3⟩ := quarB_parts hq
  have hl0 := hr0.1
  have hl1 := hr1.1
  have hl16 := stB_len hq1
  have HL := Lib.hid (And.intro hl0 hl1)
  have b1 := below_box2 w (.cells #[.slice B0 m0 d0, .slice B1 m1 d1] 26) (.cells #[.slice none 0 0, .slice none 0 0] 26)
  have x0 : Blk ((w.alloc (.cells #[.slice B0 m0 d0, .slice B1 m1 d1] 26)).alloc (.cells #[.slice none 0 0, .slice none 0 0] 26)) w.heap.size 26 [.slice B0 m0 d0, .slice B1 m1 d1] := (Blk.new w _ _).alloc _
  have x1 : Blk ((w.alloc (.cells #[.slice B0 m0 d0, .slice B1 m1 d1] 26)).alloc (.cells #[.slice none 0 0, .slice none 0 0] 26)) (w.heap.size + 1) 26 [.slice none 0 0, .slice none 0 0] := by simpa using Blk.new (w.alloc (.cells #[.slice B0 m0 d0, .slice B1 m1 d1] 26)) 26 [.slice none 0 0, .slice none 0 0]
  obtain ⟨y0, y1⟩ := x0.cells2
  have hm016 : m0 ≤ 16 := by omega
  have hm14 : m1 ≤ 4 := by omega
  clear hl0 hl1 hl16
  go_enter Try.func70, Try.ntmps70
  go_wp2_with fail
  refine (l1Copy_any B0 m0 d0 q.main _ (hr0.next b1).robjs (by omega) (ok_small (stB_ok hq1))).mono ?_
  rintro e w1 ⟨v, rfl, hO1, hb1⟩
  obtain ⟨A, c, rfl, hAc⟩ := hO1.form
  have x01 := x0.next hb1
  have x11 := x1.next hb1
  have bw1 := below_ext b1 hb1
  have hz1 : w.heap.size + 2 ≤ w1.heap.size := by have := hb1.size; simpa using this
  have hO1' := hO1.base (B' := w.heap.size + 2) (by simp)
  have e2 := below_box w1 (.cells #[] 70)
  have x2 := Blk.new w1 70 []
  have e3 := below_ext e2 (below_box (w1.alloc (.cells #[] 70)) (.cells #[.slice A m0 c, .slice (some ⟨w1.heap.size, 0, none⟩) 0 0] 26))
  have x23 := x2.next (below_box (w1.alloc (.cells #[] 70)) (.cells #[.slice A m0 c, .slice (some ⟨w1.heap.size, 0, none⟩) 0 0] 26))
  have x3 : Blk ((w1.alloc (.cells #[] 70)).alloc (.cells #[.slice A m0 c, .slice (some ⟨w1.heap.size, 0, none⟩) 0 0] 26)) (w1.heap.size + 1) 26 [.slice A m0 c, .slice (some ⟨w1.heap.size, 0, none⟩) 0 0] := by simpa using Blk.new (w1.alloc (.cells #[] 70)) 26 [.slice A m0 c, .slice (some ⟨w1.heap.size, 0, none⟩) 0 0]
  have hSt : AddSt w ((w1.alloc (.cells #[] 70)).alloc (.cells #[.slice A m0 c, .slice (some ⟨w1.heap.size, 0, none⟩) 0 0] 26)) (w.heap.size + 2) (w1.heap.size + 1) A m0 c q.main (some ⟨w1.heap.size, 0, none⟩) 0 0 [] :=
    ⟨hO1'.next e3, OwnA.emp x23 hz1, x3, below_ext bw1 e3⟩
  have x03 := x01.next e3
  have x13 := x11.next e3
  clear y0 y1 x0 x1 hO1 x2 x23 x3 x01 x11
  go_wp2_with fail
  go_loopw [8, 9] (fun p i wr => ∃ (k j : Nat) (b_ : Bool) (acc : List Ar) (C : Option Addr) (d : Nat), k ≤ m1 ∧ p = .bool b_ ∧ i = .int .i64 k ∧ ((b_ = false → j ≤ k) ∧ j ≤ k + 1) ∧ AddSt w wr (w.heap.size + 2) (w1.heap.size + 1) A m0 c q.main C j d acc ∧ Blk wr w.heap.size 26 [.slice B0 m0 d0, .slice B1 m1 d1] ∧ Blk wr (w.heap.size + 1) 26 [.slice none 0 0, .slice none 0 0] ∧ Hid (acc ++ setA t ls b_ (q.ars.drop k) = setA t ls ((r : Int) == 0) q.ars)) (fun _ i _ => m1 - (intOf i).toNat)
  case atStart => exact ⟨0, 0, _, [], _, _, Nat.zero_le _, rfl, rfl, ⟨fun _ => Nat.le_refl _, by omega⟩, hSt, x03, x13, Lib.hid rfl⟩
  case round =>
    obtain ⟨k, j, b_, acc, C, d, hk, rfl, rfl, ⟨hjb, hj⟩, hS, hX0, hX1, HA⟩ := hrel
    obtain ⟨p0, p1⟩ := hX0.cells2
    have hbr := hS.2.2.2
    have hqw := hX0.lt
    by_cases hlt : k < m1
    · obtain ⟨b, off, x, cs', rfl, hbw, hx, hcx, hvx⟩ := hr1.at_ hlt
      obtain ⟨L, ml, dl, rfl, hrl, hml⟩ := repAr_cells hvx
      have cx0 : w.cell? ⟨b, off + k * 2, none⟩ = some (.int .i64 x.t) := hcx 0 _ rfl
      have cx1 : w.cell? ⟨b, off + k * 2 + 1, none⟩ = some (.slice L ml dl) := hcx 1 _ rfl
      have cy0 : wr.cell? ⟨b, off + k * 2, none⟩ = some (.int .i64 x.t) := (hbr.cell (p := ⟨b, off + k * 2, none⟩) hbw).trans cx0
      obtain ⟨-, hx2, -⟩ := hq2 x (List.mem_of_getElem? hx)
      have hml16 : ml ≤ 16 := by have := stB_len hx2; have := hrl.1; omega
      have hxs := ok_small (stB_ok hx2)
      have HS := Lib.hid (setA_step (t := t) (ls := ls) (b := b_) hx)
      have hkmi : (k : Int) < (m1 : Int) := by omega
      clear hcx hvx hx
      cases b_
      · have hjk := hjb rfl
        by_cases hge : t ≤ x.t
        · have hge1 : decide (x.t ≥ t) = true := decide_eq_true hge
          have hge2 : decide (t ≤ x.t) = true := decide_eq_true hge
          go_wp2_with fail
          obtain ⟨hSa1, ⟨cs1, hown1, hel1⟩, hSc1, hbr1⟩ := id hS
          obtain ⟨sa1, sb1⟩ := hSc1.cells2
          have hbd1 : Below wr.heap.size wr wr.drew := (Below.refl _ _).drew
          have HK1 := True.intro
          have hzw1 : w1.heap.size + 1 < wr.heap.size := hSc1.lt
          have hqw1 : w.heap.size < wr.heap.size := hX0.lt
          have hls1 := hl.next hbr1
          refine wp_region_L (fun b_ w' => (until_ b_ (w'.cell? ⟨w1.heap.size + 1, 1, none⟩ = some (.slice C j d))) ∧ True) 9 (by kernel_rfl) ⟨fun _ => sb1, True.intro⟩ (fun hHeld => ?_)
          refine wpAnyL_takeS (i := 0) (v := ?_) op0 (by kernel_rfl) (by kernel_rfl) (by kernel_rfl) (by rfl) (fun _ _ _ h => h) hHeld (by kernel_rfl) (by kernel_rfl) (Or.inl ⟨by rfl, ?_⟩) ?_
          rotate_left
          · intro wS hSw; obtain ⟨hSu, hSv⟩ := hSw; have hSs := hSu rfl; clear hSu; go_simp; (try with_reducible rfl)
          (try simp only [Act.put, List.setIfInBounds_toArray, List.set_cons_zero, List.set_cons_succ])
          refine wpAnyL_takeS (i := 1) (v := ?_) op1 (by kernel_rfl) (by kernel_rfl) (by kernel_rfl) (by rfl) (fun _ _ _ h => h) hHeld (by kernel_rfl) (by kernel_rfl) (Or.inl ⟨by rfl, ?_⟩) ?_
          rotate_left
          · intro wS hSw; obtain ⟨hSu, hSv⟩ := hSw; have hSs := hSu rfl; clear hSu; go_simp; (try with_reducible rfl)
          (try simp only [Act.put, List.setIfInBounds_toArray, List.set_cons_zero, List.set_cons_succ])
          refine wpAnyL_takeS (i := 2) (v := ?_) op2 (by kernel_rfl) (by kernel_rfl) (by kernel_rfl) (by rfl) (fun _ _ _ h => h) hHeld (by kernel_rfl) (by kernel_rfl) (Or.inl ⟨by rfl, ?_⟩) ?_
          rotate_left
          · intro wS hSw; obtain ⟨hSu, hSv⟩ := hSw; have hSs := hSu rfl; clear hSu; go_simp; (try with_reducible rfl)
          (try simp only [Act.put, List.setIfInBounds_toArray, List.set_cons_zero, List.set_cons_succ])
          refine wpAnyL_takeS (i := 3) (v := ?_) op3 (by kernel_rfl) (by kernel_rfl) (by kernel_rfl) (by rfl) (fun _ _ _ h => h) hHeld (by kernel_rfl) (by kernel_rfl) (Or.inl ⟨by rfl, ?_⟩) ?_
          rotate_left
          · intro wS hSw; obtain ⟨hSu, hSv⟩ := hSw; have hSs := hSu rfl; clear hSu; go_simp; (try with_reducible rfl)
          (try simp only [Act.put, List.setIfInBounds_toArray, List.set_cons_zero, List.set_cons_succ])
          refine wpAnyL_ready (rs := [4]) (by kernel_rfl) rfl ?_
          refine AllReadyL.cons (b := false) op4 (by kernel_rfl) (fun K hK => ?_) AllReadyL.nil
          go_simp
          go_at_call 107
          refine (l1Copy_any D r dd ls _ (hls1.next hbd1) (by omega) hxsL).mono ?_
          rintro e wc1 ⟨v1, rfl, hOc1, hbc1⟩
          obtain ⟨Ac1, cc1, rfl, hAc1⟩ := hOc1.form
          have bz1 : Below wr.heap.size wr wc1 := below_ext hbd1 hbc1
          have by1 := below_ext bz1 (below_box wc1 (.cells #[.int .i64 t, .slice Ac1 r cc1] 70))
          have hOd1 := (hOc1.next (below_box wc1 (.cells #[.int .i64 t, .slice Ac1 r cc1] 70))).base (B' := w.heap.size + 2) (by show w.heap.size + 2 ≤ wr.heap.size; omega)
          have sc1 := (hSc1.next bz1).cells2.2
          have sd1 := (hSc1.next by1).cells2.2
          go_wp2_with fail
          refine hK.out _ _ (⟨fun _ => sc1, True.intro⟩) (fun hHeld => ?_)
          clear hK K
          (try simp only [Act.put, List.setIfInBounds_toArray, List.set_cons_zero, List.set_cons_succ])
          refine wpAnyL_takeS (i := 5) (v := ?_) op5 (by kernel_rfl) (by kernel_rfl) (by kernel_rfl) (by rfl) (fun _ _ _ h => h) hHeld (by kernel_rfl) (by kernel_rfl) (Or.inl ⟨by rfl, ?_⟩) ?_
          rotate_left
          · intro wS hSw; obtain ⟨hSu, hSv⟩ := hSw; have hSs := hSu rfl; clear hSu; go_simp; (try with_reducible rfl)
          (try simp only [Act.put, List.setIfInBounds_toArray, List.set_cons_zero, List.set_cons_succ])
          refine wpAnyL_ready (rs := [6]) (by kernel_rfl) rfl ?_
          refine AllReadyL.cons (b := false) op6 (by kernel_rfl) (fun K hK => ?_) AllReadyL.nil
          go_simp
          refine hK.out _ _ (⟨fun _ => sd1, True.intro⟩) (fun hHeld => ?_)
          clear hK K
          (try simp only [Act.put, List.setIfInBounds_toArray, List.set_cons_zero, List.set_cons_succ])
          refine wpAnyL_ready (rs := [7]) (by kernel_rfl) rfl ?_
          refine AllReadyL.cons (b := false) op7 (by kernel_rfl) (fun K hK => ?_) AllReadyL.nil
          refine step_app rfl (.tmp 38) (.tmp 43) 24 rfl (w.heap.size + 2) 70 Try.underlying24 ar_info1 rfl (by omega) (by omega) _ j cs1 rfl (own_below hown1 by1) ⟨_, 0, none⟩ 1 1 [.int .i64 t, .slice Ac1 r cc1] rfl rfl ((Blk.new wc1 70 [.int .i64 t, .slice Ac1 r cc1]).cellsAt) (by simp [Value.oneCell']) (by omega) (by have := by1.size; omega) ?_
          intro Cn1 dn1 wn1 hownn1 _ hbn1 hgn1 _
          have hT1 : Blk wn1 (w1.heap.size + 1) 26 [.slice A m0 c, .slice C j d] := (hSc1.next by1).grown hgn1 (fun e => own_ne_blk (own_below hown1 by1) (hSc1.next by1) (by decide) e.symm)
          have sn1 := hT1.cells2.2
          have fn1 := hT1.frozen 1
          have hSN1 := AddSt.add (x := ⟨t, ls⟩) hS (by omega) (by omega) by1 hown1 hel1 ⟨Ac1, r, cc1, rfl, hOd1⟩ hgn1 hbn1 hownn1
          have hXN1 := add_blk (u := .slice Cn1 (j + 1) dn1) (g := w1.heap.size + 1) hX0 (by decide) (by omega) hown1 by1 hgn1
          have hYN1 := add_blk (u := .slice Cn1 (j + 1) dn1) (g := w1.heap.size + 1) hX1 (by decide) (by omega) hown1 by1 hgn1
          refine hK.out _ _ (⟨fun _ => sn1, True.intro⟩) (fun hHeld => ?_)
          clear hK K
          (try simp only [Act.put, List.setIfInBounds_toArray, List.set_cons_zero, List.set_cons_succ])
          refine wpAnyL_takeS (i := 8) (v := ?_) op8 (by kernel_rfl) (by kernel_rfl) (by kernel_rfl) (by rfl) (fun _ _ _ h => h) hHeld (by kernel_rfl) (by kernel_rfl) (Or.inl ⟨by rfl, ?_⟩) ?_
          rotate_left
          · intro wS hSw; obtain ⟨hSu, hSv⟩ := hSw; have hSs := hSu rfl; clear hSu; go_simp; (try with_reducible rfl)
          (try simp only [Act.put, List.setIfInBounds_toArray, List.set_cons_zero, List.set_cons_succ])
          refine wpAnyL_ready (rs := [9]) (by kernel_rfl) rfl ?_
          refine AllReadyL.cons (b := true) op9 (by kernel_rfl) (fun K hK => ?_) AllReadyL.nil
          go_simp
          refine hK.out _ _ (⟨fun h => Bool.noConfusion h, True.intro⟩) (fun hHeld => ?_)
          clear hK K
          (try simp only [Act.put, List.setIfInBounds_toArray, List.set_cons_zero, List.set_cons_succ])
          refine wpAnyL_done (by kernel_rfl) ?_ _
          generalize hWG : wn1.setCell ⟨w1.heap.size + 1, 1, none⟩ (.slice Cn1 (j + 1) dn1) = wq1 at *
          clear hWG
          have cy2 : wq1.cell? ⟨b, off + k * 2, none⟩ = some (.int .i64 x.t) := (hSN1.2.2.2.cell (p := ⟨b, off + k * 2, none⟩) hbw).trans cx0
          obtain ⟨p20, p21⟩ := hXN1.cells2
          by_cases hxt : x.t = t
          · have hxb : (x.t != t) = false := by simp [hxt]
            go_wp2_with fail
            go_roundw
            case rel => exact ⟨k + 1, (j + 1), true, (acc ++ [⟨t, ls⟩]), Cn1, dn1, by omega, rfl, by go_num, ⟨by intro h; first | exact Bool.noConfusion h | omega, by omega⟩, hSN1, hXN1, hYN1, Lib.hid (by rw [← HA.out, HS.out]; first | (simp [hxt]; done) | (simp [hge, hxt]; done))⟩
            case measure => simp [intOf]; omega
          · have hxb : (x.t != t) = true := by simp [hxt]
            go_wp2_with fail
            obtain ⟨hSa2, ⟨cs2, hown2, hel2⟩, hSc2, hbr2⟩ := id hSN1
            obtain ⟨sa2, sb2⟩ := hSc2.cells2
            have hbd2 : Below wq1.heap.size wq1 wq1.drew := (Below.refl _ _).drew
            have HK2 := Lib.hid (fun (w' : World) (h1 : w'.heap[w.heap.size]? = wq1.heap[w.heap.size]?) (h2 : w'.heap[b]? = wq1.heap[b]?) => (⟨(cob 0 h1).trans hXN1.cells2.1, (cob 1 h1).trans hXN1.cells2.2, (cob (off + k * 2) h2).trans ((hbr2.cell (p := ⟨b, off + k * 2, none⟩) hbw).trans cx0), (cob (off + k * 2 + 1) h2).trans ((hbr2.cell (p := ⟨b, off + k * 2 + 1, none⟩) hbw).trans cx1)⟩ : w'.cell? ⟨w.heap.size, 0, none⟩ = some (.slice B0 m0 d0) ∧ w'.cell? ⟨w.heap.size, 1, none⟩ = some (.slice (some ⟨b, off, none⟩) m1 d1) ∧ w'.cell? ⟨b, off + k * 2, none⟩ = some (.int .i64 x.t) ∧ w'.cell? ⟨b, off + k * 2 + 1, none⟩ = some (.slice L ml dl)))
            have hzw2 : w1.heap.size + 1 < wq1.heap.size := hSc2.lt
            have hqw2 : w.heap.size < wq1.heap.size := hXN1.lt
            have HKB2 := Lib.hid (fun (w' : World) (hb' : Below wq1.heap.size wq1 w') => HK2.out w' (hb'.block _ hqw2) (hb'.block _ (Nat.lt_trans hbw hqw2)))
            have hls2 := (hrl.next hbr2).robjs
            refine wp_region_L (fun b_ w' => (until_ b_ (w'.cell? ⟨w1.heap.size + 1, 1, none⟩ = some (.slice Cn1 (j + 1) dn1))) ∧ w'.cell? ⟨w.heap.size, 0, none⟩ = some (.slice B0 m0 d0) ∧ w'.cell? ⟨w.heap.size, 1, none⟩ = some (.slice (some ⟨b, off, none⟩) m1 d1) ∧ w'.cell? ⟨b, off + k * 2, none⟩ = some (.int .i64 x.t) ∧ w'.cell? ⟨b, off + k * 2 + 1, none⟩ = some (.slice L ml dl)) 19 (by kernel_rfl) ⟨fun _ => sb2, HKB2.out _ hbd2⟩ (fun hHeld => ?_)
            refine wpAnyL_takeS (i := 0) (v := ?_) op0 (by kernel_rfl) (by kernel_rfl) (by kernel_rfl) (by rfl) (fun _ _ _ h => h) hHeld (by kernel_rfl) (by kernel_rfl) (Or.inl ⟨by rfl, ?_⟩) ?_
            rotate_left
            · intro wS hSw; obtain ⟨hSu, hSv⟩ := hSw; have hSs := hSu rfl; clear hSu; go_simp; (try with_reducible rfl)
            (try simp only [Act.put, List.setIfInBounds_toArray, List.set_cons_zero, List.set_cons_succ])
            refine wpAnyL_takeS (i := 1) (v := ?_) op1 (by kernel_rfl) (by kernel_rfl) (by kernel_rfl) (by rfl) (fun _ _ _ h => h) hHeld (by kernel_rfl) (by kernel_rfl) (Or.inl ⟨by rfl, ?_⟩) ?_
            rotate_left
            · intro wS hSw; obtain ⟨hSu, hSv⟩ := hSw; have hSs := hSu rfl; clear hSu; go_simp; (try with_reducible rfl)
            (try simp only [Act.put, List.setIfInBounds_toArray, List.set_cons_zero, List.set_cons_succ])
            refine wpAnyL_takeS (i := 2) (v := ?_) op2 (by kernel_rfl) (by kernel_rfl) (by kernel_rfl) (by rfl) (fun _ _ _ h => h) hHeld (by kernel_rfl) (by kernel_rfl) (Or.inl ⟨by rfl, ?_⟩) ?_
            rotate_left
            · intro wS hSw; obtain ⟨hSu, hSv⟩ := hSw; have hSs := hSu rfl; clear hSu; go_simp; (try with_reducible rfl)
            (try simp only [Act.put, List.setIfInBounds_toArray, List.set_cons_zero, List.set_cons_succ])
            refine wpAnyL_takeS (i := 3) (v := ?_) op3 (by kernel_rfl) (by kernel_rfl) (by kernel_rfl) (by rfl) (fun _ _ _ h => h) hHeld (by kernel_rfl) (by kernel_rfl) (Or.inl ⟨by rfl, ?_⟩) ?_
            rotate_left
            · intro wS hSw; obtain ⟨hSu, hSv⟩ := hSw; have hSs := hSu rfl; clear hSu; go_simp; (try with_reducible rfl)
            (try simp only [Act.put, List.setIfInBounds_toArray, List.set_cons_zero, List.set_cons_succ])
            refine wpAnyL_takeS (i := 4) (v := ?_) op4 (by kernel_rfl) (by kernel_rfl) (by kernel_rfl) (by rfl) (fun _ _ _ h => h) hHeld (by kernel_rfl) (by kernel_rfl) (Or.inl ⟨by rfl, ?_⟩) ?_
            rotate_left
            · intro wS hSw; obtain ⟨hSu, hSv⟩ := hSw; have hSs := hSu rfl; clear hSu; go_simp; (try with_reducible rfl)
            (try simp only [Act.put, List.setIfInBounds_toArray, List.set_cons_zero, List.set_cons_succ])
            refine wpAnyL_takeS (i := 5) (v := ?_) op5 (by kernel_rfl) (by kernel_rfl) (by kernel_rfl) (by rfl) (fun _ _ _ h => h) hHeld (by kernel_rfl) (by kernel_rfl) (Or.inl ⟨by rfl, ?_⟩) ?_
            rotate_left
            · intro wS hSw; obtain ⟨hSu, hSv⟩ := hSw; have hSs := hSu rfl; clear hSu; go_simp; (try with_reducible rfl)
            (try simp only [Act.put, List.setIfInBounds_toArray, List.set_cons_zero, List.set_cons_succ])
            refine wpAnyL_takeS (i := 6) (v := ?_) op6 (by kernel_rfl) (by kernel_rfl) (by kernel_rfl) (by rfl) (fun _ _ _ h => h) hHeld (by kernel_rfl) (by kernel_rfl) (Or.inl ⟨by rfl, ?_⟩) ?_
            rotate_left
            · intro wS hSw; obtain ⟨hSu, hSv⟩ := hSw; have hSs := hSu rfl; clear hSu; go_simp; (try with_reducible rfl)
            (try simp only [Act.put, List.setIfInBounds_toArray, List.set_cons_zero, List.set_cons_succ])
            refine wpAnyL_takeS (i := 7) (v := ?_) op7 (by kernel_rfl) (by kernel_rfl) (by kernel_rfl) (by rfl) (fun _ _ _ h => h) hHeld (by kernel_rfl) (by kernel_rfl) (Or.inl ⟨by rfl, ?_⟩) ?_
            rotate_left
            · intro wS hSw; obtain ⟨hSu, hSv⟩ := hSw; have hSs := hSu rfl; clear hSu; go_simp; (try with_reducible rfl)
            (try simp only [Act.put, List.setIfInBounds_toArray, List.set_cons_zero, List.set_cons_succ])
            refine wpAnyL_takeS (i := 8) (v := ?_) op8 (by kernel_rfl) (by kernel_rfl) (by kernel_rfl) (by rfl) (fun _ _ _ h => h) hHeld (by kernel_rfl) (by kernel_rfl) (Or.inl ⟨by rfl, ?_⟩) ?_
            rotate_left
            · intro wS hSw; obtain ⟨hSu, hSv⟩ := hSw; have hSs := hSu rfl; clear hSu; go_simp; (try with_reducible rfl)
            (try simp only [Act.put, List.setIfInBounds_toArray, List.set_cons_zero, List.set_cons_succ])
            refine wpAnyL_takeS (i := 9) (v := ?_) op9 (by kernel_rfl) (by kernel_rfl) (by kernel_rfl) (by rfl) (fun _ _ _ h => h) hHeld (by kernel_rfl) (by kernel_rfl) (Or.inl ⟨by rfl, ?_⟩) ?_
            rotate_left
            · intro wS hSw; obtain ⟨hSu, hSv⟩ := hSw; have hSs := hSu rfl; clear hSu; go_simp; (try with_reducible rfl)
            (try simp only [Act.put, List.setIfInBounds_toArray, List.set_cons_zero, List.set_cons_succ])
            refine wpAnyL_takeS (i := 10) (v := ?_) op10 (by kernel_rfl) (by kernel_rfl) (by kernel_rfl) (by rfl) (fun _ _ _ h => h) hHeld (by kernel_rfl) (by kernel_rfl) (Or.inl ⟨by rfl, ?_⟩) ?_
            rotate_left
            · intro wS hSw; obtain ⟨hSu, hSv⟩ := hSw; have hSs := hSu rfl; clear hSu; go_simp; (try with_reducible rfl)
            (try simp only [Act.put, List.setIfInBounds_toArray, List.set_cons_zero, List.set_cons_succ])
            refine wpAnyL_takeS (i := 11) (v := ?_) op11 (by kernel_rfl) (by kernel_rfl) (by kernel_rfl) (by rfl) (fun _ _ _ h => h) hHeld (by kernel_rfl) (by kernel_rfl) (Or.inl ⟨by rfl, ?_⟩) ?_
            rotate_left
            · intro wS hSw; obtain ⟨hSu, hSv⟩ := hSw; have hSs := hSu rfl; clear hSu; go_simp; (try with_reducible rfl)
            (try simp only [Act.put, List.setIfInBounds_toArray, List.set_cons_zero, List.set_cons_succ])
            refine wpAnyL_takeS (i := 12) (v := ?_) op12 (by kernel_rfl) (by kernel_rfl) (by kernel_rfl) (by rfl) (fun _ _ _ h => h) hHeld (by kernel_rfl) (by kernel_rfl) (Or.inl ⟨by rfl, ?_⟩) ?_
            rotate_left
            · intro wS hSw; obtain ⟨hSu, hSv⟩ := hSw; have hSs := hSu rfl; clear hSu; go_simp; (try with_reducible rfl)
            (try simp only [Act.put, List.setIfInBounds_toArray, List.set_cons_zero, List.set_cons_succ])
            refine wpAnyL_takeS (i := 13) (v := ?_) op13 (by kernel_rfl) (by kernel_rfl) (by kernel_rfl) (by rfl) (fun _ _ _ h => h) hHeld (by kernel_rfl) (by kernel_rfl) (Or.inl ⟨by rfl, ?_⟩) ?_
            rotate_left
            · intro wS hSw; obtain ⟨hSu, hSv⟩ := hSw; have hSs := hSu rfl; clear hSu; go_simp; (try with_reducible rfl)
            (try simp only [Act.put, List.setIfInBounds_toArray, List.set_cons_zero, List.set_cons_succ])
            refine wpAnyL_ready (rs := [14]) (by kernel_rfl) rfl ?_
            refine AllReadyL.cons (b := false) op14 (by kernel_rfl) (fun K hK => ?_) AllReadyL.nil
            go_simp
            go_at_call 107
            refine (l1Copy_any L ml dl x.os _ (hls2.next hbd2) (by omega) hxs).mono ?_
            rintro e wc2 ⟨v2, rfl, hOc2, hbc2⟩
            obtain ⟨Ac2, cc2, rfl, hAc2⟩ := hOc2.form
            have bz2 : Below wq1.heap.size wq1 wc2 := below_ext hbd2 hbc2
            have by2 := below_ext bz2 (below_box wc2 (.cells #[.int .i64 x.t, .slice Ac2 ml cc2] 70))
            have hOd2 := (hOc2.next (below_box wc2 (.cells #[.int .i64 x.t, .slice Ac2 ml cc2] 70))).base (B' := w.heap.size + 2) (by show w.heap.size + 2 ≤ wq1.heap.size; omega)
            have sc2 := (hSc2.next bz2).cells2.2
            have sd2 := (hSc2.next by2).cells2.2
            go_wp2_with fail
            refine hK.out _ _ (⟨fun _ => sc2, HKB2.out _ bz2⟩) (fun hHeld => ?_)
            clear hK K
            (try simp only [Act.put, List.setIfInBounds_toArray, List.set_cons_zero, List.set_cons_succ])
            refine wpAnyL_takeS (i := 15) (v := ?_) op15 (by kernel_rfl) (by kernel_rfl) (by kernel_rfl) (by rfl) (fun _ _ _ h => h) hHeld (by kernel_rfl) (by kernel_rfl) (Or.inl ⟨by rfl, ?_⟩) ?_
            rotate_left
            · intro wS hSw; obtain ⟨hSu, hSv⟩ := hSw; have hSs := hSu rfl; clear hSu; go_simp; (try with_reducible rfl)
            (try simp only [Act.put, List.setIfInBounds_toArray, List.set_cons_zero, List.set_cons_succ])
            refine wpAnyL_ready (rs := [16]) (by kernel_rfl) rfl ?_
            refine AllReadyL.cons (b := false) op16 (by kernel_rfl) (fun K hK => ?_) AllReadyL.nil
            go_simp
            refine hK.out _ _ (⟨fun _ => sd2, HKB2.out _ by2⟩) (fun hHeld => ?_)
            clear hK K
            (try simp only [Act.put, List.setIfInBounds_toArray, List.set_cons_zero, List.set_cons_succ])
            refine wpAnyL_ready (rs := [17]) (by kernel_rfl) rfl ?_
            refine AllReadyL.cons (b := false) op17 (by kernel_rfl) (fun K hK => ?_) AllReadyL.nil
            refine step_app rfl (.tmp 55) (.tmp 70) 24 rfl (w.heap.size + 2) 70 Try.underlying24 ar_info1 rfl (by omega) (by omega) _ (j + 1) cs2 rfl (own_below hown2 by2) ⟨_, 0, none⟩ 1 1 [.int .i64 x.t, .slice Ac2 ml cc2] rfl rfl ((Blk.new wc2 70 [.int .i64 x.t, .slice Ac2 ml cc2]).cellsAt) (by simp [Value.oneCell']) (by omega) (by have := by2.size; omega) ?_
            intro Cn2 dn2 wn2 hownn2 _ hbn2 hgn2 _
            have hne2 : ∀ g', g' < w.heap.size + 2 → some g' ≠ (Value.slice Cn1 (j + 1) dn1).ownBlock := fun g' hg' e => by have := (hown2.lt g' e.symm).1; omega
            have HKn2 := Lib.hid (HK2.out wn2 ((hgn2.block _ (Nat.lt_of_lt_of_le hqw2 by2.size) (hne2 _ (by omega))).trans (by2.block _ hqw2)) ((hgn2.block _ (Nat.lt_of_lt_of_le (Nat.lt_trans hbw hqw2) by2.size) (hne2 _ (by omega))).trans (by2.block _ (Nat.lt_trans hbw hqw2))))
            have HKs2 := Lib.hid (HK2.out (wn2.setCell ⟨w1.heap.size + 1, 1, none⟩ (.slice Cn2 ((j + 1) + 1) dn2)) ((Below.heap_setCell wn2 ⟨w1.heap.size + 1, 1, none⟩ (.slice Cn2 ((j + 1) + 1) dn2) w.heap.size (by dsimp only; omega)).trans ((hgn2.block _ (Nat.lt_of_lt_of_le hqw2 by2.size) (hne2 _ (by omega))).trans (by2.block _ hqw2))) ((Below.heap_setCell wn2 ⟨w1.heap.size + 1, 1, none⟩ (.slice Cn2 ((j + 1) + 1) dn2) b (by dsimp only; omega)).trans ((hgn2.block _ (Nat.lt_of_lt_of_le (Nat.lt_trans hbw hqw2) by2.size) (hne2 _ (by omega))).trans (by2.block _ (Nat.lt_trans hbw hqw2)))))
            have hT2 : Blk wn2 (w1.heap.size + 1) 26 [.slice A m0 c, .slice Cn1 (j + 1) dn1] := (hSc2.next by2).grown hgn2 (fun e => own_ne_blk (own_below hown2 by2) (hSc2.next by2) (by decide) e.symm)
            have sn2 := hT2.cells2.2
            have fn2 := hT2.frozen 1
            have hSN2 := AddSt.add (x := x) hSN1 (by omega) (by omega) by2 hown2 hel2 ⟨Ac2, ml, cc2, rfl, hOd2⟩ hgn2 hbn2 hownn2
            have hXN2 := add_blk (u := .slice Cn2 ((j + 1) + 1) dn2) (g := w1.heap.size + 1) hXN1 (by decide) (by omega) hown2 by2 hgn2
            have hYN2 := add_blk (u := .slice Cn2 ((j + 1) + 1) dn2) (g := w1.heap.size + 1) hYN1 (by decide) (by omega) hown2 by2 hgn2
            refine hK.out _ _ (⟨fun _ => sn2, HKn2.out⟩) (fun hHeld => ?_)
            clear hK K
            (try simp only [Act.put, List.setIfInBounds_toArray, List.set_cons_zero, List.set_cons_succ])
            refine wpAnyL_takeS (i := 18) (v := ?_) op18 (by kernel_rfl) (by kernel_rfl) (by kernel_rfl) (by rfl) (fun _ _ _ h => h) hHeld (by kernel_rfl) (by kernel_rfl) (Or.inl ⟨by rfl, ?_⟩) ?_
            rotate_left
            · intro wS hSw; obtain ⟨hSu, hSv⟩ := hSw; have hSs := hSu rfl; clear hSu; go_simp; (try with_reducible rfl)
            (try simp only [Act.put, List.setIfInBounds_toArray, List.set_cons_zero, List.set_cons_succ])
            refine wpAnyL_ready (rs := [19]) (by kernel_rfl) rfl ?_
            refine AllReadyL.cons (b := true) op19 (by kernel_rfl) (fun K hK => ?_) AllReadyL.nil
            go_simp
            refine hK.out _ _ (⟨fun h => Bool.noConfusion h, HKs2.out⟩) (fun hHeld => ?_)
            clear hK K
            (try simp only [Act.put, List.setIfInBounds_toArray, List.set_cons_zero, List.set_cons_succ])
            refine wpAnyL_done (by kernel_rfl) ?_ _
            generalize hWG : wn2.setCell ⟨w1.heap.size + 1, 1, none⟩ (.slice Cn2 ((j + 1) + 1) dn2) = wq2 at *
            clear hWG
            go_wp2_with fail
            go_roundw
            case rel => exact ⟨k + 1, (j + 1) + 1, true, (acc ++ [⟨t, ls⟩]) ++ [x], Cn2, dn2, by omega, rfl, by go_num, ⟨by intro h; first | exact Bool.noConfusion h | omega, by omega⟩, hSN2, hXN2, hYN2, Lib.hid (by rw [← HA.out, HS.out]; first | (simp [hxt]; done) | (simp [hge, hxt]; done))⟩
            case measure => simp [intOf]; omega
        · have hge1 : decide (x.t ≥ t) = false := decide_eq_false hge
          have hge2 : decide (t ≤ x.t) = false := decide_eq_false hge
          by_cases hxt : x.t = t
          · have hxb : (x.t != t) = false := by simp [hxt]
            exact absurd (by omega : t ≤ x.t) hge
          · have hxb : (x.t != t) = true := by simp [hxt]
            go_wp2_with fail
            obtain ⟨hSa3, ⟨cs3, hown3, hel3⟩, hSc3, hbr3⟩ := id hS
            obtain ⟨sa3, sb3⟩ := hSc3.cells2
            have hbd3 : Below wr.heap.size wr wr.drew := (Below.refl _ _).drew
            have HK3 := Lib.hid (fun (w' : World) (h1 : w'.heap[w.heap.size]? = wr.heap[w.heap.size]?) (h2 : w'.heap[b]? = wr.heap[b]?) => (⟨(cob 0 h1).trans hX0.cells2.1, (cob 1 h1).trans hX0.cells2.2, (cob (off + k * 2) h2).trans ((hbr3.cell (p := ⟨b, off + k * 2, none⟩) hbw).trans cx0), (cob (off + k * 2 + 1) h2).trans ((hbr3.cell (p := ⟨b, off + k * 2 + 1, none⟩) hbw).trans cx1)⟩ : w'.cell? ⟨w.heap.size, 0, none⟩ = some (.slice B0 m0 d0) ∧ w'.cell? ⟨w.heap.size, 1, none⟩ = some (.slice (some ⟨b, off, none⟩) m1 d1) ∧ w'.cell? ⟨b, off + k * 2, none⟩ = some (.int .i64 x.t) ∧ w'.cell? ⟨b, off + k * 2 + 1, none⟩ = some (.slice L ml dl)))
            have hzw3 : w1.heap.size + 1 < wr.heap.size := hSc3.lt
            have hqw3 : w.heap.size < wr.heap.size := hX0.lt
            have HKB3 := Lib.hid (fun (w' : World) (hb' : Below wr.heap.size wr w') => HK3.out w' (hb'.block _ hqw3) (hb'.block _ (Nat.lt_trans hbw hqw3)))
            have hls3 := (hrl.next hbr3).robjs
            refine wp_region_L (fun b_ w' => (until_ b_ (w'.cell? ⟨w1.heap.size + 1, 1, none⟩ = some (.slice C j d))) ∧ w'.cell? ⟨w.heap.size, 0, none⟩ = some (.slice B0 m0 d0) ∧ w'.cell? ⟨w.heap.size, 1, none⟩ = some (.slice (some ⟨b, off, none⟩) m1 d1) ∧ w'.cell? ⟨b, off + k * 2, none⟩ = some (.int .i64 x.t) ∧ w'.cell? ⟨b, off + k * 2 + 1, none⟩ = some (.slice L ml dl)) 19 (by kernel_rfl) ⟨fun _ => sb3, HKB3.out _ hbd3⟩ (fun hHeld => ?_)
            refine wpAnyL_takeS (i := 0) (v := ?_) op0 (by kernel_rfl) (by kernel_rfl) (by kernel_rfl) (by rfl) (fun _ _ _ h => h) hHeld (by kernel_rfl) (by kernel_rfl) (Or.inl ⟨by rfl, ?_⟩) ?_
            rotate_left
            · intro wS hSw; obtain ⟨hSu, hSv⟩ := hSw; have hSs := hSu rfl; clear hSu; go_simp; (try with_reducible rfl)
            (try simp only [Act.put, List.setIfInBounds_toArray, List.set_cons_zero, List.set_cons_succ])
            refine wpAnyL_takeS (i := 1) (v := ?_) op1 (by kernel_rfl) (by kernel_rfl) (by kernel_rfl) (by rfl) (fun _ _ _ h => h) hHeld (by kernel_rfl) (by kernel_rfl) (Or.inl ⟨by rfl, ?_⟩) ?_
            rotate_left
            · intro wS hSw; obtain ⟨hSu, hSv⟩ := hSw; have hSs := hSu rfl; clear hSu; go_simp; (try with_reducible rfl)
            (try simp only [Act.put, List.setIfInBounds_toArray, List.set_cons_zero, List.set_cons_succ])
            refine wpAnyL_takeS (i := 2) (v := ?_) op2 (by kernel_rfl) (by kernel_rfl) (by kernel_rfl) (by rfl) (fun _ _ _ h => h) hHeld (by kernel_rfl) (by kernel_rfl) (Or.inl ⟨by rfl, ?_⟩) ?_
            rotate_left
            · intro wS hSw; obtain ⟨hSu, hSv⟩ := hSw; have hSs := hSu rfl; clear hSu; go_simp; (try with_reducible rfl)
            (try simp only [Act.put, List.setIfInBounds_toArray, List.set_cons_zero, List.set_cons_succ])
            refine wpAnyL_takeS (i := 3) (v := ?_) op3 (by kernel_rfl) (by kernel_rfl) (by kernel_rfl) (by rfl) (fun _ _ _ h => h) hHeld (by kernel_rfl) (by kernel_rfl) (Or.inl ⟨by rfl, ?_⟩) ?_
            rotate_left
            · intro wS hSw; obtain ⟨hSu, hSv⟩ := hSw; have hSs := hSu rfl; clear hSu; go_simp; (try with_reducible rfl)
            (try simp only [Act.put, List.setIfInBounds_toArray, List.set_cons_zero, List.set_cons_succ])
            refine wpAnyL_takeS (i := 4) (v := ?_) op4 (by kernel_rfl) (by kernel_rfl) (by kernel_rfl) (by rfl) (fun _ _ _ h => h) hHeld (by kernel_rfl) (by kernel_rfl) (Or.inl ⟨by rfl, ?_⟩) ?_
            rotate_left
            · intro wS hSw; obtain ⟨hSu, hSv⟩ := hSw; have hSs := hSu rfl; clear hSu; go_simp; (try with_reducible rfl)
            (try simp only [Act.put, List.setIfInBounds_toArray, List.set_cons_zero, List.set_cons_succ])
            refine wpAnyL_takeS (i := 5) (v := ?_) op5 (by kernel_rfl) (by kernel_rfl) (by kernel_rfl) (by rfl) (fun _ _ _ h => h) hHeld (by kernel_rfl) (by kernel_rfl) (Or.inl ⟨by rfl, ?_⟩) ?_
            rotate_left
            · intro wS hSw; obtain ⟨hSu, hSv⟩ := hSw; have hSs := hSu rfl; clear hSu; go_simp; (try with_reducible rfl)
            (try simp only [Act.put, List.setIfInBounds_toArray, List.set_cons_zero, List.set_cons_succ])
            refine wpAnyL_takeS (i := 6) (v := ?_) op6 (by kernel_rfl) (by kernel_rfl) (by kernel_rfl) (by rfl) (fun _ _ _ h => h) hHeld (by kernel_rfl) (by kernel_rfl) (Or.inl ⟨by rfl, ?_⟩) ?_
            rotate_left
            · intro wS hSw; obtain ⟨hSu, hSv⟩ := hSw; have hSs := hSu rfl; clear hSu; go_simp; (try with_reducible rfl)
            (try simp only [Act.put, List.setIfInBounds_toArray, List.set_cons_zero, List.set_cons_succ])
            refine wpAnyL_takeS (i := 7) (v := ?_) op7 (by kernel_rfl) (by kernel_rfl) (by kernel_rfl) (by rfl) (fun _ _ _ h => h) hHeld (by kernel_rfl) (by kernel_rfl) (Or.inl ⟨by rfl, ?_⟩) ?_
            rotate_left
            · intro wS hSw; obtain ⟨hSu, hSv⟩ := hSw; have hSs := hSu rfl; clear hSu; go_simp; (try with_reducible rfl)
            (try simp only [Act.put, List.setIfInBounds_toArray, List.set_cons_zero, List.set_cons_succ])
            refine wpAnyL_takeS (i := 8) (v := ?_) op8 (by kernel_rfl) (by kernel_rfl) (by kernel_rfl) (by rfl) (fun _ _ _ h => h) hHeld (by kernel_rfl) (by kernel_rfl) (Or.inl ⟨by rfl, ?_⟩) ?_
            rotate_left
            · intro wS hSw; obtain ⟨hSu, hSv⟩ := hSw; have hSs := hSu rfl; clear hSu; go_simp; (try with_reducible rfl)
            (try simp only [Act.put, List.setIfInBounds_toArray, List.set_cons_zero, List.set_cons_succ])
            refine wpAnyL_takeS (i := 9) (v := ?_) op9 (by kernel_rfl) (by kernel_rfl) (by kernel_rfl) (by rfl) (fun _ _ _ h => h) hHeld (by kernel_rfl) (by kernel_rfl) (Or.inl ⟨by rfl, ?_⟩) ?_
            rotate_left
            · intro wS hSw; obtain ⟨hSu, hSv⟩ := hSw; have hSs := hSu rfl; clear hSu; go_simp; (try with_reducible rfl)
            (try simp only [Act.put, List.setIfInBounds_toArray, List.set_cons_zero, List.set_cons_succ])
            refine wpAnyL_takeS (i := 10) (v := ?_) op10 (by kernel_rfl) (by kernel_rfl) (by kernel_rfl) (by rfl) (fun _ _ _ h => h) hHeld (by kernel_rfl) (by kernel_rfl) (Or.inl ⟨by rfl, ?_⟩) ?_
            rotate_left
            · intro wS hSw; obtain ⟨hSu, hSv⟩ := hSw; have hSs := hSu rfl; clear hSu; go_simp; (try with_reducible rfl)
            (try simp only [Act.put, List.setIfInBounds_toArray, List.set_cons_zero, List.set_cons_succ])
            refine wpAnyL_takeS (i := 11) (v := ?_) op11 (by kernel_rfl) (by kernel_rfl) (by kernel_rfl) (by rfl) (fun _ _ _ h => h) hHeld (by kernel_rfl) (by kernel_rfl) (Or.inl ⟨by rfl, ?_⟩) ?_
            rotate_left
            · intro wS hSw; obtain ⟨hSu, hSv⟩ := hSw; have hSs := hSu rfl; clear hSu; go_simp; (try with_reducible rfl)
            (try simp only [Act.put, List.setIfInBounds_toArray, List.set_cons_zero, List.set_cons_succ])
            refine wpAnyL_takeS (i := 12) (v := ?_) op12 (by kernel_rfl) (by kernel_rfl) (by kernel_rfl) (by rfl) (fun _ _ _ h => h) hHeld (by kernel_rfl) (by kernel_rfl) (Or.inl ⟨by rfl, ?_⟩) ?_
            rotate_left
            · intro wS hSw; obtain ⟨hSu, hSv⟩ := hSw; have hSs := hSu rfl; clear hSu; go_simp; (try with_reducible rfl)
            (try simp only [Act.put, List.setIfInBounds_toArray, List.set_cons_zero, List.set_cons_succ])
            refine wpAnyL_takeS (i := 13) (v := ?_) op13 (by kernel_rfl) (by kernel_rfl) (by kernel_rfl) (by rfl) (fun _ _ _ h => h) hHeld (by kernel_rfl) (by kernel_rfl) (Or.inl ⟨by rfl, ?_⟩) ?_
            rotate_left
            · intro wS hSw; obtain ⟨hSu, hSv⟩ := hSw; have hSs := hSu rfl; clear hSu; go_simp; (try with_reducible rfl)
            (try simp only [Act.put, List.setIfInBounds_toArray, List.set_cons_zero, List.set_cons_succ])
            refine wpAnyL_ready (rs := [14]) (by kernel_rfl) rfl ?_
            refine AllReadyL.cons (b := false) op14 (by kernel_rfl) (fun K hK => ?_) AllReadyL.nil
            go_simp
            go_at_call 107
            refine (l1Copy_any L ml dl x.os _ (hls3.next hbd3) (by omega) hxs).mono ?_
            rintro e wc3 ⟨v3, rfl, hOc3, hbc3⟩
            obtain ⟨Ac3, cc3, rfl, hAc3⟩ := hOc3.form
            have bz3 : Below wr.heap.size wr wc3 := below_ext hbd3 hbc3
            have by3 := below_ext bz3 (below_box wc3 (.cells #[.int .i64 x.t, .slice Ac3 ml cc3] 70))
            have hOd3 := (hOc3.next (below_box wc3 (.cells #[.int .i64 x.t, .slice Ac3 ml cc3] 70))).base (B' := w.heap.size + 2) (by show w.heap.size + 2 ≤ wr.heap.size; omega)
            have sc3 := (hSc3.next bz3).cells2.2
            have sd3 := (hSc3.next by3).cells2.2
            go_wp2_with fail
            refine hK.out _ _ (⟨fun _ => sc3, HKB3.out _ bz3⟩) (fun hHeld => ?_)
            clear hK K
            (try simp only [Act.put, List.setIfInBounds_toArray, List.set_cons_zero, List.set_cons_succ])
            refine wpAnyL_takeS (i := 15) (v := ?_) op15 (by kernel_rfl) (by kernel_rfl) (by kernel_rfl) (by rfl) (fun _ _ _ h => h) hHeld (by kernel_rfl) (by kernel_rfl) (Or.inl ⟨by rfl, ?_⟩) ?_
            rotate_left
            · intro wS hSw; obtain ⟨hSu, hSv⟩ := hSw; have hSs := hSu rfl; clear hSu; go_simp; (try with_reducible rfl)
            (try simp only [Act.put, List.setIfInBounds_toArray, List.set_cons_zero, List.set_cons_succ])
            refine wpAnyL_ready (rs := [16]) (by kernel_rfl) rfl ?_
            refine AllReadyL.cons (b := false) op16 (by kernel_rfl) (fun K hK => ?_) AllReadyL.nil
            go_simp
            refine hK.out _ _ (⟨fun _ => sd3, HKB3.out _ by3⟩) (fun hHeld => ?_)
            clear hK K
            (try simp only [Act.put, List.setIfInBounds_toArray, List.set_cons_zero, List.set_cons_succ])
            refine wpAnyL_ready (rs := [17]) (by kernel_rfl) rfl ?_
            refine AllReadyL.cons (b := false) op17 (by kernel_rfl) (fun K hK => ?_) AllReadyL.nil
            refine step_app rfl (.tmp 55) (.tmp 70) 24 rfl (w.heap.size + 2) 70 Try.underlying24 ar_info1 rfl (by omega) (by omega) _ j cs3 rfl (own_below hown3 by3) ⟨_, 0, none⟩ 1 1 [.int .i64 x.t, .slice Ac3 ml cc3] rfl rfl ((Blk.new wc3 70 [.int .i64 x.t, .slice Ac3 ml cc3]).cellsAt) (by simp [Value.oneCell']) (by omega) (by have := by3.size; omega) ?_
            intro Cn3 dn3 wn3 hownn3 _ hbn3 hgn3 _
            have hne3 : ∀ g', g' < w.heap.size + 2 → some g' ≠ (Value.slice C j d).ownBlock := fun g' hg' e => by have := (hown3.lt g' e.symm).1; omega
            have HKn3 := Lib.hid (HK3.out wn3 ((hgn3.block _ (Nat.lt_of_lt_of_le hqw3 by3.size) (hne3 _ (by omega))).trans (by3.block _ hqw3)) ((hgn3.block _ (Nat.lt_of_lt_of_le (Nat.lt_trans hbw hqw3) by3.size) (hne3 _ (by omega))).trans (by3.block _ (Nat.lt_trans hbw hqw3))))
            have HKs3 := Lib.hid (HK3.out (wn3.setCell ⟨w1.heap.size + 1, 1, none⟩ (.slice Cn3 (j + 1) dn3)) ((Below.heap_setCell wn3 ⟨w1.heap.size + 1, 1, none⟩ (.slice Cn3 (j + 1) dn3) w.heap.size (by dsimp only; omega)).trans ((hgn3.block _ (Nat.lt_of_lt_of_le hqw3 by3.size) (hne3 _ (by omega))).trans (by3.block _ hqw3))) ((Below.heap_setCell wn3 ⟨w1.heap.size + 1, 1, none⟩ (.slice Cn3 (j + 1) dn3) b (by dsimp only; omega)).trans ((hgn3.block _ (Nat.lt_of_lt_of_le (Nat.lt_trans hbw hqw3) by3.size) (hne3 _ (by omega))).trans (by3.block _ (Nat.lt_trans hbw hqw3)))))
            have hT3 : Blk wn3 (w1.heap.size + 1) 26 [.slice A m0 c, .slice C j d] := (hSc3.next by3).grown hgn3 (fun e => own_ne_blk (own_below hown3 by3) (hSc3.next by3) (by decide) e.symm)
            have sn3 := hT3.cells2.2
            have fn3 := hT3.frozen 1
            have hSN3 := AddSt.add (x := x) hS (by omega) (by omega) by3 hown3 hel3 ⟨Ac3, ml, cc3, rfl, hOd3⟩ hgn3 hbn3 hownn3
            have hXN3 := add_blk (u := .slice Cn3 (j + 1) dn3) (g := w1.heap.size + 1) hX0 (by decide) (by omega) hown3 by3 hgn3
            have hYN3 := add_blk (u := .slice Cn3 (j + 1) dn3) (g := w1.heap.size + 1) hX1 (by decide) (by omega) hown3 by3 hgn3
            refine hK.out _ _ (⟨fun _ => sn3, HKn3.out⟩) (fun hHeld => ?_)
            clear hK K
            (try simp only [Act.put, List.setIfInBounds_toArray, List.set_cons_zero, List.set_cons_succ])
            refine wpAnyL_takeS (i := 18) (v := ?_) op18 (by kernel_rfl) (by kernel_rfl) (by kernel_rfl) (by rfl) (fun _ _ _ h => h) hHeld (by kernel_rfl) (by kernel_rfl) (Or.inl ⟨by rfl, ?_⟩) ?_
            rotate_left
            · intro wS hSw; obtain ⟨hSu, hSv⟩ := hSw; have hSs := hSu rfl; clear hSu; go_simp; (try with_reducible rfl)
            (try simp only [Act.put, List.setIfInBounds_toArray, List.set_cons_zero, List.set_cons_succ])
            refine wpAnyL_ready (rs := [19]) (by kernel_rfl) rfl ?_
            refine AllReadyL.cons (b := true) op19 (by kernel_rfl) (fun K hK => ?_) AllReadyL.nil
            go_simp
            refine hK.out _ _ (⟨fun h => Bool.noConfusion h, HKs3.out⟩) (fun hHeld => ?_)
            clear hK K
            (try simp only [Act.put, List.setIfInBounds_toArray, List.set_cons_zero, List.set_cons_succ])
            refine wpAnyL_done (by kernel_rfl) ?_ _
            generalize hWG : wn3.setCell ⟨w1.heap.size + 1, 1, none⟩ (.slice Cn3 (j + 1) dn3) = wq3 at *
            clear hWG
            go_wp2_with fail
            go_roundw
            case rel => exact ⟨k + 1, j + 1, false, acc ++ [x], Cn3, dn3, by omega, rfl, by go_num, ⟨by intro h; first | exact Bool.noConfusion h | omega, by omega⟩, hSN3, hXN3, hYN3, Lib.hid (by rw [← HA.out, HS.out]; simp [hxt, Int.not_le.2 hge])⟩
            case measure => simp [intOf]; omega
      · skip
        by_cases hxt : x.t = t
        · have hxb : (x.t != t) = false := by simp [hxt]
          go_wp2_with fail
          go_roundw
          case rel => exact ⟨k + 1, j, true, acc, C, d, by omega, rfl, by go_num, ⟨by intro h; first | exact Bool.noConfusion h | omega, by omega⟩, hS, hX0, hX1, Lib.hid (by rw [← HA.out, HS.out]; first | (simp [hxt]; done) | (simp [hge, hxt]; done))⟩
          case measure => simp [intOf]; omega
        · have hxb : (x.t != t) = true := by simp [hxt]
          go_wp2_with fail
          obtain ⟨hSa4, ⟨cs4, hown4, hel4⟩, hSc4, hbr4⟩ := id hS
          obtain ⟨sa4, sb4⟩ := hSc4.cells2
          have hbd4 : Below wr.heap.size wr wr.drew := (Below.refl _ _).drew
          have HK4 := Lib.hid (fun (w' : World) (h1 : w'.heap[w.heap.size]? = wr.heap[w.heap.size]?) (h2 : w'.heap[b]? = wr.heap[b]?) => (⟨(cob 0 h1).trans hX0.cells2.1, (cob 1 h1).trans hX0.cells2.2, (cob (off + k * 2) h2).trans ((hbr4.cell (p := ⟨b, off + k * 2, none⟩) hbw).trans cx0), (cob (off + k * 2 + 1) h2).trans ((hbr4.cell (p := ⟨b, off + k * 2 + 1, none⟩) hbw).trans cx1)⟩ : w'.cell? ⟨w.heap.size, 0, none⟩ = some (.slice B0 m0 d0) ∧ w'.cell? ⟨w.heap.size, 1, none⟩ = some (.slice (some ⟨b, off, none⟩) m1 d1) ∧ w'.cell? ⟨b, off + k * 2, none⟩ = some (.int .i64 x.t) ∧ w'.cell? ⟨b, off + k * 2 + 1, none⟩ = some (.slice L ml dl)))
          have hzw4 : w1.heap.size + 1 < wr.heap.size := hSc4.lt
          have hqw4 : w.heap.size < wr.heap.size := hX0.lt
          have HKB4 := Lib.hid (fun (w' : World) (hb' : Below wr.heap.size wr w') => HK4.out w' (hb'.block _ hqw4) (hb'.block _ (Nat.lt_trans hbw hqw4)))
          have hls4 := (hrl.next hbr4).robjs
          refine wp_region_L (fun b_ w' => (until_ b_ (w'.cell? ⟨w1.heap.size + 1, 1, none⟩ = some (.slice C j d))) ∧ w'.cell? ⟨w.heap.size, 0, none⟩ = some (.slice B0 m0 d0) ∧ w'.cell? ⟨w.heap.size, 1, none⟩ = some (.slice (some ⟨b, off, none⟩) m1 d1) ∧ w'.cell? ⟨b, off + k * 2, none⟩ = some (.int .i64 x.t) ∧ w'.cell? ⟨b, off + k * 2 + 1, none⟩ = some (.slice L ml dl)) 19 (by kernel_rfl) ⟨fun _ => sb4, HKB4.out _ hbd4⟩ (fun hHeld => ?_)
          refine wpAnyL_takeS (i := 0) (v := ?_) op0 (by kernel_rfl) (by kernel_rfl) (by kernel_rfl) (by rfl) (fun _ _ _ h => h) hHeld (by kernel_rfl) (by kernel_rfl) (Or.inl ⟨by rfl, ?_⟩) ?_
          rotate_left
          · intro wS hSw; obtain ⟨hSu, hSv⟩ := hSw; have hSs := hSu rfl; clear hSu; go_simp; (try with_reducible rfl)
          (try simp only [Act.put, List.setIfInBounds_toArray, List.set_cons_zero, List.set_cons_succ])
          refine wpAnyL_takeS (i := 1) (v := ?_) op1 (by kernel_rfl) (by kernel_rfl) (by kernel_rfl) (by rfl) (fun _ _ _ h => h) hHeld (by kernel_rfl) (by kernel_rfl) (Or.inl ⟨by rfl, ?_⟩) ?_
          rotate_left
          · intro wS hSw; obtain ⟨hSu, hSv⟩ := hSw; have hSs := hSu rfl; clear hSu; go_simp; (try with_reducible rfl)
          (try simp only [Act.put, List.setIfInBounds_toArray, List.set_cons_zero, List.set_cons_succ])
          refine wpAnyL_takeS (i := 2) (v := ?_) op2 (by kernel_rfl) (by kernel_rfl) (by kernel_rfl) (by rfl) (fun _ _ _ h => h) hHeld (by kernel_rfl) (by kernel_rfl) (Or.inl ⟨by rfl, ?_⟩) ?_
          rotate_left
          · intro wS hSw; obtain ⟨hSu, hSv⟩ := hSw; have hSs := hSu rfl; clear hSu; go_simp; (try with_reducible rfl)
          (try simp only [Act.put, List.setIfInBounds_toArray, List.set_cons_zero, List.set_cons_succ])
          refine wpAnyL_takeS (i := 3) (v := ?_) op3 (by kernel_rfl) (by kernel_rfl) (by kernel_rfl) (by rfl) (fun _ _ _ h => h) hHeld (by kernel_rfl) (by kernel_rfl) (Or.inl ⟨by rfl, ?_⟩) ?_
          rotate_left
          · intro wS hSw; obtain ⟨hSu, hSv⟩ := hSw; have hSs := hSu rfl; clear hSu; go_simp; (try with_reducible rfl)
          (try simp only [Act.put, List.setIfInBounds_toArray, List.set_cons_zero, List.set_cons_succ])
          refine wpAnyL_takeS (i := 4) (v := ?_) op4 (by kernel_rfl) (by kernel_rfl) (by kernel_rfl) (by rfl) (fun _ _ _ h => h) hHeld (by kernel_rfl) (by kernel_rfl) (Or.inl ⟨by rfl, ?_⟩) ?_
          rotate_left
          · intro wS hSw; obtain ⟨hSu, hSv⟩ := hSw; have hSs := hSu rfl; clear hSu; go_simp; (try with_reducible rfl)
          (try simp only [Act.put, List.setIfInBounds_toArray, List.set_cons_zero, List.set_cons_succ])
          refine wpAnyL_takeS (i := 5) (v := ?_) op5 (by kernel_rfl) (by kernel_rfl) (by kernel_rfl) (by rfl) (fun _ _ _ h => h) hHeld (by kernel_rfl) (by kernel_rfl) (Or.inl ⟨by rfl, ?_⟩) ?_
          rotate_left
          · intro wS hSw; obtain ⟨hSu, hSv⟩ := hSw; have hSs := hSu rfl; clear hSu; go_simp; (try with_reducible rfl)
          (try simp only [Act.put, List.setIfInBounds_toArray, List.set_cons_zero, List.set_cons_succ])
          refine wpAnyL_takeS (i := 6) (v := ?_) op6 (by kernel_rfl) (by kernel_rfl) (by kernel_rfl) (by rfl) (fun _ _ _ h => h) hHeld (by kernel_rfl) (by kernel_rfl) (Or.inl ⟨by rfl, ?_⟩) ?_
          rotate_left
          · intro wS hSw; obtain ⟨hSu, hSv⟩ := hSw; have hSs := hSu rfl; clear hSu; go_simp; (try with_reducible rfl)
          (try simp only [Act.put, List.setIfInBounds_toArray, List.set_cons_zero, List.set_cons_succ])
          refine wpAnyL_takeS (i := 7) (v := ?_) op7 (by kernel_rfl) (by kernel_rfl) (by kernel_rfl) (by rfl) (fun _ _ _ h => h) hHeld (by kernel_rfl) (by kernel_rfl) (Or.inl ⟨by rfl, ?_⟩) ?_
          rotate_left
          · intro wS hSw; obtain ⟨hSu, hSv⟩ := hSw; have hSs := hSu rfl; clear hSu; go_simp; (try with_reducible rfl)
          (try simp only [Act.put, List.setIfInBounds_toArray, List.set_cons_zero, List.set_cons_succ])
          refine wpAnyL_takeS (i := 8) (v := ?_) op8 (by kernel_rfl) (by kernel_rfl) (by kernel_rfl) (by rfl) (fun _ _ _ h => h) hHeld (by kernel_rfl) (by kernel_rfl) (Or.inl ⟨by rfl, ?_⟩) ?_
          rotate_left
          · intro wS hSw; obtain ⟨hSu, hSv⟩ := hSw; have hSs := hSu rfl; clear hSu; go_simp; (try with_reducible rfl)
          (try simp only [Act.put, List.setIfInBounds_toArray, List.set_cons_zero, List.set_cons_succ])
          refine wpAnyL_takeS (i := 9) (v := ?_) op9 (by kernel_rfl) (by kernel_rfl) (by kernel_rfl) (by rfl) (fun _ _ _ h => h) hHeld (by kernel_rfl) (by kernel_rfl) (Or.inl ⟨by rfl, ?_⟩) ?_
          rotate_left
          · intro wS hSw; obtain ⟨hSu, hSv⟩ := hSw; have hSs := hSu rfl; clear hSu; go_simp; (try with_reducible rfl)
          (try simp only [Act.put, List.setIfInBounds_toArray, List.set_cons_zero, List.set_cons_succ])
          refine wpAnyL_takeS (i := 10) (v := ?_) op10 (by kernel_rfl) (by kernel_rfl) (by kernel_rfl) (by rfl) (fun _ _ _ h => h) hHeld (by kernel_rfl) (by kernel_rfl) (Or.inl ⟨by rfl, ?_⟩) ?_
          rotate_left
          · intro wS hSw; obtain ⟨hSu, hSv⟩ := hSw; have hSs := hSu rfl; clear hSu; go_simp; (try with_reducible rfl)
          (try simp only [Act.put, List.setIfInBounds_toArray, List.set_cons_zero, List.set_cons_succ])
          refine wpAnyL_takeS (i := 11) (v := ?_) op11 (by kernel_rfl) (by kernel_rfl) (by kernel_rfl) (by rfl) (fun _ _ _ h => h) hHeld (by kernel_rfl) (by kernel_rfl) (Or.inl ⟨by rfl, ?_⟩) ?_
          rotate_left
          · intro wS hSw; obtain ⟨hSu, hSv⟩ := hSw; have hSs := hSu rfl; clear hSu; go_simp; (try with_reducible rfl)
          (try simp only [Act.put, List.setIfInBounds_toArray, List.set_cons_zero, List.set_cons_succ])
          refine wpAnyL_takeS (i := 12) (v := ?_) op12 (by kernel_rfl) (by kernel_rfl) (by kernel_rfl) (by rfl) (fun _ _ _ h => h) hHeld (by kernel_rfl) (by kernel_rfl) (Or.inl ⟨by rfl, ?_⟩) ?_
          rotate_left
          · intro wS hSw; obtain ⟨hSu, hSv⟩ := hSw; have hSs := hSu rfl; clear hSu; go_simp; (try with_reducible rfl)
          (try simp only [Act.put, List.setIfInBounds_toArray, List.set_cons_zero, List.set_cons_succ])
          refine wpAnyL_takeS (i := 13) (v := ?_) op13 (by kernel_rfl) (by kernel_rfl) (by kernel_rfl) (by rfl) (fun _ _ _ h => h) hHeld (by kernel_rfl) (by kernel_rfl) (Or.inl ⟨by rfl, ?_⟩) ?_
          rotate_left
          · intro wS hSw; obtain ⟨hSu, hSv⟩ := hSw; have hSs := hSu rfl; clear hSu; go_simp; (try with_reducible rfl)
          (try simp only [Act.put, List.setIfInBounds_toArray, List.set_cons_zero, List.set_cons_succ])
          refine wpAnyL_ready (rs := [14]) (by kernel_rfl) rfl ?_
          refine AllReadyL.cons (b := false) op14 (by kernel_rfl) (fun K hK => ?_) AllReadyL.nil
          go_simp
          go_at_call 107
          refine (l1Copy_any L ml dl x.os _ (hls4.next hbd4) (by omega) hxs).mono ?_
          rintro e wc4 ⟨v4, rfl, hOc4, hbc4⟩
          obtain ⟨Ac4, cc4, rfl, hAc4⟩ := hOc4.form
          have bz4 : Below wr.heap.size wr wc4 := below_ext hbd4 hbc4
          have by4 := below_ext bz4 (below_box wc4 (.cells #[.int .i64 x.t, .slice Ac4 ml cc4] 70))
          have hOd4 := (hOc4.next (below_box wc4 (.cells #[.int .i64 x.t, .slice Ac4 ml cc4] 70))).base (B' := w.heap.size + 2) (by show w.heap.size + 2 ≤ wr.heap.size; omega)
          have sc4 := (hSc4.next bz4).cells2.2
          have sd4 := (hSc4.next by4).cells2.2
          go_wp2_with fail
          refine hK.out _ _ (⟨fun _ => sc4, HKB4.out _ bz4⟩) (fun hHeld => ?_)
          clear hK K
          (try simp only [Act.put, List.setIfInBounds_toArray, List.set_cons_zero, List.set_cons_succ])
          refine wpAnyL_takeS (i := 15) (v := ?_) op15 (by kernel_rfl) (by kernel_rfl) (by kernel_rfl) (by rfl) (fun _ _ _ h => h) hHeld (by kernel_rfl) (by kernel_rfl) (Or.inl ⟨by rfl, ?_⟩) ?_
          rotate_left
          · intro wS hSw; obtain ⟨hSu, hSv⟩ := hSw; have hSs := hSu rfl; clear hSu; go_simp; (try with_reducible rfl)
          (try simp only [Act.put, List.setIfInBounds_toArray, List.set_cons_zero, List.set_cons_succ])
          refine wpAnyL_ready (rs := [16]) (by kernel_rfl) rfl ?_
          refine AllReadyL.cons (b := false) op16 (by kernel_rfl) (fun K hK => ?_) AllReadyL.nil
          go_simp
          refine hK.out _ _ (⟨fun _ => sd4, HKB4.out _ by4⟩) (fun hHeld => ?_)
          clear hK K
          (try simp only [Act.put, List.setIfInBounds_toArray, List.set_cons_zero, List.set_cons_succ])
          refine wpAnyL_ready (rs := [17]) (by kernel_rfl) rfl ?_
          refine AllReadyL.cons (b := false) op17 (by kernel_rfl) (fun K hK => ?_) AllReadyL.nil
          refine step_app rfl (.tmp 55) (.tmp 70) 24 rfl (w.heap.size + 2) 70 Try.underlying24 ar_info1 rfl (by omega) (by omega) _ j cs4 rfl (own_below hown4 by4) ⟨_, 0, none⟩ 1 1 [.int .i64 x.t, .slice Ac4 ml cc4] rfl rfl ((Blk.new wc4 70 [.int .i64 x.t, .slice Ac4 ml cc4]).cellsAt) (by simp [Value.oneCell']) (by omega) (by have := by4.size; omega) ?_
          intro Cn4 dn4 wn4 hownn4 _ hbn4 hgn4 _
          have hne4 : ∀ g', g' < w.heap.size + 2 → some g' ≠ (Value.slice C j d).ownBlock := fun g' hg' e => by have := (hown4.lt g' e.symm).1; omega
          have HKn4 := Lib.hid (HK4.out wn4 ((hgn4.block _ (Nat.lt_of_lt_of_le hqw4 by4.size) (hne4 _ (by omega))).trans (by4.block _ hqw4)) ((hgn4.block _ (Nat.lt_of_lt_of_le (Nat.lt_trans hbw hqw4) by4.size) (hne4 _ (by omega))).trans (by4.block _ (Nat.lt_trans hbw hqw4))))
          have HKs4 := Lib.hid (HK4.out (wn4.setCell ⟨w1.heap.size + 1, 1, none⟩ (.slice Cn4 (j + 1) dn4)) ((Below.heap_setCell wn4 ⟨w1.heap.size + 1, 1, none⟩ (.slice Cn4 (j + 1) dn4) w.heap.size (by dsimp only; omega)).trans ((hgn4.block _ (Nat.lt_of_lt_of_le hqw4 by4.size) (hne4 _ (by omega))).trans (by4.block _ hqw4))) ((Below.heap_setCell wn4 ⟨w1.heap.size + 1, 1, none⟩ (.slice Cn4 (j + 1) dn4) b (by dsimp only; omega)).trans ((hgn4.block _ (Nat.lt_of_lt_of_le (Nat.lt_trans hbw hqw4) by4.size) (hne4 _ (by omega))).trans (by4.block _ (Nat.lt_trans hbw hqw4)))))
          have hT4 : Blk wn4 (w1.heap.size + 1) 26 [.slice A m0 c, .slice C j d] := (hSc4.next by4).grown hgn4 (fun e => own_ne_blk (own_below hown4 by4) (hSc4.next by4) (by decide) e.symm)
          have sn4 := hT4.cells2.2
          have fn4 := hT4.frozen 1
          have hSN4 := AddSt.add (x := x) hS (by omega) (by omega) by4 hown4 hel4 ⟨Ac4, ml, cc4, rfl, hOd4⟩ hgn4 hbn4 hownn4
          have hXN4 := add_blk (u := .slice Cn4 (j + 1) dn4) (g := w1.heap.size + 1) hX0 (by decide) (by omega) hown4 by4 hgn4
          have hYN4 := add_blk (u := .slice Cn4 (j + 1) dn4) (g := w1.heap.size + 1) hX1 (by decide) (by omega) hown4 by4 hgn4
          refine hK.out _ _ (⟨fun _ => sn4, HKn4.out⟩) (fun hHeld => ?_)
          clear hK K
          (try simp only [Act.put, List.setIfInBounds_toArray, List.set_cons_zero, List.set_cons_succ])
          refine wpAnyL_takeS (i := 18) (v := ?_) op18 (by kernel_rfl) (by kernel_rfl) (by kernel_rfl) (by rfl) (fun _ _ _ h => h) hHeld (by kernel_rfl) (by kernel_rfl) (Or.inl ⟨by rfl, ?_⟩) ?_
          rotate_left
          · intro wS hSw; obtain ⟨hSu, hSv⟩ := hSw; have hSs := hSu rfl; clear hSu; go_simp; (try with_reducible rfl)
          (try simp only [Act.put, List.setIfInBounds_toArray, List.set_cons_zero, List.set_cons_succ])
          refine wpAnyL_ready (rs := [19]) (by kernel_rfl) rfl ?_
          refine AllReadyL.cons (b := true) op19 (by kernel_rfl) (fun K hK => ?_) AllReadyL.nil
          go_simp
          refine hK.out _ _ (⟨fun h => Bool.noConfusion h, HKs4.out⟩) (fun hHeld => ?_)
          clear hK K
          (try simp only [Act.put, List.setIfInBounds_toArray, List.set_cons_zero, List.set_cons_succ])
          refine wpAnyL_done (by kernel_rfl) ?_ _
          generalize hWG : wn4.setCell ⟨w1.heap.size + 1, 1, none⟩ (.slice Cn4 (j + 1) dn4) = wq4 at *
          clear hWG
          go_wp2_with fail
          go_roundw
          case rel => exact ⟨k + 1, j + 1, true, acc ++ [x], Cn4, dn4, by omega, rfl, by go_num, ⟨by intro h; first | exact Bool.noConfusion h | omega, by omega⟩, hSN4, hXN4, hYN4, Lib.hid (by rw [← HA.out, HS.out]; first | (simp [hxt]; done) | (simp [hge, hxt]; done))⟩
          case measure => simp [intOf]; omega
    · obtain rfl : k = m1 := by omega
      have HD : q.ars.drop k = [] := List.drop_of_length_le (by rw [HL.out.2]; exact Nat.le_refl _)
      have HA2 := HA.out
      rw [HD] at HA2
      rw [show (r : Int) = (ls.length : Int) by rw [HR.out]] at HA2
      have HHA := Lib.hid HA2
      clear HA2 HA HD
      cases b_
      · go_wp2_with fail
        obtain ⟨hSa5, ⟨cs5, hown5, hel5⟩, hSc5, hbr5⟩ := id hS
        obtain ⟨sa5, sb5⟩ := hSc5.cells2
        have hbd5 : Below wr.heap.size wr wr.drew := (Below.refl _ _).drew
        have HK5 := True.intro
        have hzw5 : w1.heap.size + 1 < wr.heap.size := hSc5.lt
        have hqw5 : w.heap.size < wr.heap.size := hX0.lt
        have hls5 := hl.next hbr5
        refine wp_region_L (fun b_ w' => (until_ b_ (w'.cell? ⟨w1.heap.size + 1, 1, none⟩ = some (.slice C j d))) ∧ True) 9 (by kernel_rfl) ⟨fun _ => sb5, True.intro⟩ (fun hHeld => ?_)
        refine wpAnyL_takeS (i := 0) (v := ?_) op0 (by kernel_rfl) (by kernel_rfl) (by kernel_rfl) (by rfl) (fun _ _ _ h => h) hHeld (by kernel_rfl) (by kernel_rfl) (Or.inl ⟨by rfl, ?_⟩) ?_
        rotate_left
        · intro wS hSw; obtain ⟨hSu, hSv⟩ := hSw; have hSs := hSu rfl; clear hSu; go_simp; (try with_reducible rfl)
        (try simp only [Act.put, List.setIfInBounds_toArray, List.set_cons_zero, List.set_cons_succ])
        refine wpAnyL_takeS (i := 1) (v := ?_) op1 (by kernel_rfl) (by kernel_rfl) (by kernel_rfl) (by rfl) (fun _ _ _ h => h) hHeld (by kernel_rfl) (by kernel_rfl) (Or.inl ⟨by rfl, ?_⟩) ?_
        rotate_left
        · intro wS hSw; obtain ⟨hSu, hSv⟩ := hSw; have hSs := hSu rfl; clear hSu; go_simp; (try with_reducible rfl)
        (try simp only [Act.put, List.setIfInBounds_toArray, List.set_cons_zero, List.set_cons_succ])
        refine wpAnyL_takeS (i := 2) (v := ?_) op2 (by kernel_rfl) (by kernel_rfl) (by kernel_rfl) (by rfl) (fun _ _ _ h => h) hHeld (by kernel_rfl) (by kernel_rfl) (Or.inl ⟨by rfl, ?_⟩) ?_
        rotate_left
        · intro wS hSw; obtain ⟨hSu, hSv⟩ := hSw; have hSs := hSu rfl; clear hSu; go_simp; (try with_reducible rfl)
        (try simp only [Act.put, List.setIfInBounds_toArray, List.set_cons_zero, List.set_cons_succ])
        refine wpAnyL_takeS (i := 3) (v := ?_) op3 (by kernel_rfl) (by kernel_rfl) (by kernel_rfl) (by rfl) (fun _ _ _ h => h) hHeld (by kernel_rfl) (by kernel_rfl) (Or.inl ⟨by rfl, ?_⟩) ?_
        rotate_left
        · intro wS hSw; obtain ⟨hSu, hSv⟩ := hSw; have hSs := hSu rfl; clear hSu; go_simp; (try with_reducible rfl)
        (try simp only [Act.put, List.setIfInBounds_toArray, List.set_cons_zero, List.set_cons_succ])
        refine wpAnyL_ready (rs := [4]) (by kernel_rfl) rfl ?_
        refine AllReadyL.cons (b := false) op4 (by kernel_rfl) (fun K hK => ?_) AllReadyL.nil
        go_simp
        go_at_call 107
        refine (l1Copy_any D r dd ls _ (hls5.next hbd5) (by omega) hxsL).mono ?_
        rintro e wc5 ⟨v5, rfl, hOc5, hbc5⟩
        obtain ⟨Ac5, cc5, rfl, hAc5⟩ := hOc5.form
        have bz5 : Below wr.heap.size wr wc5 := below_ext hbd5 hbc5
        have by5 := below_ext bz5 (below_box wc5 (.cells #[.int .i64 t, .slice Ac5 r cc5] 70))
        have hOd5 := (hOc5.next (below_box wc5 (.cells #[.int .i64 t, .slice Ac5 r cc5] 70))).base (B' := w.heap.size + 2) (by show w.heap.size + 2 ≤ wr.heap.size; omega)
        have sc5 := (hSc5.next bz5).cells2.2
        have sd5 := (hSc5.next by5).cells2.2
        go_wp2_with fail
        refine hK.out _ _ (⟨fun _ => sc5, True.intro⟩) (fun hHeld => ?_)
        clear hK K
        (try simp only [Act.put, List.setIfInBounds_toArray, List.set_cons_zero, List.set_cons_succ])
        refine wpAnyL_takeS (i := 5) (v := ?_) op5 (by kernel_rfl) (by kernel_rfl) (by kernel_rfl) (by rfl) (fun _ _ _ h => h) hHeld (by kernel_rfl) (by kernel_rfl) (Or.inl ⟨by rfl, ?_⟩) ?_
        rotate_left
        · intro wS hSw; obtain ⟨hSu, hSv⟩ := hSw; have hSs := hSu rfl; clear hSu; go_simp; (try with_reducible rfl)
        (try simp only [Act.put, List.setIfInBounds_toArray, List.set_cons_zero, List.set_cons_succ])
        refine wpAnyL_ready (rs := [6]) (by kernel_rfl) rfl ?_
        refine AllReadyL.cons (b := false) op6 (by kernel_rfl) (fun K hK => ?_) AllReadyL.nil
        go_simp
        refine hK.out _ _ (⟨fun _ => sd5, True.intro⟩) (fun hHeld => ?_)
        clear hK K
        (try simp only [Act.put, List.setIfInBounds_toArray, List.set_cons_zero, List.set_cons_succ])
        refine wpAnyL_ready (rs := [7]) (by kernel_rfl) rfl ?_
        refine AllReadyL.cons (b := false) op7 (by kernel_rfl) (fun K hK => ?_) AllReadyL.nil
        refine step_app rfl (.tmp 76) (.tmp 81) 24 rfl (w.heap.size + 2) 70 Try.underlying24 ar_info1 rfl (by omega) (by omega) _ j cs5 rfl (own_below hown5 by5) ⟨_, 0, none⟩ 1 1 [.int .i64 t, .slice Ac5 r cc5] rfl rfl ((Blk.new wc5 70 [.int .i64 t, .slice Ac5 r cc5]).cellsAt) (by simp [Value.oneCell']) (by omega) (by have := by5.size; omega) ?_
        intro Cn5 dn5 wn5 hownn5 _ hbn5 hgn5 _
        have hT5 : Blk wn5 (w1.heap.size + 1) 26 [.slice A m0 c, .slice C j d] := (hSc5.next by5).grown hgn5 (fun e => own_ne_blk (own_below hown5 by5) (hSc5.next by5) (by decide) e.symm)
        have sn5 := hT5.cells2.2
        have fn5 := hT5.frozen 1
        have hSN5 := AddSt.add (x := ⟨t, ls⟩) hS (by omega) (by omega) by5 hown5 hel5 ⟨Ac5, r, cc5, rfl, hOd5⟩ hgn5 hbn5 hownn5
        have hXN5 := add_blk (u := .slice Cn5 (j + 1) dn5) (g := w1.heap.size + 1) hX0 (by decide) (by omega) hown5 by5 hgn5
        have hYN5 := add_blk (u := .slice Cn5 (j + 1) dn5) (g := w1.heap.size + 1) hX1 (by decide) (by omega) hown5 by5 hgn5
        refine hK.out _ _ (⟨fun _ => sn5, True.intro⟩) (fun hHeld => ?_)
        clear hK K
        (try simp only [Act.put, List.setIfInBounds_toArray, List.set_cons_zero, List.set_cons_succ])
        refine wpAnyL_takeS (i := 8) (v := ?_) op8 (by kernel_rfl) (by kernel_rfl) (by kernel_rfl) (by rfl) (fun _ _ _ h => h) hHeld (by kernel_rfl) (by kernel_rfl) (Or.inl ⟨by rfl, ?_⟩) ?_
        rotate_left
        · intro wS hSw; obtain ⟨hSu, hSv⟩ := hSw; have hSs := hSu rfl; clear hSu; go_simp; (try with_reducible rfl)
        (try simp only [Act.put, List.setIfInBounds_toArray, List.set_cons_zero, List.set_cons_succ])
        refine wpAnyL_ready (rs := [9]) (by kernel_rfl) rfl ?_
        refine AllReadyL.cons (b := true) op9 (by kernel_rfl) (fun K hK => ?_) AllReadyL.nil
        go_simp
        refine hK.out _ _ (⟨fun h => Bool.noConfusion h, True.intro⟩) (fun hHeld => ?_)
        clear hK K
        (try simp only [Act.put, List.setIfInBounds_toArray, List.set_cons_zero, List.set_cons_succ])
        refine wpAnyL_done (by kernel_rfl) ?_ _
        generalize hWG : wn5.setCell ⟨w1.heap.size + 1, 1, none⟩ (.slice Cn5 (j + 1) dn5) = wq5 at *
        clear hWG
        have HE : setA t ls ((ls.length : Int) == 0) q.ars = acc ++ [⟨t, ls⟩] := by rw [← HHA.out]; rfl
        obtain ⟨hSz, -, hSy, hbz⟩ := id hSN5
        obtain ⟨za, zb⟩ := hSy.cells2
        obtain ⟨r0, r1⟩ := hYN5.cells2
        have fr0 := hYN5.frozen 0
        have fr1 := hYN5.frozen 1
        have hRR := (hYN5.set_ 0 (.slice A m0 c)).set_ 1 (.slice Cn5 (j + 1) dn5)
        simp only [List.set_cons_zero, List.set_cons_succ] at hRR
        obtain ⟨t0, t1⟩ := hRR.cells2
        clear HE
        go_wp2_with fail
        refine bodyPost_ret (v := .agg #[.slice A m0 c, .slice Cn5 (j + 1) dn5]) (by simp [results, Try.results70, go_sem, t0, t1]) rfl ?_
        exact ⟨_, rfl, own_res hSN5 hYN5 (by unfold setQ; rw [← HHA.out]; rfl) (by omega), (hbz.setCell (p := ⟨w.heap.size + 1, 0, none⟩) (Nat.le_succ _) _).setCell (p := ⟨w.heap.size + 1, 1, none⟩) (Nat.le_succ _) _⟩
      · skip
        obtain ⟨hSz, -, hSy, hbz⟩ := id hS
        obtain ⟨za, zb⟩ := hSy.cells2
        obtain ⟨r0, r1⟩ := hX1.cells2
        have fr0 := hX1.frozen 0
        have fr1 := hX1.frozen 1
        have hRR := (hX1.set_ 0 (.slice A m0 c)).set_ 1 (.slice C j d)
        simp only [List.set_cons_zero, List.set_cons_succ] at hRR
        obtain ⟨t0, t1⟩ := hRR.cells2
        go_wp2_with fail
        refine bodyPost_ret (v := .agg #[.slice A m0 c, .slice C j d]) (by simp [results, Try.results70, go_sem, t0, t1]) rfl ?_
        exact ⟨_, rfl, own_res hS hX1 (by unfold setQ; rw [← HHA.out]; simp [setA]) (by omega), (hbz.setCell (p := ⟨w.heap.size + 1, 0, none⟩) (Nat.le_succ _) _).setCell (p := ⟨w.heap.size + 1, 1, none⟩) (Nat.le_succ _) _⟩
end Go.Proofs.Ytjofgbbofagoiaa
