/- Walk: l13Copy: a quarantine in new memory. -/
import Derived.Test.YtjofgbbofagoiaaQuAll
import Derived.Test.YtjofgbbofagoiaaAppS
import Derived.Test.YtjofgbbofagoiaaRegM
namespace Go.Proofs.Ytjofgbbofagoiaa
open Go.RowKit Go.Sort

theorem quarB_parts {q : Qu} (h : quarB q = true) : storeB q.main = true ∧ (∀ a ∈ q.ars, txnB a.t = true ∧ storeB a.os = true ∧ 0 < a.os.length) ∧ q.ars.length ≤ 4 := by
  unfold quarB at h
  simp only [Bool.and_eq_true, decide_eq_true_eq] at h
  refine ⟨h.2.1, fun a ha => ?_, by omega⟩
  have := chainB_mem _ _ h.1 a ha
  unfold arOk at this
  simp only [Bool.and_eq_true, decide_eq_true_eq] at this
  exact this
theorem stB_ok {os : List Ob} (h : storeB os = true) : ∀ x ∈ os, x.ok = true := ((storeB_iff os).1 h).1
theorem stB_len {os : List Ob} (h : storeB os = true) : os.length ≤ 16 := ((storeB_iff os).1 h).2.2
theorem cob {w w' : World} {b : Nat} (i : Nat) (h : w'.heap[b]? = w.heap[b]?) : w'.cell? ⟨b, i, none⟩ = w.cell? ⟨b, i, none⟩ := World.cell?_of_block (a := ⟨b, i, none⟩) h
theorem grownSetQ (w : World) (g i : Nat) (u : Value) : w.grownBy (w.setCell ⟨g, i, none⟩ u) (some g) := grown_setCell (World.grownBy.refl w (some g)) u
theorem OwnA.other {w w' : World} {B n : Nat} {v : Value} {ars : List Ar} {row : Option Nat} (h : OwnA w B v n ars) (hg : w.grownBy w' row) (hrow : ∀ g, row = some g → ∃ cs e fz, w.heap[g]? = some (.cells cs e fz) ∧ e ≠ 3 ∧ e ≠ 33 ∧ e ≠ 70) : OwnA w' B v n ars := by
  obtain ⟨cs, h1, h2⟩ := h
  refine ⟨cs, h1.kept hg ?_, h2.mono fun v os hx => hx.other hg (fun g e => by obtain ⟨cs, e, fz, a, b, c, _⟩ := hrow g e; exact ⟨cs, e, fz, a, b, c⟩)⟩
  cases hv : v.ownBlock with
  | none => exact Or.inl rfl
  | some b =>
    refine Or.inr fun e => ?_
    obtain ⟨cs', e', fz, a, _, _, hne⟩ := hrow b e.symm
    rcases h1.2 with ⟨rfl, _⟩ | ⟨g', cap, cur, rfl, _, hh, _⟩
    · cases hv
    · have : g' = b := by simpa [Value.ownBlock] using hv
      subst this
      rw [hh] at a
      injection a with a
      injection a with _ a
      exact hne a.symm
/-- a quarantine under way, in the box g -/
def AddSt (w wr : World) (B g : Nat) (A : Option Addr) (n c : Nat) (main : List Ob) (C : Option Addr) (k d : Nat) (ars : List Ar) : Prop :=
  OwnO wr B (.slice A n c) n main ∧ OwnA wr B (.slice C k d) k ars ∧ Blk wr g 26 [.slice A n c, .slice C k d] ∧ Below w.heap.size w wr
theorem AddSt.next {w wr w' : World} {B g : Nat} {A : Option Addr} {n c : Nat} {main : List Ob} {C : Option Addr} {k d : Nat} {ars : List Ar} (h : AddSt w wr B g A n c main C k d ars) (hb : Below wr.heap.size wr w') : AddSt w w' B g A n c main C k d ars :=
  ⟨h.1.next hb, h.2.1.next hb, h.2.2.1.next hb, below_ext h.2.2.2 hb⟩
section
variable {w wr X w9 : World} {B g : Nat} {A : Option Addr} {n c : Nat} {main : List Ob} {C C9 : Option Addr} {k d d9 : Nat} {ars : List Ar} {cs0 : List Value} {x : Ar} {v1 : Value}
theorem AddSt.add (h : AddSt w wr B g A n c main C k d ars) (hwB : w.heap.size ≤ B) (hwg : w.heap.size ≤ g) (bz : Below wr.heap.size wr X) (hown : wr.ownsRow B 70 2 (.slice C k d) k cs0) (hel : ElemsA cs0 ars (ObIn wr B)) (hob : ObIn X B v1 x.os)
    (hg9 : X.grownBy w9 (Value.slice C k d).ownBlock) (hb9 : Below B X w9) (hown9 : w9.ownsRow B 70 2 (.slice C9 (k + 1) d9) (k + 1) (cs0 ++ [.int .i64 x.t, v1])) :
    AddSt w (w9.setCell ⟨g, 1, none⟩ (.slice C9 (k + 1) d9)) B g A n c main C9 (k + 1) d9 (ars ++ [x]) := by
  obtain ⟨h1, h2, h3, h4⟩ := h
  have hown' := own_below hown bz
  have hA9 := OwnA.push hown' (hel.mono fun _ _ hx => hx.next bz) hob hg9 hown9
  have hO9 := (h1.next bz).other hg9 fun g' e => by
    rcases hown'.2 with ⟨h0, _⟩ | ⟨g1, cap, cur, hv, _, hh, _⟩
    · rw [h0] at e; cases e
    · rw [hv] at e
      have : g1 = g' := by simpa [Value.ownBlock] using e
      subst this
      exact ⟨_, _, _, hh, by decide, by decide⟩
  have hB9 := (h3.next bz).grown hg9 (fun e => own_ne_blk hown' (h3.next bz) (by decide) e.symm)
  have hgs := grownSetQ w9 g 1 (.slice C9 (k + 1) d9)
  have hty : ∀ g', some g = some g' → ∃ cs e fz, w9.heap[g']? = some (.cells cs e fz) ∧ e ≠ 3 ∧ e ≠ 33 ∧ e ≠ 70 := fun g' e => by
    injection e with e
    subst e
    exact ⟨_, _, _, hB9, by decide, by decide, by decide⟩
  refine ⟨hO9.other hgs (fun g' e => by obtain ⟨a, b, c, h1, h2, h3, _⟩ := hty g' e; exact ⟨a, b, c, h1, h2, h3⟩), hA9.other hgs hty, ?_, ?_⟩
  · have := hB9.set_ 1 (.slice C9 (k + 1) d9)
    simpa only [List.set_cons_zero, List.set_cons_succ] using this
  · exact (Below.trans (below_ext h4 bz) (hb9.mono hwB)).setCell (p := ⟨g, 1, none⟩) hwg _
theorem add_blk {T' : TypeId} {b : Nat} {cs : List Value} {u : Value} (hb : Blk wr b T' cs) (hne : 70 ≠ T') (hbg : b ≠ g) (hown : wr.ownsRow B 70 2 (.slice C k d) k cs0) (bz : Below wr.heap.size wr X) (hg9 : X.grownBy w9 (Value.slice C k d).ownBlock) :
    Blk (w9.setCell ⟨g, 1, none⟩ u) b T' cs :=
  ((hb.next bz).grown hg9 (fun e => own_ne_blk (own_below hown bz) (hb.next bz) hne e.symm)).far (p := ⟨g, 1, none⟩) hbg u
end
theorem own_res {w wr : World} {B g r : Nat} {A : Option Addr} {n c : Nat} {main : List Ob} {C : Option Addr} {k d : Nat} {ars : List Ar} {cs : List Value} {u v : Value} {q : Qu} (h : AddSt w wr B g A n c main C k d ars) (hr : Blk wr r 26 cs) (hq : q = ⟨main, ars⟩) (hwB : w.heap.size ≤ B) :
    OwnQ ((wr.setCell ⟨r, 0, none⟩ u).setCell ⟨r, 1, none⟩ v) w.heap.size [.slice A n c, .slice C k d] q := by
  subst hq
  obtain ⟨h1, h2, _, _⟩ := h
  have g1 := grownSetQ wr r 0 u
  have g2 := grownSetQ (wr.setCell ⟨r, 0, none⟩ u) r 1 v
  have hr2 := hr.set_ 0 u
  have ty1 : ∀ g', some r = some g' → ∃ cs e fz, wr.heap[g']? = some (.cells cs e fz) ∧ e ≠ 3 ∧ e ≠ 33 ∧ e ≠ 70 := fun g' e => by
    injection e with e
    subst e
    exact ⟨_, _, _, hr, by decide, by decide, by decide⟩
  have ty2 : ∀ g', some r = some g' → ∃ cs e fz, (wr.setCell ⟨r, 0, none⟩ u).heap[g']? = some (.cells cs e fz) ∧ e ≠ 3 ∧ e ≠ 33 ∧ e ≠ 70 := fun g' e => by
    injection e with e
    subst e
    exact ⟨_, _, _, hr2, by decide, by decide, by decide⟩
  exact ⟨A, n, c, C, k, d, rfl, (((h1.other g1 fun g' e => by obtain ⟨a, b, c, h1, h2, h3, _⟩ := ty1 g' e; exact ⟨a, b, c, h1, h2, h3⟩).other g2 fun g' e => by obtain ⟨a, b, c, h1, h2, h3, _⟩ := ty2 g' e; exact ⟨a, b, c, h1, h2, h3⟩).base hwB), ((h2.other g1 ty1).other g2 ty2).base hwB⟩
set_option maxRecDepth 100000 in
set_option maxHeartbeats 3200000 in
theorem l13Copy_any (cs : List Value) (q : Qu) (w : World) (hv : repQu.V 0 w cs q) (hq : quarB q = true) :
    Calls Try.prog 69 #[.agg cs.toArray] w (QuTo w q) := by
  obtain ⟨B0, m0, d0, B1, m1, d1, rfl, hr0, hm0, hr1, hm1⟩ := repQu_cells hv
  obtain ⟨hq1, hq2, hq3⟩ := quarB_parts hq
  have hl0 := hr0.1
  have hl1 := hr1.1
  have hl16 := stB_len hq1
  have HL := Lib.hid (And.intro hl0 hl1)
  have b1 := below_box2 w (.cells #[.slice B0 m0 d0, .slice B1 m1 d1] 26) (.cells #[.slice none 0 0, .slice none 0 0] 26)
  have x0 : Blk ((w.alloc (.cells #[.slice B0 m0 d0, .slice B1 m1 d1] 26)).alloc (.cells #[.slice none 0 0, .slice none 0 0] 26)) w.heap.size 26 [.slice B0 m0 d0, .slice B1 m1 d1] := (Blk.new w _ _).alloc _
  have x1 : Blk ((w.alloc (.cells #[.slice B0 m0 d0, .slice B1 m1 d1] 26)).alloc (.cells #[.slice none 0 0, .slice none 0 0] 26)) (w.heap.size + 1) 26 [.slice none 0 0, .slice none 0 0] := by simpa using Blk.new (w.alloc (.cells #[.slice B0 m0 d0, .slice B1 m1 d1] 26)) 26 [.slice none 0 0, .slice none 0 0]
  obtain ⟨y0, y1⟩ := x0.cells2
  have hm016 : m0 ≤ 16 := by omega
  have hm14 : m1 ≤ 4 := by omega
  clear hl0 hl1 hl16
  go_enter Try.func69, Try.ntmps69
  go_wp2_with fail
  refine (l1Copy_any B0 m0 d0 q.main _ (hr0.next b1).robjs (by omega) (ok_small (stB_ok hq1))).mono ?_
  rintro e w1 ⟨v, rfl, hO1, hb1⟩
  obtain ⟨A, c, rfl, hAc⟩ := hO1.form
  have x01 := x0.next hb1
  have x11 := x1.next hb1
  have bw1 := below_ext b1 hb1
  have hz1 : w.heap.size + 2 ≤ w1.heap.size := by have := hb1.size; simpa using this
  have hO1' := hO1.base (B' := w.heap.size + 2) (by simp)
  have e2 := below_box w1 (.cells #[] 70)
  have x2 := Blk.new w1 70 []
  have e3 := below_ext e2 (below_box (w1.alloc (.cells #[] 70)) (.cells #[.slice A m0 c, .slice (some ⟨w1.heap.size, 0, none⟩) 0 0] 26))
  have x23 := x2.next (below_box (w1.alloc (.cells #[] 70)) (.cells #[.slice A m0 c, .slice (some ⟨w1.heap.size, 0, none⟩) 0 0] 26))
  have x3 : Blk ((w1.alloc (.cells #[] 70)).alloc (.cells #[.slice A m0 c, .slice (some ⟨w1.heap.size, 0, none⟩) 0 0] 26)) (w1.heap.size + 1) 26 [.slice A m0 c, .slice (some ⟨w1.heap.size, 0, none⟩) 0 0] := by simpa using Blk.new (w1.alloc (.cells #[] 70)) 26 [.slice A m0 c, .slice (some ⟨w1.heap.size, 0, none⟩) 0 0]
  have hSt : AddSt w ((w1.alloc (.cells #[] 70)).alloc (.cells #[.slice A m0 c, .slice (some ⟨w1.heap.size, 0, none⟩) 0 0] 26)) (w.heap.size + 2) (w1.heap.size + 1) A m0 c q.main (some ⟨w1.heap.size, 0, none⟩) 0 0 [] :=
    ⟨hO1'.next e3, OwnA.emp x23 hz1, x3, below_ext bw1 e3⟩
  have x03 := x01.next e3
  have x13 := x11.next e3
  clear y0 y1 x0 x1 hO1 x2 x23 x3 x01 x11
  go_wp2_with fail
  go_loopw [4] (fun i wr => ∃ (k : Nat) (C : Option Addr) (d : Nat), k ≤ m1 ∧ i = .int .i64 k ∧ AddSt w wr (w.heap.size + 2) (w1.heap.size + 1) A m0 c q.main C k d (q.ars.take k) ∧ Blk wr w.heap.size 26 [.slice B0 m0 d0, .slice B1 m1 d1] ∧ Blk wr (w.heap.size + 1) 26 [.slice none 0 0, .slice none 0 0]) (fun i _ => m1 - (intOf i).toNat)
  case atStart => exact ⟨0, _, _, Nat.zero_le _, rfl, hSt, x03, x13⟩
  case round =>
    obtain ⟨k, C, d, hk, rfl, hS, hX0, hX1⟩ := hrel
    obtain ⟨hS1, ⟨cs0, hown, hel⟩, hS3, hbr⟩ := id hS
    obtain ⟨s0, s1⟩ := hS3.cells2
    obtain ⟨p0, p1⟩ := hX0.cells2
    by_cases hlt : k < m1
    · obtain ⟨b, off, x, cs', rfl, hbw0, hx, hcx0, hvx⟩ := hr1.at_ hlt
      have hcx : ∀ (j : Nat) (u : Value), cs'[j]? = some u → wr.cell? ⟨b, off + k * repAr.sz + j, none⟩ = some u := fun j u hu => (hbr.cell (p := ⟨b, off + k * repAr.sz + j, none⟩) hbw0).trans (hcx0 j u hu)
      obtain ⟨L, ml, dl, rfl, hrl, hml⟩ := repAr_cells hvx
      have cx0 : wr.cell? ⟨b, off + k * 2, none⟩ = some (.int .i64 x.t) := hcx 0 _ rfl
      have cx1 : wr.cell? ⟨b, off + k * 2 + 1, none⟩ = some (.slice L ml dl) := hcx 1 _ rfl
      obtain ⟨-, hx2, -⟩ := hq2 x (List.mem_of_getElem? hx)
      have hml16 : ml ≤ 16 := by have := stB_len hx2; have := hrl.1; omega
      have hxs := ok_small (stB_ok hx2)
      have HT := Lib.hid (show q.ars.take (k + 1) = q.ars.take k ++ [x] by
        obtain ⟨h1, h2⟩ := List.getElem?_eq_some_iff.1 hx
        rw [List.take_succ_eq_append_getElem h1, h2])
      have hkmi : (k : Int) < (m1 : Int) := by omega
      have hbw : b < w.heap.size := hbw0
      have HK := Lib.hid (fun (w' : World) (h1 : w'.heap[w.heap.size]? = wr.heap[w.heap.size]?) (h2 : w'.heap[b]? = wr.heap[b]?) => (⟨(cob (0) h1).trans p0, (cob (1) h1).trans p1, (cob (off + k * 2) h2).trans cx0, (cob (off + k * 2 + 1) h2).trans cx1⟩ : w'.cell? ⟨w.heap.size, 0, none⟩ = some (.slice B0 m0 d0) ∧ w'.cell? ⟨w.heap.size, 1, none⟩ = some (.slice (some ⟨b, off, none⟩) m1 d1) ∧ w'.cell? ⟨b, off + k * 2, none⟩ = some (.int .i64 x.t) ∧ w'.cell? ⟨b, off + k * 2 + 1, none⟩ = some (.slice L ml dl)))
      have hzw : w1.heap.size + 1 < wr.heap.size := hS3.lt
      have hqw : w.heap.size < wr.heap.size := hX0.lt
      have HKB := Lib.hid (fun (w' : World) (hb' : Below wr.heap.size wr w') => HK.out w' (hb'.block _ hqw) (hb'.block _ (Nat.lt_trans hbw hqw)))
      have hbd : Below wr.heap.size wr wr.drew := (Below.refl _ _).drew
      have hrlw := hrl.next hbr
      have HB := Lib.hid hbr
      clear hcx hcx0 hvx hx
      go_wp2_with fail
      clear cx0 cx1 p0 p1
      have hS0 : ∀ (b_ : Bool) (w' : World), ((until_ b_ (w'.cell? ⟨w1.heap.size + 1, 1, none⟩ = some (.slice C k d))) ∧ w'.cell? ⟨w.heap.size, 0, none⟩ = some (.slice B0 m0 d0) ∧ w'.cell? ⟨w.heap.size, 1, none⟩ = some (.slice (some ⟨b, off, none⟩) m1 d1) ∧ w'.cell? ⟨b, off + k * 2, none⟩ = some (.int .i64 x.t) ∧ w'.cell? ⟨b, off + k * 2 + 1, none⟩ = some (.slice L ml dl)) → (w'.cell? ⟨w.heap.size, 0, none⟩ = some (.slice B0 m0 d0) ∧ w'.cell? ⟨w.heap.size, 1, none⟩ = some (.slice (some ⟨b, off, none⟩) m1 d1) ∧ w'.cell? ⟨b, off + k * 2, none⟩ = some (.int .i64 x.t) ∧ w'.cell? ⟨b, off + k * 2 + 1, none⟩ = some (.slice L ml dl)) := fun _ _ h => h.2
      refine wp_region_L (fun b_ w' => (until_ b_ (w'.cell? ⟨w1.heap.size + 1, 1, none⟩ = some (.slice C k d))) ∧ w'.cell? ⟨w.heap.size, 0, none⟩ = some (.slice B0 m0 d0) ∧ w'.cell? ⟨w.heap.size, 1, none⟩ = some (.slice (some ⟨b, off, none⟩) m1 d1) ∧ w'.cell? ⟨b, off + k * 2, none⟩ = some (.int .i64 x.t) ∧ w'.cell? ⟨b, off + k * 2 + 1, none⟩ = some (.slice L ml dl)) 19 (by kernel_rfl) ⟨fun _ => s1, HKB.out _ hbd⟩ (fun hHeld => ?_)
      refine wpAnyL_takeS (i := 0) (v := ?_) op0 (by kernel_rfl) (by kernel_rfl) (by kernel_rfl) (by rfl) (fun _ _ _ h => h) hHeld (by kernel_rfl) (by kernel_rfl) (Or.inl ⟨by rfl, ?_⟩) ?_
      rotate_left
      · intro wS hSw; obtain ⟨hSu, hSv⟩ := hSw; have hSs := hSu rfl; clear hSu; go_simp; (try with_reducible rfl)
      (try simp only [Act.put, List.setIfInBounds_toArray, List.set_cons_zero, List.set_cons_succ])
      refine wpAnyL_takeS (i := 1) (v := ?_) op1 (by kernel_rfl) (by kernel_rfl) (by kernel_rfl) (by rfl) (fun _ _ _ h => h) hHeld (by kernel_rfl) (by kernel_rfl) (Or.inl ⟨by rfl, ?_⟩) ?_
      rotate_left
      · intro wS hSw; obtain ⟨hSu, hSv⟩ := hSw; have hSs := hSu rfl; clear hSu; go_simp; (try with_reducible rfl)
      (try simp only [Act.put, List.setIfInBounds_toArray, List.set_cons_zero, List.set_cons_succ])
      refine wpAnyL_takeS (i := 2) (v := ?_) op2 (by kernel_rfl) (by kernel_rfl) (by kernel_rfl) (by rfl) (fun _ _ _ h => h) hHeld (by kernel_rfl) (by kernel_rfl) (Or.inl ⟨by rfl, ?_⟩) ?_
      rotate_left
      · intro wS hSw; obtain ⟨hSu, hSv⟩ := hSw; have hSs := hSu rfl; clear hSu; go_simp; (try with_reducible rfl)
      (try simp only [Act.put, List.setIfInBounds_toArray, List.set_cons_zero, List.set_cons_succ])
      refine wpAnyL_takeS (i := 3) (v := ?_) op3 (by kernel_rfl) (by kernel_rfl) (by kernel_rfl) (by rfl) (fun _ _ _ h => h) hHeld (by kernel_rfl) (by kernel_rfl) (Or.inl ⟨by rfl, ?_⟩) ?_
      rotate_left
      · intro wS hSw; obtain ⟨hSu, hSv⟩ := hSw; have hSs := hSu rfl; clear hSu; go_simp; (try with_reducible rfl)
      (try simp only [Act.put, List.setIfInBounds_toArray, List.set_cons_zero, List.set_cons_succ])
      refine wpAnyL_takeS (i := 4) (v := ?_) op4 (by kernel_rfl) (by kernel_rfl) (by kernel_rfl) (by rfl) (fun _ _ _ h => h) hHeld (by kernel_rfl) (by kernel_rfl) (Or.inl ⟨by rfl, ?_⟩) ?_
      rotate_left
      · intro wS hSw; obtain ⟨hSu, hSv⟩ := hSw; have hSs := hSu rfl; clear hSu; go_simp; (try with_reducible rfl)
      (try simp only [Act.put, List.setIfInBounds_toArray, List.set_cons_zero, List.set_cons_succ])
      refine wpAnyL_takeS (i := 5) (v := ?_) op5 (by kernel_rfl) (by kernel_rfl) (by kernel_rfl) (by rfl) (fun _ _ _ h => h) hHeld (by kernel_rfl) (by kernel_rfl) (Or.inl ⟨by rfl, ?_⟩) ?_
      rotate_left
      · intro wS hSw; obtain ⟨hSu, hSv⟩ := hSw; have hSs := hSu rfl; clear hSu; go_simp; (try with_reducible rfl)
      (try simp only [Act.put, List.setIfInBounds_toArray, List.set_cons_zero, List.set_cons_succ])
      refine wpAnyL_takeS (i := 6) (v := ?_) op6 (by kernel_rfl) (by kernel_rfl) (by kernel_rfl) (by rfl) (fun _ _ _ h => h) hHeld (by kernel_rfl) (by kernel_rfl) (Or.inl ⟨by rfl, ?_⟩) ?_
      rotate_left
      · intro wS hSw; obtain ⟨hSu, hSv⟩ := hSw; have hSs := hSu rfl; clear hSu; go_simp; (try with_reducible rfl)
      (try simp only [Act.put, List.setIfInBounds_toArray, List.set_cons_zero, List.set_cons_succ])
      refine wpAnyL_takeS (i := 7) (v := ?_) op7 (by kernel_rfl) (by kernel_rfl) (by kernel_rfl) (by rfl) (fun _ _ _ h => h) hHeld (by kernel_rfl) (by kernel_rfl) (Or.inl ⟨by rfl, ?_⟩) ?_
      rotate_left
      · intro wS hSw; obtain ⟨hSu, hSv⟩ := hSw; have hSs := hSu rfl; clear hSu; go_simp; (try with_reducible rfl)
      (try simp only [Act.put, List.setIfInBounds_toArray, List.set_cons_zero, List.set_cons_succ])
      refine wpAnyL_takeS (i := 8) (v := ?_) op8 (by kernel_rfl) (by kernel_rfl) (by kernel_rfl) (by rfl) (fun _ _ _ h => h) hHeld (by kernel_rfl) (by kernel_rfl) (Or.inl ⟨by rfl, ?_⟩) ?_
      rotate_left
      · intro wS hSw; obtain ⟨hSu, hSv⟩ := hSw; have hSs := hSu rfl; clear hSu; go_simp; (try with_reducible rfl)
      (try simp only [Act.put, List.setIfInBounds_toArray, List.set_cons_zero, List.set_cons_succ])
      refine wpAnyL_takeS (i := 9) (v := ?_) op9 (by kernel_rfl) (by kernel_rfl) (by kernel_rfl) (by rfl) (fun _ _ _ h => h) hHeld (by kernel_rfl) (by kernel_rfl) (Or.inl ⟨by rfl, ?_⟩) ?_
      rotate_left
      · intro wS hSw; obtain ⟨hSu, hSv⟩ := hSw; have hSs := hSu rfl; clear hSu; go_simp; (try with_reducible rfl)
      (try simp only [Act.put, List.setIfInBounds_toArray, List.set_cons_zero, List.set_cons_succ])
      refine wpAnyL_takeS (i := 10) (v := ?_) op10 (by kernel_rfl) (by kernel_rfl) (by kernel_rfl) (by rfl) (fun _ _ _ h => h) hHeld (by kernel_rfl) (by kernel_rfl) (Or.inl ⟨by rfl, ?_⟩) ?_
      rotate_left
      · intro wS hSw; obtain ⟨hSu, hSv⟩ := hSw; have hSs := hSu rfl; clear hSu; go_simp; (try with_reducible rfl)
      (try simp only [Act.put, List.setIfInBounds_toArray, List.set_cons_zero, List.set_cons_succ])
      refine wpAnyL_takeS (i := 11) (v := ?_) op11 (by kernel_rfl) (by kernel_rfl) (by kernel_rfl) (by rfl) (fun _ _ _ h => h) hHeld (by kernel_rfl) (by kernel_rfl) (Or.inl ⟨by rfl, ?_⟩) ?_
      rotate_left
      · intro wS hSw; obtain ⟨hSu, hSv⟩ := hSw; have hSs := hSu rfl; clear hSu; go_simp; (try with_reducible rfl)
      (try simp only [Act.put, List.setIfInBounds_toArray, List.set_cons_zero, List.set_cons_succ])
      refine wpAnyL_takeS (i := 12) (v := ?_) op12 (by kernel_rfl) (by kernel_rfl) (by kernel_rfl) (by rfl) (fun _ _ _ h => h) hHeld (by kernel_rfl) (by kernel_rfl) (Or.inl ⟨by rfl, ?_⟩) ?_
      rotate_left
      · intro wS hSw; obtain ⟨hSu, hSv⟩ := hSw; have hSs := hSu rfl; clear hSu; go_simp; (try with_reducible rfl)
      (try simp only [Act.put, List.setIfInBounds_toArray, List.set_cons_zero, List.set_cons_succ])
      refine wpAnyL_takeS (i := 13) (v := ?_) op13 (by kernel_rfl) (by kernel_rfl) (by kernel_rfl) (by rfl) (fun _ _ _ h => h) hHeld (by kernel_rfl) (by kernel_rfl) (Or.inl ⟨by rfl, ?_⟩) ?_
      rotate_left
      · intro wS hSw; obtain ⟨hSu, hSv⟩ := hSw; have hSs := hSu rfl; clear hSu; go_simp; (try with_reducible rfl)
      (try simp only [Act.put, List.setIfInBounds_toArray, List.set_cons_zero, List.set_cons_succ])
      refine wpAnyL_ready (rs := [14]) (by kernel_rfl) rfl ?_
      refine AllReadyL.cons (b := false) op14 (by kernel_rfl) (fun K hK => ?_) AllReadyL.nil
      go_simp
      go_at_call 107
      refine (l1Copy_any L ml dl x.os _ (hrlw.next hbd).robjs (by omega) hxs).mono ?_
      rintro e w2 ⟨v2, rfl, hO2, hb2⟩
      obtain ⟨A2, c2, rfl, hAc2⟩ := hO2.form
      have bz2 : Below wr.heap.size wr w2 := below_ext hbd hb2
      have bz3 := below_ext bz2 (below_box w2 (.cells #[.int .i64 x.t, .slice A2 ml c2] 70))
      have hO2b := (hO2.next (below_box w2 (.cells #[.int .i64 x.t, .slice A2 ml c2] 70))).base (B' := w.heap.size + 2) (by show w.heap.size + 2 ≤ wr.heap.size; omega)
      obtain ⟨s20, s21⟩ := (hS3.next bz2).cells2
      obtain ⟨s30, s31⟩ := (hS3.next bz3).cells2
      go_wp2_with fail
      refine hK.out _ _ (⟨fun _ => s21, HKB.out _ bz2⟩) (fun hHeld => ?_)
      clear hK K
      (try simp only [Act.put, List.setIfInBounds_toArray, List.set_cons_zero, List.set_cons_succ])
      refine wpAnyL_takeS (i := 15) (v := ?_) op15 (by kernel_rfl) (by kernel_rfl) (by kernel_rfl) (by rfl) (fun _ _ _ h => h) hHeld (by kernel_rfl) (by kernel_rfl) (Or.inl ⟨by rfl, ?_⟩) ?_
      rotate_left
      · intro wS hSw; obtain ⟨hSu, hSv⟩ := hSw; have hSs := hSu rfl; clear hSu; go_simp; (try with_reducible rfl)
      (try simp only [Act.put, List.setIfInBounds_toArray, List.set_cons_zero, List.set_cons_succ])
      refine wpAnyL_ready (rs := [16]) (by kernel_rfl) rfl ?_
      refine AllReadyL.cons (b := false) op16 (by kernel_rfl) (fun K hK => ?_) AllReadyL.nil
      go_simp
      refine hK.out _ _ (⟨fun _ => s31, HKB.out _ bz3⟩) (fun hHeld => ?_)
      clear hK K
      (try simp only [Act.put, List.setIfInBounds_toArray, List.set_cons_zero, List.set_cons_succ])
      refine wpAnyL_ready (rs := [17]) (by kernel_rfl) rfl ?_
      refine AllReadyL.cons (b := false) op17 (by kernel_rfl) (fun K hK => ?_) AllReadyL.nil
      refine step_app rfl (.tmp 18) (.tmp 33) 24 rfl (w.heap.size + 2) 70 Try.underlying24 ar_info1 rfl (by omega) (by omega) _ k cs0 rfl (own_below hown bz3) ⟨_, 0, none⟩ 1 1 [.int .i64 x.t, .slice A2 ml c2] rfl rfl ((Blk.new w2 70 [.int .i64 x.t, .slice A2 ml c2]).cellsAt) (by simp [Value.oneCell']) (by omega) (by have := bz3.size; omega) ?_
      intro C9 d9 w9 hown9 _ hb9 hg9 hloc9
      have hne : ∀ g', g' < w.heap.size + 2 → some g' ≠ (Value.slice C k d).ownBlock := fun g' hg' e => by have := (hown.lt g' e.symm).1; omega
      have HK9 := Lib.hid (HK.out w9 ((hg9.block _ (Nat.lt_of_lt_of_le hqw bz3.size) (hne _ (by omega))).trans (bz3.block _ hqw)) ((hg9.block _ (Nat.lt_of_lt_of_le (Nat.lt_trans hbw hqw) bz3.size) (hne _ (by omega))).trans (bz3.block _ (Nat.lt_trans hbw hqw))))
      have HK10 := Lib.hid (HK.out (w9.setCell ⟨w1.heap.size + 1, 1, none⟩ (.slice C9 (k + 1) d9)) ((Below.heap_setCell w9 ⟨w1.heap.size + 1, 1, none⟩ (.slice C9 (k + 1) d9) w.heap.size (by dsimp only; omega)).trans ((hg9.block _ (Nat.lt_of_lt_of_le hqw bz3.size) (hne _ (by omega))).trans (bz3.block _ hqw))) ((Below.heap_setCell w9 ⟨w1.heap.size + 1, 1, none⟩ (.slice C9 (k + 1) d9) b (by dsimp only; omega)).trans ((hg9.block _ (Nat.lt_of_lt_of_le (Nat.lt_trans hbw hqw) bz3.size) (hne _ (by omega))).trans (bz3.block _ (Nat.lt_trans hbw hqw)))))
      have hT9 : Blk w9 (w1.heap.size + 1) 26 [.slice A m0 c, .slice C k d] := (hS3.next bz3).grown hg9 (fun e => own_ne_blk (own_below hown bz3) (hS3.next bz3) (by decide) e.symm)
      obtain ⟨s90, s91⟩ := hT9.cells2
      have f91 := hT9.frozen 1
      have hSN := hS.add (x := x) (by omega) (by omega) bz3 hown hel ⟨A2, ml, c2, rfl, hO2b⟩ hg9 hb9 hown9
      have hX0N := add_blk (u := .slice C9 (k + 1) d9) (g := w1.heap.size + 1) hX0 (by decide) (by omega) hown bz3 hg9
      have hX1N := add_blk (u := .slice C9 (k + 1) d9) (g := w1.heap.size + 1) hX1 (by decide) (by omega) hown bz3 hg9
      refine hK.out _ _ (⟨fun _ => s91, HK9.out⟩) (fun hHeld => ?_)
      clear hK K
      (try simp only [Act.put, List.setIfInBounds_toArray, List.set_cons_zero, List.set_cons_succ])
      refine wpAnyL_takeS (i := 18) (v := ?_) op18 (by kernel_rfl) (by kernel_rfl) (by kernel_rfl) (by rfl) (fun _ _ _ h => h) hHeld (by kernel_rfl) (by kernel_rfl) (Or.inl ⟨by rfl, ?_⟩) ?_
      rotate_left
      · intro wS hSw; obtain ⟨hSu, hSv⟩ := hSw; have hSs := hSu rfl; clear hSu; go_simp; (try with_reducible rfl)
      (try simp only [Act.put, List.setIfInBounds_toArray, List.set_cons_zero, List.set_cons_succ])
      refine wpAnyL_ready (rs := [19]) (by kernel_rfl) rfl ?_
      refine AllReadyL.cons (b := true) op19 (by kernel_rfl) (fun K hK => ?_) AllReadyL.nil
      go_simp
      refine hK.out _ _ (⟨fun h => Bool.noConfusion h, HK10.out⟩) (fun hHeld => ?_)
      clear hK K
      (try simp only [Act.put, List.setIfInBounds_toArray, List.set_cons_zero, List.set_cons_succ])
      refine wpAnyL_done (by kernel_rfl) ?_ _
      go_wp2_with fail
      go_roundw
      case rel => exact ⟨k + 1, C9, d9, by omega, by go_num, by rw [HT.out]; exact hSN, hX0N, hX1N⟩
      case measure => simp [intOf]; omega
    · obtain rfl : k = m1 := by omega
      rw [List.take_of_length_le (by rw [HL.out.2]; exact Nat.le_refl _)] at hS
      obtain ⟨r0, r1⟩ := hX1.cells2
      have fr0 := hX1.frozen 0
      have fr1 := hX1.frozen 1
      have hRR := (hX1.set_ 0 (.slice A m0 c)).set_ 1 (.slice C k d)
      simp only [List.set_cons_zero, List.set_cons_succ] at hRR
      obtain ⟨t0, t1⟩ := hRR.cells2
      go_wp2_with fail
      refine bodyPost_ret (v := .agg #[.slice A m0 c, .slice C k d]) (by simp [results, Try.results69, go_sem, t0, t1]) rfl ?_
      exact ⟨_, rfl, own_res hS hX1 rfl (by omega), (hbr.setCell (p := ⟨w.heap.size + 1, 0, none⟩) (Nat.le_succ _) _).setCell (p := ⟨w.heap.size + 1, 1, none⟩) (Nat.le_succ _) _⟩
end Go.Proofs.Ytjofgbbofagoiaa
