/- Walk: l92Quarantine: a drawn quarantine. -/
import Derived.Test.YtjofgbbofagoiaaQuSome
import Derived.Test.YtjofgbbofagoiaaRegM
namespace Go.Proofs.Ytjofgbbofagoiaa
open Go.RowKit Go.Sort

def tinyQ (q : Qu) : Prop := (∀ o ∈ q.main, o.ok = true) ∧ q.main.length ≤ 21 ∧ q.ars.length ≤ 10 ∧ ∀ a ∈ q.ars, (∀ o ∈ a.os, o.ok = true) ∧ a.os.length ≤ 100
theorem setA_mem {t : Int} {ls : List Ob} {a : Ar} : ∀ {b : Bool} {ars : List Ar}, a ∈ setA t ls b ars → a ∈ ars ∨ a = ⟨t, ls⟩
  | b, [], h => by
    cases b
    · exact Or.inr (by simpa [setA] using h)
    · simp [setA] at h
  | b, x :: l, h => by
    unfold setA at h
    simp only [List.mem_append] at h
    rcases h with (h | h) | h
    · split at h
      · exact Or.inr (by simpa using h)
      · simp at h
    · split at h
      · simp at h
      · exact Or.inl (by simp at h; simp [h])
    · rcases setA_mem h with h | h
      · exact Or.inl (List.mem_cons_of_mem _ h)
      · exact Or.inr h
theorem setA_len {t : Int} {ls : List Ob} : ∀ (b : Bool) (ars : List Ar), (setA t ls b ars).length ≤ ars.length + (if b then 0 else 1)
  | b, [] => by cases b <;> simp [setA]
  | b, x :: l => by
    have ih := setA_len (t := t) (ls := ls) (b || decide (t ≤ x.t)) l
    unfold setA
    simp only [List.length_append, List.length_cons]
    have h2 : (if x.t = t then ([] : List Ar) else [x]).length ≤ 1 := by split <;> simp
    cases b
    · by_cases h : t ≤ x.t
      · simp [h] at ih ⊢
        omega
      · rw [decide_eq_false h] at ih ⊢
        simp at ih ⊢
        omega
    · simp at ih ⊢
      omega
theorem areaQ_tiny {q : Qu} {t : Int} (h : tinyQ q) : (∀ o ∈ areaQ q t, o.ok = true) ∧ (areaQ q t).length ≤ 100 := by
  unfold areaQ
  split
  · split
    · rename_i a ha
      exact h.2.2.2 a (List.mem_of_getElem? ha)
    · exact ⟨fun o h => by simp at h, by simp⟩
  · exact ⟨fun o h => by simp at h, by simp⟩
theorem qput_tiny {q x : Qu} {t : Int} {ls : List Ob} {k : Nat} (h : tinyQ q) (hk : q.ars.length ≤ k) (hk9 : k < 10) (hls : ∀ o ∈ ls, o.ok = true) (hx : qputQ q t ls = (x, true)) : tinyQ x ∧ x.main = q.main ∧ x.ars.length ≤ k + 1 := by
  unfold qputQ at hx
  split at hx
  · split at hx
    · injection hx with hx _
      subst hx
      obtain ⟨a1, a2⟩ := areaQ_tiny (t := t) h
      obtain ⟨b1, b2⟩ := allO_facts ls (areaQ q t) a1 hls a2
      have hl : (setQ q t (allO (areaQ q t) ls).1).ars.length ≤ k + 1 := by
        have := setA_len (t := t) (ls := (allO (areaQ q t) ls).1) (((allO (areaQ q t) ls).1.length : Int) == 0) q.ars
        unfold setQ
        split at this <;> (dsimp only; omega)
      refine ⟨⟨h.1, h.2.1, Nat.le_trans hl (by omega), fun a ha => ?_⟩, rfl, hl⟩
      rcases setA_mem ha with h1 | h1
      · exact h.2.2.2 a h1
      · subst h1; exact ⟨b1, b2⟩
    · cases hx
  · cases hx
/-- where l92Quarantine stands: the result's box r, the quarantine's box b -/
def DqSt (g : Nat) (w : World) (b : Nat) (A : Option Addr) (n c : Nat) (C : Option Addr) (m d : Nat) (q : Qu) (p : Nat) (wx : World) : Prop :=
  Blk wx w.heap.size 26 [.slice none 0 0, .slice none 0 0] ∧ Blk wx b 26 [.slice A n c, .slice C m d] ∧ OwnQ wx (w.heap.size + 1) [.slice A n c, .slice C m d] q ∧ Rd wx g p ∧ w.grownBy wx (some g)
section
variable {g b n c m d p : Nat} {w wx wy : World} {A C : Option Addr} {q : Qu}
theorem DqSt.draw {p' : Nat} (hgw : g < w.heap.size) (hb : w.heap.size < b) (h : DqSt g w b A n c C m d q p wx) (hr : Rd wy g p') (hg : wx.grownBy wy (some g)) : DqSt g w b A n c C m d q p' wy :=
  ⟨h.1.grown hg (fun e => by injection e with e; omega), h.2.1.grown hg (fun e => by injection e with e; omega), h.2.2.1.grown hg (by omega), hr, grown_trans h.2.2.2.2 hg⟩
theorem DqSt.next (h : DqSt g w b A n c C m d q p wx) (hb : Below wx.heap.size wx wy) : DqSt g w b A n c C m d q p wy :=
  ⟨h.1.next hb, h.2.1.next hb, h.2.2.1.next hb, h.2.2.2.1.keep hb, grown_below h.2.2.2.2 hb⟩
theorem grownQ {a w : World} {g b i : Nat} (h : a.grownBy w (some g)) (hb : a.heap.size ≤ b) (u : Value) : a.grownBy (w.setCell ⟨b, i, none⟩ u) (some g) :=
  ⟨h.os, h.tape, h.output, by simpa [World.setCell] using h.size, fun k hk hne => (Below.heap_setCell w ⟨b, i, none⟩ u k (by dsimp only; omega)).trans (h.block k hk hne)⟩
theorem DqSt.xset {gx : Nat} {cs : List Value} {u v : Value} (hgw : g < w.heap.size) (h : DqSt g w b A n c C m d q p wx) (hx : Blk wx gx 26 cs) (h1 : gx ≠ b) (h2 : w.heap.size < gx) : DqSt g w b A n c C m d q p ((wx.setCell ⟨gx, 0, none⟩ u).setCell ⟨gx, 1, none⟩ v) :=
  ⟨(h.1.far (p := ⟨gx, 0, none⟩) (by dsimp only; omega) _).far (p := ⟨gx, 1, none⟩) (by dsimp only; omega) _, (h.2.1.far (p := ⟨gx, 0, none⟩) (by dsimp only; omega) _).far (p := ⟨gx, 1, none⟩) (by dsimp only; omega) _, h.2.2.1.res hx, (h.2.2.2.1.store (by omega) _).store (by omega) _, grownQ (grownQ h.2.2.2.2 (by omega) _) (by omega) _⟩
theorem DqSt.put {q2 : Qu} {p' : Nat} {A2 C2 : Option Addr} {n2 c2 m2 d2 : Nat} (hgw : g < w.heap.size) (hb : w.heap.size < b) (h : DqSt g w b A n c C m d q p wx) (hq : OwnQ wx (w.heap.size + 1) [.slice A2 n2 c2, .slice C2 m2 d2] q2) (hp : p' = p) : DqSt g w b A2 n2 c2 C2 m2 d2 q2 p' ((wx.setCell ⟨b, 0, none⟩ (.slice A2 n2 c2)).setCell ⟨b, 1, none⟩ (.slice C2 m2 d2)) := by
  subst hp
  refine ⟨(h.1.far (p := ⟨b, 0, none⟩) (by dsimp only; omega) _).far (p := ⟨b, 1, none⟩) (by dsimp only; omega) _, ?_, hq.res h.2.1, (h.2.2.2.1.store (by omega) _).store (by omega) _, grownQ (grownQ h.2.2.2.2 (by omega) _) (by omega) _⟩
  have := (h.2.1.set_ 0 (.slice A2 n2 c2)).set_ 1 (.slice C2 m2 d2)
  simpa only [List.set_cons_zero, List.set_cons_succ] using this
theorem OwnQ.main {B : Nat} (h : OwnQ wx B [.slice A n c, .slice C m d] q) : OwnO wx B (.slice A n c) n q.main ∧ OwnA wx B (.slice C m d) m q.ars := by
  obtain ⟨A', n', c', C', m', d', e, h1, h2⟩ := h
  simp only [List.cons.injEq, Value.slice.injEq, and_true] at e
  obtain ⟨⟨rfl, rfl, rfl⟩, rfl, rfl, rfl⟩ := e
  exact ⟨h1, h2⟩
theorem grownBB {a x y : World} {g B : Nat} (h : a.grownBy x (some g)) (k : Below B x y) (hB : a.heap.size ≤ B) : a.grownBy y (some g) :=
  ⟨k.os.trans h.os, k.tape.trans h.tape, k.output.trans h.output, Nat.le_trans h.size k.size, fun i hi hne => (k.block i (by omega)).trans (h.block i hi hne)⟩
theorem DqSt.add {X w9 : World} {C9 : Option Addr} {d9 : Nat} {cs0 : List Value} {x : Ar} {v1 : Value} (hgw : g < w.heap.size) (hbb : w.heap.size < b) (h : DqSt g w b A n c C m d q p wx) (bz : Below wx.heap.size wx X) (hown : wx.ownsRow (w.heap.size + 1) 70 2 (.slice C m d) m cs0) (hel : ElemsA cs0 q.ars (ObIn wx (w.heap.size + 1)))
    (hob : ObIn X (w.heap.size + 1) v1 x.os) (hg9 : X.grownBy w9 (Value.slice C m d).ownBlock) (hb9 : Below (w.heap.size + 1) X w9) (hown9 : w9.ownsRow (w.heap.size + 1) 70 2 (.slice C9 (m + 1) d9) (m + 1) (cs0 ++ [.int .i64 x.t, v1])) :
    DqSt g w b A n c C9 (m + 1) d9 ⟨q.main, q.ars ++ [x]⟩ p (w9.setCell ⟨b, 1, none⟩ (.slice C9 (m + 1) d9)) := by
  obtain ⟨h1, h2, h3, h4, h5⟩ := h.next bz
  have hown' := own_below hown bz
  have hA9 := OwnA.push hown' (hel.mono fun _ _ hx => hx.next bz) hob hg9 hown9
  have hO9 := h3.main.1.other hg9 fun g' e => by
    rcases hown'.2 with ⟨h0, _⟩ | ⟨g1, cap, cur, hv, _, hh, _⟩
    · rw [h0] at e; cases e
    · rw [hv] at e
      have : g1 = g' := by simpa [Value.ownBlock] using e
      subst this
      exact ⟨_, _, _, hh, by decide, by decide⟩
  have hB9 := h2.grown hg9 (fun e => own_ne_blk hown' h2 (by decide) e.symm)
  have hR9 := h1.grown hg9 (fun e => own_ne_blk hown' h1 (by decide) e.symm)
  have hgs := grownSetQ w9 b 1 (.slice C9 (m + 1) d9)
  have hty : ∀ g', some b = some g' → ∃ cs e fz, w9.heap[g']? = some (.cells cs e fz) ∧ e ≠ 3 ∧ e ≠ 33 ∧ e ≠ 70 := fun g' e => by
    injection e with e
    subst e
    exact ⟨_, _, _, hB9, by decide, by decide, by decide⟩
  refine ⟨hR9.far (p := ⟨b, 1, none⟩) (by dsimp only; omega) _, ?_, ⟨A, n, c, C9, m + 1, d9, rfl, hO9.other hgs (fun g' e => by obtain ⟨a, b, c, h1, h2, h3, _⟩ := hty g' e; exact ⟨a, b, c, h1, h2, h3⟩), hA9.other hgs hty⟩, (h4.below hb9 (by omega)).store (by omega) _, grownQ (grownBB h5 hb9 (by omega)) (by omega) _⟩
  have := hB9.set_ 1 (.slice C9 (m + 1) d9)
  simpa only [List.set_cons_zero, List.set_cons_succ] using this
theorem DqSt.setMain {A2 : Option Addr} {n2 c2 : Nat} {os : List Ob} (hgw : g < w.heap.size) (hbb : w.heap.size < b) (h : DqSt g w b A n c C m d q p wx) (hO : OwnO wx (w.heap.size + 1) (.slice A2 n2 c2) n2 os) : DqSt g w b A2 n2 c2 C m d ⟨os, q.ars⟩ p (wx.setCell ⟨b, 0, none⟩ (.slice A2 n2 c2)) := by
  obtain ⟨h1, h2, h3, h4, h5⟩ := h
  have hgs := grownSetQ wx b 0 (.slice A2 n2 c2)
  have hty : ∀ g', some b = some g' → ∃ cs e fz, wx.heap[g']? = some (.cells cs e fz) ∧ e ≠ 3 ∧ e ≠ 33 ∧ e ≠ 70 := fun g' e => by
    injection e with e
    subst e
    exact ⟨_, _, _, h2, by decide, by decide, by decide⟩
  refine ⟨h1.far (p := ⟨b, 0, none⟩) (by dsimp only; omega) _, ?_, ⟨A2, n2, c2, C, m, d, rfl, hO.other hgs (fun g' e => by obtain ⟨a, b, c, h1, h2, h3, _⟩ := hty g' e; exact ⟨a, b, c, h1, h2, h3⟩), h3.main.2.other hgs hty⟩, h4.store (by omega) _, grownQ h5 (by omega) _⟩
  have := h2.set_ 0 (.slice A2 n2 c2)
  simpa only [List.set_cons_zero, List.set_cons_succ] using this
end
set_option maxRecDepth 100000 in
set_option maxHeartbeats 6400000 in
theorem l92Quarantine_any (g p : Nat) (w : World) (h : Rd w g p) (hp : p ≤ 500000) :
    Calls Try.prog 38 #[.pointer (some ⟨g, 0, none⟩)] w (Drawn g p 20000 w fun v w' => ∃ cs q, v = .agg cs.toArray ∧ OwnQ w' w.heap.size cs q ∧ tinyQ q) := by
  have hgw := h.lt
  have b0 := below_box w (.cells #[.slice none 0 0, .slice none 0 0] 26)
  have x0 := Blk.new w 26 [.slice none 0 0, .slice none 0 0]
  go_enter Try.func38, Try.ntmps38
  go_wp2_with fail
  refine (l91Store_any g p _ (h.keep b0) (by omega)).mono ?_
  rintro e w1 ⟨v1, p1, rfl, ⟨n, os, hO1, hn20, hok⟩, hp1, hr1, hg1⟩
  obtain ⟨A, c, rfl, hnc⟩ := hO1.form
  have x01 := x0.grown hg1 (fun e => by injection e with e; omega)
  have hg01 := grown_trans (grown_below (World.grownBy.refl w (some g)) b0) hg1
  have hz1 : w.heap.size + 1 ≤ w1.heap.size := by have := hg1.size; simpa using this
  have e2 := below_box w1 (.cells #[] 70)
  have e3 := below_ext e2 (below_box (w1.alloc (.cells #[] 70)) (.cells #[.slice A n c, .slice (some ⟨w1.heap.size, 0, none⟩) 0 0] 26))
  have x2 := (Blk.new w1 70 []).alloc (.cells #[.slice A n c, .slice (some ⟨w1.heap.size, 0, none⟩) 0 0] 26)
  have x3 : Blk ((w1.alloc (.cells #[] 70)).alloc (.cells #[.slice A n c, .slice (some ⟨w1.heap.size, 0, none⟩) 0 0] 26)) (w1.heap.size + 1) 26 [.slice A n c, .slice (some ⟨w1.heap.size, 0, none⟩) 0 0] := by simpa using Blk.new (w1.alloc (.cells #[] 70)) 26 [.slice A n c, .slice (some ⟨w1.heap.size, 0, none⟩) 0 0]
  have hO3 : OwnO ((w1.alloc (.cells #[] 70)).alloc (.cells #[.slice A n c, .slice (some ⟨w1.heap.size, 0, none⟩) 0 0] 26)) (w.heap.size + 1) (.slice A n c) n os := (hO1.base (B' := w.heap.size + 1) (by simp)).next e3
  have hSt : DqSt g w (w1.heap.size + 1) A n c (some ⟨w1.heap.size, 0, none⟩) 0 0 ⟨os, []⟩ p1 ((w1.alloc (.cells #[] 70)).alloc (.cells #[.slice A n c, .slice (some ⟨w1.heap.size, 0, none⟩) 0 0] 26)) :=
    ⟨x01.next e3, x3, ⟨A, n, c, _, 0, 0, rfl, hO3, OwnA.emp x2 hz1⟩, hr1.keep e3, grown_below hg01 e3⟩
  have hln : os.length = n := OwnR.len hO1
  have hT0 : tinyQ ⟨os, []⟩ := ⟨hok, by dsimp only; omega, by simp, fun a h => by simp at h⟩
  have HLN := Lib.hid hln
  have hbb : w.heap.size < w1.heap.size + 1 := by omega
  clear hO1 hO3 x2 x3 x01 x0 hln hg01 hr1 hg1 e2 e3 b0
  go_wp2_with fail
  refine (pick_any g p1 6 _ hSt.2.2.2.1 (by omega) (by omega) (by omega)).mono ?_
  rintro e w2 ⟨v2, rfl, h20, h21, hr2, hg2⟩
  have hS2 := hSt.draw hgw hbb hr2 hg2
  obtain ⟨N, rfl⟩ := Int.eq_ofNat_of_zero_le h20
  have hN : N ≤ 5 := by omega
  clear hSt hr2 hg2 h20 h21
  go_wp2_with fail
  generalize w1.heap.size + 1 = gb at *
  go_loopw [5] (fun i wr => ∃ (k : Nat) (A : Option Addr) (n c : Nat) (C : Option Addr) (m d : Nat) (q : Qu) (p' : Nat), k ≤ N ∧ i = .int .i64 k ∧ p' ≤ p + 5001 + 1001 * k ∧ q.main = os ∧ q.ars.length ≤ k ∧ tinyQ q ∧ DqSt g w gb A n c C m d q p' wr) (fun i _ => N - (intOf i).toNat)
  case atStart => exact ⟨0, A, n, c, _, 0, 0, _, _, by omega, rfl, by omega, rfl, Nat.le_refl _, hT0, hS2⟩
  case round =>
    obtain ⟨k, A, n, c, C, m, d, q, p', hk, rfl, hp', hmain, hars, hT, hS⟩ := hrel
    obtain ⟨hX0, hXb, hQ, hR, hG⟩ := id hS
    obtain ⟨y0, y1⟩ := hXb.cells2
    by_cases hlt : k < N
    · have hbd : Below wr.heap.size wr wr.drew := (Below.refl _ _).drew
      have hSd := hS.next hbd
      obtain ⟨yd0, yd1⟩ := hSd.2.1.cells2
      have hlti : (k : Int) < (N : Int) := by omega
      have HT := Lib.hid hT
      have hok' := hT.1
      have hln' := hT.2.1
      have hgb : gb ≠ g := by omega
      have hnl : q.main.length = n := OwnR.len hQ.main.1
      have hn21 : n ≤ 21 := by omega
      clear hnl hln'
      go_wp2_with fail
      have hS0 : ∀ (b_ : Bool) (w' : World), (w'.cell? ⟨gb, 0, none⟩ = some (.slice A n c) ∧ w'.cell? ⟨gb, 1, none⟩ = some (.slice C m d)) → (w'.cell? ⟨gb, 0, none⟩ = some (.slice A n c) ∧ w'.cell? ⟨gb, 1, none⟩ = some (.slice C m d)) := fun _ _ h => h
      refine wp_region_L (fun _ w' => w'.cell? ⟨gb, 0, none⟩ = some (.slice A n c) ∧ w'.cell? ⟨gb, 1, none⟩ = some (.slice C m d)) 11 (by kernel_rfl) ⟨yd0, yd1⟩ (fun hHeld => ?_)
      refine wpAnyL_take (i := 0) (v := ?_) op0 (by kernel_rfl) (by kernel_rfl) (by kernel_rfl) (by rfl) (fun _ _ _ h => h) (b := false) (by kernel_rfl) hHeld hS0 (Or.inl ⟨by rfl, ?_⟩) (by kernel_rfl) ?_
      rotate_left
      · intro wS hSw; (try dsimp only at hSw); go_simp; (try with_reducible rfl)
      (try simp only [Act.put, List.setIfInBounds_toArray, List.set_cons_zero, List.set_cons_succ])
      refine wpAnyL_take (i := 1) (v := ?_) op1 (by kernel_rfl) (by kernel_rfl) (by kernel_rfl) (by rfl) (fun _ _ _ h => h) (b := false) (by kernel_rfl) hHeld hS0 (Or.inl ⟨by rfl, ?_⟩) (by kernel_rfl) ?_
      rotate_left
      · intro wS hSw; (try dsimp only at hSw); go_simp; (try with_reducible rfl)
      (try simp only [Act.put, List.setIfInBounds_toArray, List.set_cons_zero, List.set_cons_succ])
      refine wpAnyL_take (i := 3) (v := ?_) op3 (by kernel_rfl) (by kernel_rfl) (by kernel_rfl) (by rfl) (fun _ _ _ h => h) (b := false) (by kernel_rfl) hHeld hS0 (Or.inl ⟨by rfl, ?_⟩) (by kernel_rfl) ?_
      rotate_left
      · intro wS hSw; (try dsimp only at hSw); go_simp; (try with_reducible rfl)
      (try simp only [Act.put, List.setIfInBounds_toArray, List.set_cons_zero, List.set_cons_succ])
      refine wpAnyL_take (i := 4) (v := ?_) op4 (by kernel_rfl) (by kernel_rfl) (by kernel_rfl) (by rfl) (fun _ _ _ h => h) (b := false) (by kernel_rfl) hHeld hS0 (Or.inl ⟨by rfl, ?_⟩) (by kernel_rfl) ?_
      rotate_left
      · intro wS hSw; (try dsimp only at hSw); go_simp; (try with_reducible rfl)
      (try simp only [Act.put, List.setIfInBounds_toArray, List.set_cons_zero, List.set_cons_succ])
      refine wpAnyL_take (i := 5) (v := ?_) op5 (by kernel_rfl) (by kernel_rfl) (by kernel_rfl) (by rfl) (fun _ _ _ h => h) (b := false) (by kernel_rfl) hHeld hS0 (Or.inl ⟨by rfl, ?_⟩) (by kernel_rfl) ?_
      rotate_left
      · intro wS hSw; (try dsimp only at hSw); go_simp; (try with_reducible rfl)
      (try simp only [Act.put, List.setIfInBounds_toArray, List.set_cons_zero, List.set_cons_succ])
      refine wpAnyL_ready (rs := [2, 11]) (by kernel_rfl) rfl ?_
      refine AllReadyL.cons (b := false) op2 (by kernel_rfl) (fun K hK => ?_) (AllReadyL.cons (b := true) op11 (by kernel_rfl) (fun K hK => ?_) AllReadyL.nil)
      · go_simp
        go_at_call 41
        refine (pick_any g _ 5 _ hSd.2.2.2.1 (by omega) (by omega) (by omega)).mono ?_
        rintro e w1p ⟨v3, rfl, h30, h31, hr1, hg1⟩
        have hS1 := hSd.draw hgw hbb hr1 hg1
        obtain ⟨ya2, yb2⟩ := hS1.2.1.cells2
        go_wp2_with fail
        refine hK.out _ _ (⟨hS1.2.1.cells2.1, hS1.2.1.cells2.2⟩) (fun hHeld => ?_)
        clear hK K
        (try simp only [Act.put, List.setIfInBounds_toArray, List.set_cons_zero, List.set_cons_succ])
        refine wpAnyL_ready (rs := [6, 11]) (by kernel_rfl) rfl ?_
        refine AllReadyL.cons (b := false) op6 (by kernel_rfl) (fun K hK => ?_) (AllReadyL.cons (b := true) op11 (by kernel_rfl) (fun K hK => ?_) AllReadyL.nil)
        · go_simp
          go_at_call 64
          refine (l92Some_any g _ A n c q.main _ hS1.2.2.2.1 (by omega) hS1.2.2.1.main.1.reads (by omega) hok').mono ?_
          rintro e w3p ⟨v4, p4, rfl, ⟨m4, ls, hO4, hm4, hok4⟩, hp4, hr3, hg3⟩
          obtain ⟨A4, c4, rfl, hm4c⟩ := hO4.form
          have hS3 := hS1.draw hgw hbb hr3 hg3
          obtain ⟨ya4, yb4⟩ := hS3.2.1.cells2
          go_wp2_with fail
          refine hK.out _ _ (⟨hS3.2.1.cells2.1, hS3.2.1.cells2.2⟩) (fun hHeld => ?_)
          clear hK K
          (try simp only [Act.put, List.setIfInBounds_toArray, List.set_cons_zero, List.set_cons_succ])
          refine wpAnyL_ready (rs := [7, 11]) (by kernel_rfl) rfl ?_
          refine AllReadyL.cons (b := false) op7 (by kernel_rfl) (fun K hK => ?_) (AllReadyL.cons (b := true) op11 (by kernel_rfl) (fun K hK => ?_) AllReadyL.nil)
          · go_simp
            go_at_call 25
            refine (specQuarantinePut_any _ q _ A4 m4 c4 ls _ hS3.2.2.1.rep0 hO4.reads (by simp only [maxLen]; omega)).mono ?_
            rintro e w5p ⟨cs5, rfl, hQ5, hb5⟩
            obtain ⟨RA, rn, rc, RC, rm, rd, rfl, hqa, hqb⟩ := id hQ5
            clear hqa hqb
            obtain ⟨PX, HPX⟩ : ∃ PX, Hid (qputQ q v3 ls = PX) := ⟨_, Lib.hid rfl⟩
            rw [HPX.out] at hQ5
            rw [HPX.out]
            obtain ⟨qx, bx⟩ := PX
            dsimp only at hQ5 ⊢
            have hQ5b := hQ5.base (B' := w.heap.size + 1) (by have := hS3.1.lt; omega)
            have hS5 := hS3.next hb5
            obtain ⟨ya6, yb6⟩ := hS5.2.1.cells2
            go_wp2_with fail
            refine hK.out _ _ (⟨hS5.2.1.cells2.1, hS5.2.1.cells2.2⟩) (fun hHeld => ?_)
            clear hK K
            (try simp only [Act.put, List.setIfInBounds_toArray, List.set_cons_zero, List.set_cons_succ])
            refine wpAnyL_take (i := 8) (v := ?_) op8 (by kernel_rfl) (by kernel_rfl) (by kernel_rfl) (by rfl) (fun _ _ _ h => h) (b := false) (by kernel_rfl) hHeld hS0 (Or.inl ⟨by rfl, ?_⟩) (by kernel_rfl) ?_
            rotate_left
            · intro wS hSw; (try dsimp only at hSw); go_simp; (try with_reducible rfl)
            (try simp only [Act.put, List.setIfInBounds_toArray, List.set_cons_zero, List.set_cons_succ])
            refine wpAnyL_take (i := 9) (v := ?_) op9 (by kernel_rfl) (by kernel_rfl) (by kernel_rfl) (by rfl) (fun _ _ _ h => h) (b := false) (by kernel_rfl) hHeld hS0 (Or.inl ⟨by rfl, ?_⟩) (by kernel_rfl) ?_
            rotate_left
            · intro wS hSw; (try dsimp only at hSw); go_simp; (try with_reducible rfl)
            (try simp only [Act.put, List.setIfInBounds_toArray, List.set_cons_zero, List.set_cons_succ])
            refine wpAnyL_take (i := 10) (v := ?_) op10 (by kernel_rfl) (by kernel_rfl) (by kernel_rfl) (by rfl) (fun _ _ _ h => h) (b := false) (by kernel_rfl) hHeld hS0 (Or.inl ⟨by rfl, ?_⟩) (by kernel_rfl) ?_
            rotate_left
            · intro wS hSw; (try dsimp only at hSw); go_simp; (try with_reducible rfl)
            (try simp only [Act.put, List.setIfInBounds_toArray, List.set_cons_zero, List.set_cons_succ])
            refine wpAnyL_ready (rs := [11]) (by kernel_rfl) rfl ?_
            refine AllReadyL.cons (b := true) op11 (by kernel_rfl) (fun K hK => ?_) AllReadyL.nil
            go_simp
            have hS7 := hS5.next (below_box w5p (.cells #[.slice none 0 0, .slice none 0 0] 26))
            have hx7 : Blk (w5p.alloc (.cells #[.slice none 0 0, .slice none 0 0] 26)) w5p.heap.size 26 [.slice none 0 0, .slice none 0 0] := Blk.new w5p 26 [.slice none 0 0, .slice none 0 0]
            have hxl7 : w.heap.size < w5p.heap.size ∧ gb < w5p.heap.size := ⟨hS5.1.lt, hS5.2.1.lt⟩
            obtain ⟨ya8, yb8⟩ := hS7.2.1.cells2
            refine hK.out _ _ (⟨hS7.2.1.cells2.1, hS7.2.1.cells2.2⟩) (fun hHeld => ?_)
            clear hK K
            (try simp only [Act.put, List.setIfInBounds_toArray, List.set_cons_zero, List.set_cons_succ])
            refine wpAnyL_ready (rs := [12]) (by kernel_rfl) rfl ?_
            refine AllReadyL.cons (b := true) op12 (by kernel_rfl) (fun K hK => ?_) AllReadyL.nil
            go_simp
            have hS9 := hS5.next (below_box w5p (.cells #[.slice RA rn rc, .slice RC rm rd] 26))
            have hx9 := Blk.new w5p 26 [.slice RA rn rc, .slice RC rm rd]
            have hQ9 := hQ5b.next (below_box w5p (.cells #[.slice RA rn rc, .slice RC rm rd] 26))
            obtain ⟨ya10, yb10⟩ := hS9.2.1.cells2
            refine hK.out _ _ (⟨hS9.2.1.cells2.1, hS9.2.1.cells2.2⟩) (fun hHeld => ?_)
            clear hK K
            (try simp only [Act.put, List.setIfInBounds_toArray, List.set_cons_zero, List.set_cons_succ])
            refine wpAnyL_take (i := 13) (v := ?_) op13 (by kernel_rfl) (by kernel_rfl) (by kernel_rfl) (by rfl) (fun _ _ _ h => h) (b := true) (by kernel_rfl) hHeld hS0 (Or.inl ⟨by rfl, ?_⟩) (by kernel_rfl) ?_
            rotate_left
            · intro wS hSw; (try dsimp only at hSw); go_simp; (try with_reducible rfl)
            (try simp only [Act.put, List.setIfInBounds_toArray, List.set_cons_zero, List.set_cons_succ])
            refine wpAnyL_done (by kernel_rfl) ?_ _
            generalize hWM : w5p.alloc (.cells #[.slice RA rn rc, .slice RC rm rd] 26) = wM at *
            clear hWM
            generalize w5p.heap.size = gM at *
            obtain ⟨ea, eb⟩ := hx9.cells2
            obtain ⟨da, db⟩ := hS9.2.1.cells2
            have df0 := hS9.2.1.frozen 0
            have df1 := hS9.2.1.frozen 1
            cases bx
            · go_wp2_with fail
              go_roundw
              case rel => exact ⟨k + 1, A, n, c, C, m, d, q, _, by omega, by go_num, by omega, hmain, by omega, HT.out, hS9⟩
              case measure => simp [intOf]; omega
            · obtain ⟨k1, k2, k3⟩ := qput_tiny HT.out hars (by omega) hok4 HPX.out
              have hS8 := hS9.put hgw hbb hQ9 rfl
              go_wp2_with fail
              go_roundw
              case rel => exact ⟨k + 1, RA, rn, rc, RC, rm, rd, qx, _, by omega, by go_num, by omega, k2.trans hmain, k3, k1, hS8⟩
              case measure => simp [intOf]; omega
          · go_simp
            have hS11 := hS3.next (below_box w3p (.cells #[.slice none 0 0, .slice none 0 0] 26))
            have hx11 : Blk (w3p.alloc (.cells #[.slice none 0 0, .slice none 0 0] 26)) w3p.heap.size 26 [.slice none 0 0, .slice none 0 0] := Blk.new w3p 26 [.slice none 0 0, .slice none 0 0]
            have hxl11 : w.heap.size < w3p.heap.size ∧ gb < w3p.heap.size := ⟨hS3.1.lt, hS3.2.1.lt⟩
            obtain ⟨ya12, yb12⟩ := hS11.2.1.cells2
            have hO4n := hO4.next (below_box w3p (.cells #[.slice none 0 0, .slice none 0 0] 26))
            refine hK.out _ _ (⟨hS11.2.1.cells2.1, hS11.2.1.cells2.2⟩) (fun hHeld => ?_)
            clear hK K
            (try simp only [Act.put, List.setIfInBounds_toArray, List.set_cons_zero, List.set_cons_succ])
            refine wpAnyL_ready (rs := [7]) (by kernel_rfl) rfl ?_
            refine AllReadyL.cons (b := true) op7 (by kernel_rfl) (fun K hK => ?_) AllReadyL.nil
            go_simp
            go_at_call 25
            refine (specQuarantinePut_any _ q _ A4 m4 c4 ls _ hS11.2.2.1.rep0 hO4n.reads (by simp only [maxLen]; omega)).mono ?_
            rintro e w13p ⟨cs5, rfl, hQ5, hb5⟩
            obtain ⟨RA, rn, rc, RC, rm, rd, rfl, hqa, hqb⟩ := id hQ5
            clear hqa hqb
            obtain ⟨PX, HPX⟩ : ∃ PX, Hid (qputQ q v3 ls = PX) := ⟨_, Lib.hid rfl⟩
            rw [HPX.out] at hQ5
            rw [HPX.out]
            obtain ⟨qx, bx⟩ := PX
            dsimp only at hQ5 ⊢
            have hQ5b := hQ5.base (B' := w.heap.size + 1) (by have := hS11.1.lt; omega)
            have hS13 := hS11.next hb5
            have hx14 := hx11.next hb5
            obtain ⟨ya15, yb15⟩ := hS13.2.1.cells2
            go_wp2_with fail
            refine hK.out _ _ (⟨hS13.2.1.cells2.1, hS13.2.1.cells2.2⟩) (fun hHeld => ?_)
            clear hK K
            (try simp only [Act.put, List.setIfInBounds_toArray, List.set_cons_zero, List.set_cons_succ])
            refine wpAnyL_take (i := 8) (v := ?_) op8 (by kernel_rfl) (by kernel_rfl) (by kernel_rfl) (by rfl) (fun _ _ _ h => h) (b := true) (by kernel_rfl) hHeld hS0 (Or.inl ⟨by rfl, ?_⟩) (by kernel_rfl) ?_
            rotate_left
            · intro wS hSw; (try dsimp only at hSw); go_simp; (try with_reducible rfl)
            (try simp only [Act.put, List.setIfInBounds_toArray, List.set_cons_zero, List.set_cons_succ])
            refine wpAnyL_take (i := 9) (v := ?_) op9 (by kernel_rfl) (by kernel_rfl) (by kernel_rfl) (by rfl) (fun _ _ _ h => h) (b := true) (by kernel_rfl) hHeld hS0 (Or.inl ⟨by rfl, ?_⟩) (by kernel_rfl) ?_
            rotate_left
            · intro wS hSw; (try dsimp only at hSw); go_simp; (try with_reducible rfl)
            (try simp only [Act.put, List.setIfInBounds_toArray, List.set_cons_zero, List.set_cons_succ])
            refine wpAnyL_take (i := 10) (v := ?_) op10 (by kernel_rfl) (by kernel_rfl) (by kernel_rfl) (by rfl) (fun _ _ _ h => h) (b := true) (by kernel_rfl) hHeld hS0 (Or.inl ⟨by rfl, ?_⟩) (by kernel_rfl) ?_
            rotate_left
            · intro wS hSw; (try dsimp only at hSw); go_simp; (try with_reducible rfl)
            (try simp only [Act.put, List.setIfInBounds_toArray, List.set_cons_zero, List.set_cons_succ])
            refine wpAnyL_ready (rs := [12]) (by kernel_rfl) rfl ?_
            refine AllReadyL.cons (b := true) op12 (by kernel_rfl) (fun K hK => ?_) AllReadyL.nil
            obtain ⟨xa16, xb16⟩ := hx14.cells2
            have xf16 := hx14.frozen 0
            have xg16 := hx14.frozen 1
            have hz16 := (hx14.set_ 0 (.slice RA rn rc)).set_ 1 (.slice RC rm rd)
            simp only [List.set_cons_zero, List.set_cons_succ] at hz16
            go_simp
            have hS16 := DqSt.xset (u := .slice RA rn rc) (v := .slice RC rm rd) hgw hS13 hx14 (by have := hxl11; omega) (by have := hxl11; omega)
            have hx16 := hz16
            have hQ16 := OwnQ.res (u := .slice RA rn rc) (v := .slice RC rm rd) hQ5b hx14
            obtain ⟨ya17, yb17⟩ := hS16.2.1.cells2
            refine hK.out _ _ (⟨hS16.2.1.cells2.1, hS16.2.1.cells2.2⟩) (fun hHeld => ?_)
            clear hK K
            (try simp only [Act.put, List.setIfInBounds_toArray, List.set_cons_zero, List.set_cons_succ])
            refine wpAnyL_take (i := 13) (v := ?_) op13 (by kernel_rfl) (by kernel_rfl) (by kernel_rfl) (by rfl) (fun _ _ _ h => h) (b := true) (by kernel_rfl) hHeld hS0 (Or.inl ⟨by rfl, ?_⟩) (by kernel_rfl) ?_
            rotate_left
            · intro wS hSw; (try dsimp only at hSw); go_simp; (try with_reducible rfl)
            (try simp only [Act.put, List.setIfInBounds_toArray, List.set_cons_zero, List.set_cons_succ])
            refine wpAnyL_done (by kernel_rfl) ?_ _
            obtain ⟨ea, eb⟩ := hx16.cells2
            obtain ⟨da, db⟩ := hS16.2.1.cells2
            have df0 := hS16.2.1.frozen 0
            have df1 := hS16.2.1.frozen 1
            cases bx
            · go_wp2_with fail
              go_roundw
              case rel => exact ⟨k + 1, A, n, c, C, m, d, q, _, by omega, by go_num, by omega, hmain, by omega, HT.out, hS16⟩
              case measure => simp [intOf]; omega
            · obtain ⟨k1, k2, k3⟩ := qput_tiny HT.out hars (by omega) hok4 HPX.out
              have hS8 := hS16.put hgw hbb hQ16 rfl
              go_wp2_with fail
              go_roundw
              case rel => exact ⟨k + 1, RA, rn, rc, RC, rm, rd, qx, _, by omega, by go_num, by omega, k2.trans hmain, k3, k1, hS8⟩
              case measure => simp [intOf]; omega
        · go_simp
          have hS18 := hS1.next (below_box w1p (.cells #[.slice none 0 0, .slice none 0 0] 26))
          have hx18 : Blk (w1p.alloc (.cells #[.slice none 0 0, .slice none 0 0] 26)) w1p.heap.size 26 [.slice none 0 0, .slice none 0 0] := Blk.new w1p 26 [.slice none 0 0, .slice none 0 0]
          have hxl18 : w.heap.size < w1p.heap.size ∧ gb < w1p.heap.size := ⟨hS1.1.lt, hS1.2.1.lt⟩
          obtain ⟨ya19, yb19⟩ := hS18.2.1.cells2
          refine hK.out _ _ (⟨hS18.2.1.cells2.1, hS18.2.1.cells2.2⟩) (fun hHeld => ?_)
          clear hK K
          (try simp only [Act.put, List.setIfInBounds_toArray, List.set_cons_zero, List.set_cons_succ])
          refine wpAnyL_ready (rs := [6]) (by kernel_rfl) rfl ?_
          refine AllReadyL.cons (b := true) op6 (by kernel_rfl) (fun K hK => ?_) AllReadyL.nil
          go_simp
          go_at_call 64
          refine (l92Some_any g _ A n c q.main _ hS18.2.2.2.1 (by omega) hS18.2.2.1.main.1.reads (by omega) hok').mono ?_
          rintro e w20p ⟨v4, p4, rfl, ⟨m4, ls, hO4, hm4, hok4⟩, hp4, hr20, hg20⟩
          obtain ⟨A4, c4, rfl, hm4c⟩ := hO4.form
          have hS20 := hS18.draw hgw hbb hr20 hg20
          have hx21 := hx18.grown hg20 (fun e => by injection e with e; have := hxl18; omega)
          obtain ⟨ya22, yb22⟩ := hS20.2.1.cells2
          go_wp2_with fail
          refine hK.out _ _ (⟨hS20.2.1.cells2.1, hS20.2.1.cells2.2⟩) (fun hHeld => ?_)
          clear hK K
          (try simp only [Act.put, List.setIfInBounds_toArray, List.set_cons_zero, List.set_cons_succ])
          refine wpAnyL_ready (rs := [7]) (by kernel_rfl) rfl ?_
          refine AllReadyL.cons (b := true) op7 (by kernel_rfl) (fun K hK => ?_) AllReadyL.nil
          go_simp
          go_at_call 25
          refine (specQuarantinePut_any _ q _ A4 m4 c4 ls _ hS20.2.2.1.rep0 hO4.reads (by simp only [maxLen]; omega)).mono ?_
          rintro e w23p ⟨cs5, rfl, hQ5, hb5⟩
          obtain ⟨RA, rn, rc, RC, rm, rd, rfl, hqa, hqb⟩ := id hQ5
          clear hqa hqb
          obtain ⟨PX, HPX⟩ : ∃ PX, Hid (qputQ q v3 ls = PX) := ⟨_, Lib.hid rfl⟩
          rw [HPX.out] at hQ5
          rw [HPX.out]
          obtain ⟨qx, bx⟩ := PX
          dsimp only at hQ5 ⊢
          have hQ5b := hQ5.base (B' := w.heap.size + 1) (by have := hS20.1.lt; omega)
          have hS23 := hS20.next hb5
          have hx24 := hx21.next hb5
          obtain ⟨ya25, yb25⟩ := hS23.2.1.cells2
          go_wp2_with fail
          refine hK.out _ _ (⟨hS23.2.1.cells2.1, hS23.2.1.cells2.2⟩) (fun hHeld => ?_)
          clear hK K
          (try simp only [Act.put, List.setIfInBounds_toArray, List.set_cons_zero, List.set_cons_succ])
          refine wpAnyL_take (i := 8) (v := ?_) op8 (by kernel_rfl) (by kernel_rfl) (by kernel_rfl) (by rfl) (fun _ _ _ h => h) (b := true) (by kernel_rfl) hHeld hS0 (Or.inl ⟨by rfl, ?_⟩) (by kernel_rfl) ?_
          rotate_left
          · intro wS hSw; (try dsimp only at hSw); go_simp; (try with_reducible rfl)
          (try simp only [Act.put, List.setIfInBounds_toArray, List.set_cons_zero, List.set_cons_succ])
          refine wpAnyL_take (i := 9) (v := ?_) op9 (by kernel_rfl) (by kernel_rfl) (by kernel_rfl) (by rfl) (fun _ _ _ h => h) (b := true) (by kernel_rfl) hHeld hS0 (Or.inl ⟨by rfl, ?_⟩) (by kernel_rfl) ?_
          rotate_left
          · intro wS hSw; (try dsimp only at hSw); go_simp; (try with_reducible rfl)
          (try simp only [Act.put, List.setIfInBounds_toArray, List.set_cons_zero, List.set_cons_succ])
          refine wpAnyL_take (i := 10) (v := ?_) op10 (by kernel_rfl) (by kernel_rfl) (by kernel_rfl) (by rfl) (fun _ _ _ h => h) (b := true) (by kernel_rfl) hHeld hS0 (Or.inl ⟨by rfl, ?_⟩) (by kernel_rfl) ?_
          rotate_left
          · intro wS hSw; (try dsimp only at hSw); go_simp; (try with_reducible rfl)
          (try simp only [Act.put, List.setIfInBounds_toArray, List.set_cons_zero, List.set_cons_succ])
          refine wpAnyL_ready (rs := [12]) (by kernel_rfl) rfl ?_
          refine AllReadyL.cons (b := true) op12 (by kernel_rfl) (fun K hK => ?_) AllReadyL.nil
          obtain ⟨xa26, xb26⟩ := hx24.cells2
          have xf26 := hx24.frozen 0
          have xg26 := hx24.frozen 1
          have hz26 := (hx24.set_ 0 (.slice RA rn rc)).set_ 1 (.slice RC rm rd)
          simp only [List.set_cons_zero, List.set_cons_succ] at hz26
          go_simp
          have hS26 := DqSt.xset (u := .slice RA rn rc) (v := .slice RC rm rd) hgw hS23 hx24 (by have := hxl18; omega) (by have := hxl18; omega)
          have hx26 := hz26
          have hQ26 := OwnQ.res (u := .slice RA rn rc) (v := .slice RC rm rd) hQ5b hx24
          obtain ⟨ya27, yb27⟩ := hS26.2.1.cells2
          refine hK.out _ _ (⟨hS26.2.1.cells2.1, hS26.2.1.cells2.2⟩) (fun hHeld => ?_)
          clear hK K
          (try simp only [Act.put, List.setIfInBounds_toArray, List.set_cons_zero, List.set_cons_succ])
          refine wpAnyL_take (i := 13) (v := ?_) op13 (by kernel_rfl) (by kernel_rfl) (by kernel_rfl) (by rfl) (fun _ _ _ h => h) (b := true) (by kernel_rfl) hHeld hS0 (Or.inl ⟨by rfl, ?_⟩) (by kernel_rfl) ?_
          rotate_left
          · intro wS hSw; (try dsimp only at hSw); go_simp; (try with_reducible rfl)
          (try simp only [Act.put, List.setIfInBounds_toArray, List.set_cons_zero, List.set_cons_succ])
          refine wpAnyL_done (by kernel_rfl) ?_ _
          obtain ⟨ea, eb⟩ := hx26.cells2
          obtain ⟨da, db⟩ := hS26.2.1.cells2
          have df0 := hS26.2.1.frozen 0
          have df1 := hS26.2.1.frozen 1
          cases bx
          · go_wp2_with fail
            go_roundw
            case rel => exact ⟨k + 1, A, n, c, C, m, d, q, _, by omega, by go_num, by omega, hmain, by omega, HT.out, hS26⟩
            case measure => simp [intOf]; omega
          · obtain ⟨k1, k2, k3⟩ := qput_tiny HT.out hars (by omega) hok4 HPX.out
            have hS8 := hS26.put hgw hbb hQ26 rfl
            go_wp2_with fail
            go_roundw
            case rel => exact ⟨k + 1, RA, rn, rc, RC, rm, rd, qx, _, by omega, by go_num, by omega, k2.trans hmain, k3, k1, hS8⟩
            case measure => simp [intOf]; omega
      · go_simp
        have hS28 := hSd.next (below_box wr.drew (.cells #[.slice none 0 0, .slice none 0 0] 26))
        have hx28 : Blk (wr.drew.alloc (.cells #[.slice none 0 0, .slice none 0 0] 26)) wr.heap.size 26 [.slice none 0 0, .slice none 0 0] := Blk.new wr.drew 26 [.slice none 0 0, .slice none 0 0]
        have hxl28 : w.heap.size < wr.heap.size ∧ gb < wr.heap.size := ⟨hSd.1.lt, hSd.2.1.lt⟩
        obtain ⟨ya29, yb29⟩ := hS28.2.1.cells2
        refine hK.out _ _ (⟨hS28.2.1.cells2.1, hS28.2.1.cells2.2⟩) (fun hHeld => ?_)
        clear hK K
        (try simp only [Act.put, List.setIfInBounds_toArray, List.set_cons_zero, List.set_cons_succ])
        refine wpAnyL_ready (rs := [2]) (by kernel_rfl) rfl ?_
        refine AllReadyL.cons (b := true) op2 (by kernel_rfl) (fun K hK => ?_) AllReadyL.nil
        go_simp
        go_at_call 41
        refine (pick_any g _ 5 _ hS28.2.2.2.1 (by omega) (by omega) (by omega)).mono ?_
        rintro e w30p ⟨v3, rfl, h30, h31, hr30, hg30⟩
        have hS30 := hS28.draw hgw hbb hr30 hg30
        have hx31 := hx28.grown hg30 (fun e => by injection e with e; have := hxl28; omega)
        obtain ⟨ya32, yb32⟩ := hS30.2.1.cells2
        go_wp2_with fail
        refine hK.out _ _ (⟨hS30.2.1.cells2.1, hS30.2.1.cells2.2⟩) (fun hHeld => ?_)
        clear hK K
        (try simp only [Act.put, List.setIfInBounds_toArray, List.set_cons_zero, List.set_cons_succ])
        refine wpAnyL_ready (rs := [6]) (by kernel_rfl) rfl ?_
        refine AllReadyL.cons (b := true) op6 (by kernel_rfl) (fun K hK => ?_) AllReadyL.nil
        go_simp
        go_at_call 64
        refine (l92Some_any g _ A n c q.main _ hS30.2.2.2.1 (by omega) hS30.2.2.1.main.1.reads (by omega) hok').mono ?_
        rintro e w33p ⟨v4, p4, rfl, ⟨m4, ls, hO4, hm4, hok4⟩, hp4, hr33, hg33⟩
        obtain ⟨A4, c4, rfl, hm4c⟩ := hO4.form
        have hS33 := hS30.draw hgw hbb hr33 hg33
        have hx34 := hx31.grown hg33 (fun e => by injection e with e; have := hxl28; omega)
        obtain ⟨ya35, yb35⟩ := hS33.2.1.cells2
        go_wp2_with fail
        refine hK.out _ _ (⟨hS33.2.1.cells2.1, hS33.2.1.cells2.2⟩) (fun hHeld => ?_)
        clear hK K
        (try simp only [Act.put, List.setIfInBounds_toArray, List.set_cons_zero, List.set_cons_succ])
        refine wpAnyL_ready (rs := [7]) (by kernel_rfl) rfl ?_
        refine AllReadyL.cons (b := true) op7 (by kernel_rfl) (fun K hK => ?_) AllReadyL.nil
        go_simp
        go_at_call 25
        refine (specQuarantinePut_any _ q _ A4 m4 c4 ls _ hS33.2.2.1.rep0 hO4.reads (by simp only [maxLen]; omega)).mono ?_
        rintro e w36p ⟨cs5, rfl, hQ5, hb5⟩
        obtain ⟨RA, rn, rc, RC, rm, rd, rfl, hqa, hqb⟩ := id hQ5
        clear hqa hqb
        obtain ⟨PX, HPX⟩ : ∃ PX, Hid (qputQ q v3 ls = PX) := ⟨_, Lib.hid rfl⟩
        rw [HPX.out] at hQ5
        rw [HPX.out]
        obtain ⟨qx, bx⟩ := PX
        dsimp only at hQ5 ⊢
        have hQ5b := hQ5.base (B' := w.heap.size + 1) (by have := hS33.1.lt; omega)
        have hS36 := hS33.next hb5
        have hx37 := hx34.next hb5
        obtain ⟨ya38, yb38⟩ := hS36.2.1.cells2
        go_wp2_with fail
        refine hK.out _ _ (⟨hS36.2.1.cells2.1, hS36.2.1.cells2.2⟩) (fun hHeld => ?_)
        clear hK K
        (try simp only [Act.put, List.setIfInBounds_toArray, List.set_cons_zero, List.set_cons_succ])
        refine wpAnyL_take (i := 8) (v := ?_) op8 (by kernel_rfl) (by kernel_rfl) (by kernel_rfl) (by rfl) (fun _ _ _ h => h) (b := true) (by kernel_rfl) hHeld hS0 (Or.inl ⟨by rfl, ?_⟩) (by kernel_rfl) ?_
        rotate_left
        · intro wS hSw; (try dsimp only at hSw); go_simp; (try with_reducible rfl)
        (try simp only [Act.put, List.setIfInBounds_toArray, List.set_cons_zero, List.set_cons_succ])
        refine wpAnyL_take (i := 9) (v := ?_) op9 (by kernel_rfl) (by kernel_rfl) (by kernel_rfl) (by rfl) (fun _ _ _ h => h) (b := true) (by kernel_rfl) hHeld hS0 (Or.inl ⟨by rfl, ?_⟩) (by kernel_rfl) ?_
        rotate_left
        · intro wS hSw; (try dsimp only at hSw); go_simp; (try with_reducible rfl)
        (try simp only [Act.put, List.setIfInBounds_toArray, List.set_cons_zero, List.set_cons_succ])
        refine wpAnyL_take (i := 10) (v := ?_) op10 (by kernel_rfl) (by kernel_rfl) (by kernel_rfl) (by rfl) (fun _ _ _ h => h) (b := true) (by kernel_rfl) hHeld hS0 (Or.inl ⟨by rfl, ?_⟩) (by kernel_rfl) ?_
        rotate_left
        · intro wS hSw; (try dsimp only at hSw); go_simp; (try with_reducible rfl)
        (try simp only [Act.put, List.setIfInBounds_toArray, List.set_cons_zero, List.set_cons_succ])
        refine wpAnyL_ready (rs := [12]) (by kernel_rfl) rfl ?_
        refine AllReadyL.cons (b := true) op12 (by kernel_rfl) (fun K hK => ?_) AllReadyL.nil
        obtain ⟨xa39, xb39⟩ := hx37.cells2
        have xf39 := hx37.frozen 0
        have xg39 := hx37.frozen 1
        have hz39 := (hx37.set_ 0 (.slice RA rn rc)).set_ 1 (.slice RC rm rd)
        simp only [List.set_cons_zero, List.set_cons_succ] at hz39
        go_simp
        have hS39 := DqSt.xset (u := .slice RA rn rc) (v := .slice RC rm rd) hgw hS36 hx37 (by have := hxl28; omega) (by have := hxl28; omega)
        have hx39 := hz39
        have hQ39 := OwnQ.res (u := .slice RA rn rc) (v := .slice RC rm rd) hQ5b hx37
        obtain ⟨ya40, yb40⟩ := hS39.2.1.cells2
        refine hK.out _ _ (⟨hS39.2.1.cells2.1, hS39.2.1.cells2.2⟩) (fun hHeld => ?_)
        clear hK K
        (try simp only [Act.put, List.setIfInBounds_toArray, List.set_cons_zero, List.set_cons_succ])
        refine wpAnyL_take (i := 13) (v := ?_) op13 (by kernel_rfl) (by kernel_rfl) (by kernel_rfl) (by rfl) (fun _ _ _ h => h) (b := true) (by kernel_rfl) hHeld hS0 (Or.inl ⟨by rfl, ?_⟩) (by kernel_rfl) ?_
        rotate_left
        · intro wS hSw; (try dsimp only at hSw); go_simp; (try with_reducible rfl)
        (try simp only [Act.put, List.setIfInBounds_toArray, List.set_cons_zero, List.set_cons_succ])
        refine wpAnyL_done (by kernel_rfl) ?_ _
        obtain ⟨ea, eb⟩ := hx39.cells2
        obtain ⟨da, db⟩ := hS39.2.1.cells2
        have df0 := hS39.2.1.frozen 0
        have df1 := hS39.2.1.frozen 1
        cases bx
        · go_wp2_with fail
          go_roundw
          case rel => exact ⟨k + 1, A, n, c, C, m, d, q, _, by omega, by go_num, by omega, hmain, by omega, HT.out, hS39⟩
          case measure => simp [intOf]; omega
        · obtain ⟨k1, k2, k3⟩ := qput_tiny HT.out hars (by omega) hok4 HPX.out
          have hS8 := hS39.put hgw hbb hQ39 rfl
          go_wp2_with fail
          go_roundw
          case rel => exact ⟨k + 1, RA, rn, rc, RC, rm, rd, qx, _, by omega, by go_num, by omega, k2.trans hmain, k3, k1, hS8⟩
          case measure => simp [intOf]; omega
    · obtain rfl : k = N := by omega
      have HT := Lib.hid hT
      go_wp2_with fail
      refine (pick_any g p' 20 _ hR (by omega) (by omega) (by omega)).mono ?_
      rintro e w3 ⟨v9, rfl, h90, h91, hr3, hg3⟩
      have hS3 := hS.draw hgw hbb hr3 hg3
      clear hS hX0 hXb hQ hR hG y0 y1 hr3 hg3
      obtain ⟨y30, y31⟩ := hS3.2.1.cells2
      have HM := Lib.hid (OwnA.len hS3.2.2.1.main.2)
      by_cases hv0 : v9 = 0
      · have hb0 : (v9 == 0) = true := by simp [hv0]
        have hm10 : m ≤ 10 := by have := HM.out; have := HT.out.2.2.1; omega
        go_wp2_with fail
        have hbd : Below w3.heap.size w3 w3.drew := (Below.refl _ _).drew
        have hSd := hS3.next hbd
        refine wp_region_L (fun b_ w' => (until_ b_ (w'.cell? ⟨gb, 1, none⟩ = some (.slice C m d))) ∧ True) 10 (by kernel_rfl) ⟨fun _ => y31, True.intro⟩ (fun hHeld => ?_)
        refine wpAnyL_takeS (i := 0) (v := ?_) op0 (by kernel_rfl) (by kernel_rfl) (by kernel_rfl) (by rfl) (fun _ _ _ h => h) hHeld (by kernel_rfl) (by kernel_rfl) (Or.inl ⟨by rfl, ?_⟩) ?_
        rotate_left
        · intro wS hSw; obtain ⟨hSu, hSv⟩ := hSw; have hSs := hSu rfl; clear hSu hSv; go_simp; (try with_reducible rfl)
        (try simp only [Act.put, List.setIfInBounds_toArray, List.set_cons_zero, List.set_cons_succ])
        refine wpAnyL_takeS (i := 1) (v := ?_) op1 (by kernel_rfl) (by kernel_rfl) (by kernel_rfl) (by rfl) (fun _ _ _ h => h) hHeld (by kernel_rfl) (by kernel_rfl) (Or.inl ⟨by rfl, ?_⟩) ?_
        rotate_left
        · intro wS hSw; obtain ⟨hSu, hSv⟩ := hSw; have hSs := hSu rfl; clear hSu hSv; go_simp; (try with_reducible rfl)
        (try simp only [Act.put, List.setIfInBounds_toArray, List.set_cons_zero, List.set_cons_succ])
        refine wpAnyL_takeS (i := 2) (v := ?_) op2 (by kernel_rfl) (by kernel_rfl) (by kernel_rfl) (by rfl) (fun _ _ _ h => h) hHeld (by kernel_rfl) (by kernel_rfl) (Or.inl ⟨by rfl, ?_⟩) ?_
        rotate_left
        · intro wS hSw; obtain ⟨hSu, hSv⟩ := hSw; have hSs := hSu rfl; clear hSu hSv; go_simp; (try with_reducible rfl)
        (try simp only [Act.put, List.setIfInBounds_toArray, List.set_cons_zero, List.set_cons_succ])
        refine wpAnyL_takeS (i := 4) (v := ?_) op4 (by kernel_rfl) (by kernel_rfl) (by kernel_rfl) (by rfl) (fun _ _ _ h => h) hHeld (by kernel_rfl) (by kernel_rfl) (Or.inl ⟨by rfl, ?_⟩) ?_
        rotate_left
        · intro wS hSw; obtain ⟨hSu, hSv⟩ := hSw; have hSs := hSu rfl; clear hSu hSv; go_simp; (try with_reducible rfl)
        (try simp only [Act.put, List.setIfInBounds_toArray, List.set_cons_zero, List.set_cons_succ])
        refine wpAnyL_ready (rs := [3]) (by kernel_rfl) rfl ?_
        refine AllReadyL.cons (b := false) op3 (by kernel_rfl) (fun K hK => ?_) AllReadyL.nil
        go_simp
        go_at_call 41
        refine (pick_any g _ 13 _ hSd.2.2.2.1 (by omega) (by omega) (by omega)).mono ?_
        rintro e w4 ⟨v4, rfl, h40, h41, hr4, hg4⟩
        have hS4 := hSd.draw hgw hbb hr4 hg4
        obtain ⟨y40, y41⟩ := hS4.2.1.cells2
        go_wp2_with fail
        refine hK.out _ _ (⟨fun _ => y41, True.intro⟩) (fun hHeld => ?_)
        clear hK K
        (try simp only [Act.put, List.setIfInBounds_toArray, List.set_cons_zero, List.set_cons_succ])
        refine wpAnyL_ready (rs := [5]) (by kernel_rfl) rfl ?_
        refine AllReadyL.cons (b := false) op5 (by kernel_rfl) (fun K hK => ?_) AllReadyL.nil
        go_simp
        go_at_call 77
        refine (l91Store_any g _ _ hS4.2.2.2.1 (by omega)).mono ?_
        rintro e w5 ⟨v5, p5, rfl, ⟨m5, os5, hO5, hm5, hok5⟩, hp5, hr5, hg5⟩
        obtain ⟨A5, c5, rfl, hmc5⟩ := hO5.form
        have hS5 := hS4.draw hgw hbb hr5 hg5
        obtain ⟨y50, y51⟩ := hS5.2.1.cells2
        go_wp2_with fail
        refine hK.out _ _ (⟨fun _ => y51, True.intro⟩) (fun hHeld => ?_)
        clear hK K
        (try simp only [Act.put, List.setIfInBounds_toArray, List.set_cons_zero, List.set_cons_succ])
        refine wpAnyL_takeS (i := 6) (v := ?_) op6 (by kernel_rfl) (by kernel_rfl) (by kernel_rfl) (by rfl) (fun _ _ _ h => h) hHeld (by kernel_rfl) (by kernel_rfl) (Or.inl ⟨by rfl, ?_⟩) ?_
        rotate_left
        · intro wS hSw; obtain ⟨hSu, hSv⟩ := hSw; have hSs := hSu rfl; clear hSu hSv; go_simp; (try with_reducible rfl)
        (try simp only [Act.put, List.setIfInBounds_toArray, List.set_cons_zero, List.set_cons_succ])
        refine wpAnyL_ready (rs := [7]) (by kernel_rfl) rfl ?_
        refine AllReadyL.cons (b := false) op7 (by kernel_rfl) (fun K hK => ?_) AllReadyL.nil
        go_simp
        have by5 := below_box w5 (.cells #[.int .i64 v4, .slice A5 m5 c5] 70)
        have hS5a := hS5.next by5
        obtain ⟨y5a, y5b⟩ := hS5a.2.1.cells2
        refine hK.out _ _ (⟨fun _ => y5b, True.intro⟩) (fun hHeld => ?_)
        clear hK K
        (try simp only [Act.put, List.setIfInBounds_toArray, List.set_cons_zero, List.set_cons_succ])
        refine wpAnyL_ready (rs := [8]) (by kernel_rfl) rfl ?_
        refine AllReadyL.cons (b := false) op8 (by kernel_rfl) (fun K hK => ?_) AllReadyL.nil
        obtain ⟨cs0, hown, hel⟩ := hS5.2.2.1.main.2
        have hz5 : w.heap.size + 1 ≤ w4.heap.size := hS4.1.lt
        have hz6 : w4.heap.size ≤ w5.heap.size := hg5.size
        have hO5b := (hO5.next by5).base (B' := w.heap.size + 1) hz5
        refine step_app rfl (.tmp 37) (.tmp 43) 24 rfl (w.heap.size + 1) 70 Try.underlying24 ar_info1 rfl (by omega) (by omega) _ m cs0 rfl (own_below hown by5) ⟨_, 0, none⟩ 1 1 [.int .i64 v4, .slice A5 m5 c5] rfl rfl ((Blk.new w5 70 [.int .i64 v4, .slice A5 m5 c5]).cellsAt) (by simp [Value.oneCell']) (by omega) (by have := by5.size; omega) ?_
        intro C9 d9 w9 hown9 _ hb9 hg9 _
        have hB9 : Blk w9 gb 26 [.slice A n c, .slice C m d] := hS5a.2.1.grown hg9 (fun e => own_ne_blk (own_below hown by5) hS5a.2.1 (by decide) e.symm)
        obtain ⟨y90, y91⟩ := hB9.cells2
        have f91 := hB9.frozen 1
        have hSN := DqSt.add (x := ⟨v4, os5⟩) hgw hbb hS5 by5 hown hel ⟨A5, m5, c5, rfl, hO5b⟩ hg9 hb9 hown9
        refine hK.out _ _ (⟨fun _ => y91, True.intro⟩) (fun hHeld => ?_)
        clear hK K
        (try simp only [Act.put, List.setIfInBounds_toArray, List.set_cons_zero, List.set_cons_succ])
        refine wpAnyL_takeS (i := 9) (v := ?_) op9 (by kernel_rfl) (by kernel_rfl) (by kernel_rfl) (by rfl) (fun _ _ _ h => h) hHeld (by kernel_rfl) (by kernel_rfl) (Or.inl ⟨by rfl, ?_⟩) ?_
        rotate_left
        · intro wS hSw; obtain ⟨hSu, hSv⟩ := hSw; have hSs := hSu rfl; clear hSu hSv; go_simp; (try with_reducible rfl)
        (try simp only [Act.put, List.setIfInBounds_toArray, List.set_cons_zero, List.set_cons_succ])
        refine wpAnyL_ready (rs := [10]) (by kernel_rfl) rfl ?_
        refine AllReadyL.cons (b := true) op10 (by kernel_rfl) (fun K hK => ?_) AllReadyL.nil
        go_simp
        refine hK.out _ _ (⟨fun h => Bool.noConfusion h, True.intro⟩) (fun hHeld => ?_)
        clear hK K
        (try simp only [Act.put, List.setIfInBounds_toArray, List.set_cons_zero, List.set_cons_succ])
        refine wpAnyL_done (by kernel_rfl) ?_ _
        have hl5 : os5.length = m5 := OwnR.len hO5
        have hTN : tinyQ ⟨q.main, q.ars ++ [⟨v4, os5⟩]⟩ := ⟨HT.out.1, HT.out.2.1, by rw [List.length_append, List.length_singleton]; omega, fun a ha => by
          rcases List.mem_append.1 ha with ha | ha
          · exact HT.out.2.2.2 a ha
          · rw [List.mem_singleton.1 ha]; exact ⟨hok5, by dsimp only; omega⟩⟩
        have HTN := Lib.hid hTN
        clear hl5 hTN
        generalize w9.setCell ⟨gb, 1, none⟩ (.slice C9 (m + 1) d9) = wZ at *
        obtain ⟨r0, r1⟩ := hSN.1.cells2
        have fr0 := hSN.1.frozen 0
        have fr1 := hSN.1.frozen 1
        have hRR := (hSN.1.set_ 0 (.slice A n c)).set_ 1 (.slice C9 (m + 1) d9)
        simp only [List.set_cons_zero, List.set_cons_succ] at hRR
        obtain ⟨t0, t1⟩ := hRR.cells2
        obtain ⟨z0, z1⟩ := hSN.2.1.cells2
        go_wp2_with fail
        refine bodyPost_ret (v := .agg #[.slice A n c, .slice C9 (m + 1) d9]) (by simp [results, Try.results38, go_sem, t0, t1]) rfl ?_
        exact ⟨_, _, rfl, ⟨_, _, rfl, (hSN.2.2.1.res hSN.1).base (Nat.le_succ _), HTN.out⟩, by omega, (hSN.2.2.2.1.store (by omega) _).store (by omega) _, grownQ (grownQ hSN.2.2.2.2 (Nat.le_refl _) _) (Nat.le_refl _) _⟩
      · have hb0 : (v9 == 0) = false := by simp [hv0]
        by_cases hv1 : v9 = 1
        · have hb1 : (v9 == 1) = true := by simp [hv1]
          go_wp2_with fail
          refine (l91Spoilt_any g _ _ hS3.2.2.2.1 (by omega)).mono ?_
          rintro e w4 ⟨v4, p4, rfl, ⟨m4, os4, hO4, hm4, hok4⟩, hp4, hr4, hg4⟩
          obtain ⟨A4, c4, rfl, hmc4⟩ := hO4.form
          have hS4 := hS3.draw hgw hbb hr4 hg4
          obtain ⟨y40, y41⟩ := hS4.2.1.cells2
          have f40 := hS4.2.1.frozen 0
          have hz5 : w.heap.size + 1 ≤ w3.heap.size := hS3.1.lt
          have hSN := hS4.setMain hgw hbb (hO4.base (B' := w.heap.size + 1) hz5)
          have hl4 : os4.length = m4 := OwnR.len hO4
          have hTN : tinyQ ⟨os4, q.ars⟩ := ⟨hok4, by dsimp only; omega, HT.out.2.2.1, HT.out.2.2.2⟩
          have HTN := Lib.hid hTN
          clear hl4 hTN
          obtain ⟨r0, r1⟩ := hSN.1.cells2
          have fr0 := hSN.1.frozen 0
          have fr1 := hSN.1.frozen 1
          have hRR := (hSN.1.set_ 0 (.slice A4 m4 c4)).set_ 1 (.slice C m d)
          simp only [List.set_cons_zero, List.set_cons_succ] at hRR
          obtain ⟨t0, t1⟩ := hRR.cells2
          obtain ⟨z0, z1⟩ := hSN.2.1.cells2
          go_wp2_with fail
          refine bodyPost_ret (v := .agg #[.slice A4 m4 c4, .slice C m d]) (by simp [results, Try.results38, go_sem, t0, t1]) rfl ?_
          exact ⟨_, _, rfl, ⟨_, _, rfl, (hSN.2.2.1.res hSN.1).base (Nat.le_succ _), HTN.out⟩, by omega, (hSN.2.2.2.1.store (by omega) _).store (by omega) _, grownQ (grownQ hSN.2.2.2.2 (Nat.le_refl _) _) (Nat.le_refl _) _⟩
        · have hb1 : (v9 == 1) = false := by simp [hv1]
          obtain ⟨r0, r1⟩ := hS3.1.cells2
          have fr0 := hS3.1.frozen 0
          have fr1 := hS3.1.frozen 1
          have hRR := (hS3.1.set_ 0 (.slice A n c)).set_ 1 (.slice C m d)
          simp only [List.set_cons_zero, List.set_cons_succ] at hRR
          obtain ⟨t0, t1⟩ := hRR.cells2
          obtain ⟨z0, z1⟩ := hS3.2.1.cells2
          go_wp2_with fail
          refine bodyPost_ret (v := .agg #[.slice A n c, .slice C m d]) (by simp [results, Try.results38, go_sem, t0, t1]) rfl ?_
          exact ⟨_, _, rfl, ⟨_, q, rfl, (hS3.2.2.1.res hS3.1).base (Nat.le_succ _), HT.out⟩, by omega, (hS3.2.2.2.1.store (by omega) _).store (by omega) _, grownQ (grownQ hS3.2.2.2.2 (Nat.le_refl _) _) (Nat.le_refl _) _⟩
end Go.Proofs.Ytjofgbbofagoiaa
