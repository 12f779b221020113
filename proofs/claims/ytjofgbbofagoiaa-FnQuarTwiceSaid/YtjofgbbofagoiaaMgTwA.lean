import Derived.Test.YtjofgbbofagoiaaQuPut
import Derived.Test.YtjofgbbofagoiaaRegM
import Derived.Test.YtjofgbbofagoiaaAppS
import Derived.Test.YtjofgbbofagoiaaQuDisc
import Derived.Deep.RegionHeld3
/- Walk: l92Some: some objects, with links to those of a store. -/
namespace Go.Proofs.Ytjofgbbofagoiaa
open Go.RowKit Go.Sort

set_option maxRecDepth 100000 in
set_option maxHeartbeats 6400000 in
theorem l92Some_any (g p : Nat) (D : Option Addr) (r dd : Nat) (ss : List Ob) (w : World) (h : Rd w g p) (hp : p ≤ 700000) (hl : RObjs w D r ss) (hr : r ≤ 50) (hss : ∀ o ∈ ss, o.ok = true) :
    Calls Try.prog 64 #[.pointer (some ⟨g, 0, none⟩), .slice D r dd] w (Drawn g p 1000 w (IsStore w.heap.size 3)) := by
  have hgw := h.lt
  have b0 := below_box2 w (.cells #[] 33) (.cells #[] 3)
  have E1 : Blk ((w.alloc (.cells #[] 33)).alloc (.cells #[] 3)) w.heap.size 33 [] := (Blk.new w 33 []).alloc (.cells #[] 3)
  have E2 : Blk ((w.alloc (.cells #[] 33)).alloc (.cells #[] 3)) (w.heap.size + 1) 3 [] := by
    have := Blk.new (w.alloc (.cells #[] 33)) 3 []
    rwa [show (w.alloc (.cells #[] 33)).heap.size = w.heap.size + 1 from by simp] at this
  go_enter Try.func64, Try.ntmps64
  go_wp2_with fail
  go_loopw [6, 7] (fun s i wr => ∃ (k : Nat) (B : Option Addr) (e : Nat) (is : List Int), k ≤ r ∧ i = .int .i64 k ∧ s = .slice B k e ∧ wr.ownsRow w.heap.size 3 1 (.slice B k e) k (ints is) ∧ Blk wr w.heap.size 33 [] ∧ Below w.heap.size w wr) (fun _ i _ => r - (intOf i).toNat)
  case atStart => exact ⟨0, _, 0, [], Nat.zero_le _, rfl, rfl, own_emp E2 (by omega), E1, b0⟩
  case round =>
    obtain ⟨k, B, e, is, hk, rfl, rfl, hown, hE, hbr⟩ := hrel
    by_cases hlt : k < r
    · obtain ⟨b, off, o, rfl, hb, hx, hob⟩ := (hl.next hbr).at_ hlt
      obtain ⟨L, ml, dl, c0, c1, c2', hri, hml, ht⟩ := hob
      have hoo := ObjOk.of (hss o (List.mem_of_getElem? hx))
      have hz := hbr.size
      clear hx
      go_wp2_with fail
      refine (l1Of_any _ _ _ _ o.xs _ _ hri hoo).mono ?_
      rintro e' w8 ⟨rfl, hb8⟩
      generalize hI : idV o.k o.xs o.t = x8 at *
      have HI := Lib.hid hI
      clear hI
      have by8 := below_ext hb8 (below_box w8 (.cells #[.int .i64 x8] 3))
      have hown8 := own_below hown by8
      have hE8 := hE.next by8
      have hz8 := by8.size
      have hz8' := hb8.size
      go_wp2_with (at_builtin; go_loud (refine wpList_app rfl (.tmp 21) (.tmp 27) 27 rfl w.heap.size 3 Try.underlying27 int_info1 rfl (by omega) (by omega) _ k (ints is) rfl hown8 ⟨w8.heap.size, 0, none⟩ 1 1 [.int .i64 x8] rfl rfl (cell_one_new _ _ _) (by simp [Value.oneCell']) (by omega) (by omega) ?_; intro B' d' w9 hown9 _ hb9 hg9 _))
      go_roundw
      case rel => exact ⟨k + 1, B', d', is ++ [x8], by omega, by go_num, rfl, by rw [← ints_snoc]; exact hown9, hE8.grown hg9 (fun e => own_ne_blk hown8 hE8 (by decide) e.symm), (below_ext hbr by8).trans hb9⟩
      case measure => simp [intOf]; omega
    · obtain rfl : k = r := by omega
      have hS0 : StP g w (some ⟨w.heap.size, 0, none⟩) 0 0 [] B k e is p wr := ⟨⟨[], own_emp hE (Nat.le_refl _), Elems.nil⟩, hown, h.keep hbr, grown_below (World.grownBy.refl w _) hbr⟩
      go_wp2_with fail
      refine (pick_any g p 3 _ (h.keep hbr) (by omega) (by omega) (by omega)).mono ?_
      rintro e w1 ⟨v1, rfl, h10, h11, hr1, hg1⟩
      have hS1 := hS0.draw hgw hr1 hg1
      obtain ⟨N, rfl⟩ := Int.eq_ofNat_of_zero_le h10
      have hN : N ≤ 2 := by omega
      have hwN : IntKind.i64.wrap (1 + (N : Int)) = 1 + (N : Int) := by rw [IntKind.wrap_i64]; omega
      clear hS0 hE hown E1 E2 hr1 hg1 h10 h11 b0
      generalize hRR : k = rr at *
      go_wp2_with fail
      go_loopw [5, 6, 9] (fun s i k wr => ∃ (kk : Nat) (A : Option Addr) (m c : Nat) (os : List Ob) (B : Option Addr) (d e : Nat) (is : List Int) (q : Nat), kk ≤ 1 + N ∧ k = .int .i64 kk ∧ s = .slice A m c ∧ i = .slice B d e ∧ m ≤ kk ∧ m ≤ c ∧ d ≤ 50 + kk ∧ q ≤ p + 1 + 200 * kk ∧ (∀ o ∈ os, o.ok = true) ∧ StP g w A m c os B d e is q wr) (fun _ _ k _ => 1 + N - (intOf k).toNat)
      case atStart => exact ⟨0, _, 0, 0, [], _, _, _, _, _, by omega, rfl, rfl, rfl, by omega, by omega, by omega, by omega, by simp, hS1⟩
      case round =>
        obtain ⟨k, A, m, c, os, B, d, e, is, q, hk, rfl, rfl, rfl, hm, hmc, hd, hq, hok, hS⟩ := hrel
        by_cases hlt : k < 1 + N
        · have hlti : (k : Int) < 1 + (N : Int) := by omega
          go_wp2_with fail
          refine (l91Object_any g q B d e is _ hS.2.2.1 (by omega) (RInts.of_own hS.2.1) (by omega) (fun ad hB => by have := own_far hS.2.1 ad hB; omega)).mono ?_
          rintro e' w3 ⟨v, q3, rfl, ⟨k1, A1, n1, c1, xs, t, rfl, hown1, hn1, hn1l, ht1, -, -⟩, hq3, hr3, hg3⟩
          have hS3 := hS.draw hgw hr3 hg3
          have hri := (RInts.of_own hown1).next (below_box w3 (.cells #[.int .i64 k1, .slice A1 n1 c1, .string t] 33))
          have bo := Blk.new w3 33 [.int .i64 k1, .slice A1 n1 c1, .string t]
          have hS4 := hS3.next (below_box w3 (.cells #[.int .i64 k1, .slice A1 n1 c1, .string t] 33))
          have HN1 := Lib.hid hn1
          clear hn1
          go_wp2_with fail
          generalize hW3 : w3.alloc (.cells #[.int .i64 k1, .slice A1 n1 c1, .string t] 33) = w4 at *
          have HW3 := Lib.hid hW3
          clear hW3
          refine (specValid_any _ _ _ _ xs _ _ hri (by simp only [maxLen]; omega)).mono ?_
          rintro e' w5 ⟨rfl, hb5⟩
          have hS5 := hS4.next hb5
          have bo5 := bo.next hb5
          have hri5 := hri.next hb5
          cases hv : objOkB k1 xs t
          · go_wp2_with fail
            go_roundw
            case rel => exact ⟨k + 1, A, m, c, os, B, d, e, is, q3, by omega, by go_num, rfl, rfl, by omega, hmc, by omega, by omega, hok, hS5⟩
            case measure => simp [intOf]; omega
          · have bo6 := bo5
            have hri6 := hri5
            have hS6 := hS5
            obtain ⟨c60, c61, c62⟩ := bo6.cells3
            skip
            have ho : (⟨k1, xs, t⟩ : Ob).ok = true := hv
            go_wp2_with fail
            refine (l1Put_any A m c os ⟨k1, xs, t⟩ A1 n1 c1 _ hS6.1.reads (by omega) hmc hok hri6 ho).mono ?_
            rintro e' w7 ⟨v7, rfl, hO7, hb7⟩
            have hok7 := putO_ok hok ho
            have hlen7 : (putO os ⟨k1, xs, t⟩).1.length ≤ m + 1 := by have := putO_len os ⟨k1, xs, t⟩; have := hS6.1.reads.1; omega
            generalize hP : putO os ⟨k1, xs, t⟩ = P at *
            have HP := Lib.hid hP
            clear hP
            obtain ⟨os7, b7⟩ := P
            simp only at hO7 hok7 hlen7
            generalize hM : os7.length = m7 at *
            have HM := Lib.hid hM
            clear hM
            obtain ⟨A7, c7, rfl, hmc7⟩ := hO7.form
            have hS7 := hS6.next hb7
            obtain ⟨c70, c71, c72⟩ := (bo6.next hb7).cells3
            have hri7 := hri6.next hb7
            cases b7
            · go_wp2_with fail
              go_roundw
              case rel => exact ⟨k + 1, A, m, c, os, B, d, e, is, q3, by omega, by go_num, rfl, rfl, by omega, hmc, by omega, by omega, hok, hS7⟩
              case measure => simp [intOf]; omega
            · go_wp2_with fail
              refine (l1Of_any _ _ _ _ xs _ _ hri7 (ObjOk.of hv)).mono ?_
              rintro e' w8 ⟨rfl, hb8⟩
              have hS8 := (hS7.next hb8).next (below_box w8 (.cells #[.int .i64 (idV k1 xs t)] 3))
              have hz8 := hS8.2.2.2.size
              generalize hI : idV k1 xs t = x8 at *
              have HI := Lib.hid hI
              clear hI
              go_wp2_with (at_builtin; go_loud (refine wpList_app rfl (.tmp 50) (.tmp 53) 27 rfl w.heap.size 3 Try.underlying27 int_info1 rfl (by omega) (by omega) _ d (ints is) rfl hS8.2.1 ⟨w8.heap.size, 0, none⟩ 1 1 [.int .i64 x8] rfl rfl (cell_one_new _ _ _) (by simp [Value.oneCell']) (by omega) hz8 ?_; intro B' d' w9 hown9 _ hb9 hg9 _))
              go_roundw
              case rel => exact ⟨k + 1, A7, m7, c7, os7, B', d + 1, d', is ++ [x8], q3, by omega, by go_num, rfl, rfl, by omega, hmc7, by omega, by omega, hok7, hS6.put hgw hO7 hb7 hb8 hown9 hb9 hg9⟩
              case measure => simp [intOf]; omega
        · have hlti : ¬ (k : Int) < 1 + (N : Int) := by omega
          go_wp2_with fail
          go_ret
          exact ⟨_, q, rfl, ⟨m, os, hS.1, by omega, hok⟩, by omega, hS.2.2.1, hS.2.2.2⟩
end Go.Proofs.Ytjofgbbofagoiaa
/- Walk: l92Quarantine: a drawn quarantine. -/
namespace Go.Proofs.Ytjofgbbofagoiaa
open Go.RowKit Go.Sort

def tinyQ (q : Qu) : Prop := (∀ o ∈ q.main, o.ok = true) ∧ q.main.length ≤ 21 ∧ q.ars.length ≤ 10 ∧ ∀ a ∈ q.ars, (∀ o ∈ a.os, o.ok = true) ∧ a.os.length ≤ 100
theorem setA_mem {t : Int} {ls : List Ob} {a : Ar} : ∀ {b : Bool} {ars : List Ar}, a ∈ setA t ls b ars → a ∈ ars ∨ a = ⟨t, ls⟩
  | b, [], h => by
    cases b
    · exact Or.inr (by simpa [setA] using h)
    · simp [setA] at h
  | b, x :: l, h => by
    unfold setA at h
    simp only [List.mem_append] at h
    rcases h with (h | h) | h
    · split at h
      · exact Or.inr (by simpa using h)
      · simp at h
    · split at h
      · simp at h
      · exact Or.inl (by simp at h; simp [h])
    · rcases setA_mem h with h | h
      · exact Or.inl (List.mem_cons_of_mem _ h)
      · exact Or.inr h
theorem setA_len {t : Int} {ls : List Ob} : ∀ (b : Bool) (ars : List Ar), (setA t ls b ars).length ≤ ars.length + (if b then 0 else 1)
  | b, [] => by cases b <;> simp [setA]
  | b, x :: l => by
    have ih := setA_len (t := t) (ls := ls) (b || decide (t ≤ x.t)) l
    unfold setA
    simp only [List.length_append, List.length_cons]
    have h2 : (if x.t = t then ([] : List Ar) else [x]).length ≤ 1 := by split <;> simp
    cases b
    · by_cases h : t ≤ x.t
      · simp [h] at ih ⊢
        omega
      · rw [decide_eq_false h] at ih ⊢
        simp at ih ⊢
        omega
    · simp at ih ⊢
      omega
theorem areaQ_tiny {q : Qu} {t : Int} (h : tinyQ q) : (∀ o ∈ areaQ q t, o.ok = true) ∧ (areaQ q t).length ≤ 100 := by
  unfold areaQ
  split
  · split
    · rename_i a ha
      exact h.2.2.2 a (List.mem_of_getElem? ha)
    · exact ⟨fun o h => by simp at h, by simp⟩
  · exact ⟨fun o h => by simp at h, by simp⟩
theorem qput_tiny {q x : Qu} {t : Int} {ls : List Ob} {k : Nat} (h : tinyQ q) (hk : q.ars.length ≤ k) (hk9 : k < 10) (hls : ∀ o ∈ ls, o.ok = true) (hx : qputQ q t ls = (x, true)) : tinyQ x ∧ x.main = q.main ∧ x.ars.length ≤ k + 1 := by
  unfold qputQ at hx
  split at hx
  · split at hx
    · injection hx with hx _
      subst hx
      obtain ⟨a1, a2⟩ := areaQ_tiny (t := t) h
      obtain ⟨b1, b2⟩ := allO_facts ls (areaQ q t) a1 hls a2
      have hl : (setQ q t (allO (areaQ q t) ls).1).ars.length ≤ k + 1 := by
        have := setA_len (t := t) (ls := (allO (areaQ q t) ls).1) (((allO (areaQ q t) ls).1.length : Int) == 0) q.ars
        unfold setQ
        split at this <;> (dsimp only; omega)
      refine ⟨⟨h.1, h.2.1, Nat.le_trans hl (by omega), fun a ha => ?_⟩, rfl, hl⟩
      rcases setA_mem ha with h1 | h1
      · exact h.2.2.2 a h1
      · subst h1; exact ⟨b1, b2⟩
    · cases hx
  · cases hx
/-- where l92Quarantine stands: the result's box r, the quarantine's box b -/
def DqSt (g : Nat) (w : World) (b : Nat) (A : Option Addr) (n c : Nat) (C : Option Addr) (m d : Nat) (q : Qu) (p : Nat) (wx : World) : Prop :=
  Blk wx w.heap.size 26 [.slice none 0 0, .slice none 0 0] ∧ Blk wx b 26 [.slice A n c, .slice C m d] ∧ OwnQ wx (w.heap.size + 1) [.slice A n c, .slice C m d] q ∧ Rd wx g p ∧ w.grownBy wx (some g)
section
variable {g b n c m d p : Nat} {w wx wy : World} {A C : Option Addr} {q : Qu}
theorem DqSt.draw {p' : Nat} (hgw : g < w.heap.size) (hb : w.heap.size < b) (h : DqSt g w b A n c C m d q p wx) (hr : Rd wy g p') (hg : wx.grownBy wy (some g)) : DqSt g w b A n c C m d q p' wy :=
  ⟨h.1.grown hg (fun e => by injection e with e; omega), h.2.1.grown hg (fun e => by injection e with e; omega), h.2.2.1.grown hg (by omega), hr, grown_trans h.2.2.2.2 hg⟩
theorem DqSt.next (h : DqSt g w b A n c C m d q p wx) (hb : Below wx.heap.size wx wy) : DqSt g w b A n c C m d q p wy :=
  ⟨h.1.next hb, h.2.1.next hb, h.2.2.1.next hb, h.2.2.2.1.keep hb, grown_below h.2.2.2.2 hb⟩
theorem grownQ {a w : World} {g b i : Nat} (h : a.grownBy w (some g)) (hb : a.heap.size ≤ b) (u : Value) : a.grownBy (w.setCell ⟨b, i, none⟩ u) (some g) :=
  ⟨h.os, h.tape, h.output, by simpa [World.setCell] using h.size, fun k hk hne => (Below.heap_setCell w ⟨b, i, none⟩ u k (by dsimp only; omega)).trans (h.block k hk hne)⟩
theorem DqSt.xset {gx : Nat} {cs : List Value} {u v : Value} (hgw : g < w.heap.size) (h : DqSt g w b A n c C m d q p wx) (hx : Blk wx gx 26 cs) (h1 : gx ≠ b) (h2 : w.heap.size < gx) : DqSt g w b A n c C m d q p ((wx.setCell ⟨gx, 0, none⟩ u).setCell ⟨gx, 1, none⟩ v) :=
  ⟨(h.1.far (p := ⟨gx, 0, none⟩) (by dsimp only; omega) _).far (p := ⟨gx, 1, none⟩) (by dsimp only; omega) _, (h.2.1.far (p := ⟨gx, 0, none⟩) (by dsimp only; omega) _).far (p := ⟨gx, 1, none⟩) (by dsimp only; omega) _, h.2.2.1.res hx, (h.2.2.2.1.store (by omega) _).store (by omega) _, grownQ (grownQ h.2.2.2.2 (by omega) _) (by omega) _⟩
theorem DqSt.put {q2 : Qu} {p' : Nat} {A2 C2 : Option Addr} {n2 c2 m2 d2 : Nat} (hgw : g < w.heap.size) (hb : w.heap.size < b) (h : DqSt g w b A n c C m d q p wx) (hq : OwnQ wx (w.heap.size + 1) [.slice A2 n2 c2, .slice C2 m2 d2] q2) (hp : p' = p) : DqSt g w b A2 n2 c2 C2 m2 d2 q2 p' ((wx.setCell ⟨b, 0, none⟩ (.slice A2 n2 c2)).setCell ⟨b, 1, none⟩ (.slice C2 m2 d2)) := by
  subst hp
  refine ⟨(h.1.far (p := ⟨b, 0, none⟩) (by dsimp only; omega) _).far (p := ⟨b, 1, none⟩) (by dsimp only; omega) _, ?_, hq.res h.2.1, (h.2.2.2.1.store (by omega) _).store (by omega) _, grownQ (grownQ h.2.2.2.2 (by omega) _) (by omega) _⟩
  have := (h.2.1.set_ 0 (.slice A2 n2 c2)).set_ 1 (.slice C2 m2 d2)
  simpa only [List.set_cons_zero, List.set_cons_succ] using this
theorem OwnQ.main {B : Nat} (h : OwnQ wx B [.slice A n c, .slice C m d] q) : OwnO wx B (.slice A n c) n q.main ∧ OwnA wx B (.slice C m d) m q.ars := by
  obtain ⟨A', n', c', C', m', d', e, h1, h2⟩ := h
  simp only [List.cons.injEq, Value.slice.injEq, and_true] at e
  obtain ⟨⟨rfl, rfl, rfl⟩, rfl, rfl, rfl⟩ := e
  exact ⟨h1, h2⟩
theorem grownBB {a x y : World} {g B : Nat} (h : a.grownBy x (some g)) (k : Below B x y) (hB : a.heap.size ≤ B) : a.grownBy y (some g) :=
  ⟨k.os.trans h.os, k.tape.trans h.tape, k.output.trans h.output, Nat.le_trans h.size k.size, fun i hi hne => (k.block i (by omega)).trans (h.block i hi hne)⟩
theorem DqSt.add {X w9 : World} {C9 : Option Addr} {d9 : Nat} {cs0 : List Value} {x : Ar} {v1 : Value} (hgw : g < w.heap.size) (hbb : w.heap.size < b) (h : DqSt g w b A n c C m d q p wx) (bz : Below wx.heap.size wx X) (hown : wx.ownsRow (w.heap.size + 1) 70 2 (.slice C m d) m cs0) (hel : ElemsA cs0 q.ars (ObIn wx (w.heap.size + 1)))
    (hob : ObIn X (w.heap.size + 1) v1 x.os) (hg9 : X.grownBy w9 (Value.slice C m d).ownBlock) (hb9 : Below (w.heap.size + 1) X w9) (hown9 : w9.ownsRow (w.heap.size + 1) 70 2 (.slice C9 (m + 1) d9) (m + 1) (cs0 ++ [.int .i64 x.t, v1])) :
    DqSt g w b A n c C9 (m + 1) d9 ⟨q.main, q.ars ++ [x]⟩ p (w9.setCell ⟨b, 1, none⟩ (.slice C9 (m + 1) d9)) := by
  obtain ⟨h1, h2, h3, h4, h5⟩ := h.next bz
  have hown' := own_below hown bz
  have hA9 := OwnA.push hown' (hel.mono fun _ _ hx => hx.next bz) hob hg9 hown9
  have hO9 := h3.main.1.other hg9 fun g' e => by
    rcases hown'.2 with ⟨h0, _⟩ | ⟨g1, cap, cur, hv, _, hh, _⟩
    · rw [h0] at e; cases e
    · rw [hv] at e
      have : g1 = g' := by simpa [Value.ownBlock] using e
      subst this
      exact ⟨_, _, _, hh, by decide, by decide⟩
  have hB9 := h2.grown hg9 (fun e => own_ne_blk hown' h2 (by decide) e.symm)
  have hR9 := h1.grown hg9 (fun e => own_ne_blk hown' h1 (by decide) e.symm)
  have hgs := grownSetQ w9 b 1 (.slice C9 (m + 1) d9)
  have hty : ∀ g', some b = some g' → ∃ cs e fz, w9.heap[g']? = some (.cells cs e fz) ∧ e ≠ 3 ∧ e ≠ 33 ∧ e ≠ 70 := fun g' e => by
    injection e with e
    subst e
    exact ⟨_, _, _, hB9, by decide, by decide, by decide⟩
  refine ⟨hR9.far (p := ⟨b, 1, none⟩) (by dsimp only; omega) _, ?_, ⟨A, n, c, C9, m + 1, d9, rfl, hO9.other hgs (fun g' e => by obtain ⟨a, b, c, h1, h2, h3, _⟩ := hty g' e; exact ⟨a, b, c, h1, h2, h3⟩), hA9.other hgs hty⟩, (h4.below hb9 (by omega)).store (by omega) _, grownQ (grownBB h5 hb9 (by omega)) (by omega) _⟩
  have := hB9.set_ 1 (.slice C9 (m + 1) d9)
  simpa only [List.set_cons_zero, List.set_cons_succ] using this
theorem DqSt.setMain {A2 : Option Addr} {n2 c2 : Nat} {os : List Ob} (hgw : g < w.heap.size) (hbb : w.heap.size < b) (h : DqSt g w b A n c C m d q p wx) (hO : OwnO wx (w.heap.size + 1) (.slice A2 n2 c2) n2 os) : DqSt g w b A2 n2 c2 C m d ⟨os, q.ars⟩ p (wx.setCell ⟨b, 0, none⟩ (.slice A2 n2 c2)) := by
  obtain ⟨h1, h2, h3, h4, h5⟩ := h
  have hgs := grownSetQ wx b 0 (.slice A2 n2 c2)
  have hty : ∀ g', some b = some g' → ∃ cs e fz, wx.heap[g']? = some (.cells cs e fz) ∧ e ≠ 3 ∧ e ≠ 33 ∧ e ≠ 70 := fun g' e => by
    injection e with e
    subst e
    exact ⟨_, _, _, h2, by decide, by decide, by decide⟩
  refine ⟨h1.far (p := ⟨b, 0, none⟩) (by dsimp only; omega) _, ?_, ⟨A2, n2, c2, C, m, d, rfl, hO.other hgs (fun g' e => by obtain ⟨a, b, c, h1, h2, h3, _⟩ := hty g' e; exact ⟨a, b, c, h1, h2, h3⟩), h3.main.2.other hgs hty⟩, h4.store (by omega) _, grownQ h5 (by omega) _⟩
  have := h2.set_ 0 (.slice A2 n2 c2)
  simpa only [List.set_cons_zero, List.set_cons_succ] using this
end
set_option maxRecDepth 100000 in
set_option maxHeartbeats 6400000 in
theorem l92Quarantine_any (g p : Nat) (w : World) (h : Rd w g p) (hp : p ≤ 500000) :
    Calls Try.prog 38 #[.pointer (some ⟨g, 0, none⟩)] w (Drawn g p 20000 w fun v w' => ∃ cs q, v = .agg cs.toArray ∧ OwnQ w' w.heap.size cs q ∧ tinyQ q) := by
  have hgw := h.lt
  have b0 := below_box w (.cells #[.slice none 0 0, .slice none 0 0] 26)
  have x0 := Blk.new w 26 [.slice none 0 0, .slice none 0 0]
  go_enter Try.func38, Try.ntmps38
  go_wp2_with fail
  refine (l91Store_any g p _ (h.keep b0) (by omega)).mono ?_
  rintro e w1 ⟨v1, p1, rfl, ⟨n, os, hO1, hn20, hok⟩, hp1, hr1, hg1⟩
  obtain ⟨A, c, rfl, hnc⟩ := hO1.form
  have x01 := x0.grown hg1 (fun e => by injection e with e; omega)
  have hg01 := grown_trans (grown_below (World.grownBy.refl w (some g)) b0) hg1
  have hz1 : w.heap.size + 1 ≤ w1.heap.size := by have := hg1.size; simpa using this
  have e2 := below_box w1 (.cells #[] 70)
  have e3 := below_ext e2 (below_box (w1.alloc (.cells #[] 70)) (.cells #[.slice A n c, .slice (some ⟨w1.heap.size, 0, none⟩) 0 0] 26))
  have x2 := (Blk.new w1 70 []).alloc (.cells #[.slice A n c, .slice (some ⟨w1.heap.size, 0, none⟩) 0 0] 26)
  have x3 : Blk ((w1.alloc (.cells #[] 70)).alloc (.cells #[.slice A n c, .slice (some ⟨w1.heap.size, 0, none⟩) 0 0] 26)) (w1.heap.size + 1) 26 [.slice A n c, .slice (some ⟨w1.heap.size, 0, none⟩) 0 0] := by simpa using Blk.new (w1.alloc (.cells #[] 70)) 26 [.slice A n c, .slice (some ⟨w1.heap.size, 0, none⟩) 0 0]
  have hO3 : OwnO ((w1.alloc (.cells #[] 70)).alloc (.cells #[.slice A n c, .slice (some ⟨w1.heap.size, 0, none⟩) 0 0] 26)) (w.heap.size + 1) (.slice A n c) n os := (hO1.base (B' := w.heap.size + 1) (by simp)).next e3
  have hSt : DqSt g w (w1.heap.size + 1) A n c (some ⟨w1.heap.size, 0, none⟩) 0 0 ⟨os, []⟩ p1 ((w1.alloc (.cells #[] 70)).alloc (.cells #[.slice A n c, .slice (some ⟨w1.heap.size, 0, none⟩) 0 0] 26)) :=
    ⟨x01.next e3, x3, ⟨A, n, c, _, 0, 0, rfl, hO3, OwnA.emp x2 hz1⟩, hr1.keep e3, grown_below hg01 e3⟩
  have hln : os.length = n := OwnR.len hO1
  have hT0 : tinyQ ⟨os, []⟩ := ⟨hok, by dsimp only; omega, by simp, fun a h => by simp at h⟩
  have HLN := Lib.hid hln
  have hbb : w.heap.size < w1.heap.size + 1 := by omega
  clear hO1 hO3 x2 x3 x01 x0 hln hg01 hr1 hg1 e2 e3 b0
  go_wp2_with fail
  refine (pick_any g p1 6 _ hSt.2.2.2.1 (by omega) (by omega) (by omega)).mono ?_
  rintro e w2 ⟨v2, rfl, h20, h21, hr2, hg2⟩
  have hS2 := hSt.draw hgw hbb hr2 hg2
  obtain ⟨N, rfl⟩ := Int.eq_ofNat_of_zero_le h20
  have hN : N ≤ 5 := by omega
  clear hSt hr2 hg2 h20 h21
  go_wp2_with fail
  generalize w1.heap.size + 1 = gb at *
  go_loopw [5] (fun i wr => ∃ (k : Nat) (A : Option Addr) (n c : Nat) (C : Option Addr) (m d : Nat) (q : Qu) (p' : Nat), k ≤ N ∧ i = .int .i64 k ∧ p' ≤ p + 5001 + 1001 * k ∧ q.main = os ∧ q.ars.length ≤ k ∧ tinyQ q ∧ DqSt g w gb A n c C m d q p' wr) (fun i _ => N - (intOf i).toNat)
  case atStart => exact ⟨0, A, n, c, _, 0, 0, _, _, by omega, rfl, by omega, rfl, Nat.le_refl _, hT0, hS2⟩
  case round =>
    obtain ⟨k, A, n, c, C, m, d, q, p', hk, rfl, hp', hmain, hars, hT, hS⟩ := hrel
    obtain ⟨hX0, hXb, hQ, hR, hG⟩ := id hS
    obtain ⟨y0, y1⟩ := hXb.cells2
    by_cases hlt : k < N
    · have hbd : Below wr.heap.size wr wr.drew := (Below.refl _ _).drew
      have hSd := hS.next hbd
      obtain ⟨yd0, yd1⟩ := hSd.2.1.cells2
      have hlti : (k : Int) < (N : Int) := by omega
      have HT := Lib.hid hT
      have hok' := hT.1
      have hln' := hT.2.1
      have hgb : gb ≠ g := by omega
      have hnl : q.main.length = n := OwnR.len hQ.main.1
      have hn21 : n ≤ 21 := by omega
      clear hnl hln'
      go_wp2_with fail
      have hS0 : ∀ (b_ : Bool) (w' : World), (w'.cell? ⟨gb, 0, none⟩ = some (.slice A n c) ∧ w'.cell? ⟨gb, 1, none⟩ = some (.slice C m d)) → (w'.cell? ⟨gb, 0, none⟩ = some (.slice A n c) ∧ w'.cell? ⟨gb, 1, none⟩ = some (.slice C m d)) := fun _ _ h => h
      refine wp_region_L (fun _ w' => w'.cell? ⟨gb, 0, none⟩ = some (.slice A n c) ∧ w'.cell? ⟨gb, 1, none⟩ = some (.slice C m d)) 11 (by kernel_rfl) ⟨yd0, yd1⟩ (fun hHeld => ?_)
      refine wpAnyL_take (i := 0) (v := ?_) op0 (by kernel_rfl) (by kernel_rfl) (by kernel_rfl) (by rfl) (fun _ _ _ h => h) (b := false) (by kernel_rfl) hHeld hS0 (Or.inl ⟨by rfl, ?_⟩) (by kernel_rfl) ?_
      rotate_left
      · intro wS hSw; (try dsimp only at hSw); go_simp; (try with_reducible rfl)
      (try simp only [Act.put, List.setIfInBounds_toArray, List.set_cons_zero, List.set_cons_succ])
      refine wpAnyL_take (i := 1) (v := ?_) op1 (by kernel_rfl) (by kernel_rfl) (by kernel_rfl) (by rfl) (fun _ _ _ h => h) (b := false) (by kernel_rfl) hHeld hS0 (Or.inl ⟨by rfl, ?_⟩) (by kernel_rfl) ?_
      rotate_left
      · intro wS hSw; (try dsimp only at hSw); go_simp; (try with_reducible rfl)
      (try simp only [Act.put, List.setIfInBounds_toArray, List.set_cons_zero, List.set_cons_succ])
      refine wpAnyL_take (i := 3) (v := ?_) op3 (by kernel_rfl) (by kernel_rfl) (by kernel_rfl) (by rfl) (fun _ _ _ h => h) (b := false) (by kernel_rfl) hHeld hS0 (Or.inl ⟨by rfl, ?_⟩) (by kernel_rfl) ?_
      rotate_left
      · intro wS hSw; (try dsimp only at hSw); go_simp; (try with_reducible rfl)
      (try simp only [Act.put, List.setIfInBounds_toArray, List.set_cons_zero, List.set_cons_succ])
      refine wpAnyL_take (i := 4) (v := ?_) op4 (by kernel_rfl) (by kernel_rfl) (by kernel_rfl) (by rfl) (fun _ _ _ h => h) (b := false) (by kernel_rfl) hHeld hS0 (Or.inl ⟨by rfl, ?_⟩) (by kernel_rfl) ?_
      rotate_left
      · intro wS hSw; (try dsimp only at hSw); go_simp; (try with_reducible rfl)
      (try simp only [Act.put, List.setIfInBounds_toArray, List.set_cons_zero, List.set_cons_succ])
      refine wpAnyL_take (i := 5) (v := ?_) op5 (by kernel_rfl) (by kernel_rfl) (by kernel_rfl) (by rfl) (fun _ _ _ h => h) (b := false) (by kernel_rfl) hHeld hS0 (Or.inl ⟨by rfl, ?_⟩) (by kernel_rfl) ?_
      rotate_left
      · intro wS hSw; (try dsimp only at hSw); go_simp; (try with_reducible rfl)
      (try simp only [Act.put, List.setIfInBounds_toArray, List.set_cons_zero, List.set_cons_succ])
      refine wpAnyL_ready (rs := [2, 11]) (by kernel_rfl) rfl ?_
      refine AllReadyL.cons (b := false) op2 (by kernel_rfl) (fun K hK => ?_) (AllReadyL.cons (b := true) op11 (by kernel_rfl) (fun K hK => ?_) AllReadyL.nil)
      · go_simp
        go_at_call 41
        refine (pick_any g _ 5 _ hSd.2.2.2.1 (by omega) (by omega) (by omega)).mono ?_
        rintro e w1p ⟨v3, rfl, h30, h31, hr1, hg1⟩
        have hS1 := hSd.draw hgw hbb hr1 hg1
        obtain ⟨ya2, yb2⟩ := hS1.2.1.cells2
        go_wp2_with fail
        refine hK.out _ _ (⟨hS1.2.1.cells2.1, hS1.2.1.cells2.2⟩) (fun hHeld => ?_)
        clear hK K
        (try simp only [Act.put, List.setIfInBounds_toArray, List.set_cons_zero, List.set_cons_succ])
        refine wpAnyL_ready (rs := [6, 11]) (by kernel_rfl) rfl ?_
        refine AllReadyL.cons (b := false) op6 (by kernel_rfl) (fun K hK => ?_) (AllReadyL.cons (b := true) op11 (by kernel_rfl) (fun K hK => ?_) AllReadyL.nil)
        · go_simp
          go_at_call 64
          refine (l92Some_any g _ A n c q.main _ hS1.2.2.2.1 (by omega) hS1.2.2.1.main.1.reads (by omega) hok').mono ?_
          rintro e w3p ⟨v4, p4, rfl, ⟨m4, ls, hO4, hm4, hok4⟩, hp4, hr3, hg3⟩
          obtain ⟨A4, c4, rfl, hm4c⟩ := hO4.form
          have hS3 := hS1.draw hgw hbb hr3 hg3
          obtain ⟨ya4, yb4⟩ := hS3.2.1.cells2
          go_wp2_with fail
          refine hK.out _ _ (⟨hS3.2.1.cells2.1, hS3.2.1.cells2.2⟩) (fun hHeld => ?_)
          clear hK K
          (try simp only [Act.put, List.setIfInBounds_toArray, List.set_cons_zero, List.set_cons_succ])
          refine wpAnyL_ready (rs := [7, 11]) (by kernel_rfl) rfl ?_
          refine AllReadyL.cons (b := false) op7 (by kernel_rfl) (fun K hK => ?_) (AllReadyL.cons (b := true) op11 (by kernel_rfl) (fun K hK => ?_) AllReadyL.nil)
          · go_simp
            go_at_call 25
            refine (specQuarantinePut_any _ q _ A4 m4 c4 ls _ hS3.2.2.1.rep0 hO4.reads (by simp only [maxLen]; omega)).mono ?_
            rintro e w5p ⟨cs5, rfl, hQ5, hb5⟩
            obtain ⟨RA, rn, rc, RC, rm, rd, rfl, hqa, hqb⟩ := id hQ5
            clear hqa hqb
            obtain ⟨PX, HPX⟩ : ∃ PX, Hid (qputQ q v3 ls = PX) := ⟨_, Lib.hid rfl⟩
            rw [HPX.out] at hQ5
            rw [HPX.out]
            obtain ⟨qx, bx⟩ := PX
            dsimp only at hQ5 ⊢
            have hQ5b := hQ5.base (B' := w.heap.size + 1) (by have := hS3.1.lt; omega)
            have hS5 := hS3.next hb5
            obtain ⟨ya6, yb6⟩ := hS5.2.1.cells2
            go_wp2_with fail
            refine hK.out _ _ (⟨hS5.2.1.cells2.1, hS5.2.1.cells2.2⟩) (fun hHeld => ?_)
            clear hK K
            (try simp only [Act.put, List.setIfInBounds_toArray, List.set_cons_zero, List.set_cons_succ])
            refine wpAnyL_take (i := 8) (v := ?_) op8 (by kernel_rfl) (by kernel_rfl) (by kernel_rfl) (by rfl) (fun _ _ _ h => h) (b := false) (by kernel_rfl) hHeld hS0 (Or.inl ⟨by rfl, ?_⟩) (by kernel_rfl) ?_
            rotate_left
            · intro wS hSw; (try dsimp only at hSw); go_simp; (try with_reducible rfl)
            (try simp only [Act.put, List.setIfInBounds_toArray, List.set_cons_zero, List.set_cons_succ])
            refine wpAnyL_take (i := 9) (v := ?_) op9 (by kernel_rfl) (by kernel_rfl) (by kernel_rfl) (by rfl) (fun _ _ _ h => h) (b := false) (by kernel_rfl) hHeld hS0 (Or.inl ⟨by rfl, ?_⟩) (by kernel_rfl) ?_
            rotate_left
            · intro wS hSw; (try dsimp only at hSw); go_simp; (try with_reducible rfl)
            (try simp only [Act.put, List.setIfInBounds_toArray, List.set_cons_zero, List.set_cons_succ])
            refine wpAnyL_take (i := 10) (v := ?_) op10 (by kernel_rfl) (by kernel_rfl) (by kernel_rfl) (by rfl) (fun _ _ _ h => h) (b := false) (by kernel_rfl) hHeld hS0 (Or.inl ⟨by rfl, ?_⟩) (by kernel_rfl) ?_
            rotate_left
            · intro wS hSw; (try dsimp only at hSw); go_simp; (try with_reducible rfl)
            (try simp only [Act.put, List.setIfInBounds_toArray, List.set_cons_zero, List.set_cons_succ])
            refine wpAnyL_ready (rs := [11]) (by kernel_rfl) rfl ?_
            refine AllReadyL.cons (b := true) op11 (by kernel_rfl) (fun K hK => ?_) AllReadyL.nil
            go_simp
            have hS7 := hS5.next (below_box w5p (.cells #[.slice none 0 0, .slice none 0 0] 26))
            have hx7 : Blk (w5p.alloc (.cells #[.slice none 0 0, .slice none 0 0] 26)) w5p.heap.size 26 [.slice none 0 0, .slice none 0 0] := Blk.new w5p 26 [.slice none 0 0, .slice none 0 0]
            have hxl7 : w.heap.size < w5p.heap.size ∧ gb < w5p.heap.size := ⟨hS5.1.lt, hS5.2.1.lt⟩
            obtain ⟨ya8, yb8⟩ := hS7.2.1.cells2
            refine hK.out _ _ (⟨hS7.2.1.cells2.1, hS7.2.1.cells2.2⟩) (fun hHeld => ?_)
            clear hK K
            (try simp only [Act.put, List.setIfInBounds_toArray, List.set_cons_zero, List.set_cons_succ])
            refine wpAnyL_ready (rs := [12]) (by kernel_rfl) rfl ?_
            refine AllReadyL.cons (b := true) op12 (by kernel_rfl) (fun K hK => ?_) AllReadyL.nil
            go_simp
            have hS9 := hS5.next (below_box w5p (.cells #[.slice RA rn rc, .slice RC rm rd] 26))
            have hx9 := Blk.new w5p 26 [.slice RA rn rc, .slice RC rm rd]
            have hQ9 := hQ5b.next (below_box w5p (.cells #[.slice RA rn rc, .slice RC rm rd] 26))
            obtain ⟨ya10, yb10⟩ := hS9.2.1.cells2
            refine hK.out _ _ (⟨hS9.2.1.cells2.1, hS9.2.1.cells2.2⟩) (fun hHeld => ?_)
            clear hK K
            (try simp only [Act.put, List.setIfInBounds_toArray, List.set_cons_zero, List.set_cons_succ])
            refine wpAnyL_take (i := 13) (v := ?_) op13 (by kernel_rfl) (by kernel_rfl) (by kernel_rfl) (by rfl) (fun _ _ _ h => h) (b := true) (by kernel_rfl) hHeld hS0 (Or.inl ⟨by rfl, ?_⟩) (by kernel_rfl) ?_
            rotate_left
            · intro wS hSw; (try dsimp only at hSw); go_simp; (try with_reducible rfl)
            (try simp only [Act.put, List.setIfInBounds_toArray, List.set_cons_zero, List.set_cons_succ])
            refine wpAnyL_done (by kernel_rfl) ?_ _
            generalize hWM : w5p.alloc (.cells #[.slice RA rn rc, .slice RC rm rd] 26) = wM at *
            clear hWM
            generalize w5p.heap.size = gM at *
            obtain ⟨ea, eb⟩ := hx9.cells2
            obtain ⟨da, db⟩ := hS9.2.1.cells2
            have df0 := hS9.2.1.frozen 0
            have df1 := hS9.2.1.frozen 1
            cases bx
            · go_wp2_with fail
              go_roundw
              case rel => exact ⟨k + 1, A, n, c, C, m, d, q, _, by omega, by go_num, by omega, hmain, by omega, HT.out, hS9⟩
              case measure => simp [intOf]; omega
            · obtain ⟨k1, k2, k3⟩ := qput_tiny HT.out hars (by omega) hok4 HPX.out
              have hS8 := hS9.put hgw hbb hQ9 rfl
              go_wp2_with fail
              go_roundw
              case rel => exact ⟨k + 1, RA, rn, rc, RC, rm, rd, qx, _, by omega, by go_num, by omega, k2.trans hmain, k3, k1, hS8⟩
              case measure => simp [intOf]; omega
          · go_simp
            have hS11 := hS3.next (below_box w3p (.cells #[.slice none 0 0, .slice none 0 0] 26))
            have hx11 : Blk (w3p.alloc (.cells #[.slice none 0 0, .slice none 0 0] 26)) w3p.heap.size 26 [.slice none 0 0, .slice none 0 0] := Blk.new w3p 26 [.slice none 0 0, .slice none 0 0]
            have hxl11 : w.heap.size < w3p.heap.size ∧ gb < w3p.heap.size := ⟨hS3.1.lt, hS3.2.1.lt⟩
            obtain ⟨ya12, yb12⟩ := hS11.2.1.cells2
            have hO4n := hO4.next (below_box w3p (.cells #[.slice none 0 0, .slice none 0 0] 26))
            refine hK.out _ _ (⟨hS11.2.1.cells2.1, hS11.2.1.cells2.2⟩) (fun hHeld => ?_)
            clear hK K
            (try simp only [Act.put, List.setIfInBounds_toArray, List.set_cons_zero, List.set_cons_succ])
            refine wpAnyL_ready (rs := [7]) (by kernel_rfl) rfl ?_
            refine AllReadyL.cons (b := true) op7 (by kernel_rfl) (fun K hK => ?_) AllReadyL.nil
            go_simp
            go_at_call 25
            refine (specQuarantinePut_any _ q _ A4 m4 c4 ls _ hS11.2.2.1.rep0 hO4n.reads (by simp only [maxLen]; omega)).mono ?_
            rintro e w13p ⟨cs5, rfl, hQ5, hb5⟩
            obtain ⟨RA, rn, rc, RC, rm, rd, rfl, hqa, hqb⟩ := id hQ5
            clear hqa hqb
            obtain ⟨PX, HPX⟩ : ∃ PX, Hid (qputQ q v3 ls = PX) := ⟨_, Lib.hid rfl⟩
            rw [HPX.out] at hQ5
            rw [HPX.out]
            obtain ⟨qx, bx⟩ := PX
            dsimp only at hQ5 ⊢
            have hQ5b := hQ5.base (B' := w.heap.size + 1) (by have := hS11.1.lt; omega)
            have hS13 := hS11.next hb5
            have hx14 := hx11.next hb5
            obtain ⟨ya15, yb15⟩ := hS13.2.1.cells2
            go_wp2_with fail
            refine hK.out _ _ (⟨hS13.2.1.cells2.1, hS13.2.1.cells2.2⟩) (fun hHeld => ?_)
            clear hK K
            (try simp only [Act.put, List.setIfInBounds_toArray, List.set_cons_zero, List.set_cons_succ])
            refine wpAnyL_take (i := 8) (v := ?_) op8 (by kernel_rfl) (by kernel_rfl) (by kernel_rfl) (by rfl) (fun _ _ _ h => h) (b := true) (by kernel_rfl) hHeld hS0 (Or.inl ⟨by rfl, ?_⟩) (by kernel_rfl) ?_
            rotate_left
            · intro wS hSw; (try dsimp only at hSw); go_simp; (try with_reducible rfl)
            (try simp only [Act.put, List.setIfInBounds_toArray, List.set_cons_zero, List.set_cons_succ])
            refine wpAnyL_take (i := 9) (v := ?_) op9 (by kernel_rfl) (by kernel_rfl) (by kernel_rfl) (by rfl) (fun _ _ _ h => h) (b := true) (by kernel_rfl) hHeld hS0 (Or.inl ⟨by rfl, ?_⟩) (by kernel_rfl) ?_
            rotate_left
            · intro wS hSw; (try dsimp only at hSw); go_simp; (try with_reducible rfl)
            (try simp only [Act.put, List.setIfInBounds_toArray, List.set_cons_zero, List.set_cons_succ])
            refine wpAnyL_take (i := 10) (v := ?_) op10 (by kernel_rfl) (by kernel_rfl) (by kernel_rfl) (by rfl) (fun _ _ _ h => h) (b := true) (by kernel_rfl) hHeld hS0 (Or.inl ⟨by rfl, ?_⟩) (by kernel_rfl) ?_
            rotate_left
            · intro wS hSw; (try dsimp only at hSw); go_simp; (try with_reducible rfl)
            (try simp only [Act.put, List.setIfInBounds_toArray, List.set_cons_zero, List.set_cons_succ])
            refine wpAnyL_ready (rs := [12]) (by kernel_rfl) rfl ?_
            refine AllReadyL.cons (b := true) op12 (by kernel_rfl) (fun K hK => ?_) AllReadyL.nil
            obtain ⟨xa16, xb16⟩ := hx14.cells2
            have xf16 := hx14.frozen 0
            have xg16 := hx14.frozen 1
            have hz16 := (hx14.set_ 0 (.slice RA rn rc)).set_ 1 (.slice RC rm rd)
            simp only [List.set_cons_zero, List.set_cons_succ] at hz16
            go_simp
            have hS16 := DqSt.xset (u := .slice RA rn rc) (v := .slice RC rm rd) hgw hS13 hx14 (by have := hxl11; omega) (by have := hxl11; omega)
            have hx16 := hz16
            have hQ16 := OwnQ.res (u := .slice RA rn rc) (v := .slice RC rm rd) hQ5b hx14
            obtain ⟨ya17, yb17⟩ := hS16.2.1.cells2
            refine hK.out _ _ (⟨hS16.2.1.cells2.1, hS16.2.1.cells2.2⟩) (fun hHeld => ?_)
            clear hK K
            (try simp only [Act.put, List.setIfInBounds_toArray, List.set_cons_zero, List.set_cons_succ])
            refine wpAnyL_take (i := 13) (v := ?_) op13 (by kernel_rfl) (by kernel_rfl) (by kernel_rfl) (by rfl) (fun _ _ _ h => h) (b := true) (by kernel_rfl) hHeld hS0 (Or.inl ⟨by rfl, ?_⟩) (by kernel_rfl) ?_
            rotate_left
            · intro wS hSw; (try dsimp only at hSw); go_simp; (try with_reducible rfl)
            (try simp only [Act.put, List.setIfInBounds_toArray, List.set_cons_zero, List.set_cons_succ])
            refine wpAnyL_done (by kernel_rfl) ?_ _
            obtain ⟨ea, eb⟩ := hx16.cells2
            obtain ⟨da, db⟩ := hS16.2.1.cells2
            have df0 := hS16.2.1.frozen 0
            have df1 := hS16.2.1.frozen 1
            cases bx
            · go_wp2_with fail
              go_roundw
              case rel => exact ⟨k + 1, A, n, c, C, m, d, q, _, by omega, by go_num, by omega, hmain, by omega, HT.out, hS16⟩
              case measure => simp [intOf]; omega
            · obtain ⟨k1, k2, k3⟩ := qput_tiny HT.out hars (by omega) hok4 HPX.out
              have hS8 := hS16.put hgw hbb hQ16 rfl
              go_wp2_with fail
              go_roundw
              case rel => exact ⟨k + 1, RA, rn, rc, RC, rm, rd, qx, _, by omega, by go_num, by omega, k2.trans hmain, k3, k1, hS8⟩
              case measure => simp [intOf]; omega
        · go_simp
          have hS18 := hS1.next (below_box w1p (.cells #[.slice none 0 0, .slice none 0 0] 26))
          have hx18 : Blk (w1p.alloc (.cells #[.slice none 0 0, .slice none 0 0] 26)) w1p.heap.size 26 [.slice none 0 0, .slice none 0 0] := Blk.new w1p 26 [.slice none 0 0, .slice none 0 0]
          have hxl18 : w.heap.size < w1p.heap.size ∧ gb < w1p.heap.size := ⟨hS1.1.lt, hS1.2.1.lt⟩
          obtain ⟨ya19, yb19⟩ := hS18.2.1.cells2
          refine hK.out _ _ (⟨hS18.2.1.cells2.1, hS18.2.1.cells2.2⟩) (fun hHeld => ?_)
          clear hK K
          (try simp only [Act.put, List.setIfInBounds_toArray, List.set_cons_zero, List.set_cons_succ])
          refine wpAnyL_ready (rs := [6]) (by kernel_rfl) rfl ?_
          refine AllReadyL.cons (b := true) op6 (by kernel_rfl) (fun K hK => ?_) AllReadyL.nil
          go_simp
          go_at_call 64
          refine (l92Some_any g _ A n c q.main _ hS18.2.2.2.1 (by omega) hS18.2.2.1.main.1.reads (by omega) hok').mono ?_
          rintro e w20p ⟨v4, p4, rfl, ⟨m4, ls, hO4, hm4, hok4⟩, hp4, hr20, hg20⟩
          obtain ⟨A4, c4, rfl, hm4c⟩ := hO4.form
          have hS20 := hS18.draw hgw hbb hr20 hg20
          have hx21 := hx18.grown hg20 (fun e => by injection e with e; have := hxl18; omega)
          obtain ⟨ya22, yb22⟩ := hS20.2.1.cells2
          go_wp2_with fail
          refine hK.out _ _ (⟨hS20.2.1.cells2.1, hS20.2.1.cells2.2⟩) (fun hHeld => ?_)
          clear hK K
          (try simp only [Act.put, List.setIfInBounds_toArray, List.set_cons_zero, List.set_cons_succ])
          refine wpAnyL_ready (rs := [7]) (by kernel_rfl) rfl ?_
          refine AllReadyL.cons (b := true) op7 (by kernel_rfl) (fun K hK => ?_) AllReadyL.nil
          go_simp
          go_at_call 25
          refine (specQuarantinePut_any _ q _ A4 m4 c4 ls _ hS20.2.2.1.rep0 hO4.reads (by simp only [maxLen]; omega)).mono ?_
          rintro e w23p ⟨cs5, rfl, hQ5, hb5⟩
          obtain ⟨RA, rn, rc, RC, rm, rd, rfl, hqa, hqb⟩ := id hQ5
          clear hqa hqb
          obtain ⟨PX, HPX⟩ : ∃ PX, Hid (qputQ q v3 ls = PX) := ⟨_, Lib.hid rfl⟩
          rw [HPX.out] at hQ5
          rw [HPX.out]
          obtain ⟨qx, bx⟩ := PX
          dsimp only at hQ5 ⊢
          have hQ5b := hQ5.base (B' := w.heap.size + 1) (by have := hS20.1.lt; omega)
          have hS23 := hS20.next hb5
          have hx24 := hx21.next hb5
          obtain ⟨ya25, yb25⟩ := hS23.2.1.cells2
          go_wp2_with fail
          refine hK.out _ _ (⟨hS23.2.1.cells2.1, hS23.2.1.cells2.2⟩) (fun hHeld => ?_)
          clear hK K
          (try simp only [Act.put, List.setIfInBounds_toArray, List.set_cons_zero, List.set_cons_succ])
          refine wpAnyL_take (i := 8) (v := ?_) op8 (by kernel_rfl) (by kernel_rfl) (by kernel_rfl) (by rfl) (fun _ _ _ h => h) (b := true) (by kernel_rfl) hHeld hS0 (Or.inl ⟨by rfl, ?_⟩) (by kernel_rfl) ?_
          rotate_left
          · intro wS hSw; (try dsimp only at hSw); go_simp; (try with_reducible rfl)
          (try simp only [Act.put, List.setIfInBounds_toArray, List.set_cons_zero, List.set_cons_succ])
          refine wpAnyL_take (i := 9) (v := ?_) op9 (by kernel_rfl) (by kernel_rfl) (by kernel_rfl) (by rfl) (fun _ _ _ h => h) (b := true) (by kernel_rfl) hHeld hS0 (Or.inl ⟨by rfl, ?_⟩) (by kernel_rfl) ?_
          rotate_left
          · intro wS hSw; (try dsimp only at hSw); go_simp; (try with_reducible rfl)
          (try simp only [Act.put, List.setIfInBounds_toArray, List.set_cons_zero, List.set_cons_succ])
          refine wpAnyL_take (i := 10) (v := ?_) op10 (by kernel_rfl) (by kernel_rfl) (by kernel_rfl) (by rfl) (fun _ _ _ h => h) (b := true) (by kernel_rfl) hHeld hS0 (Or.inl ⟨by rfl, ?_⟩) (by kernel_rfl) ?_
          rotate_left
          · intro wS hSw; (try dsimp only at hSw); go_simp; (try with_reducible rfl)
          (try simp only [Act.put, List.setIfInBounds_toArray, List.set_cons_zero, List.set_cons_succ])
          refine wpAnyL_ready (rs := [12]) (by kernel_rfl) rfl ?_
          refine AllReadyL.cons (b := true) op12 (by kernel_rfl) (fun K hK => ?_) AllReadyL.nil
          obtain ⟨xa26, xb26⟩ := hx24.cells2
          have xf26 := hx24.frozen 0
          have xg26 := hx24.frozen 1
          have hz26 := (hx24.set_ 0 (.slice RA rn rc)).set_ 1 (.slice RC rm rd)
          simp only [List.set_cons_zero, List.set_cons_succ] at hz26
          go_simp
          have hS26 := DqSt.xset (u := .slice RA rn rc) (v := .slice RC rm rd) hgw hS23 hx24 (by have := hxl18; omega) (by have := hxl18; omega)
          have hx26 := hz26
          have hQ26 := OwnQ.res (u := .slice RA rn rc) (v := .slice RC rm rd) hQ5b hx24
          obtain ⟨ya27, yb27⟩ := hS26.2.1.cells2
          refine hK.out _ _ (⟨hS26.2.1.cells2.1, hS26.2.1.cells2.2⟩) (fun hHeld => ?_)
          clear hK K
          (try simp only [Act.put, List.setIfInBounds_toArray, List.set_cons_zero, List.set_cons_succ])
          refine wpAnyL_take (i := 13) (v := ?_) op13 (by kernel_rfl) (by kernel_rfl) (by kernel_rfl) (by rfl) (fun _ _ _ h => h) (b := true) (by kernel_rfl) hHeld hS0 (Or.inl ⟨by rfl, ?_⟩) (by kernel_rfl) ?_
          rotate_left
          · intro wS hSw; (try dsimp only at hSw); go_simp; (try with_reducible rfl)
          (try simp only [Act.put, List.setIfInBounds_toArray, List.set_cons_zero, List.set_cons_succ])
          refine wpAnyL_done (by kernel_rfl) ?_ _
          obtain ⟨ea, eb⟩ := hx26.cells2
          obtain ⟨da, db⟩ := hS26.2.1.cells2
          have df0 := hS26.2.1.frozen 0
          have df1 := hS26.2.1.frozen 1
          cases bx
          · go_wp2_with fail
            go_roundw
            case rel => exact ⟨k + 1, A, n, c, C, m, d, q, _, by omega, by go_num, by omega, hmain, by omega, HT.out, hS26⟩
            case measure => simp [intOf]; omega
          · obtain ⟨k1, k2, k3⟩ := qput_tiny HT.out hars (by omega) hok4 HPX.out
            have hS8 := hS26.put hgw hbb hQ26 rfl
            go_wp2_with fail
            go_roundw
            case rel => exact ⟨k + 1, RA, rn, rc, RC, rm, rd, qx, _, by omega, by go_num, by omega, k2.trans hmain, k3, k1, hS8⟩
            case measure => simp [intOf]; omega
      · go_simp
        have hS28 := hSd.next (below_box wr.drew (.cells #[.slice none 0 0, .slice none 0 0] 26))
        have hx28 : Blk (wr.drew.alloc (.cells #[.slice none 0 0, .slice none 0 0] 26)) wr.heap.size 26 [.slice none 0 0, .slice none 0 0] := Blk.new wr.drew 26 [.slice none 0 0, .slice none 0 0]
        have hxl28 : w.heap.size < wr.heap.size ∧ gb < wr.heap.size := ⟨hSd.1.lt, hSd.2.1.lt⟩
        obtain ⟨ya29, yb29⟩ := hS28.2.1.cells2
        refine hK.out _ _ (⟨hS28.2.1.cells2.1, hS28.2.1.cells2.2⟩) (fun hHeld => ?_)
        clear hK K
        (try simp only [Act.put, List.setIfInBounds_toArray, List.set_cons_zero, List.set_cons_succ])
        refine wpAnyL_ready (rs := [2]) (by kernel_rfl) rfl ?_
        refine AllReadyL.cons (b := true) op2 (by kernel_rfl) (fun K hK => ?_) AllReadyL.nil
        go_simp
        go_at_call 41
        refine (pick_any g _ 5 _ hS28.2.2.2.1 (by omega) (by omega) (by omega)).mono ?_
        rintro e w30p ⟨v3, rfl, h30, h31, hr30, hg30⟩
        have hS30 := hS28.draw hgw hbb hr30 hg30
        have hx31 := hx28.grown hg30 (fun e => by injection e with e; have := hxl28; omega)
        obtain ⟨ya32, yb32⟩ := hS30.2.1.cells2
        go_wp2_with fail
        refine hK.out _ _ (⟨hS30.2.1.cells2.1, hS30.2.1.cells2.2⟩) (fun hHeld => ?_)
        clear hK K
        (try simp only [Act.put, List.setIfInBounds_toArray, List.set_cons_zero, List.set_cons_succ])
        refine wpAnyL_ready (rs := [6]) (by kernel_rfl) rfl ?_
        refine AllReadyL.cons (b := true) op6 (by kernel_rfl) (fun K hK => ?_) AllReadyL.nil
        go_simp
        go_at_call 64
        refine (l92Some_any g _ A n c q.main _ hS30.2.2.2.1 (by omega) hS30.2.2.1.main.1.reads (by omega) hok').mono ?_
        rintro e w33p ⟨v4, p4, rfl, ⟨m4, ls, hO4, hm4, hok4⟩, hp4, hr33, hg33⟩
        obtain ⟨A4, c4, rfl, hm4c⟩ := hO4.form
        have hS33 := hS30.draw hgw hbb hr33 hg33
        have hx34 := hx31.grown hg33 (fun e => by injection e with e; have := hxl28; omega)
        obtain ⟨ya35, yb35⟩ := hS33.2.1.cells2
        go_wp2_with fail
        refine hK.out _ _ (⟨hS33.2.1.cells2.1, hS33.2.1.cells2.2⟩) (fun hHeld => ?_)
        clear hK K
        (try simp only [Act.put, List.setIfInBounds_toArray, List.set_cons_zero, List.set_cons_succ])
        refine wpAnyL_ready (rs := [7]) (by kernel_rfl) rfl ?_
        refine AllReadyL.cons (b := true) op7 (by kernel_rfl) (fun K hK => ?_) AllReadyL.nil
        go_simp
        go_at_call 25
        refine (specQuarantinePut_any _ q _ A4 m4 c4 ls _ hS33.2.2.1.rep0 hO4.reads (by simp only [maxLen]; omega)).mono ?_
        rintro e w36p ⟨cs5, rfl, hQ5, hb5⟩
        obtain ⟨RA, rn, rc, RC, rm, rd, rfl, hqa, hqb⟩ := id hQ5
        clear hqa hqb
        obtain ⟨PX, HPX⟩ : ∃ PX, Hid (qputQ q v3 ls = PX) := ⟨_, Lib.hid rfl⟩
        rw [HPX.out] at hQ5
        rw [HPX.out]
        obtain ⟨qx, bx⟩ := PX
        dsimp only at hQ5 ⊢
        have hQ5b := hQ5.base (B' := w.heap.size + 1) (by have := hS33.1.lt; omega)
        have hS36 := hS33.next hb5
        have hx37 := hx34.next hb5
        obtain ⟨ya38, yb38⟩ := hS36.2.1.cells2
        go_wp2_with fail
        refine hK.out _ _ (⟨hS36.2.1.cells2.1, hS36.2.1.cells2.2⟩) (fun hHeld => ?_)
        clear hK K
        (try simp only [Act.put, List.setIfInBounds_toArray, List.set_cons_zero, List.set_cons_succ])
        refine wpAnyL_take (i := 8) (v := ?_) op8 (by kernel_rfl) (by kernel_rfl) (by kernel_rfl) (by rfl) (fun _ _ _ h => h) (b := true) (by kernel_rfl) hHeld hS0 (Or.inl ⟨by rfl, ?_⟩) (by kernel_rfl) ?_
        rotate_left
        · intro wS hSw; (try dsimp only at hSw); go_simp; (try with_reducible rfl)
        (try simp only [Act.put, List.setIfInBounds_toArray, List.set_cons_zero, List.set_cons_succ])
        refine wpAnyL_take (i := 9) (v := ?_) op9 (by kernel_rfl) (by kernel_rfl) (by kernel_rfl) (by rfl) (fun _ _ _ h => h) (b := true) (by kernel_rfl) hHeld hS0 (Or.inl ⟨by rfl, ?_⟩) (by kernel_rfl) ?_
        rotate_left
        · intro wS hSw; (try dsimp only at hSw); go_simp; (try with_reducible rfl)
        (try simp only [Act.put, List.setIfInBounds_toArray, List.set_cons_zero, List.set_cons_succ])
        refine wpAnyL_take (i := 10) (v := ?_) op10 (by kernel_rfl) (by kernel_rfl) (by kernel_rfl) (by rfl) (fun _ _ _ h => h) (b := true) (by kernel_rfl) hHeld hS0 (Or.inl ⟨by rfl, ?_⟩) (by kernel_rfl) ?_
        rotate_left
        · intro wS hSw; (try dsimp only at hSw); go_simp; (try with_reducible rfl)
        (try simp only [Act.put, List.setIfInBounds_toArray, List.set_cons_zero, List.set_cons_succ])
        refine wpAnyL_ready (rs := [12]) (by kernel_rfl) rfl ?_
        refine AllReadyL.cons (b := true) op12 (by kernel_rfl) (fun K hK => ?_) AllReadyL.nil
        obtain ⟨xa39, xb39⟩ := hx37.cells2
        have xf39 := hx37.frozen 0
        have xg39 := hx37.frozen 1
        have hz39 := (hx37.set_ 0 (.slice RA rn rc)).set_ 1 (.slice RC rm rd)
        simp only [List.set_cons_zero, List.set_cons_succ] at hz39
        go_simp
        have hS39 := DqSt.xset (u := .slice RA rn rc) (v := .slice RC rm rd) hgw hS36 hx37 (by have := hxl28; omega) (by have := hxl28; omega)
        have hx39 := hz39
        have hQ39 := OwnQ.res (u := .slice RA rn rc) (v := .slice RC rm rd) hQ5b hx37
        obtain ⟨ya40, yb40⟩ := hS39.2.1.cells2
        refine hK.out _ _ (⟨hS39.2.1.cells2.1, hS39.2.1.cells2.2⟩) (fun hHeld => ?_)
        clear hK K
        (try simp only [Act.put, List.setIfInBounds_toArray, List.set_cons_zero, List.set_cons_succ])
        refine wpAnyL_take (i := 13) (v := ?_) op13 (by kernel_rfl) (by kernel_rfl) (by kernel_rfl) (by rfl) (fun _ _ _ h => h) (b := true) (by kernel_rfl) hHeld hS0 (Or.inl ⟨by rfl, ?_⟩) (by kernel_rfl) ?_
        rotate_left
        · intro wS hSw; (try dsimp only at hSw); go_simp; (try with_reducible rfl)
        (try simp only [Act.put, List.setIfInBounds_toArray, List.set_cons_zero, List.set_cons_succ])
        refine wpAnyL_done (by kernel_rfl) ?_ _
        obtain ⟨ea, eb⟩ := hx39.cells2
        obtain ⟨da, db⟩ := hS39.2.1.cells2
        have df0 := hS39.2.1.frozen 0
        have df1 := hS39.2.1.frozen 1
        cases bx
        · go_wp2_with fail
          go_roundw
          case rel => exact ⟨k + 1, A, n, c, C, m, d, q, _, by omega, by go_num, by omega, hmain, by omega, HT.out, hS39⟩
          case measure => simp [intOf]; omega
        · obtain ⟨k1, k2, k3⟩ := qput_tiny HT.out hars (by omega) hok4 HPX.out
          have hS8 := hS39.put hgw hbb hQ39 rfl
          go_wp2_with fail
          go_roundw
          case rel => exact ⟨k + 1, RA, rn, rc, RC, rm, rd, qx, _, by omega, by go_num, by omega, k2.trans hmain, k3, k1, hS8⟩
          case measure => simp [intOf]; omega
    · obtain rfl : k = N := by omega
      have HT := Lib.hid hT
      go_wp2_with fail
      refine (pick_any g p' 20 _ hR (by omega) (by omega) (by omega)).mono ?_
      rintro e w3 ⟨v9, rfl, h90, h91, hr3, hg3⟩
      have hS3 := hS.draw hgw hbb hr3 hg3
      clear hS hX0 hXb hQ hR hG y0 y1 hr3 hg3
      obtain ⟨y30, y31⟩ := hS3.2.1.cells2
      have HM := Lib.hid (OwnA.len hS3.2.2.1.main.2)
      by_cases hv0 : v9 = 0
      · have hb0 : (v9 == 0) = true := by simp [hv0]
        have hm10 : m ≤ 10 := by have := HM.out; have := HT.out.2.2.1; omega
        go_wp2_with fail
        have hbd : Below w3.heap.size w3 w3.drew := (Below.refl _ _).drew
        have hSd := hS3.next hbd
        refine wp_region_L (fun b_ w' => (until_ b_ (w'.cell? ⟨gb, 1, none⟩ = some (.slice C m d))) ∧ True) 10 (by kernel_rfl) ⟨fun _ => y31, True.intro⟩ (fun hHeld => ?_)
        refine wpAnyL_takeS (i := 0) (v := ?_) op0 (by kernel_rfl) (by kernel_rfl) (by kernel_rfl) (by rfl) (fun _ _ _ h => h) hHeld (by kernel_rfl) (by kernel_rfl) (Or.inl ⟨by rfl, ?_⟩) ?_
        rotate_left
        · intro wS hSw; obtain ⟨hSu, hSv⟩ := hSw; have hSs := hSu rfl; clear hSu hSv; go_simp; (try with_reducible rfl)
        (try simp only [Act.put, List.setIfInBounds_toArray, List.set_cons_zero, List.set_cons_succ])
        refine wpAnyL_takeS (i := 1) (v := ?_) op1 (by kernel_rfl) (by kernel_rfl) (by kernel_rfl) (by rfl) (fun _ _ _ h => h) hHeld (by kernel_rfl) (by kernel_rfl) (Or.inl ⟨by rfl, ?_⟩) ?_
        rotate_left
        · intro wS hSw; obtain ⟨hSu, hSv⟩ := hSw; have hSs := hSu rfl; clear hSu hSv; go_simp; (try with_reducible rfl)
        (try simp only [Act.put, List.setIfInBounds_toArray, List.set_cons_zero, List.set_cons_succ])
        refine wpAnyL_takeS (i := 2) (v := ?_) op2 (by kernel_rfl) (by kernel_rfl) (by kernel_rfl) (by rfl) (fun _ _ _ h => h) hHeld (by kernel_rfl) (by kernel_rfl) (Or.inl ⟨by rfl, ?_⟩) ?_
        rotate_left
        · intro wS hSw; obtain ⟨hSu, hSv⟩ := hSw; have hSs := hSu rfl; clear hSu hSv; go_simp; (try with_reducible rfl)
        (try simp only [Act.put, List.setIfInBounds_toArray, List.set_cons_zero, List.set_cons_succ])
        refine wpAnyL_takeS (i := 4) (v := ?_) op4 (by kernel_rfl) (by kernel_rfl) (by kernel_rfl) (by rfl) (fun _ _ _ h => h) hHeld (by kernel_rfl) (by kernel_rfl) (Or.inl ⟨by rfl, ?_⟩) ?_
        rotate_left
        · intro wS hSw; obtain ⟨hSu, hSv⟩ := hSw; have hSs := hSu rfl; clear hSu hSv; go_simp; (try with_reducible rfl)
        (try simp only [Act.put, List.setIfInBounds_toArray, List.set_cons_zero, List.set_cons_succ])
        refine wpAnyL_ready (rs := [3]) (by kernel_rfl) rfl ?_
        refine AllReadyL.cons (b := false) op3 (by kernel_rfl) (fun K hK => ?_) AllReadyL.nil
        go_simp
        go_at_call 41
        refine (pick_any g _ 13 _ hSd.2.2.2.1 (by omega) (by omega) (by omega)).mono ?_
        rintro e w4 ⟨v4, rfl, h40, h41, hr4, hg4⟩
        have hS4 := hSd.draw hgw hbb hr4 hg4
        obtain ⟨y40, y41⟩ := hS4.2.1.cells2
        go_wp2_with fail
        refine hK.out _ _ (⟨fun _ => y41, True.intro⟩) (fun hHeld => ?_)
        clear hK K
        (try simp only [Act.put, List.setIfInBounds_toArray, List.set_cons_zero, List.set_cons_succ])
        refine wpAnyL_ready (rs := [5]) (by kernel_rfl) rfl ?_
        refine AllReadyL.cons (b := false) op5 (by kernel_rfl) (fun K hK => ?_) AllReadyL.nil
        go_simp
        go_at_call 77
        refine (l91Store_any g _ _ hS4.2.2.2.1 (by omega)).mono ?_
        rintro e w5 ⟨v5, p5, rfl, ⟨m5, os5, hO5, hm5, hok5⟩, hp5, hr5, hg5⟩
        obtain ⟨A5, c5, rfl, hmc5⟩ := hO5.form
        have hS5 := hS4.draw hgw hbb hr5 hg5
        obtain ⟨y50, y51⟩ := hS5.2.1.cells2
        go_wp2_with fail
        refine hK.out _ _ (⟨fun _ => y51, True.intro⟩) (fun hHeld => ?_)
        clear hK K
        (try simp only [Act.put, List.setIfInBounds_toArray, List.set_cons_zero, List.set_cons_succ])
        refine wpAnyL_takeS (i := 6) (v := ?_) op6 (by kernel_rfl) (by kernel_rfl) (by kernel_rfl) (by rfl) (fun _ _ _ h => h) hHeld (by kernel_rfl) (by kernel_rfl) (Or.inl ⟨by rfl, ?_⟩) ?_
        rotate_left
        · intro wS hSw; obtain ⟨hSu, hSv⟩ := hSw; have hSs := hSu rfl; clear hSu hSv; go_simp; (try with_reducible rfl)
        (try simp only [Act.put, List.setIfInBounds_toArray, List.set_cons_zero, List.set_cons_succ])
        refine wpAnyL_ready (rs := [7]) (by kernel_rfl) rfl ?_
        refine AllReadyL.cons (b := false) op7 (by kernel_rfl) (fun K hK => ?_) AllReadyL.nil
        go_simp
        have by5 := below_box w5 (.cells #[.int .i64 v4, .slice A5 m5 c5] 70)
        have hS5a := hS5.next by5
        obtain ⟨y5a, y5b⟩ := hS5a.2.1.cells2
        refine hK.out _ _ (⟨fun _ => y5b, True.intro⟩) (fun hHeld => ?_)
        clear hK K
        (try simp only [Act.put, List.setIfInBounds_toArray, List.set_cons_zero, List.set_cons_succ])
        refine wpAnyL_ready (rs := [8]) (by kernel_rfl) rfl ?_
        refine AllReadyL.cons (b := false) op8 (by kernel_rfl) (fun K hK => ?_) AllReadyL.nil
        obtain ⟨cs0, hown, hel⟩ := hS5.2.2.1.main.2
        have hz5 : w.heap.size + 1 ≤ w4.heap.size := hS4.1.lt
        have hz6 : w4.heap.size ≤ w5.heap.size := hg5.size
        have hO5b := (hO5.next by5).base (B' := w.heap.size + 1) hz5
        refine step_app rfl (.tmp 37) (.tmp 43) 24 rfl (w.heap.size + 1) 70 Try.underlying24 ar_info1 rfl (by omega) (by omega) _ m cs0 rfl (own_below hown by5) ⟨_, 0, none⟩ 1 1 [.int .i64 v4, .slice A5 m5 c5] rfl rfl ((Blk.new w5 70 [.int .i64 v4, .slice A5 m5 c5]).cellsAt) (by simp [Value.oneCell']) (by omega) (by have := by5.size; omega) ?_
        intro C9 d9 w9 hown9 _ hb9 hg9 _
        have hB9 : Blk w9 gb 26 [.slice A n c, .slice C m d] := hS5a.2.1.grown hg9 (fun e => own_ne_blk (own_below hown by5) hS5a.2.1 (by decide) e.symm)
        obtain ⟨y90, y91⟩ := hB9.cells2
        have f91 := hB9.frozen 1
        have hSN := DqSt.add (x := ⟨v4, os5⟩) hgw hbb hS5 by5 hown hel ⟨A5, m5, c5, rfl, hO5b⟩ hg9 hb9 hown9
        refine hK.out _ _ (⟨fun _ => y91, True.intro⟩) (fun hHeld => ?_)
        clear hK K
        (try simp only [Act.put, List.setIfInBounds_toArray, List.set_cons_zero, List.set_cons_succ])
        refine wpAnyL_takeS (i := 9) (v := ?_) op9 (by kernel_rfl) (by kernel_rfl) (by kernel_rfl) (by rfl) (fun _ _ _ h => h) hHeld (by kernel_rfl) (by kernel_rfl) (Or.inl ⟨by rfl, ?_⟩) ?_
        rotate_left
        · intro wS hSw; obtain ⟨hSu, hSv⟩ := hSw; have hSs := hSu rfl; clear hSu hSv; go_simp; (try with_reducible rfl)
        (try simp only [Act.put, List.setIfInBounds_toArray, List.set_cons_zero, List.set_cons_succ])
        refine wpAnyL_ready (rs := [10]) (by kernel_rfl) rfl ?_
        refine AllReadyL.cons (b := true) op10 (by kernel_rfl) (fun K hK => ?_) AllReadyL.nil
        go_simp
        refine hK.out _ _ (⟨fun h => Bool.noConfusion h, True.intro⟩) (fun hHeld => ?_)
        clear hK K
        (try simp only [Act.put, List.setIfInBounds_toArray, List.set_cons_zero, List.set_cons_succ])
        refine wpAnyL_done (by kernel_rfl) ?_ _
        have hl5 : os5.length = m5 := OwnR.len hO5
        have hTN : tinyQ ⟨q.main, q.ars ++ [⟨v4, os5⟩]⟩ := ⟨HT.out.1, HT.out.2.1, by rw [List.length_append, List.length_singleton]; omega, fun a ha => by
          rcases List.mem_append.1 ha with ha | ha
          · exact HT.out.2.2.2 a ha
          · rw [List.mem_singleton.1 ha]; exact ⟨hok5, by dsimp only; omega⟩⟩
        have HTN := Lib.hid hTN
        clear hl5 hTN
        generalize w9.setCell ⟨gb, 1, none⟩ (.slice C9 (m + 1) d9) = wZ at *
        obtain ⟨r0, r1⟩ := hSN.1.cells2
        have fr0 := hSN.1.frozen 0
        have fr1 := hSN.1.frozen 1
        have hRR := (hSN.1.set_ 0 (.slice A n c)).set_ 1 (.slice C9 (m + 1) d9)
        simp only [List.set_cons_zero, List.set_cons_succ] at hRR
        obtain ⟨t0, t1⟩ := hRR.cells2
        obtain ⟨z0, z1⟩ := hSN.2.1.cells2
        go_wp2_with fail
        refine bodyPost_ret (v := .agg #[.slice A n c, .slice C9 (m + 1) d9]) (by simp [results, Try.results38, go_sem, t0, t1]) rfl ?_
        exact ⟨_, _, rfl, ⟨_, _, rfl, (hSN.2.2.1.res hSN.1).base (Nat.le_succ _), HTN.out⟩, by omega, (hSN.2.2.2.1.store (by omega) _).store (by omega) _, grownQ (grownQ hSN.2.2.2.2 (Nat.le_refl _) _) (Nat.le_refl _) _⟩
      · have hb0 : (v9 == 0) = false := by simp [hv0]
        by_cases hv1 : v9 = 1
        · have hb1 : (v9 == 1) = true := by simp [hv1]
          go_wp2_with fail
          refine (l91Spoilt_any g _ _ hS3.2.2.2.1 (by omega)).mono ?_
          rintro e w4 ⟨v4, p4, rfl, ⟨m4, os4, hO4, hm4, hok4⟩, hp4, hr4, hg4⟩
          obtain ⟨A4, c4, rfl, hmc4⟩ := hO4.form
          have hS4 := hS3.draw hgw hbb hr4 hg4
          obtain ⟨y40, y41⟩ := hS4.2.1.cells2
          have f40 := hS4.2.1.frozen 0
          have hz5 : w.heap.size + 1 ≤ w3.heap.size := hS3.1.lt
          have hSN := hS4.setMain hgw hbb (hO4.base (B' := w.heap.size + 1) hz5)
          have hl4 : os4.length = m4 := OwnR.len hO4
          have hTN : tinyQ ⟨os4, q.ars⟩ := ⟨hok4, by dsimp only; omega, HT.out.2.2.1, HT.out.2.2.2⟩
          have HTN := Lib.hid hTN
          clear hl4 hTN
          obtain ⟨r0, r1⟩ := hSN.1.cells2
          have fr0 := hSN.1.frozen 0
          have fr1 := hSN.1.frozen 1
          have hRR := (hSN.1.set_ 0 (.slice A4 m4 c4)).set_ 1 (.slice C m d)
          simp only [List.set_cons_zero, List.set_cons_succ] at hRR
          obtain ⟨t0, t1⟩ := hRR.cells2
          obtain ⟨z0, z1⟩ := hSN.2.1.cells2
          go_wp2_with fail
          refine bodyPost_ret (v := .agg #[.slice A4 m4 c4, .slice C m d]) (by simp [results, Try.results38, go_sem, t0, t1]) rfl ?_
          exact ⟨_, _, rfl, ⟨_, _, rfl, (hSN.2.2.1.res hSN.1).base (Nat.le_succ _), HTN.out⟩, by omega, (hSN.2.2.2.1.store (by omega) _).store (by omega) _, grownQ (grownQ hSN.2.2.2.2 (Nat.le_refl _) _) (Nat.le_refl _) _⟩
        · have hb1 : (v9 == 1) = false := by simp [hv1]
          obtain ⟨r0, r1⟩ := hS3.1.cells2
          have fr0 := hS3.1.frozen 0
          have fr1 := hS3.1.frozen 1
          have hRR := (hS3.1.set_ 0 (.slice A n c)).set_ 1 (.slice C m d)
          simp only [List.set_cons_zero, List.set_cons_succ] at hRR
          obtain ⟨t0, t1⟩ := hRR.cells2
          obtain ⟨z0, z1⟩ := hS3.2.1.cells2
          go_wp2_with fail
          refine bodyPost_ret (v := .agg #[.slice A n c, .slice C m d]) (by simp [results, Try.results38, go_sem, t0, t1]) rfl ?_
          exact ⟨_, _, rfl, ⟨_, q, rfl, (hS3.2.2.1.res hS3.1).base (Nat.le_succ _), HT.out⟩, by omega, (hS3.2.2.2.1.store (by omega) _).store (by omega) _, grownQ (grownQ hS3.2.2.2.2 (Nat.le_refl _) _) (Nat.le_refl _) _⟩
end Go.Proofs.Ytjofgbbofagoiaa
/- Walk: DrawQuarantineValid. Plain: parts of lists of areas. -/
namespace Go.Proofs.Ytjofgbbofagoiaa
open Go.RowKit Go.Sort

theorem rbytes_next {w w' : World} {A : Option Addr} {n : Nat} (h : RBytes w w.heap.size A n) (hb : Below w.heap.size w w') : RBytes w' w'.heap.size A n := fun hn => by
  obtain ⟨ad, e, hlt, hcs⟩ := h hn
  exact ⟨ad, e, Nat.lt_of_lt_of_le hlt hb.size, fun j hj => by
    obtain ⟨b, h0, h1, h2⟩ := hcs j hj
    exact ⟨b, h0, h1, by rw [World.cell?_of_block (hb.block _ (by rw [block_of_add]; exact hlt))]; exact h2⟩⟩
def DrewQu (w : World) (e : Ending) (w' : World) : Prop := ∃ cs q, e = .returned (.agg cs.toArray) ∧ OwnQ w' w.heap.size cs q ∧ tinyQ q ∧ Below w.heap.size w w'
set_option maxHeartbeats 1600000 in
theorem DrawQuarantineValid_any (A : Option Addr) (n c : Nat) (w : World) (h : RBytes w w.heap.size A n) (hn : n ≤ maxLen) (hc : n ≤ c) :
    Calls Try.prog 22 #[.slice A n c] w (DrewQu w) := by
  have b0 := below_box w (.cells #[.slice none 0 0, .slice none 0 0] 26)
  have x0 := Blk.new w 26 [.slice none 0 0, .slice none 0 0]
  go_enter Try.func22, Try.ntmps22
  go_wp2_with fail
  refine (l6Open_any _ _ _ _ (rbytes_next h b0) hn hc).mono ?_
  rintro e w1 ⟨rfl, hrd, hb1⟩
  have hrd1 : Rd w1 (w.heap.size + 1) 0 := by simpa using hrd
  have x01 := x0.next hb1
  have bb1 := below_ext b0 hb1
  rw [show (w.alloc (.cells #[.slice none 0 0, .slice none 0 0] 26)).heap.size = w.heap.size + 1 by simp]
  go_wp2_with fail
  refine (l92Quarantine_any (w.heap.size + 1) 0 _ hrd1 (by omega)).mono ?_
  rintro e w2 ⟨_, q2, rfl, ⟨cs, q, rfl, hQ, hT⟩, -, -, hg2⟩
  have x02 := x01.grown hg2 (fun e => by injection e with e; omega)
  have hz := bb1.size
  obtain ⟨RA, rn, rc, RC, rm, rd, rfl, hqa, hqb⟩ := id hQ
  clear hqa hqb
  obtain ⟨r0, r1⟩ := x02.cells2
  have fr0 := x02.frozen 0
  have fr1 := x02.frozen 1
  have hRR := (x02.set_ 0 (.slice RA rn rc)).set_ 1 (.slice RC rm rd)
  simp only [List.set_cons_zero, List.set_cons_succ] at hRR
  obtain ⟨t0, t1⟩ := hRR.cells2
  have bb2 : Below w.heap.size w w2 := below_grown bb1 hg2 (Nat.le_succ _) hz
  go_wp2_with fail
  refine bodyPost_ret (v := .agg #[.slice RA rn rc, .slice RC rm rd]) (by simp [results, Try.results22, go_sem, t0, t1]) rfl ?_
  exact ⟨_, q, rfl, (hQ.base hz).res x02, hT, (bb2.setCell (p := ⟨w.heap.size, 0, none⟩) (Nat.le_refl _) _).setCell (p := ⟨w.heap.size, 1, none⟩) (Nat.le_refl _) _⟩
section
variable {cs ds : List Value} {ars brs : List Ar} {R : Value → List Ob → Prop}
theorem ElemsA.at2 (h : ElemsA cs ars R) : ∀ u ∈ cs, ∃ (i : Nat) (x : Ar) (v : Value), ars[i]? = some x ∧ R v x.os ∧ (u = .int .i64 x.t ∨ u = v) := fun u hu => by
  obtain ⟨j, hj⟩ := List.mem_iff_getElem?.1 hu
  have hjl := (List.getElem?_eq_some_iff.1 hj).1
  have hl := h.1
  have hi : j / 2 < ars.length := by omega
  obtain ⟨v, h0, h1, h2⟩ := h.2 (j / 2) _ (List.getElem?_eq_getElem hi)
  refine ⟨j / 2, _, v, List.getElem?_eq_getElem hi, h2, ?_⟩
  rcases Nat.mod_two_eq_zero_or_one j with hm | hm
  · rw [show j / 2 * 2 = j by omega, hj] at h0
    injection h0 with h0
    exact Or.inl h0
  · rw [show j / 2 * 2 + 1 = j by omega, hj] at h1
    injection h1 with h1
    exact Or.inr h1
theorem ElemsA.take (h : ElemsA cs ars R) (k : Nat) (hk : k ≤ ars.length) : ElemsA (cs.take (k * 2)) (ars.take k) R := by
  have hl := h.1
  refine ⟨by rw [List.length_take, List.length_take]; omega, fun i x hx => ?_⟩
  have hi : i < k := by have := (List.getElem?_eq_some_iff.1 hx).1; rw [List.length_take] at this; omega
  rw [List.getElem?_take, if_pos hi] at hx
  obtain ⟨v, h0, h1, h2⟩ := h.2 i x hx
  exact ⟨v, by rw [List.getElem?_take, if_pos (by omega)]; exact h0, by rw [List.getElem?_take, if_pos (by omega)]; exact h1, h2⟩
theorem ElemsA.drop (h : ElemsA cs ars R) (k : Nat) : ElemsA (cs.drop (k * 2)) (ars.drop k) R := by
  have hl := h.1
  refine ⟨by rw [List.length_drop, List.length_drop]; omega, fun i x hx => ?_⟩
  rw [List.getElem?_drop] at hx
  obtain ⟨v, h0, h1, h2⟩ := h.2 (k + i) x hx
  exact ⟨v, by rw [List.getElem?_drop, show k * 2 + i * 2 = (k + i) * 2 by omega]; exact h0, by rw [List.getElem?_drop, show k * 2 + (i * 2 + 1) = (k + i) * 2 + 1 by omega]; exact h1, h2⟩
theorem ElemsA.append (h : ElemsA cs ars R) (h' : ElemsA ds brs R) : ElemsA (cs ++ ds) (ars ++ brs) R := by
  have hl := h.1
  have hl' := h'.1
  refine ⟨by rw [List.length_append, List.length_append]; omega, fun i x hx => ?_⟩
  rcases Nat.lt_or_ge i ars.length with hi | hi
  · rw [List.getElem?_append_left hi] at hx
    obtain ⟨v, h0, h1, h2⟩ := h.2 i x hx
    exact ⟨v, by rw [List.getElem?_append_left (by omega)]; exact h0, by rw [List.getElem?_append_left (by omega)]; exact h1, h2⟩
  · rw [List.getElem?_append_right hi] at hx
    obtain ⟨v, h0, h1, h2⟩ := h'.2 _ x hx
    exact ⟨v, by rw [List.getElem?_append_right (by omega), show i * 2 - cs.length = (i - ars.length) * 2 by omega]; exact h0, by rw [List.getElem?_append_right (by omega), show i * 2 + 1 - cs.length = (i - ars.length) * 2 + 1 by omega]; exact h1, h2⟩
end
theorem ascA_iff : ∀ l : List Ar, ascA l = true ↔ (∀ a ∈ l, arOk a = true) ∧ l.Pairwise (fun a b => a.t < b.t)
  | [] => by simp [ascA, chainB]
  | [x] => by simp [ascA, chainB]
  | x :: y :: l => by
    have ih := ascA_iff (y :: l)
    unfold ascA at ih ⊢
    simp only [chainB, Bool.and_eq_true, decide_eq_true_eq] at ih ⊢
    constructor
    · rintro ⟨h1, h2⟩
      obtain ⟨a1, a2⟩ := ih.1 h2
      refine ⟨fun a ha => ?_, List.Pairwise.cons (fun z hz => ?_) a2⟩
      · rcases List.mem_cons.1 ha with rfl | ha
        · exact h1.1
        · exact a1 a ha
      · rcases List.mem_cons.1 hz with rfl | hz
        · exact h1.2
        · have := (List.pairwise_cons.1 a2).1 z hz
          have := h1.2
          omega
    · rintro ⟨h1, h2⟩
      exact ⟨⟨h1 x (by simp), (List.pairwise_cons.1 h2).1 y (by simp)⟩, ih.2 ⟨fun a ha => h1 a (List.mem_cons_of_mem _ ha), (List.pairwise_cons.1 h2).2⟩⟩
theorem quar_part {q : Qu} (h : quarB q = true) (k : Nat) : quarB ⟨q.main, q.ars.take k ++ q.ars.drop (k + 1)⟩ = true := by
  unfold quarB at h ⊢
  simp only [Bool.and_eq_true, decide_eq_true_eq] at h ⊢
  obtain ⟨h1, h2, h3⟩ := h
  have hs : (q.ars.take k ++ q.ars.drop (k + 1)).Sublist q.ars := by
    have h9 : (q.ars.take k ++ q.ars.drop (k + 1)).Sublist (q.ars.take k ++ q.ars.drop k) := List.Sublist.append (List.Sublist.refl _) (by
      rw [show q.ars.drop (k + 1) = (q.ars.drop k).drop 1 by rw [List.drop_drop]]
      exact List.drop_sublist _ _)
    rwa [List.take_append_drop] at h9
  obtain ⟨a1, a2⟩ := (ascA_iff _).1 h1
  exact ⟨(ascA_iff _).2 ⟨fun a ha => a1 a (hs.subset ha), a2.sublist hs⟩, h2, by have := hs.length_le; omega⟩
end Go.Proofs.Ytjofgbbofagoiaa
/- Walks: l92Txn, l92Area; DrawQuarantinePromote, DrawQuarantineDiscard. -/
namespace Go.Proofs.Ytjofgbbofagoiaa
open Go.RowKit Go.Sort

set_option maxHeartbeats 1600000 in
theorem l92Txn_any (g p : Nat) (w : World) (h : Rd w g p) (hp : p ≤ 900000) :
    Calls Try.prog 63 #[.pointer (some ⟨g, 0, none⟩)] w (Drawn g p 5 w (IsInt (-1) 12)) := by
  go_enter Try.func63, Try.ntmps63
  go_wp2_with fail
  refine (pick_any g p 24 _ h (by omega) (by omega) (by omega)).mono ?_
  rintro e w1 ⟨v1, rfl, h10, h11, hr1, hg1⟩
  go_wp2_with fail
  · refine (pick_any g _ 3 _ (hr1.keep (below_box _ _)) (by omega) (by omega) (by omega)).mono ?_
    rintro e w2 ⟨v2, rfl, h20, h21, hr2, hg2⟩
    have hbl := (Blk.new w1 3 [.int .i64 (-1), .int .i64 11, .int .i64 12]).grown hg2 (by have := hr1.lt; simp; omega)
    obtain ⟨c0, c1, c2⟩ := hbl.cells3
    have hv : v2 = 0 ∨ v2 = 1 ∨ v2 = 2 := by omega
    rcases hv with rfl | rfl | rfl
    all_goals
      go_wp2
      go_ret
      exact ⟨_, _, rfl, ⟨_, rfl, by omega, by omega⟩, by omega, hr2, grown_trans (grown_below hg1 (below_box _ _)) hg2⟩
  · refine (pick_any g _ 5 _ hr1 (by omega) (by omega) (by omega)).mono ?_
    rintro e w2 ⟨v2, rfl, h20, h21, hr2, hg2⟩
    go_wp2
    go_ret
    exact ⟨_, _, rfl, ⟨_, rfl, by omega, by omega⟩, by omega, hr2, grown_trans hg1 hg2⟩
theorem OwnA.tx {w : World} {B m d g0 : Nat} {ars : List Ar} (h : OwnA w B (.slice (some ⟨g0, 0, none⟩) m d) m ars) : ∀ k2 : Nat, k2 < m → w.cell? ⟨g0, k2 * 2, none⟩ = some (.int .i64 (ars[k2]?.getD default).t) := fun k2 hk => by
  have hl := h.len
  obtain ⟨b, off, a, cs', hC, hbb, ha, hcx, hvx⟩ := h.rsl.at_ hk
  obtain ⟨L, ml, dl, rfl, -, -⟩ := repAr_cells hvx
  injection hC with hC
  injection hC with h1 h2 _
  subst h1 h2
  have := hcx 0 _ rfl
  rw [ha]
  simpa [repAr, repAs, rep2, repInt, repSl] using this
set_option maxRecDepth 100000 in
set_option maxHeartbeats 3200000 in
theorem l92Area_any (g p B : Nat) (cs : List Value) (q : Qu) (w : World) (h : Rd w g p) (hp : p ≤ 700000) (hQ : OwnQ w B cs q) (hB : g < B) (hT : tinyQ q) :
    Calls Try.prog 39 #[.pointer (some ⟨g, 0, none⟩), .agg cs.toArray] w (Drawn g p 10 w fun v _ => ∃ z : Int, v = .int .i64 z) := by
  have hgw := h.lt
  obtain ⟨A, n, c, C, m, d, rfl, hqa, hqb⟩ := id hQ
  clear hqa hqb
  have b0 := below_box w (.cells #[.slice A n c, .slice C m d] 26)
  have x0 := Blk.new w 26 [.slice A n c, .slice C m d]
  have hQ0 := hQ.next b0
  have h0 := h.keep b0
  obtain ⟨y0, y1⟩ := x0.cells2
  have hg0 := grown_below (World.grownBy.refl w (some g)) b0
  have hml : q.ars.length = m := OwnA.len hQ.main.2
  have HM := Lib.hid hml
  clear hml
  have hm10 : m ≤ 10 := by have := HM.out; have := hT.2.2.1; omega
  go_enter Try.func39, Try.ntmps39
  by_cases h00 : m = 0
  · subst h00
    go_wp2_with fail
    refine (l92Txn_any g p _ h0 (by omega)).mono ?_
    rintro e w2 ⟨v2, p2, rfl, ⟨z, rfl, -, -⟩, hp2, hr2, hg2⟩
    go_wp2_with fail
    go_ret
    exact ⟨_, p2, rfl, ⟨z, rfl⟩, by omega, hr2, grown_trans hg0 hg2⟩
  · have h0i : decide ((m : Int) > 0) = true := by simp; omega
    have h0j : decide (0 < (m : Int)) = true := by simp; omega
    go_wp2_with fail
    refine (pick_any g p 4 _ h0 (by omega) (by omega) (by omega)).mono ?_
    rintro e w1 ⟨v1, rfl, h10, h11, hr1, hg1⟩
    have x1 := x0.grown hg1 (fun e => by injection e with e; omega)
    have hQ1 := hQ0.grown hg1 hB
    obtain ⟨y10, y11⟩ := x1.cells2
    by_cases hv1 : 0 < v1
    · have hv1i : decide (v1 > 0) = true := decide_eq_true hv1
      have hv1j : decide (0 < v1) = true := decide_eq_true hv1
      have hbd : Below w1.heap.size w1 w1.drew := (Below.refl _ _).drew
      have hr1d := hr1.keep hbd
      have hm1 : (1 : Int) ≤ (m : Int) := by omega
      have hm2 : (m : Int) ≤ 1000 := by omega
      obtain ⟨cs0, hown, -⟩ := hQ1.main.2
      obtain ⟨g0, rfl, -, -⟩ := own_addr hown (by omega)
      have hx1 := hQ1.main.2.tx
      clear y0 y1 hown
      go_wp2_with fail
      go_region_held3 (fun w' => w'.cell? ⟨w.heap.size, 0, none⟩ = some (.slice A n c) ∧ w'.cell? ⟨w.heap.size, 1, none⟩ = some (.slice (some ⟨g0, 0, none⟩) m d) ∧ ∀ k2 : Nat, k2 < m → w'.cell? ⟨g0, k2 * 2, none⟩ = some (.int .i64 (q.ars[k2]?.getD default).t))
        (first
          | exact ⟨y10, y11, hx1⟩
          | exact ⟨y20, y21, hx2⟩)
        (first
          | (go_simp; go_at_call 41; refine (pick_any g _ (m : Int) _ hr1d (by omega) hm1 hm2).mono ?_
             rintro e w2 ⟨v2, rfl, h20, h21, hr2, hg2⟩
             have x2 := (x1.next hbd).grown hg2 (fun e => by injection e with e; omega)
             have hQ2 := (hQ1.next hbd).grown hg2 hB
             obtain ⟨y20, y21⟩ := x2.cells2
             obtain ⟨k2, rfl⟩ := Int.eq_ofNat_of_zero_le h20
             have hk2 : k2 < m := by omega
             have hx2 := hQ2.main.2.tx
             have hx2' := hx2 k2 hk2))
      go_wp2_with fail
      go_ret
      exact ⟨_, _, rfl, ⟨_, rfl⟩, by omega, hr2, grown_trans (grown_below (grown_trans hg0 hg1) hbd) hg2⟩
    · have hv1i : decide (v1 > 0) = false := decide_eq_false hv1
      have hv1j : decide (0 < v1) = false := decide_eq_false hv1
      go_wp2_with fail
      refine (l92Txn_any g _ _ hr1 (by omega)).mono ?_
      rintro e w2 ⟨v2, p2, rfl, ⟨z, rfl, -, -⟩, hp2, hr2, hg2⟩
      go_wp2_with fail
      go_ret
      exact ⟨_, p2, rfl, ⟨z, rfl⟩, by omega, hr2, grown_trans (grown_trans hg0 hg1) hg2⟩
end Go.Proofs.Ytjofgbbofagoiaa
/- Walk: DrawQuarantinePut. -/
namespace Go.Proofs.Ytjofgbbofagoiaa
open Go.RowKit Go.Sort

def DrewQP (w : World) (e : Ending) (w' : World) : Prop := ∃ cs q z v, e = .returned (.tuple #[.agg cs.toArray, .int .i64 z, v]) ∧ OwnQ w' w.heap.size cs q ∧ IsStore w.heap.size 3 v w' ∧ Below w.heap.size w w'
theorem OwnO.resQ {w : World} {B n r : Nat} {v a b : Value} {os : List Ob} {cs : List Value} (h : OwnO w B v n os) (hr : Blk w r 26 cs) : OwnO ((w.setCell ⟨r, 0, none⟩ a).setCell ⟨r, 1, none⟩ b) B v n os := by
  have g1 := grownSetQ w r 0 a
  have g2 := grownSetQ (w.setCell ⟨r, 0, none⟩ a) r 1 b
  have hr2 := hr.set_ 0 a
  refine (h.other g1 fun g' e => ?_).other g2 fun g' e => ?_
  · injection e with e
    subst e
    exact ⟨_, _, _, hr, by decide, by decide⟩
  · injection e with e
    subst e
    exact ⟨_, _, _, hr2, by decide, by decide⟩
set_option maxRecDepth 100000 in
set_option maxHeartbeats 1600000 in
theorem DrawQuarantinePut_any (A : Option Addr) (n c : Nat) (w : World) (h : RBytes w w.heap.size A n) (hn : n ≤ maxLen) (hc : n ≤ c) :
    Calls Try.prog 23 #[.slice A n c] w (DrewQP w) := by
  have b0 := below_box w (.cells #[.slice none 0 0, .slice none 0 0] 26)
  have x0 := Blk.new w 26 [.slice none 0 0, .slice none 0 0]
  go_enter Try.func23, Try.ntmps23
  go_wp2_with fail
  refine (l6Open_any _ _ _ _ (rbytes_next h b0) hn hc).mono ?_
  rintro e w1 ⟨rfl, hrd, hb1⟩
  have hrd1 : Rd w1 (w.heap.size + 1) 0 := by simpa using hrd
  have x01 := x0.next hb1
  have bb1 := below_ext b0 hb1
  rw [show (w.alloc (.cells #[.slice none 0 0, .slice none 0 0] 26)).heap.size = w.heap.size + 1 by simp]
  clear x0 b0 hb1 hrd
  have hz := bb1.size
  have hz1 : w.heap.size + 1 < w1.heap.size := hrd1.lt
  go_wp2_with fail
  refine (l92Quarantine_any (w.heap.size + 1) 0 _ hrd1 (by omega)).mono ?_
  rintro e w2 ⟨_, p2, rfl, ⟨cs, q, rfl, hQ, hT⟩, hp2, hr2, hg2⟩
  have x02 := x01.grown hg2 (fun e => by injection e with e; omega)
  obtain ⟨RA, rn, rc, RC, rm, rd, rfl, hqa, hqb⟩ := id hQ
  clear hqa hqb x01
  have bb2 : Below w.heap.size w w2 := below_grown bb1 hg2 (Nat.le_succ _) hz
  have eb := below_box w2 (.cells #[.slice RA rn rc, .slice RC rm rd] 26)
  have xq := Blk.new w2 26 [.slice RA rn rc, .slice RC rm rd]
  have hQ3 := hQ.next eb
  have hr3 := hr2.keep eb
  have x03 := x02.next eb
  have bb3 := below_ext bb2 eb
  have hgq : w.heap.size + 1 < w2.heap.size := Nat.lt_of_lt_of_le hz1 hg2.size
  clear hQ hr2 x02 bb2 eb hg2
  go_wp2_with fail
  generalize w2.alloc (.cells #[.slice RA rn rc, .slice RC rm rd] 26) = w3 at *
  generalize w2.heap.size = gq at *
  obtain ⟨y0, y1⟩ := xq.cells2
  refine (l92Txn_any (w.heap.size + 1) _ _ hr3 (by omega)).mono ?_
  rintro e w4 ⟨_, p4, rfl, ⟨z, rfl, hz40, hz41⟩, hp4, hr4, hg4⟩
  have xq4 := xq.grown hg4 (fun e => by injection e with e; omega)
  have x04 := x03.grown hg4 (fun e => by injection e with e; omega)
  have hQ4 := hQ3.grown hg4 hz1
  have bb4 : Below w.heap.size w w4 := below_grown bb3 hg4 (Nat.le_succ _) bb3.size
  have HT := Lib.hid hT
  have HB : Hid (w.heap.size ≤ w1.heap.size) := Lib.hid hz
  have hgql : gq < w4.heap.size := xq4.lt
  clear y0 y1 xq x03 hQ3 bb3 hr3 hg4
  obtain ⟨z0, z1⟩ := xq4.cells2
  have hbd : Below w4.heap.size w4 w4.drew := (Below.refl _ _).drew
  have hrd := hr4.keep hbd
  have hOd := (hQ4.main.1).next hbd
  have hrn : rn ≤ 50 := by have h1 := OwnR.len hQ4.main.1; have h2 := HT.out.2.1; omega
  have HK := Lib.hid (fun (w' : World) (b0 : w'.heap[gq]? = w4.heap[gq]?) => (⟨(World.cell?_of_block (a := ⟨gq, 0, none⟩) b0).trans z0, (World.cell?_of_block (a := ⟨gq, 1, none⟩) b0).trans z1⟩ : w'.cell? ⟨gq, 0, none⟩ = some (.slice RA rn rc) ∧ w'.cell? ⟨gq, 1, none⟩ = some (.slice RC rm rd)))
  have hT0 := HT.out.1
  go_wp2_with fail
  go_region_held3 (fun w' => w'.cell? ⟨gq, 0, none⟩ = some (.slice RA rn rc) ∧ w'.cell? ⟨gq, 1, none⟩ = some (.slice RC rm rd))
    (first
      | exact HK.out _ rfl
      | exact ⟨k60, k61⟩
      | exact ⟨k70, k71⟩)
    (first
      | (go_simp; go_at_call 64; refine (l92Some_any (w.heap.size + 1) _ RA rn rc _ _ hrd (by omega) hOd.reads hrn hT0).mono ?_
         rintro e w6 ⟨v6, p6, rfl, ⟨m6, os6, hO6, hm6, hok6⟩, hp6, hr6, hg6⟩
         obtain ⟨k60, k61⟩ := HK.out w6 (hg6.block _ hgql (fun e => by injection e with e; omega))
         have x06 := (x04.next hbd).grown hg6 (fun e => by injection e with e; omega)
         have hQ6 := (hQ4.next hbd).grown hg6 hz1
         obtain ⟨r0, r1⟩ := x06.cells2
         have fr0 := x06.frozen 0
         have fr1 := x06.frozen 1
         have hf0 : ∀ b, b ≠ w.heap.size → ((w6.setCell ⟨w.heap.size, 0, none⟩ (.slice RA rn rc)).setCell ⟨w.heap.size, 1, none⟩ (.slice RC rm rd)).heap[b]? = w6.heap[b]? := fun b hb => (Below.heap_setCell _ ⟨w.heap.size, 1, none⟩ _ b hb).trans (Below.heap_setCell _ ⟨w.heap.size, 0, none⟩ _ b hb)
         obtain ⟨k70, k71⟩ := HK.out _ ((hf0 gq (by omega)).trans (hg6.block _ hgql (fun e => by injection e with e; omega)))))
  have hRR := (x06.set_ 0 (.slice RA rn rc)).set_ 1 (.slice RC rm rd)
  simp only [List.set_cons_zero, List.set_cons_succ] at hRR
  obtain ⟨t0, t1⟩ := hRR.cells2
  have bb6 : Below w.heap.size w w6 := below_grown (below_ext bb4 hbd) hg6 (Nat.le_succ _) (below_ext bb4 hbd).size
  have hzb := bb4.size
  go_wp2_with fail
  refine bodyPost_ret (v := .tuple #[.agg #[.slice RA rn rc, .slice RC rm rd], .int .i64 z, v6]) (by simp [results, Try.results23, go_sem, t0, t1]) rfl ?_
  exact ⟨_, q, z, v6, rfl, (hQ6.base HB.out).res x06, ⟨m6, os6, (hO6.base (by show w.heap.size ≤ w4.heap.size; omega)).resQ x06, hm6, hok6⟩, (bb6.setCell (p := ⟨w.heap.size, 0, none⟩) (Nat.le_refl _) _).setCell (p := ⟨w.heap.size, 1, none⟩) (Nat.le_refl _) _⟩
end Go.Proofs.Ytjofgbbofagoiaa
