/- Walks: the laws' marks of slices of objects. -/
import Derived.Test.YtkekcgamhhmjnaaMark
namespace Go.Proofs.Ytkekcgamhhmjnaa
open Go.RowKit Go.Sort

/-- n objects that may be written, all their memory in the blocks lo .. hi - 1 -/
def MkRow (lo hi : Nat) (w : World) (A : Option Addr) (n : Nat) : Prop := 0 < n → ∃ g cs, A = some ⟨g, 0, none⟩ ∧ lo ≤ g ∧ g < hi ∧ Blk w g 34 cs ∧ n * 3 ≤ cs.length ∧
  ∀ i, i < n → ∃ (k : Int) (A' : Option Addr) (m d : Nat) (t : ByteArray), cs[i * 3]? = some (.int .i64 k) ∧ cs[i * 3 + 1]? = some (.slice A' m d) ∧ cs[i * 3 + 1 + 1]? = some (.string t) ∧ m ≤ 2000000 ∧ WI lo hi w A' m
theorem WI.marked {lo hi : Nat} {w w' : World} {A A' : Option Addr} {m n c : Nat} {k : Int} {e : Ending} (h : WI lo hi w A m) (h' : WI lo hi w A' n) (hm : MarkedI A' n c k w e w') : WI lo hi w' A m := by
  intro hn
  obtain ⟨b, cs, e1, h1, h2, h3, h4⟩ := h hn
  obtain ⟨-, hg, h0, hB⟩ := hm
  by_cases hn0 : n = 0
  · rw [h0 hn0]; exact ⟨b, cs, e1, h1, h2, h3, h4⟩
  · obtain ⟨b', cs', e1', _, _, h3', h4'⟩ := h' (by omega)
    by_cases hbb : b = b'
    · subst hbb
      obtain ⟨-, ec⟩ := blk_same h3 h3'
      subst ec
      refine ⟨b, _, e1, h1, h2, hB b cs e1' h3 h4', ?_⟩
      rw [List.length_append, length_ints, marks_len, List.length_drop]; omega
    · exact ⟨b, cs, e1, h1, h2, h3.grown hg (fun e => hbb (by rw [e1'] at e; simpa [Value.ownBlock] using e)), h4⟩
theorem blk_neq {w : World} {b g : Nat} {cs cs' : List Value} (h : Blk w b 3 cs) (h' : Blk w g 34 cs') : b ≠ g := fun e => by
  subst e; exact absurd (blk_same h h').1 (by decide)
theorem MkRow.next {lo hi : Nat} {w w' : World} {A : Option Addr} {n : Nat} (h : MkRow lo hi w A n) (hb : Below w.heap.size w w') : MkRow lo hi w' A n := fun hn => by
  obtain ⟨g, cs, e, h1, h2, h3, h4, h5⟩ := h hn
  refine ⟨g, cs, e, h1, h2, h3.next hb, h4, fun i hi => ?_⟩
  obtain ⟨k, A', m, d, t, e0, e1, e2, e3, e4⟩ := h5 i hi
  exact ⟨k, A', m, d, t, e0, e1, e2, e3, e4.next hb⟩
theorem OObjs.mk {w : World} {lo g n : Nat} {os : List Ob} {bs : List Nat} (h : OObjs w lo g os bs) (hn : n = os.length) (hs : smallO os) : MkRow g w.heap.size w (some ⟨g, 0, none⟩) n := by
  intro _
  obtain ⟨h1, _, h3, h4, h5, _⟩ := h
  refine ⟨g, _, rfl, Nat.le_refl _, h3.lt, h3, by rw [length_cellsO os bs h1]; omega, fun i hi => ?_⟩
  have ho : os[i]? = some os[i] := List.getElem?_eq_getElem (by omega)
  have hb : bs[i]? = some (bs[i]'(by omega)) := List.getElem?_eq_getElem _
  obtain ⟨r0, r1, r2⟩ := cellsO_get os bs i _ _ ho hb
  have hsm := hs.2 _ (List.mem_of_getElem? ho)
  have hbl := h4 i _ _ ho hb
  exact ⟨_, _, _, _, _, r0, r1, r2, by omega, fun _ => ⟨_, _, rfl, Nat.le_of_lt (h5 _ (List.mem_of_getElem? hb)), hbl.lt, hbl, by rw [length_ints]; exact Nat.le_refl _⟩⟩


set_option maxHeartbeats 1600000 in
theorem markObjectS_any (lo hi : Nat) (A : Option Addr) (n c : Nat) (k : Nat) (w : World) (h : MkRow lo hi w A n) (hn : n ≤ 2000000) (hk1 : k ≤ 1000000000) :
    Calls Try.prog 23 #[.slice A n c, .int .i64 k] w fun e w' => ∃ r : Nat, e = .returned (.int .i64 r) ∧ k ≤ r ∧ r ≤ k + n * 2000002 ∧ MkRow lo hi w' A n ∧ Mid lo hi w w' := by
  go_enter Try.func23, Try.ntmps23
  go_wp2_with fail
  go_loopw [1, 5] (fun q i wr => ∃ (j r : Nat), j ≤ n ∧ i = .int .i64 j ∧ q = .int .i64 r ∧ k ≤ r ∧ r ≤ k + j * 2000002 ∧ MkRow lo hi wr A n ∧ Mid lo hi w wr) (fun _ i _ => n - (intOf i).toNat)
  case atStart => exact ⟨0, k, Nat.zero_le _, rfl, rfl, Nat.le_refl _, by omega, h, Mid.refl _ _ _⟩
  case round =>
    obtain ⟨j, r, hj, rfl, rfl, hr0, hr1, hM, hMid⟩ := hrel
    by_cases hlt : j < n
    · obtain ⟨g, cs, rfl, hg1, hg2, hbl, hcs, hall⟩ := hM (by omega)
      obtain ⟨kk, A', m, d, t, e0, e1, e2, hm, hwi⟩ := hall j hlt
      have c0 : wr.cell? ⟨g, j * 3, none⟩ = some (.int .i64 kk) := by rw [hbl.cell]; exact e0
      have f0 := hbl.frozen (j * 3)
      have hwr : IntKind.i64.wrap ((r : Int) + 1) = (r : Int) + 1 := by rw [IntKind.wrap_i64]; omega
      -- behind the first store
      have hbl1 := hbl.set_ (j * 3) (.int .i64 r)
      have d1 : (wr.setCell ⟨g, j * 3, none⟩ (.int .i64 r)).cell? ⟨g, j * 3 + 1, none⟩ = some (.slice A' m d) := by rw [hbl1.cell, List.getElem?_set_ne (by omega)]; exact e1
      have hwi1 := hwi.far (i := j * 3) hbl (.int .i64 r)
      have hall1 : ∀ i, i < n → ∃ (k : Int) (A' : Option Addr) (m d : Nat) (t : ByteArray), (cs.set (j * 3) (.int .i64 r))[i * 3]? = some (.int .i64 k) ∧ (cs.set (j * 3) (.int .i64 r))[i * 3 + 1]? = some (.slice A' m d) ∧ (cs.set (j * 3) (.int .i64 r))[i * 3 + 1 + 1]? = some (.string t) ∧ m ≤ 2000000 ∧ WI lo hi (wr.setCell ⟨g, j * 3, none⟩ (.int .i64 r)) A' m := by
        intro i hi
        obtain ⟨k', A2, m2, d2, t2, y0, y1, y2, y3, y4⟩ := hall i hi
        by_cases hij : i = j
        · subst hij
          exact ⟨r, A2, m2, d2, t2, by rw [List.getElem?_set_self (by omega)], by rw [List.getElem?_set_ne (by omega)]; exact y1, by rw [List.getElem?_set_ne (by omega)]; exact y2, y3, y4.far hbl _⟩
        · exact ⟨k', A2, m2, d2, t2, by rw [List.getElem?_set_ne (by omega)]; exact y0, by rw [List.getElem?_set_ne (by omega)]; exact y1, by rw [List.getElem?_set_ne (by omega)]; exact y2, y3, y4.far hbl _⟩
      have hMid1 := hMid.set (i := j * 3) hg1 hg2 (.int .i64 r)
      have hl1 : (cs.set (j * 3) (.int .i64 r)).length = cs.length := List.length_set
      have HC := Lib.hid hall1
      clear hall hall1 e0 e1 e2 hM hwi
      go_wp2_with fail
      generalize hW1 : wr.setCell ⟨g, j * 3, none⟩ (.int .i64 r) = w1 at *
      have HW1 := Lib.hid hW1
      clear hW1
      generalize hcs1 : cs.set (j * 3) (.int .i64 r) = cs1 at *
      have hr2 : (r : Int) + 1 = ((r + 1 : Nat) : Int) := by omega
      refine (markIntS_any lo hi A' m d ((r : Int) + 1) w1 hwi1 (by omega) (by omega)).mono ?_
      intro e w2 hmk
      have hrow : ∀ g', (Value.slice A' m d).ownBlock = some g' → m ≠ 0 → lo ≤ g' ∧ g' < hi ∧ g' ≠ g := by
        intro g' hg' hm0
        obtain ⟨b, cs', e', q1, q2, q3, _⟩ := hwi1 (by omega)
        rw [e'] at hg'
        have : b = g' := by simpa [Value.ownBlock] using hg'
        subst this
        exact ⟨q1, q2, blk_neq q3 hbl1⟩
      have hMid2 : Mid lo hi w1 w2 := by
        by_cases hm0 : m = 0
        · rw [hmk.2.2.1 hm0]; exact Mid.refl _ _ _
        · exact Mid.of_grown hmk.2.1 (fun g' e' => ⟨(hrow g' e' hm0).1, (hrow g' e' hm0).2.1⟩)
      have hbl2 : Blk w2 g 34 cs1 := by
        by_cases hm0 : m = 0
        · rw [hmk.2.2.1 hm0]; exact hbl1
        · exact hbl1.grown hmk.2.1 (fun e' => (hrow g e'.symm hm0).2.2 rfl)
      have hall2 : ∀ i, i < n → ∃ (k : Int) (A' : Option Addr) (m d : Nat) (t : ByteArray), cs1[i * 3]? = some (.int .i64 k) ∧ cs1[i * 3 + 1]? = some (.slice A' m d) ∧ cs1[i * 3 + 1 + 1]? = some (.string t) ∧ m ≤ 2000000 ∧ WI lo hi w2 A' m := by
        intro i hi
        obtain ⟨k', A2, m2, d2, t2, y0, y1, y2, y3, y4⟩ := HC.out i hi
        exact ⟨k', A2, m2, d2, t2, y0, y1, y2, y3, y4.marked hwi1 hmk⟩
      have HC2 := Lib.hid hall2
      obtain ⟨rfl, -, -, -⟩ := hmk
      clear hall2 HC hrow
      have hr3 : (r : Int) + 1 + (m : Int) = ((r + 1 + m : Nat) : Int) := by omega
      rw [hr3]
      generalize hr4 : r + 1 + m = r4 at *
      have hwr4 : IntKind.i64.wrap ((r4 : Int) + 1) = (r4 : Int) + 1 := by rw [IntKind.wrap_i64]; omega
      clear hr3 hr2 hwr d1 f0
      go_wp2_with fail
      refine (markText_any r4 w2 (by omega)).mono ?_
      rintro e w3 ⟨rfl, hb3⟩
      have hbl3 := hbl2.next hb3
      have f3 := hbl3.frozen (j * 3 + 2)
      obtain ⟨k9, A9, m9, d9, t9, z0, z1, z2, -⟩ := HC2.out j hlt
      have c3 : w3.cell? ⟨g, j * 3 + 2, none⟩ = some (.string t9) := by rw [hbl3.cell]; exact z2
      have hMid4 := ((hMid1.trans hMid2).trans (Mid.of_below hb3)).set (i := j * 3 + 2) hg1 hg2 (.string (mtext r4))
      have hM4 : MkRow lo hi (w3.setCell ⟨g, j * 3 + 2, none⟩ (.string (mtext r4))) (some ⟨g, 0, none⟩) n := fun _ => by
        refine ⟨g, _, rfl, hg1, hg2, hbl3.set_ (j * 3 + 2) _, by rw [List.length_set, ← hcs1, List.length_set]; omega, fun i hi => ?_⟩
        obtain ⟨k', A2, m2, d2, t2, y0, y1, y2, y3, y4⟩ := HC2.out i hi
        have y5 := (y4.next hb3).far (i := j * 3 + 2) hbl3 (.string (mtext r4))
        have hl2 : cs1.length = cs.length := by rw [← hcs1, List.length_set]
        by_cases hij : i = j
        · subst hij
          exact ⟨k', A2, m2, d2, mtext r4, by rw [List.getElem?_set_ne (by omega)]; exact y0, by rw [List.getElem?_set_ne (by omega)]; exact y1, by rw [List.getElem?_set_self (by omega)], y3, y5⟩
        · exact ⟨k', A2, m2, d2, t2, by rw [List.getElem?_set_ne (by omega)]; exact y0, by rw [List.getElem?_set_ne (by omega)]; exact y1, by rw [List.getElem?_set_ne (by omega)]; exact y2, y3, y5⟩
      have HM4 := Lib.hid hM4
      clear hM4 z0 z1 z2 hcs1
      go_wp2_with fail
      go_roundw
      case rel => exact ⟨j + 1, r4 + 1, by omega, by go_num, by go_num, by omega, by omega, HM4.out, hMid4⟩
      case measure => simp [intOf]; omega
    · obtain rfl : j = n := by omega
      go_wp2_with fail
      go_ret
      exact ⟨r, rfl, hr0, hr1, hM, hMid⟩
end Go.Proofs.Ytkekcgamhhmjnaa
