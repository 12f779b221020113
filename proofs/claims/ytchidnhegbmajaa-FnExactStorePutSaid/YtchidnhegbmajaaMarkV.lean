/- Walks: the laws' marks of slices of objects, with what they leave; heldObjectS. -/
import Derived.Test.YtchidnhegbmajaaMarkO
import Derived.Test.YtchidnhegbmajaaImplCopy
namespace Go.Proofs.Ytchidnhegbmajaa
open Go.RowKit Go.Sort

/-- the mark at which object i begins -/
def startK (k : Nat) (os : List Ob) (i : Nat) : Nat := (os.take i).foldl (fun k o => k + 2 + o.xs.length) k
theorem startK_zero (k : Nat) (os : List Ob) : startK k os 0 = k := by simp [startK]
theorem startK_succ {k i : Nat} {os : List Ob} {o : Ob} (h : os[i]? = some o) : startK k os (i + 1) = startK k os i + 2 + o.xs.length := by
  have hi := (List.getElem?_eq_some_iff.1 h).1
  have he := (List.getElem?_eq_some_iff.1 h).2
  unfold startK
  rw [List.take_succ_eq_append_getElem hi, List.foldl_append, he]
  rfl
theorem startK_le {k M : Nat} {os : List Ob} (h : ∀ o ∈ os, o.xs.length ≤ M) : ∀ i, i ≤ os.length → startK k os i ≤ k + i * (2 + M)
  | 0, _ => by rw [startK_zero]; omega
  | i + 1, hi => by
    have ho : os[i]? = some os[i] := List.getElem?_eq_getElem (by omega)
    have := startK_le (k := k) h i (by omega)
    have := h os[i] (List.getElem_mem _)
    rw [startK_succ ho, Nat.succ_mul]
    omega

/-- m cells of ints that may be written; what they hold, where it is said -/
def WM (lo hi : Nat) (w : World) (A : Option Addr) (m : Nat) (ox : Option (List Int)) : Prop := 0 < m → ∃ b cs, A = some ⟨b, 0, none⟩ ∧ lo ≤ b ∧ b < hi ∧ Blk w b 3 cs ∧ m ≤ cs.length ∧ ∀ xs, ox = some xs → cs.take m = ints xs
section
variable {lo hi : Nat} {w w' : World} {A : Option Addr} {m : Nat} {ox : Option (List Int)}
theorem WM.wi (h : WM lo hi w A m ox) : WI lo hi w A m := fun hm => by
  obtain ⟨b, cs, e, h1, h2, h3, h4, _⟩ := h hm
  exact ⟨b, cs, e, h1, h2, h3, h4⟩
theorem WI.wm (h : WI lo hi w A m) : WM lo hi w A m none := fun hm => by
  obtain ⟨b, cs, e, h1, h2, h3, h4⟩ := h hm
  exact ⟨b, cs, e, h1, h2, h3, h4, fun xs e => by cases e⟩
theorem WM.next (h : WM lo hi w A m ox) (hb : Below w.heap.size w w') : WM lo hi w' A m ox := fun hm => by
  obtain ⟨b, cs, e, h1, h2, h3, h4⟩ := h hm
  exact ⟨b, cs, e, h1, h2, h3.next hb, h4⟩
theorem WM.far (h : WM lo hi w A m ox) {g i : Nat} {cs : List Value} (hg : Blk w g 26 cs) (u : Value) : WM lo hi (w.setCell ⟨g, i, none⟩ u) A m ox := fun hm => by
  obtain ⟨b, cs', e, h1, h2, h3, h4⟩ := h hm
  exact ⟨b, cs', e, h1, h2, h3.far (p := ⟨g, i, none⟩) (fun e => blk_ne h3 hg e) u, h4⟩
theorem WM.reads {xs : List Int} (h : WM lo hi w A m (some xs)) (hl : xs.length = m) : RInts w A m xs := ⟨hl, fun hm => by
  obtain ⟨b, cs, e, h1, h2, h3, h4, h5⟩ := h hm
  refine ⟨_, e, h3.lt, fun j x hx => ?_⟩
  have hj : j < m := by have := (List.getElem?_eq_some_iff.1 hx).1; omega
  have : (cs.take m)[j]? = some (.int .i64 x) := by rw [h5 xs rfl, ints, List.getElem?_map, hx]; rfl
  rw [List.getElem?_take, if_pos hj] at this
  rw [add_at, h3.cell, Nat.zero_add]; exact this⟩
end

/-- where the marking stands: the first j objects are marked, from k on -/
def MSt (lo hi : Nat) (w : World) (A : Option Addr) (n : Nat) (os : List Ob) (k j : Nat) : Prop := 0 < n → ∃ g cs, A = some ⟨g, 0, none⟩ ∧ lo ≤ g ∧ g < hi ∧ Blk w g 26 cs ∧ n * 3 ≤ cs.length ∧
  (∀ (q q' : Nat) (a a' : Addr) (m c m' c' : Nat), q < n → q' < n → q ≠ q' → cs[q * 3 + 1]? = some (.slice (some a) m c) → cs[q' * 3 + 1]? = some (.slice (some a') m' c') → 0 < m → 0 < m' → a.block ≠ a'.block) ∧
  ∀ (i : Nat) (o : Ob), os[i]? = some o → ∃ (kk : Int) (A' : Option Addr) (d : Nat) (t : ByteArray), cs[i * 3]? = some (.int .i64 kk) ∧ cs[i * 3 + 1]? = some (.slice A' o.xs.length d) ∧ cs[i * 3 + 1 + 1]? = some (.string t) ∧
    WM lo hi w A' o.xs.length (if i < j then some (marks ((startK k os i : Nat) + 1) o.xs.length) else none) ∧ (i < j → kk = (startK k os i : Nat) ∧ t = mtext (startK k os i + 1 + o.xs.length))
theorem MSt.next {lo hi : Nat} {w w' : World} {A : Option Addr} {n : Nat} {os : List Ob} {k j : Nat} (h : MSt lo hi w A n os k j) (hb : Below w.heap.size w w') : MSt lo hi w' A n os k j := fun hn => by
  obtain ⟨g, cs, e, h1, h2, h3, h4, h5, h6⟩ := h hn
  refine ⟨g, cs, e, h1, h2, h3.next hb, h4, h5, fun i o ho => ?_⟩
  obtain ⟨kk, A', d, t, e0, e1, e2, e3, e4⟩ := h6 i o ho
  exact ⟨kk, A', d, t, e0, e1, e2, e3.next hb, e4⟩
theorem own_blkV {w : World} {B g n d size : Nat} {e : TypeId} {xs : List Value} (h : w.ownsRow B e size (.slice (some ⟨g, 0, none⟩) n d) n xs) : ∃ cs, Blk w g e cs ∧ B ≤ g ∧ n ≤ d ∧ d ≤ maxLen ∧ cs.length = d * size ∧ cs.take (n * size) = xs := by
  rcases h.2 with ⟨h0, _⟩ | ⟨g', cap, cur, hv, hb, hh, h1, h2, h3, h4⟩
  · cases h0
  · injection hv with hv1 _ hv3
    injection hv1 with hv1
    injection hv1 with hv1 _ _
    subst hv1
    subst hv3
    exact ⟨cur.toList, by unfold Blk; simpa using hh, hb, h1, h2, by simpa using h3, h4⟩
theorem OwnS.mst {w : World} {B F n d k : Nat} {A : Option Addr} {os : List Ob} (h : OwnS w B F (.slice A n d) n os) : MSt B w.heap.size w A n os k 0 := fun hn => by
  obtain ⟨cs, hown, hel, hsep⟩ := h
  obtain ⟨g, rfl, hg1, hg2⟩ := own_addr hown hn
  obtain ⟨CS, hB, hBg, hnd, hdm, hCl, hCt⟩ := own_blkV hown
  have hcl := hown.1
  have hget : ∀ q u, cs[q]? = some u → CS[q]? = some u := fun q u hq => by
    rw [← hCt, List.getElem?_take] at hq
    split at hq
    · exact hq
    · cases hq
  have hgetr : ∀ q, q < n * 3 → CS[q]? = cs[q]? := fun q hq => by rw [← hCt, List.getElem?_take, if_pos hq]
  refine ⟨g, CS, rfl, hBg, hg2, hB, by omega, fun q q' a a' m c m' c' hq hq' hne he he' h1 h2 => ?_, fun i o ho => ?_⟩
  · rw [hgetr _ (by omega)] at he he'
    exact hsep.2 q q' a a' m c m' c' hq hq' hne he he' h1 h2
  · obtain ⟨A', m, d', e0, e1, e2, e3, _⟩ := hel.2 i o ho
    have hm : m = o.xs.length := e3.1.1.symm
    subst hm
    exact ⟨o.k, A', d', o.t, hget _ _ e0, hget _ _ e1, hget _ _ e2, by rw [if_neg (by omega)]; exact e3.wi.wm, fun h => absurd h (by omega)⟩

theorem OwnS.mid {lo hi B F n : Nat} {w w' : World} {v : Value} {os : List Ob} (h : OwnS w B F v n os) (hm : Mid lo hi w w') (hB : hi ≤ B) : OwnS w' B F v n os := by
  obtain ⟨cs, h1, h2, h3⟩ := h
  refine ⟨cs, ⟨h1.1, ?_⟩, h2.mono fun A m xs hx => hx.mid hm hB, h3⟩
  rcases h1.2 with h0 | ⟨g, cap, cur, hv, hg, hh, r⟩
  · exact Or.inl h0
  · exact Or.inr ⟨g, cap, cur, hv, hg, (hm.block g (Array.getElem?_eq_some_iff.1 hh).1 (Or.inr (Nat.le_trans hB hg))).trans hh, r⟩

set_option maxHeartbeats 1600000 in
theorem markObjectSV_any (lo hi : Nat) (A : Option Addr) (n c : Nat) (k : Nat) (os : List Ob) (w : World) (h : MSt lo hi w A n os k 0) (hl : os.length = n) (hn : n ≤ 2000000) (hs : ∀ o ∈ os, o.xs.length ≤ 2000000) (hk1 : k ≤ 1000000000) (hlo : lo ≤ w.heap.size) :
    Calls Try.prog 16 #[.slice A n c, .int .i64 k] w fun e w' => e = .returned (.int .i64 (startK k os n : Nat)) ∧ MSt lo hi w' A n os k n ∧ Below lo w w' := by
  go_enter Try.func16, Try.ntmps16
  go_wp2_with fail
  go_loopw [1, 5] (fun q i wr => ∃ (j : Nat), j ≤ n ∧ i = .int .i64 j ∧ q = .int .i64 (startK k os j : Nat) ∧ MSt lo hi wr A n os k j ∧ Mid lo hi w wr) (fun _ i _ => n - (intOf i).toNat)
  case atStart => exact ⟨0, Nat.zero_le _, rfl, by rw [startK_zero], h, Mid.refl _ _ _⟩
  case round =>
    obtain ⟨j, hj, rfl, rfl, hM, hMid⟩ := hrel
    by_cases hlt : j < n
    · obtain ⟨g, cs, rfl, hg1, hg2, hbl, hcs, hsep, hall⟩ := hM (by omega)
      have ho : os[j]? = some os[j] := List.getElem?_eq_getElem (by omega)
      generalize os[j] = o at ho
      have hsm := hs o (List.mem_of_getElem? ho)
      have hle := startK_le (k := k) hs j (by omega)
      have HNX := Lib.hid (startK_succ (k := k) ho)
      obtain ⟨kk, A', d, t, e0, e1, e2, hwm, -⟩ := hall j o ho
      have hwi := hwm.wi
      have HO := Lib.hid ho
      generalize hr : startK k os j = r at *
      have HR := Lib.hid hr
      have hle2 : r ≤ 10000000000000 := by
        have : j * (2 + 2000000) ≤ 2000000 * 2000002 := Nat.mul_le_mul (by omega) (by omega)
        omega
      clear hr hle
      have c0 : wr.cell? ⟨g, j * 3, none⟩ = some (.int .i64 kk) := by rw [hbl.cell]; exact e0
      have f0 := hbl.frozen (j * 3)
      have hwr : IntKind.i64.wrap ((r : Int) + 1) = (r : Int) + 1 := by rw [IntKind.wrap_i64]; omega
      have hbl1 := hbl.set_ (j * 3) (.int .i64 r)
      have d1 : (wr.setCell ⟨g, j * 3, none⟩ (.int .i64 r)).cell? ⟨g, j * 3 + 1, none⟩ = some (.slice A' o.xs.length d) := by rw [hbl1.cell, List.getElem?_set_ne (by omega)]; exact e1
      have hwi1 := hwi.far (i := j * 3) hbl (.int .i64 r)
      have hMid1 := hMid.set (i := j * 3) hg1 hg2 (.int .i64 r)
      have e1s : (cs.set (j * 3) (.int .i64 r))[j * 3 + 1]? = some (.slice A' o.xs.length d) := by rw [List.getElem?_set_ne (by omega)]; exact e1
      have HALL := Lib.hid (fun (i : Nat) (o' : Ob) (hi' : os[i]? = some o') => (by
        obtain ⟨k', A2, d2, t2, y0, y1, y2, y3, y4⟩ := hall i o' hi'
        exact ⟨k', A2, d2, t2, y0, y1, y2, y3.far hbl _, y4⟩ : ∃ (kk : Int) (A' : Option Addr) (d : Nat) (t : ByteArray), cs[i * 3]? = some (.int .i64 kk) ∧ cs[i * 3 + 1]? = some (.slice A' o'.xs.length d) ∧ cs[i * 3 + 1 + 1]? = some (.string t) ∧
          WM lo hi (wr.setCell ⟨g, j * 3, none⟩ (.int .i64 r)) A' o'.xs.length (if i < j then some (marks ((startK k os i : Nat) + 1) o'.xs.length) else none) ∧ (i < j → kk = (startK k os i : Nat) ∧ t = mtext (startK k os i + 1 + o'.xs.length))))
      have HE1 := Lib.hid e1
      clear hall e0 e1 e2 e1s hM hwi hwm ho
      go_wp2_with fail
      generalize hW1 : wr.setCell ⟨g, j * 3, none⟩ (.int .i64 r) = w1 at *
      have HW1 := Lib.hid hW1
      clear hW1
      generalize hm : o.xs.length = m at *
      have HM := Lib.hid hm
      refine (markIntS_any lo hi A' m d ((r : Int) + 1) w1 hwi1 (by omega) (by omega)).mono ?_
      intro e w2 hmk
      have hrow : ∀ g', (Value.slice A' m d).ownBlock = some g' → m ≠ 0 → lo ≤ g' ∧ g' < hi ∧ g' ≠ g := by
        intro g' hg' hm0
        obtain ⟨b, cs', e', q1, q2, q3, _⟩ := hwi1 (by omega)
        rw [e'] at hg'
        have : b = g' := by simpa [Value.ownBlock] using hg'
        subst this
        exact ⟨q1, q2, blk_ne q3 hbl1⟩
      have hMid2 : Mid lo hi w1 w2 := by
        by_cases hm0 : m = 0
        · rw [hmk.2.2.1 hm0]; exact Mid.refl _ _ _
        · exact Mid.of_grown hmk.2.1 (fun g' e' => ⟨(hrow g' e' hm0).1, (hrow g' e' hm0).2.1⟩)
      have hbl2 : Blk w2 g 26 (cs.set (j * 3) (.int .i64 r)) := by
        by_cases hm0 : m = 0
        · rw [hmk.2.2.1 hm0]; exact hbl1
        · exact hbl1.grown hmk.2.1 (fun e' => (hrow g e'.symm hm0).2.2 rfl)
      -- the object just marked
      have hthis : WM lo hi w2 A' m (some (marks ((r : Nat) + 1) m)) := fun hm0 => by
        obtain ⟨b, cs', e', q1, q2, q3, q4⟩ := hwi1 hm0
        refine ⟨b, _, e', q1, q2, hmk.2.2.2 b cs' e' q3 q4, by rw [List.length_append, length_ints, marks_len, List.length_drop]; omega, fun xs ex => ?_⟩
        injection ex with ex
        subst ex
        rw [List.take_append_of_le_length (by rw [length_ints, marks_len]; exact Nat.le_refl _), List.take_of_length_le (by rw [length_ints, marks_len]; exact Nat.le_refl _)]
      -- the others
      have HALL2 := Lib.hid (fun (i : Nat) (o' : Ob) (hi' : os[i]? = some o') (hij : i ≠ j) => (by
        obtain ⟨k', A2, d2, t2, y0, y1, y2, y3, y4⟩ := HALL.out i o' hi'
        refine ⟨k', A2, d2, t2, y0, y1, y2, ?_, y4⟩
        intro hm2
        obtain ⟨b, cs', e', q1, q2, q3, q4⟩ := y3 hm2
        by_cases hm0 : m = 0
        · rw [hmk.2.2.1 hm0]; exact ⟨b, cs', e', q1, q2, q3, q4⟩
        · obtain ⟨b', cs2, e2', _, _, _, _⟩ := hwi1 (by omega)
          refine ⟨b, cs', e', q1, q2, q3.grown hmk.2.1 (fun eb => ?_), q4⟩
          rw [e2'] at eb
          have hbb : b' = b := by simpa [Value.ownBlock] using eb.symm
          have hil : i < n := by have := (List.getElem?_eq_some_iff.1 hi').1; omega
          have y1' : cs[i * 3 + 1]? = some (.slice (some ⟨b, 0, none⟩) o'.xs.length d2) := by rw [← e']; exact y1
          have z1' : cs[j * 3 + 1]? = some (.slice (some ⟨b', 0, none⟩) m d) := by rw [← e2']; exact HE1.out
          exact hsep i j _ _ _ _ _ _ hil hlt hij y1' z1' hm2 (by omega) hbb.symm : ∃ (kk : Int) (A' : Option Addr) (d : Nat) (t : ByteArray), cs[i * 3]? = some (.int .i64 kk) ∧ cs[i * 3 + 1]? = some (.slice A' o'.xs.length d) ∧ cs[i * 3 + 1 + 1]? = some (.string t) ∧
          WM lo hi w2 A' o'.xs.length (if i < j then some (marks ((startK k os i : Nat) + 1) o'.xs.length) else none) ∧ (i < j → kk = (startK k os i : Nat) ∧ t = mtext (startK k os i + 1 + o'.xs.length))))
      obtain ⟨rfl, -, -, -⟩ := hmk
      obtain ⟨k9, A9, d9, t9, z0, z1, z2, -⟩ := HALL.out j o HO.out
      clear hrow HALL hm
      have HZ2 := Lib.hid z2
      have HZ1 := Lib.hid z1
      have HZ0 := Lib.hid z0
      clear z0 z1 z2
      have hr3 : (r : Int) + 1 + (m : Int) = ((r + 1 + m : Nat) : Int) := by omega
      rw [hr3]
      generalize hr4 : r + 1 + m = r4 at *
      have HR4 := Lib.hid hr4
      have hwr4 : IntKind.i64.wrap ((r4 : Int) + 1) = (r4 : Int) + 1 := by rw [IntKind.wrap_i64]; omega
      have hr4le : r4 ≤ 1000000000000000 := by omega
      clear hr3 hwr d1 f0 c0 hr4
      go_wp2_with fail
      refine (markText_any r4 w2 hr4le).mono ?_
      rintro e w3 ⟨rfl, hb3⟩
      have hbl3 := hbl2.next hb3
      have f3 := hbl3.frozen (j * 3 + 2)
      have c3 : w3.cell? ⟨g, j * 3 + 2, none⟩ = some (.string t9) := by rw [hbl3.cell, List.getElem?_set_ne (by omega)]; exact HZ2.out
      have hMid4 := ((hMid1.trans hMid2).trans (Mid.of_below hb3)).set (i := j * 3 + 2) hg1 hg2 (.string (mtext r4))
      have hM4 : MSt lo hi (w3.setCell ⟨g, j * 3 + 2, none⟩ (.string (mtext r4))) (some ⟨g, 0, none⟩) n os k (j + 1) := fun _ => by
        refine ⟨g, _, rfl, hg1, hg2, hbl3.set_ (j * 3 + 2) _, by rw [List.length_set, List.length_set]; omega, fun q q' a a' m1 c1 m2 c2 hq hq' hne he he' h1 h2 => ?_, fun i o' hi' => ?_⟩
        · rw [List.getElem?_set_ne (by omega), List.getElem?_set_ne (by omega)] at he he'
          exact hsep q q' a a' m1 c1 m2 c2 hq hq' hne he he' h1 h2
        · by_cases hij : i = j
          · subst hij
            have : o = o' := by have := HO.out; rw [hi'] at this; injection this with this; exact this.symm
            subst this
            have hlm : o.xs.length = m := HM.out
            refine ⟨r, A', d, mtext r4, by rw [List.getElem?_set_ne (by omega), List.getElem?_set_self (by omega)], by rw [List.getElem?_set_ne (by omega), List.getElem?_set_ne (by omega), hlm]; exact HE1.out, by rw [List.getElem?_set_self (by rw [List.length_set]; omega)], ?_, fun _ => ⟨by rw [HR.out], by rw [hlm, HR.out, HR4.out]⟩⟩
            rw [if_pos (by omega), hlm, HR.out]
            exact (hthis.next hb3).far hbl3 _
          · obtain ⟨k', A2, d2, t2, y0, y1, y2, y3, y4⟩ := HALL2.out i o' hi' hij
            refine ⟨k', A2, d2, t2, by rw [List.getElem?_set_ne (by omega), List.getElem?_set_ne (by omega)]; exact y0, by rw [List.getElem?_set_ne (by omega), List.getElem?_set_ne (by omega)]; exact y1, by rw [List.getElem?_set_ne (by omega), List.getElem?_set_ne (by omega)]; exact y2, ?_, fun hlt' => y4 (by omega)⟩
            have y5 := (y3.next hb3).far (i := j * 3 + 2) hbl3 (.string (mtext r4))
            by_cases hij2 : i < j
            · rw [if_pos hij2] at y5; rw [if_pos (by omega)]; exact y5
            · rw [if_neg hij2] at y5; rw [if_neg (by omega)]; exact y5
      have HM4 := Lib.hid hM4
      clear hM4
      have hnx : startK k os (j + 1) = r4 + 1 := by have := HNX.out; have := HM.out; have := HR4.out; omega
      have HNX2 := Lib.hid hnx
      clear hnx
      go_wp2_with fail
      go_roundw
      case rel => exact ⟨j + 1, by omega, by go_num, by rw [HNX2.out]; go_num, HM4.out, hMid4⟩
      case measure => simp [intOf]; omega
    · obtain rfl : j = n := by omega
      go_wp2_with fail
      go_ret
      exact ⟨rfl, hM, hMid.below hlo⟩

set_option maxHeartbeats 1600000 in
theorem heldObjectS_any (lo hi : Nat) (A : Option Addr) (n c : Nat) (k : Nat) (os : List Ob) (w : World) (h : MSt lo hi w A n os k n) (hl : os.length = n) (hn : n ≤ 2000000) (hs : ∀ o ∈ os, o.xs.length ≤ 2000000) (hk1 : k ≤ 1000000000) :
    Calls Try.prog 27 #[.slice A n c, .int .i64 k] w fun e w' => e = .returned (.int .i64 (startK k os n : Nat)) ∧ Below w.heap.size w w' := by
  go_enter Try.func27, Try.ntmps27
  go_wp2_with fail
  go_loopw [1, 5] (fun q i wr => ∃ (j : Nat), j ≤ n ∧ i = .int .i64 j ∧ q = .int .i64 (startK k os j : Nat) ∧ Below w.heap.size w wr) (fun _ i _ => n - (intOf i).toNat)
  case atStart => exact ⟨0, Nat.zero_le _, rfl, by rw [startK_zero], Below.refl _ _⟩
  case round =>
    obtain ⟨j, hj, rfl, rfl, hbr⟩ := hrel
    by_cases hlt : j < n
    · obtain ⟨g, cs, rfl, hg1, hg2, hbl, hcs, hsep, hall⟩ := (h.next hbr) (by omega)
      have ho : os[j]? = some os[j] := List.getElem?_eq_getElem (by omega)
      generalize os[j] = o at ho
      have hsm := hs o (List.mem_of_getElem? ho)
      have hle := startK_le (k := k) hs j (by omega)
      have HNX := Lib.hid (startK_succ (k := k) ho)
      obtain ⟨kk, A', d, t, e0, e1, e2, hwm, hkt⟩ := hall j o ho
      obtain ⟨rfl, rfl⟩ := hkt hlt
      rw [if_pos hlt] at hwm
      clear hall hkt ho
      generalize hr : startK k os j = r at *
      have HR := Lib.hid hr
      have hle2 : r ≤ 10000000000000 := by
        have : j * (2 + 2000000) ≤ 2000000 * 2000002 := Nat.mul_le_mul (by omega) (by omega)
        omega
      clear hr hle
      generalize hm : o.xs.length = m at *
      have HM := Lib.hid hm
      clear hm
      have c0 : wr.cell? ⟨g, j * 3, none⟩ = some (.int .i64 r) := by rw [hbl.cell]; exact e0
      have c1 : wr.cell? ⟨g, j * 3 + 1, none⟩ = some (.slice A' m d) := by rw [hbl.cell]; exact e1
      have hne : ((r : Int) != (r : Int)) = false := by simp
      have hwr : IntKind.i64.wrap ((r : Int) + 1) = (r : Int) + 1 := by rw [IntKind.wrap_i64]; omega
      have HE2 := Lib.hid e2
      clear e0 e1 e2
      go_wp2_with fail
      have hrd := hwm.reads (marks_len _ _)
      refine (heldIntS_any A' m d ((r : Int) + 1) wr hrd (by omega) (by omega)).mono ?_
      rintro e w2 ⟨rfl, hb2⟩
      have hr3 : (r : Int) + 1 + (m : Int) = ((r + 1 + m : Nat) : Int) := by omega
      rw [hr3]
      generalize hr4 : r + 1 + m = r4 at *
      have HR4 := Lib.hid hr4
      have hr4le : r4 ≤ 1000000000000000 := by omega
      have hpos : decide ((r4 : Int) < 0) = false := decide_eq_false (by omega)
      have hwr4 : IntKind.i64.wrap ((r4 : Int) + 1) = (r4 : Int) + 1 := by rw [IntKind.wrap_i64]; omega
      have c2 : w2.cell? ⟨g, j * 3 + 2, none⟩ = some (.string (mtext r4)) := by rw [(hbl.next hb2).cell]; exact HE2.out
      clear hr3 hwr c0 c1 hr4 hne
      go_wp2_with fail
      obtain ⟨tx, htx⟩ : ∃ tx, tx = mtext r4 := ⟨_, rfl⟩
      rw [← htx] at c2
      have hmt : ∀ W, Calls Try.prog 40 #[.int .i64 r4] W fun e w' => e = .returned (.string tx) ∧ Below W.heap.size W w' := fun W => by rw [htx]; exact markText_any r4 W hr4le
      have htt : (tx.toList == tx.toList) = true := by simp
      clear htx
      have g2 := cell_regrown c2
      clear c2
      refine wp_region_ext (by kernel_rfl) (by kernel_rfl) ?_
      repeat (go_big_quiet_step ((go_at_call 40; exact rg_below (hmt _))))
      refine wpQuiet_nil ?_
      intro w3 hb3
      have hnx : startK k os (j + 1) = r4 + 1 := by have := HNX.out; have := HR4.out; omega
      have HNX2 := Lib.hid hnx
      clear hnx
      go_wp2
      go_roundw
      case rel => exact ⟨j + 1, by omega, by go_num, by rw [HNX2.out]; go_num, below_ext (below_ext hbr hb2) hb3⟩
      case measure => simp [intOf]; omega
    · obtain rfl : j = n := by omega
      go_wp2_with fail
      go_ret
      exact ⟨rfl, hbr⟩
end Go.Proofs.Ytchidnhegbmajaa
