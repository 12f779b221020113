/- Objects, areas and quarantines of the call's own, their parts in blocks apart. Plain lemmas. -/
import Derived.Test.YtjofgbbofagoiaaSep
import Derived.Test.YtjofgbbofagoiaaDataQ
import Derived.Test.YtjofgbbofagoiaaImplCopy
namespace Go.Proofs.Ytjofgbbofagoiaa
open Go.RowKit Go.Sort

/-- a slice of ints: where it is not empty, in a block of its own -/
def LkV (lo : Nat) (S : Nat → Prop) (w : World) (A : Option Addr) (m : Nat) (xs : List Int) : Prop :=
  (m = 0 ∧ xs = []) ∨ ∃ g ys, A = some ⟨g, 0, none⟩ ∧ lo ≤ g ∧ S g ∧ Blk w g 3 ys ∧ xs.length = m ∧ ys.take m = ints xs
theorem LkV.rsl {lo m : Nat} {S : Nat → Prop} {w : World} {A : Option Addr} {xs : List Int} (h : LkV lo S w A m xs) : RSl repInt lo w A m xs := by
  rcases h with ⟨rfl, rfl⟩ | ⟨g, ys, rfl, h1, -, h2, h3, h4⟩
  · exact RSl.nil _
  · refine ⟨h3, fun hn => ⟨g, 0, rfl, h2.lt, h1, fun i x hx => ⟨[.int .i64 x], fun j u hu => ?_, rfl⟩⟩⟩
    match j, hu with
    | 0, hu =>
      simp at hu
      subst hu
      have hi : i < m := by have := (List.getElem?_eq_some_iff.1 hx).1; omega
      have h5 : ys[i]? = some (.int .i64 x) := by
        rw [← List.getElem?_take_of_lt hi, h4]
        simp [ints, hx]
      have := (h2.cell i).trans h5
      simpa [repInt] using this
    | j + 1, hu => simp at hu
def sepStr : RepS ByteArray := ⟨repStr, fun _ _ _ cs x => cs = [.string x] ∧ x.size ≤ maxLen, fun h => by rw [h.1]; rfl, fun h _ => h, fun h _ => h, fun h _ => h, fun h => h⟩
def sepLk : RepS (List Int) := ⟨repSl repInt, fun lo S w cs xs => ∃ A m d, cs = [.slice A m d] ∧ m ≤ maxLen ∧ LkV lo S w A m xs,
  fun ⟨_, _, _, e, _⟩ => by rw [e]; rfl,
  fun ⟨A, m, d, e, h1, h2⟩ hk => ⟨A, m, d, e, h1, h2.imp id fun ⟨g, ys, q1, q2, q3, q4, q5⟩ => ⟨g, ys, q1, q2, q3, (hk g q3).trans q4, q5⟩⟩,
  fun ⟨A, m, d, e, h1, h2⟩ hw => ⟨A, m, d, e, h1, h2.imp id fun ⟨g, ys, q1, q2, q3, q4, q5⟩ => ⟨g, ys, q1, q2, hw g q3, q4, q5⟩⟩,
  fun ⟨A, m, d, e, h1, h2⟩ hl => ⟨A, m, d, e, h1, h2.imp id fun ⟨g, ys, q1, q2, q3, q4, q5⟩ => ⟨g, ys, q1, Nat.le_trans hl q2, q3, q4, q5⟩⟩,
  fun ⟨A, m, d, e, h1, h2⟩ => ⟨A, m, d, e, h2.rsl, h1⟩⟩
def sepOb : RepS Ob := sepAs (sep2 sepInt (sep2 sepLk sepStr)) fun o => (o.k, o.xs, o.t)
def sepAr : RepS Ar := sepAs (sep2 sepInt (sepSl 33 sepOb)) fun x => (x.t, x.os)
def sepQu : RepS Qu := sepAs (sep2 (sepSl 33 sepOb) (sepSl 70 sepAr)) fun x => (x.main, x.ars)
section
variable {lo n c : Nat} {S : Nat → Prop} {w : World} {cs : List Value} {A : Option Addr}
def noQ (_ : Nat) : Prop := False
theorem sepOb_cells {o : Ob} (h : sepOb.V lo S w cs o) : ∃ A m d, cs = [.int .i64 o.k, .slice A m d, .string o.t] ∧ LkV lo S w A m o.xs ∧ m ≤ maxLen ∧ o.t.size ≤ maxLen := by
  obtain ⟨c1, c2, S1, S2, rfl, -, q2, -, h4, c3, c4, S3, S4, rfl, q5, -, -, ⟨A, m, d, e, h6, h7⟩, h8, h9⟩ := h
  have h4' : c1 = [.int .i64 o.k] := h4
  subst h4' e h8
  exact ⟨A, m, d, rfl, h7.imp id fun ⟨g, ys, p1, p2, p3, p4⟩ => ⟨g, ys, p1, p2, q2 g (q5 g p3), p4⟩, h6, h9⟩
theorem sepOb_mk {o : Ob} {m d : Nat} (h : LkV lo S w A m o.xs) (hm : m ≤ maxLen) (ht : o.t.size ≤ maxLen) : sepOb.V lo S w [.int .i64 o.k, .slice A m d, .string o.t] o :=
  ⟨[.int .i64 o.k], [.slice A m d, .string o.t], noQ, S, rfl, fun _ h => h.elim, fun _ h => h, fun _ h => h.elim, rfl, [.slice A m d], [.string o.t], S, noQ, rfl, fun _ h => h, fun _ h => h.elim, fun _ _ h => h, ⟨A, m, d, rfl, hm, h⟩, rfl, ht⟩
theorem sepAr_cells {p : Ar} (h : sepAr.V lo S w cs p) : ∃ A n c, cs = [.int .i64 p.t, .slice A n c] ∧ SSl 33 sepOb lo S w A n c p.os := by
  obtain ⟨c1, c2, S1, S2, rfl, q1, q2, q3, h4, A, n, c, e, h5⟩ := h
  have h4' : c1 = [.int .i64 p.t] := h4
  subst h4' e
  exact ⟨A, n, c, rfl, h5.wide q2⟩
theorem sepAr_mk {x : Ar} (h : SSl 33 sepOb lo S w A n c x.os) : sepAr.V lo S w [.int .i64 x.t, .slice A n c] x :=
  ⟨[.int .i64 x.t], [.slice A n c], noQ, S, rfl, fun _ h => h.elim, fun _ h => h, fun _ h => h.elim, rfl, A, n, c, rfl, h⟩
theorem sepQu_cells {q : Qu} (h : sepQu.V lo S w cs q) : ∃ A n c B m d S1 S2, cs = [.slice A n c, .slice B m d] ∧ (∀ b, S1 b → S b) ∧ (∀ b, S2 b → S b) ∧ (∀ b, S1 b → ¬ S2 b) ∧
    SSl 33 sepOb lo S1 w A n c q.main ∧ SSl 70 sepAr lo S2 w B m d q.ars := by
  obtain ⟨c1, c2, S1, S2, rfl, q1, q2, q3, ⟨A, n, c, e1, h4⟩, B, m, d, e2, h5⟩ := h
  subst e1 e2
  exact ⟨A, n, c, B, m, d, S1, S2, rfl, q1, q2, q3, h4, h5⟩
theorem sepQu_mk {x : Qu} {B : Option Addr} {m d : Nat} {S1 S2 : Nat → Prop} (q1 : ∀ b, S1 b → S b) (q2 : ∀ b, S2 b → S b) (q3 : ∀ b, S1 b → ¬ S2 b) (h4 : SSl 33 sepOb lo S1 w A n c x.main) (h5 : SSl 70 sepAr lo S2 w B m d x.ars) :
    sepQu.V lo S w [.slice A n c, .slice B m d] x :=
  ⟨[.slice A n c], [.slice B m d], S1, S2, rfl, q1, q2, q3, ⟨A, n, c, rfl, h4⟩, B, m, d, rfl, h5⟩
end
/-- the blocks of the links -/
def LkB (cs : List Value) (b : Nat) : Prop := ∃ q a m c, cs[q * 3 + 1]? = some (.slice (some a) m c) ∧ 0 < m ∧ a.block = b
theorem parts_ob {w : World} {B F g : Nat} (hg : ∃ cs0, Blk w g 33 cs0) : ∀ (os : List Ob) (cs : List Value), Elems cs os (LinkIn w B) → SepF F cs os.length → ∃ css, css.flatten = cs ∧ Parts sepOb g w B (LkB cs) css os
  | [], cs, h, _ => by
    obtain rfl : cs = [] := List.eq_nil_of_length_eq_zero (by simpa using h.1)
    exact ⟨[], rfl, trivial⟩
  | o :: os, [], h, _ => by have := h.1; simp at this
  | o :: os, [_], h, _ => by have := h.1; simp at this; omega
  | o :: os, [_, _], h, _ => by have := h.1; simp at this; omega
  | o :: os, a :: b :: c :: cs, h, hs => by
    have sh : ∀ (i r : Nat), (a :: b :: c :: cs)[(i + 1) * 3 + r]? = cs[i * 3 + r]? := fun i r => by
      rw [show (i + 1) * 3 + r = i * 3 + r + 1 + 1 + 1 by omega]
      simp only [List.getElem?_cons_succ]
    obtain ⟨css, h1, h2⟩ := parts_ob (F := F) hg os cs ⟨by have := h.1; simp only [List.length_cons] at this; omega, fun i x hx => by
      obtain ⟨A, m, d, q0, q1, q2, q3⟩ := h.2 (i + 1) x (by simpa using hx)
      exact ⟨A, m, d, by simpa using (sh i 0).symm.trans q0, by rw [← sh i 1]; exact q1, by rw [Nat.add_assoc, ← sh i (1 + 1), ← Nat.add_assoc]; exact q2, q3⟩⟩
      ⟨fun q a m c q1 q2 q3 => hs.1 (q + 1) a m c (by simp only [List.length_cons]; omega) (by rw [sh]; exact q2) q3, fun q q' a a' m c m' c' q1 q2 q3 q4 q5 => hs.2 (q + 1) (q' + 1) a a' m c m' c' (by simp only [List.length_cons]; omega) (by simp only [List.length_cons]; omega) (by omega) (by rw [sh]; exact q4) (by rw [sh]; exact q5)⟩
    obtain ⟨A, m, d, q0, q1, q2, q3, q4, q5⟩ := h.2 0 o rfl
    have e0 : a = .int .i64 o.k := by simpa using q0
    have e1 : b = .slice A m d := by simpa using q1
    have e2 : c = .string o.t := by simpa using q2
    subst e0 e1 e2
    refine ⟨_ :: css, by rw [List.flatten_cons, h1]; rfl, fun b => ∃ a, A = some a ∧ 0 < m ∧ a.block = b, LkB cs, ?_, ?_, ?_, ?_, sepOb_mk (A := A) (d := d) ?_ q4 q5, h2⟩
    · rintro b ⟨a, rfl, h3, h4⟩
      exact ⟨0, a, m, d, rfl, h3, h4⟩
    · rintro b ⟨q, a, m, c, h3, h4⟩
      exact ⟨q + 1, a, m, c, by rw [sh]; exact h3, h4⟩
    · rintro b ⟨a, rfl, h3, h4⟩ ⟨q, a', m', c', h5, h6, h7⟩
      have hq : q < os.length := by
        have h8 := (List.getElem?_eq_some_iff.1 h5).1
        have := h.1
        simp only [List.length_cons] at this
        omega
      exact hs.2 0 (q + 1) a a' m d m' c' (by simp) (by simp only [List.length_cons]; omega) (by omega) rfl (by rw [sh]; exact h5) h3 h6 (h4.trans h7.symm)
    · rintro ⟨a, rfl, h3, h4⟩
      obtain ⟨_, _, ys, h5⟩ := q3.2 a rfl
      obtain ⟨zs, h6⟩ := hg
      rw [h4] at h5
      have := h5.symm.trans h6
      injection this with this
      injection this with _ this
      exact absurd this (by decide)
    · rcases Nat.eq_zero_or_pos m with rfl | hm
      · exact Or.inl ⟨rfl, List.eq_nil_of_length_eq_zero q3.1.1⟩
      · obtain ⟨ad, e, _, hc⟩ := q3.1.2 hm
        obtain ⟨h3, h4, ys, h5⟩ := q3.2 ad e
        subst e
        refine Or.inr ⟨ad.block, ys, by rw [← h4], h3, ⟨ad, rfl, hm, rfl⟩, h5, q3.1.1, ?_⟩
        have hl := q3.1.1
        apply List.ext_getElem?
        intro i
        by_cases hi : i < m
        · rw [List.getElem?_take_of_lt hi]
          have hx : o.xs[i]? = some (o.xs[i]'(by omega)) := List.getElem?_eq_getElem _
          have h6 := hc i _ hx
          rw [h4, add_flat, Nat.zero_add] at h6
          have h7 : ys[i]? = some (.int .i64 (o.xs[i]'(by omega))) := by rw [← h5.cell i]; exact h6
          rw [h7]
          simp [ints, hx]
        · rw [List.getElem?_eq_none (by rw [List.length_take]; omega), List.getElem?_eq_none (by simp [ints]; omega)]
theorem OwnS.ssl {w : World} {B F n c : Nat} {A : Option Addr} {os : List Ob} (h : OwnS w B F (.slice A n c) n os) (hF : w.heap.size ≤ F) : SSl 33 sepOb B (Iv B F) w A n c os := by
  have hl := OwnR.len h.own
  obtain ⟨cs, h1, h2, h3⟩ := h
  refine ⟨hl, ?_⟩
  rcases h1.2 with ⟨h0, _⟩ | ⟨g, cap, cur, hv, hb, hh, _⟩
  · injection h0 with e1 e2 e3
    exact Or.inl ⟨e1, e2, e3⟩
  · injection hv with e1 _ e3
    have hB : Blk w g 33 cur.toList := by unfold Blk; simpa using hh
    have hgl := hB.lt
    obtain ⟨css, q1, q2⟩ := parts_ob (F := F) ⟨_, hB⟩ os cs h2 (by rw [hl]; exact h3)
    refine Or.inr ⟨g, css, e1, ⟨hb, by omega⟩, by rw [q1]; exact h1, q2.widen ?_⟩
    rintro b ⟨q, a, m, c', h5, h6, rfl⟩
    have hq : q < os.length := by have := (List.getElem?_eq_some_iff.1 h5).1; have := h2.1; omega
    obtain ⟨A', m', d', _, p1, _, p3, _⟩ := h2.2 q _ (List.getElem?_eq_getElem hq)
    rw [h5] at p1
    injection p1 with p1
    injection p1 with p1 p2 _
    subst p1
    exact ⟨(p3.2 a rfl).1, h3.1 q a m c' (by omega) h5 h6⟩
end Go.Proofs.Ytjofgbbofagoiaa
