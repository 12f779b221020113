/- A queue of ints that lies from some cell of a block on: its tail, and appending to it. -/
import Derived.Test.YtjofgbbofagoiaaApp
import Derived.Test.YtjofgbbofagoiaaRchPlain
import Derived.Test.YtjofgbbofagoiaaClone
import Derived.ArgAppend
namespace Go.Proofs.Ytjofgbbofagoiaa
open Go.RowKit Go.Sort

def spliceQ : List Value → Nat → List Value → List Value
  | cs, _, [] => cs
  | cs, o, v :: r => spliceQ (cs.set o v) (o + 1) r
theorem spliceQ_len : ∀ (vs cs : List Value) (o : Nat), (spliceQ cs o vs).length = cs.length
  | [], cs, o => rfl
  | v :: r, cs, o => by rw [spliceQ, spliceQ_len r, List.length_set]
theorem spliceQ_eq : ∀ (vs cs : List Value) (o : Nat), o + vs.length ≤ cs.length → spliceQ cs o vs = cs.take o ++ vs ++ cs.drop (o + vs.length)
  | [], cs, o, h => by simp [spliceQ]
  | v :: r, cs, o, h => by
    simp only [List.length_cons] at h
    rw [spliceQ, spliceQ_eq r _ _ (by rw [List.length_set]; omega)]
    have h1 : (cs.set o v).take (o + 1) = cs.take o ++ [v] := by
      rw [List.take_set, List.take_succ_eq_append_getElem (by omega), List.set_append_right _ _ (by rw [List.length_take]; omega)]
      rw [List.length_take, Nat.min_eq_left (by omega), Nat.sub_self]; rfl
    have h2 : (cs.set o v).drop (o + 1 + r.length) = cs.drop (o + (v :: r).length) := by
      rw [List.drop_set, if_pos (by omega)]
      congr 1; simp only [List.length_cons]; omega
    rw [h1, h2]; simp
theorem Blk.setCellsQ {g : Nat} {t : TypeId} : ∀ (vs cs : List Value) (o : Nat) (w : World), Blk w g t cs → Blk (w.setCells g o vs) g t (spliceQ cs o vs)
  | [], _, _, _, h => h
  | v :: r, cs, o, w, h => by
    rw [World.setCells, spliceQ]
    exact Blk.setCellsQ r _ _ _ (h.set_ o v)
theorem grown_setCellsQ {g : Nat} : ∀ (vs : List Value) (o : Nat) {w w' : World}, w.grownBy w' (some g) → w.grownBy (w'.setCells g o vs) (some g)
  | [], o, _, _, h => h
  | v :: r, o, w, w', h => by
    rw [World.setCells]
    exact grown_setCellsQ r _ (grown_setCell h v)
/-- a queue: where it is not empty, in a block of the call's own, from some cell on -/
def QRow (w : World) (B : Nat) (A : Option Addr) (n c : Nat) (xs : List Int) : Prop :=
  xs.length = n ∧ n ≤ c ∧ c ≤ maxLen ∧ ((A = none ∧ n = 0 ∧ c = 0) ∨ ∃ g off cs, A = some ⟨g, off, none⟩ ∧ B ≤ g ∧ Blk w g 3 cs ∧ off + c ≤ cs.length ∧ (cs.drop off).take n = ints xs)
section
variable {w w' : World} {B n c : Nat} {A : Option Addr} {xs : List Int} {x : Int}
theorem QRow.of_own (h : w.ownsRow B 3 1 (.slice A n c) n (ints xs)) : QRow w B A n c xs := by
  have hl := h.1
  rw [length_ints] at hl
  rcases h.2 with ⟨h0, h3⟩ | ⟨g, cap, cur, hv, hb, hh, h1, h2, h3, h4⟩
  · injection h0 with e1 e2 e3
    subst e1 e2 e3
    exact ⟨by omega, Nat.le_refl _, by simp [maxLen], Or.inl ⟨rfl, rfl, rfl⟩⟩
  · injection hv with e1 e2 e3
    subst e1 e3
    refine ⟨by omega, h1, h2, Or.inr ⟨g, 0, cur.toList, rfl, hb, by unfold Blk; simpa using hh, by simp; omega, ?_⟩⟩
    simpa using h4
theorem QRow.next (h : QRow w B A n c xs) (hb : Below w.heap.size w w') : QRow w' B A n c xs :=
  ⟨h.1, h.2.1, h.2.2.1, h.2.2.2.imp id fun ⟨g, off, cs, q1, q2, q3, q4⟩ => ⟨g, off, cs, q1, q2, q3.next hb, q4⟩⟩
theorem QRow.grown {row : Option Nat} (h : QRow w B A n c xs) (hg : w.grownBy w' row) (hr : ∀ g, row = some g → g < B ∨ ∃ cs e fz, w.heap[g]? = some (.cells cs e fz) ∧ e ≠ 3) : QRow w' B A n c xs :=
  ⟨h.1, h.2.1, h.2.2.1, h.2.2.2.imp id fun ⟨g, off, cs, q1, q2, q3, q4⟩ => ⟨g, off, cs, q1, q2, q3.grown hg (fun e => by
    rcases hr g e.symm with h1 | ⟨cs', e', fz, h1, h2⟩
    · omega
    · have := q3.symm.trans h1
      injection this with this
      injection this with _ this
      exact h2 this.symm), q4⟩⟩
theorem QRow.other {g0 : Nat} (h : QRow w B A n c xs) (hg : w.grownBy w' (some g0)) (hne : ∀ a, A = some a → a.block ≠ g0) : QRow w' B A n c xs :=
  ⟨h.1, h.2.1, h.2.2.1, h.2.2.2.imp id fun ⟨g, off, cs, q1, q2, q3, q4⟩ => ⟨g, off, cs, q1, q2, q3.grown hg (fun e => by injection e with e; exact hne _ q1 e), q4⟩⟩
theorem QRow.head (h : QRow w B A n c (x :: xs)) : ∃ g off, A = some ⟨g, off, none⟩ ∧ B ≤ g ∧ g < w.heap.size ∧ w.cell? ⟨g, off, none⟩ = some (.int .i64 x) ∧ n = xs.length + 1 := by
  obtain ⟨h1, h2, h3, h4⟩ := h
  simp only [List.length_cons] at h1
  rcases h4 with ⟨_, h5, _⟩ | ⟨g, off, cs, q1, q2, q3, q4, q5⟩
  · omega
  · refine ⟨g, off, q1, q2, q3.lt, ?_, by omega⟩
    rw [q3.cell]
    have h6 := congrArg (fun l => l[0]?) q5
    rw [List.getElem?_take_of_lt (by omega), List.getElem?_drop] at h6
    simpa [ints] using h6
theorem QRow.tail {g off : Nat} (h : QRow w B (some ⟨g, off, none⟩) (n + 1) c (x :: xs)) : QRow w B (some ⟨g, off + 1, none⟩) n (c - 1) xs ∧ (c = 1 → QRow w B (some ⟨g, off, none⟩) 0 0 [] ∧ xs = [] ∧ n = 0) := by
  obtain ⟨h1, h2, h3, h4⟩ := h
  simp only [List.length_cons] at h1
  rcases h4 with ⟨h4, _⟩ | ⟨g', off', cs, q1, q2, q3, q4, q5⟩
  · cases h4
  · injection q1 with q1
    injection q1 with e1 e2
    subst e1 e2
    constructor
    · refine ⟨by omega, by omega, by omega, Or.inr ⟨g, off + 1, cs, rfl, q2, q3, by omega, ?_⟩⟩
      have h6 := congrArg (List.drop 1) q5
      rw [List.drop_take, List.drop_drop] at h6
      simpa [ints] using h6
    · intro hc
      have h0 : xs = [] := List.eq_nil_of_length_eq_zero (by omega)
      exact ⟨⟨rfl, Nat.le_refl _, by simp [maxLen], Or.inr ⟨g, off, cs, rfl, q2, q3, by omega, by simp [ints]⟩⟩, h0, by omega⟩
end
section
variable {P : Program} {w : World}
theorem run_append_zeroQ (t ty e : TypeId) (i : TypeInfo) (ht : P.underlying t = some (.slice e)) (hi : P.info? e = some i) (A : Option Addr) (n c : Nat) (h : n ≤ c ∧ (A = none → n = 0 ∧ c = 0)) (A2 : Option Addr) (c2 : Nat) :
    (Builtin.append_ #[t, t] ty #[.slice A n c, .slice A2 0 c2]).run P w = .ok (.slice A n c) w := by
  obtain ⟨h1, h2⟩ := h
  cases A with
  | none =>
    obtain ⟨rfl, rfl⟩ := h2 rfl
    cases A2
    · simp [Builtin.append_, run_underlying ht, sizeOf, typeInfo, hi, Builtin.lenOf, Builtin.firstCells]
    · simp [Builtin.append_, run_underlying ht, sizeOf, typeInfo, hi, Builtin.lenOf, Builtin.firstCells, loadCells, loadCellsFrom]
  | some a =>
    cases A2
    · simp [Builtin.append_, run_underlying ht, sizeOf, typeInfo, hi, Builtin.lenOf, Builtin.firstCells, h1, storeCells]
    · simp [Builtin.append_, run_underlying ht, sizeOf, typeInfo, hi, Builtin.lenOf, Builtin.firstCells, h1, storeCells, loadCells, loadCellsFrom]
end
/-- append of ints to a queue -/
theorem wpList_appQ {w : World} {ops : Array Oper} {rest : List Oper} {o : Oper} {a : Act} {Q : Exit → Act → World → Prop} (hgd : o.guard = none) (s x : Operand)
    (ho : o.op = .call { callee := .builtin .append, args := #[s, x], argTypes := #[27, 27] })
    (B : Nat) (A : Option Addr) (n c : Nat) (xs : List Int) (hs : a.eval s = .slice A n c) (hq : QRow w B A n c xs)
    (S : Option Addr) (m d : Nat) (ys : List Int) (hx : a.eval x = .slice S m d) (hr : RInts w S m ys) (hn : n + m ≤ 1000000000) (hB : B ≤ w.heap.size)
    (h : ∀ A' c' w', QRow w' B A' (n + m) c' (xs ++ ys) → Below B w w' → w.grownBy w' (Value.slice A n c).ownBlock → (∀ a, A' = some a → (∃ b, A = some b ∧ b.block = a.block) ∨ w.heap.size ≤ a.block) → wpList Try.prog ops Q rest (a.put o.dst (.slice A' (n + m) c')) w') : wpList Try.prog ops Q (o :: rest) a w := by
  obtain ⟨i0, hi0, hz0, hz1, hz2⟩ := info_parts (P := Try.prog) int_info1
  have hly : (ints ys).length = m := by rw [length_ints]; exact hr.1
  rcases Nat.eq_zero_or_pos m with rfl | hm
  · have h0 : ys = [] := List.eq_nil_of_length_eq_zero hr.1
    subst h0
    refine wpList_plain hgd fun K hK => ?_
    have hrun := run_append_zeroQ (P := Try.prog) (w := w) 27 o.type 3 i0 Try.underlying27 hi0 A n c ⟨hq.2.1, fun e => by
      rcases hq.2.2.2 with ⟨_, h1, h2⟩ | ⟨g, off, cs, q1, _⟩
      · exact ⟨h1, h2⟩
      · rw [e] at q1; cases q1⟩ S d
    unfold Oper.wp
    simp [execOp, ho, resolve, invoke, builtin, hs, hx, hrun, Result.andThen]
    exact hK _ _ (h A c w (by simpa using hq) (Below.refl _ _) (World.grownBy.refl _ _) (fun a e => Or.inl ⟨a, e, rfl⟩))
  · obtain ⟨ad, rfl, _, hc⟩ := hr.2 hm
    have hcy : ∀ (j : Nat) (u : Value), (ints ys)[j]? = some u → w.cell? (ad.add j) = some u := fun j u hu => by
      have hj : j < ys.length := by have := (List.getElem?_eq_some_iff.1 hu).1; rwa [length_ints] at this
      have := hc j _ (List.getElem?_eq_getElem hj)
      rw [this]
      simpa [ints, hj] using hu
    have h1c : ∀ u ∈ ints ys, u.oneCell' = true := fun u hu => by
      obtain ⟨y, _, rfl⟩ := List.mem_map.1 hu
      rfl
    obtain ⟨q0, q1, q2, q3⟩ := hq
    have b1 : n + m ≤ maxLen := by simp only [maxLen]; omega
    have hgrow : ∀ v' w', w'.ownsRow w.heap.size 3 1 v' (n + m) (ints xs ++ ints ys) → w.grownBy w' none → wpList Try.prog ops Q rest (a.put o.dst v') w' := fun v' w' hown hgr => by
      obtain ⟨A', c', rfl, _⟩ := own_form hown
      have he : ints xs ++ ints ys = ints (xs ++ ys) := by simp [ints]
      rw [he] at hown
      have HA : ∀ a, A' = some a → w.heap.size ≤ a.block := fun a e => by
        obtain ⟨g1, e1, e2, _⟩ := own_addr hown (by omega)
        subst e1
        injection e with e
        subst e
        exact e2
      exact h A' c' w' (QRow.of_own (own_base hown hB)) ⟨hgr.os, hgr.tape, hgr.output, hgr.size, fun i hi => hgr.block i (by omega) (by simp)⟩ ⟨hgr.os, hgr.tape, hgr.output, hgr.size, fun i hi _ => hgr.block i hi (by simp)⟩ (fun a e => Or.inr (HA a e))
    rcases q3 with ⟨rfl, rfl, rfl⟩ | ⟨g, off, cs, rfl, p1, p2, p3, p4⟩
    · have h0 : xs = [] := List.eq_nil_of_length_eq_zero q0
      subst h0
      exact wpList_append_grows w hgd s x 27 ho 3 i0 (.int .i64 0) 1 8 Try.underlying27 hi0 hz0 hz1 hz2 rfl (by omega) none 0 0 [] hs (fun _ => ⟨rfl, rfl⟩) rfl (fun b e => by cases e) ad m d (ints ys) hx (by omega) hcy h1c (by omega) b1 (by omega) (fun v' w' h1 h2 => hgrow v' w' (by simpa [ints] using h1) h2)
    · refine wpList_append_arg w hgd s x 27 ho 3 i0 (.int .i64 0) 1 8 Try.underlying27 hi0 hz0 hz1 hz2 rfl (by omega) g off n c (ints xs) hs (by rw [length_ints]; omega) (fun j u hu => ?_) ad m d (ints ys) hx (by omega) hcy h1c (fun hr' j hj => ⟨?_, p2.frozen _⟩) b1 (by omega) (fun hr' => ?_) (fun _ v' w' h1 h2 => hgrow v' w' h1 h2)
      · have hj : j < n := by have := (List.getElem?_eq_some_iff.1 hu).1; rw [length_ints] at this; omega
        rw [p2.cell]
        rw [← p4, List.getElem?_take_of_lt hj, List.getElem?_drop] at hu
        exact hu
      · rw [p2.cell, List.getElem?_eq_getElem (by omega)]
        rfl
      · rw [Nat.mul_one]
        have hgr : w.grownBy (w.setCells g (off + n) (ints ys)) (some g) := grown_setCellsQ _ _ (World.grownBy.refl _ _)
        refine h _ c _ ⟨by rw [List.length_append, q0, hr.1], hr', q2, Or.inr ⟨g, off, _, rfl, p1, p2.setCellsQ (ints ys) cs (off + n), by rw [spliceQ_len]; exact p3, ?_⟩⟩ ⟨hgr.os, hgr.tape, hgr.output, hgr.size, fun i hi => hgr.block i (by omega) (fun e => by injection e with e; omega)⟩ hgr (fun a e => Or.inl ⟨_, rfl, congrArg Addr.block (Option.some.inj e)⟩)
        rw [spliceQ_eq _ _ _ (by omega), List.append_assoc, List.drop_append_of_le_length (by rw [List.length_take]; omega), List.drop_take, Nat.add_sub_cancel_left, p4]
        have hlx : (ints xs).length = n := by rw [length_ints]; exact q0
        rw [List.take_append, hlx, List.take_of_length_le (by omega), Nat.add_sub_cancel_left, List.take_append_of_le_length (by omega), List.take_of_length_le (by omega)]
        simp [ints]
theorem add_flr (b off n : Nat) : (⟨b, off, none⟩ : Addr).add n = ⟨b, off + n, none⟩ := by simp [Addr.add]
theorem row_lt {w : World} {B n k c : Nat} {A : Option Addr} {xs : List Value} {a : Addr} (h : w.ownsRow B 3 1 (.slice A n c) k xs) (e : A = some a) : B ≤ a.block ∧ a.block < w.heap.size ∧ ∃ cs, Blk w a.block 3 cs := by
  subst e
  rcases h.2 with ⟨h0, _⟩ | ⟨g, cap, cur, hv, hb, hh, _⟩
  · cases h0
  · injection hv with e1
    injection e1 with e1
    subst e1
    exact ⟨hb, (Array.getElem?_eq_some_iff.1 hh).1, cur.toList, by unfold Blk; simpa using hh⟩
theorem own_keep {w w' : World} {B n k c : Nat} {A : Option Addr} {xs : List Value} {row : Option Nat} (h : w.ownsRow B 3 1 (.slice A n c) k xs) (hg : w.grownBy w' row) (hr : ∀ a, A = some a → row ≠ some a.block) : w'.ownsRow B 3 1 (.slice A n c) k xs := by
  refine h.kept hg ?_
  cases A with
  | none => exact Or.inl rfl
  | some a => exact Or.inr (fun e => hr a rfl (e.symm ▸ by simp [Value.ownBlock]))
theorem ownb {a : Addr} {n c : Nat} : (Value.slice (some a) n c).ownBlock = some a.block := by simp [Value.ownBlock]
theorem ownb_none {n c : Nat} : (Value.slice none n c).ownBlock = none := by simp [Value.ownBlock]
end Go.Proofs.Ytjofgbbofagoiaa
