/- Slices of objects whose row the call owns; append with an empty source; walks of the reference's copies. -/
import Derived.Test.YtkekcgamhhmjnaaDrawObj
import Derived.Test.YtkekcgamhhmjnaaObjs
namespace Go.Proofs.Ytkekcgamhhmjnaa
open Go.RowKit Go.Sort

section
variable {P : Program} {w : World}
theorem run_append_zero (base : Nat) (t ty e : TypeId) (i : TypeInfo) (size : Nat) (ht : P.underlying t = some (.slice e)) (hi : P.info? e = some i)
    (v : Value) (n : Nat) (xs : List Value) (hown : w.ownsRow base e size v n xs) (A : Option Addr) (c : Nat) :
    (Builtin.append_ #[t, t] ty #[v, .slice A 0 c]).run P w = .ok v w := by
  rcases hown.2 with ⟨rfl, rfl⟩ | ⟨g, cap, cur, rfl, _, _, hnc, _⟩ <;> cases A
  · simp [Builtin.append_, run_underlying ht, sizeOf, typeInfo, hi, Builtin.lenOf, Builtin.firstCells]
  · simp [Builtin.append_, run_underlying ht, sizeOf, typeInfo, hi, Builtin.lenOf, Builtin.firstCells, loadCells, loadCellsFrom]
  · simp [Builtin.append_, run_underlying ht, sizeOf, typeInfo, hi, Builtin.lenOf, Builtin.firstCells, hnc, storeCells]
  · simp [Builtin.append_, run_underlying ht, sizeOf, typeInfo, hi, Builtin.lenOf, Builtin.firstCells, hnc, storeCells, loadCells, loadCellsFrom]
theorem wpList_app0 {ops : Array Oper} {rest : List Oper} {o : Oper} {a : Act} {Q : Exit → Act → World → Prop} (hgd : o.guard = none) (s x : Operand) (t : TypeId)
    (ho : o.op = .call { callee := .builtin .append, args := #[s, x], argTypes := #[t, t] })
    (base : Nat) (e : TypeId) {z : Value} {size bytes : Nat} (ht : P.underlying t = some (.slice e)) (hi : (P.info? e).map (fun i => (i.zero, i.size, i.bytes)) = some (some z, size, bytes))
    (v : Value) (n : Nat) (xs : List Value) (hs : a.eval s = v) (hown : w.ownsRow base e size v n xs) (A : Option Addr) (c : Nat) (hx : a.eval x = .slice A 0 c)
    (h : wpList P ops Q rest (a.put o.dst v) w) : wpList P ops Q (o :: rest) a w := by
  obtain ⟨i0, hi0, _, _, _⟩ := info_parts hi
  refine wpList_plain hgd fun K hK => ?_
  have hrun := run_append_zero (P := P) (w := w) base t o.type e i0 size ht hi0 v n xs hown A c
  unfold Oper.wp
  simp [execOp, ho, resolve, invoke, builtin, hs, hx, hrun, Result.andThen]
  exact hK _ _ h
end

/-- cells that read as objects; R tells of the links -/
def Elems (cs : List Value) (os : List Ob) (R : Option Addr → Nat → List Int → Prop) : Prop :=
  cs.length = os.length * 3 ∧ ∀ (i : Nat) (o : Ob), os[i]? = some o → ∃ A m d, cs[i * 3]? = some (.int .i64 o.k) ∧ cs[i * 3 + 1]? = some (.slice A m d) ∧ cs[i * 3 + 1 + 1]? = some (.string o.t) ∧ R A m o.xs ∧ m ≤ maxLen ∧ o.t.size ≤ maxLen
section
variable {cs ds : List Value} {os ps : List Ob} {R R' : Option Addr → Nat → List Int → Prop}
theorem Elems.nil : Elems [] [] R := ⟨rfl, fun i o h => by simp at h⟩
theorem Elems.one {o : Ob} {A : Option Addr} {m d : Nat} (h : R A m o.xs) (hm : m ≤ maxLen) (ht : o.t.size ≤ maxLen) : Elems [.int .i64 o.k, .slice A m d, .string o.t] [o] R :=
  ⟨rfl, fun i o' h' => by
    cases i with
    | zero => simp at h'; subst h'; exact ⟨A, m, d, rfl, rfl, rfl, h, hm, ht⟩
    | succ i => simp at h'⟩
theorem Elems.mono (h : Elems cs os R) (hR : ∀ A m xs, R A m xs → R' A m xs) : Elems cs os R' :=
  ⟨h.1, fun i o ho => by obtain ⟨A, m, d, h0, h1, h2, h3, h4⟩ := h.2 i o ho; exact ⟨A, m, d, h0, h1, h2, hR _ _ _ h3, h4⟩⟩
theorem Elems.append (h : Elems cs os R) (h' : Elems ds ps R) : Elems (cs ++ ds) (os ++ ps) R := by
  refine ⟨by rw [List.length_append, List.length_append, h.1, h'.1]; omega, fun i o ho => ?_⟩
  have hl := h.1
  rcases Nat.lt_or_ge i os.length with hi | hi
  · rw [List.getElem?_append_left hi] at ho
    obtain ⟨A, m, d, h0, h1, h2, h3⟩ := h.2 i o ho
    exact ⟨A, m, d, by rw [List.getElem?_append_left (by omega)]; exact h0, by rw [List.getElem?_append_left (by omega)]; exact h1, by rw [List.getElem?_append_left (by omega)]; exact h2, h3⟩
  · rw [List.getElem?_append_right hi] at ho
    obtain ⟨A, m, d, h0, h1, h2, h3⟩ := h'.2 _ o ho
    have e0 : i * 3 - cs.length = (i - os.length) * 3 := by omega
    have e1 : i * 3 + 1 - cs.length = (i - os.length) * 3 + 1 := by omega
    have e2 : i * 3 + 1 + 1 - cs.length = (i - os.length) * 3 + 1 + 1 := by omega
    exact ⟨A, m, d, by rw [List.getElem?_append_right (by omega), e0]; exact h0, by rw [List.getElem?_append_right (by omega), e1]; exact h1, by rw [List.getElem?_append_right (by omega), e2]; exact h2, h3⟩
end

/-- a row of objects of the call's own -/
def OwnR (w : World) (B : Nat) (v : Value) (n : Nat) (os : List Ob) (R : Option Addr → Nat → List Int → Prop) : Prop := ∃ cs, w.ownsRow B 34 3 v n cs ∧ Elems cs os R
/-- links that lie in a block of ints, not before block C -/
def LinkIn (w : World) (C : Nat) (A : Option Addr) (m : Nat) (xs : List Int) : Prop := RInts w A m xs ∧ ∀ ad, A = some ad → C ≤ ad.block ∧ ad = ⟨ad.block, 0, none⟩ ∧ ∃ cs, Blk w ad.block 3 cs
/-- .. its links too -/
def OwnO (w : World) (B : Nat) (v : Value) (n : Nat) (os : List Ob) : Prop := OwnR w B v n os (LinkIn w B)
section
variable {w w' : World} {B B' C : Nat} {v : Value} {n : Nat} {os : List Ob} {R R' : Option Addr → Nat → List Int → Prop}
theorem OwnR.len (h : OwnR w B v n os R) : os.length = n := by
  obtain ⟨cs, h1, h2⟩ := h
  have := h1.1; have := h2.1; omega
theorem OwnR.mono (h : OwnR w B v n os R) (hR : ∀ A m xs, R A m xs → R' A m xs) : OwnR w B v n os R' := let ⟨cs, h1, h2⟩ := h; ⟨cs, h1, h2.mono hR⟩
theorem LinkIn.of_own {A : Option Addr} {m d : Nat} {xs : List Int} (h : w.ownsRow B 3 1 (.slice A m d) m (ints xs)) : LinkIn w B A m xs := by
  refine ⟨RInts.of_own h, fun ad hA => ?_⟩
  rcases h.2 with ⟨hv, _⟩ | ⟨g, cap, cur, hv, hb, hh, _⟩
  · injection hv with hv; rw [hA] at hv; cases hv
  · injection hv with hv; rw [hA] at hv; injection hv with hv; subst hv; exact ⟨hb, rfl, cur.toList, by unfold Blk; simpa using hh⟩
theorem LinkIn.base {A : Option Addr} {m : Nat} {xs : List Int} (h : LinkIn w C A m xs) (hB : B ≤ C) : LinkIn w B A m xs := ⟨h.1, fun ad e => ⟨Nat.le_trans hB (h.2 ad e).1, (h.2 ad e).2⟩⟩
theorem LinkIn.grown {A : Option Addr} {m : Nat} {xs : List Int} {row : Option Nat} (h : LinkIn w C A m xs) (hg : w.grownBy w' row) (hrow : ∀ g, row = some g → g < C ∨ ∃ cs e fz, w.heap[g]? = some (.cells cs e fz) ∧ e ≠ 3) : LinkIn w' C A m xs := by
  have hne : ∀ ad, A = some ad → some ad.block ≠ row := by
    intro ad hA hr
    obtain ⟨h1, _, cs, h2⟩ := h.2 ad hA
    rcases hrow ad.block hr.symm with hlt | ⟨cs', e, fz', h3, h4⟩
    · omega
    · unfold Blk at h2; rw [h2] at h3; injection h3 with h3; injection h3 with _ h3; exact h4 h3.symm
  refine ⟨h.1.grown hg hne, fun ad hA => ?_⟩
  obtain ⟨h1, h0, cs, h2⟩ := h.2 ad hA
  exact ⟨h1, h0, cs, (hg.block _ h2.lt (hne ad hA)).trans h2⟩
theorem LinkIn.next {A : Option Addr} {m : Nat} {xs : List Int} (h : LinkIn w C A m xs) (hb : Below w.heap.size w w') : LinkIn w' C A m xs :=
  h.grown (row := none) ⟨hb.os, hb.tape, hb.output, hb.size, fun k hk _ => hb.block k hk⟩ (fun g e => by cases e)
theorem OwnO.next (h : OwnO w B v n os) (hb : Below w.heap.size w w') : OwnO w' B v n os := by
  obtain ⟨cs, h1, h2⟩ := h
  exact ⟨cs, own_below h1 hb, h2.mono fun A m xs hx => hx.next hb⟩
theorem OwnO.base (h : OwnO w B v n os) (hB : B' ≤ B) : OwnO w B' v n os := by
  obtain ⟨cs, h1, h2⟩ := h
  exact ⟨cs, own_base h1 hB, h2.mono fun A m xs hx => hx.base hB⟩
theorem OwnO.grown {g : Nat} (h : OwnO w B v n os) (hg : w.grownBy w' (some g)) (hlt : g < B) : OwnO w' B v n os := by
  obtain ⟨cs, h1, h2⟩ := h
  exact ⟨cs, own_grown h1 hg hlt, h2.mono fun A m xs hx => hx.grown hg (fun g' e => by injection e with e; subst e; exact Or.inl hlt)⟩
theorem OwnR.reads {A : Option Addr} {c : Nat} (h : OwnR w B (.slice A n c) n os R) (hR : ∀ A m xs, R A m xs → RInts w A m xs) : RObjs w A n os := by
  have hl := h.len
  obtain ⟨cs, h1, h2⟩ := h
  refine ⟨hl, fun hn => ?_⟩
  obtain ⟨g, rfl, _, hlt⟩ := own_addr h1 hn
  refine ⟨g, 0, rfl, hlt, fun i o ho => ?_⟩
  obtain ⟨A', m, d, q0, q1, q2, q3, q4⟩ := h2.2 i o ho
  have hc : ∀ (j : Nat) (u : Value), cs[j]? = some u → w.cell? ⟨g, 0 + j, none⟩ = some u := fun j u hu => by
    have := h1.cells (g := g) rfl j u hu
    rwa [show (⟨g, 0, none⟩ : Addr).add j = ⟨g, 0 + j, none⟩ by unfold Addr.add; split <;> simp_all] at this
  exact ⟨A', m, d, hc _ _ q0, by rw [Nat.add_assoc]; exact hc _ _ q1, by rw [Nat.add_assoc, Nat.add_assoc]; exact hc _ _ q2, hR _ _ _ q3, q4⟩
theorem OwnO.reads {A : Option Addr} {c : Nat} (h : OwnO w B (.slice A n c) n os) : RObjs w A n os := OwnR.reads h fun _ _ _ hx => hx.1
end
theorem obj_info1 : (Try.prog.info? 34).map (fun i => (i.zero, i.size, i.bytes)) = some (some (.agg #[.int .i64 0, .slice none 0 0, .string ⟨#[]⟩]), 3, 48) := by kernel_rfl

/-- an object whose links own their cells -/
def IsOb (B : Nat) (o : Ob) (v : Value) (w : World) : Prop := ∃ A n c, v = .agg #[.int .i64 o.k, .slice A n c, .string o.t] ∧ w.ownsRow B 3 1 (.slice A n c) n (ints o.xs) ∧ n ≤ maxLen ∧ o.t.size ≤ maxLen

end Go.Proofs.Ytkekcgamhhmjnaa
