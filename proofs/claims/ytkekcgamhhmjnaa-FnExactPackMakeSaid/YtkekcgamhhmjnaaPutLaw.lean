/- Plain lemmas: the cells of slices of objects as lists; append of nothing as a step of a drawn region. -/
import Derived.Test.YtkekcgamhhmjnaaCopy
namespace Go.Proofs.Ytkekcgamhhmjnaa
open Go.RowKit Go.Sort

section
variable {P : Program} {w : World}
/-- append of nothing, at one operation of a region that draws its order -/
theorem step_app0 {ops : Array Oper} {o : Oper} {a : Act} {K : Act → World → Prop} {Q : Exit → Act → World → Prop} {E : Prop} (hgd : o.guard = none) (s x : Operand) (t : TypeId)
    (ho : o.op = .call { callee := .builtin .append, args := #[s, x], argTypes := #[t, t] })
    (base : Nat) (e : TypeId) {z : Value} {size bytes : Nat} (ht : P.underlying t = some (.slice e)) (hi : (P.info? e).map (fun i => (i.zero, i.size, i.bytes)) = some (some z, size, bytes))
    (v : Value) (n : Nat) (xs : List Value) (hs : a.eval s = v) (hown : w.ownsRow base e size v n xs) (A : Option Addr) (c : Nat) (hx : a.eval x = .slice A 0 c)
    (h : K (a.put o.dst v) w) :
    if Region.wanted o (yielded ops a.tmps) = true then Oper.wp P o a w K Q else E := by
  have hw : Region.wanted o (yielded ops a.tmps) = true := by simp [Region.wanted, hgd]
  rw [if_pos hw]
  obtain ⟨i0, hi0, _, _, _⟩ := info_parts hi
  have hr := run_append_zero (P := P) (w := w) base t o.type e i0 size ht hi0 v n xs hown A c
  unfold Oper.wp execOp
  simp only [ho, resolve, invoke, builtin, Sem.run_bind, Sem.run_pure, Result.andThen_ok, List.map_toArray, List.map_cons, List.map_nil, hs, hx, hr]
  exact h
theorem own_emp {W : World} {B g : Nat} {t : TypeId} {size : Nat} (h : Blk W g t []) (hB : B ≤ g) : W.ownsRow B t size (.slice (some ⟨g, 0, none⟩) 0 0) 0 [] :=
  ⟨by simp, .inr ⟨g, 0, #[], rfl, hB, h, Nat.le_refl _, by simp [maxLen], by simp, by simp⟩⟩
end

theorem Elems.take {cs : List Value} {os : List Ob} {R : Option Addr → Nat → List Int → Prop} (h : Elems cs os R) (k : Nat) (hk : k ≤ os.length) : Elems (cs.take (k * 3)) (os.take k) R := by
  have hl := h.1
  refine ⟨by rw [List.length_take, List.length_take]; omega, fun i o ho => ?_⟩
  rw [List.getElem?_take] at ho
  split at ho
  · obtain ⟨A, m, d, h0, h1, h2, h3⟩ := h.2 i o ho
    exact ⟨A, m, d, by rw [List.getElem?_take, if_pos (by omega)]; exact h0, by rw [List.getElem?_take, if_pos (by omega)]; exact h1, by rw [List.getElem?_take, if_pos (by omega)]; exact h2, h3⟩
  · cases ho
theorem Elems.drop {cs : List Value} {os : List Ob} {R : Option Addr → Nat → List Int → Prop} (h : Elems cs os R) (k : Nat) : Elems (cs.drop (k * 3)) (os.drop k) R := by
  have hl := h.1
  refine ⟨by rw [List.length_drop, List.length_drop]; omega, fun i o ho => ?_⟩
  rw [List.getElem?_drop] at ho
  obtain ⟨A, m, d, h0, h1, h2, h3⟩ := h.2 _ o ho
  exact ⟨A, m, d, by rw [List.getElem?_drop, show k * 3 + i * 3 = (k + i) * 3 by omega]; exact h0, by rw [List.getElem?_drop, show k * 3 + (i * 3 + 1) = (k + i) * 3 + 1 by omega]; exact h1, by rw [List.getElem?_drop, show k * 3 + (i * 3 + 1 + 1) = (k + i) * 3 + 1 + 1 by omega]; exact h2, h3⟩
/-- the cells of a slice of objects, as a list -/
theorem RObjs.cellsL {w : World} {b off n : Nat} {os : List Ob} (h : RObjs w (some ⟨b, off, none⟩) n os) : ∃ cs : List Value, cs.length = n * 3 ∧ (0 < n → b < w.heap.size) ∧ (∀ j u, cs[j]? = some u → w.cell? ⟨b, off + j, none⟩ = some u) ∧ Elems cs os (RInts w) ∧ ∀ u ∈ cs, u.oneCell' = true := by
  have hl := h.1
  have hat : ∀ i, i < n → ∃ B m d, ∃ o : Ob, os[i]? = some o ∧ w.cell? ⟨b, off + i * 3, none⟩ = some (.int .i64 o.k) ∧ w.cell? ⟨b, off + (i * 3 + 1), none⟩ = some (.slice B m d) ∧ w.cell? ⟨b, off + (i * 3 + 1 + 1), none⟩ = some (.string o.t) ∧ RInts w B m o.xs ∧ m ≤ maxLen ∧ o.t.size ≤ maxLen := by
    intro i hi
    obtain ⟨b', off', o, hA, _, ho, B, m, d, h0, h1, h2, h3⟩ := h.at_ hi
    injection hA with hA; injection hA with hA1 hA2; subst hA1 hA2
    exact ⟨B, m, d, o, ho, h0, by rw [← Nat.add_assoc]; exact h1, by rw [← Nat.add_assoc, ← Nat.add_assoc]; exact h2, h3⟩
  have hc : ∀ j, j < n * 3 → ∃ u, w.cell? ⟨b, off + j, none⟩ = some u ∧ u.oneCell' = true := by
    intro j hj
    obtain ⟨B, m, d, o, _, h0, h1, h2, _⟩ := hat (j / 3) (by omega)
    have : j = j / 3 * 3 ∨ j = j / 3 * 3 + 1 ∨ j = j / 3 * 3 + 1 + 1 := by omega
    rcases this with e | e | e
    · exact ⟨_, by rw [e]; exact h0, rfl⟩
    · exact ⟨_, by rw [e]; exact h1, rfl⟩
    · exact ⟨_, by rw [e]; exact h2, rfl⟩
  have hget : ∀ j u, ((List.range (n * 3)).map fun j => (w.cell? ⟨b, off + j, none⟩).getD (.int .i64 0))[j]? = some u → j < n * 3 ∧ w.cell? ⟨b, off + j, none⟩ = some u := by
    intro j u hu
    have hj : j < n * 3 := by have := (List.getElem?_eq_some_iff.1 hu).1; simpa using this
    obtain ⟨v, hv, _⟩ := hc j hj
    rw [List.getElem?_map, List.getElem?_range hj] at hu
    simp [hv] at hu
    exact ⟨hj, by rw [hv, hu]⟩
  have hput : ∀ j u, j < n * 3 → w.cell? ⟨b, off + j, none⟩ = some u → ((List.range (n * 3)).map fun j => (w.cell? ⟨b, off + j, none⟩).getD (.int .i64 0))[j]? = some u := by
    intro j u hj hu
    rw [List.getElem?_map, List.getElem?_range hj]
    simp [hu]
  refine ⟨(List.range (n * 3)).map fun j => (w.cell? ⟨b, off + j, none⟩).getD (.int .i64 0), by simp, fun hn => ?_, fun j u hu => (hget j u hu).2, ⟨by simp [hl], fun i o ho => ?_⟩, fun u hu => ?_⟩
  · obtain ⟨b', off', hA, hlt, _⟩ := h.2 hn
    injection hA with hA; injection hA with hA1 hA2; subst hA1; exact hlt
  · have hi : i < n := by have := (List.getElem?_eq_some_iff.1 ho).1; omega
    obtain ⟨B, m, d, o', ho', h0, h1, h2, h3⟩ := hat i hi
    rw [ho] at ho'; injection ho' with ho'; subst ho'
    exact ⟨B, m, d, hput _ _ (by omega) h0, hput _ _ (by omega) h1, hput _ _ (by omega) h2, h3⟩
  · obtain ⟨j, hj⟩ := List.mem_iff_getElem?.1 hu
    obtain ⟨hjn, hcell⟩ := hget j u hj
    obtain ⟨v, hv, h1⟩ := hc j hjn
    rw [hcell] at hv; injection hv with hv; subst hv; exact h1
theorem add_at (b off n : Nat) : (⟨b, off, none⟩ : Addr).add n = ⟨b, off + n, none⟩ := by
  unfold Addr.add; split
  · subst n; rfl
  · rfl

end Go.Proofs.Ytkekcgamhhmjnaa
