/- Arguments opened to data, by shape. -/
import Derived.Test.YtjofgbbofagoiaaLiftBase
import Derived.Test.YtjofgbbofagoiaaGen
import Derived.Deep.Slices
import Derived.Deep.Fields
namespace Go.Proofs.Ytjofgbbofagoiaa
open Go.ChangeShapes Go.WideShapes Go.ChangeAt Go.RowKit Go.Joins Go.Deep

section
variable {H : Type} {enc : TypeId × Value → H} {P : Program} {α β γ δ : Type}
/-- what has a type's cells has a shape's -/
def Opens (enc : TypeId × Value → H) (P : Program) (r : Rep α) (T : TypeId) : Prop :=
  ∀ (base : Nat) (w : World) (fuel : Nat) (cs : List Value) (x : DataW H × List MemPlace), cs.length = r.sz → DataW.trod enc P w base (fun _ => true) true fuel T cs = some x → ∃ v, r.V 0 w cs v
theorem opens_int {T : TypeId} (hi : P.underlying T = some (.int .i64)) : Opens enc P repInt T := fun _ _ _ _ _ _ h => by
  obtain ⟨k, e, _, _⟩ := DataW.trod_int hi h
  exact ⟨k, e⟩
theorem opens_intw {T : TypeId} (hi : P.underlying T = some (.int .i64)) : Opens enc P repIntW T := fun _ _ _ _ _ _ h => by
  obtain ⟨k, e, _, wk⟩ := DataW.trod_int hi h
  exact ⟨k, e, int_bounds wk⟩
theorem opens_str {T : TypeId} (hs : P.underlying T = some .string) : Opens enc P repStr T := fun _ _ _ _ _ _ h => by
  obtain ⟨t, e, _, ht⟩ := DataW.trod_string hs h
  exact ⟨t, e, ht⟩
theorem opens_sl [Inhabited α] {r : Rep α} {S T : TypeId} (hS : P.underlying S = some (.slice T)) (hC : P.cellsOf T = r.sz) (hz : 0 < r.sz) (ho : Opens enc P r T) : Opens enc P (repSl r) S := fun base w fuel cs x _ h => by
  rcases open_slice hS h with ⟨rfl, _⟩ | ⟨a, len, cap, m, n, D, Pl, rfl, _, hle, hm, hmm, _, hel⟩
  · exact ⟨[], none, 0, 0, rfl, RSl.nil _, by simp [maxLen]⟩
  · simp only [if_true] at hmm
    subst hmm
    obtain ⟨O, hO⟩ := choose_lt (α := α) (n := len) (p := fun i o => ∃ cs : List Value, cs.length = r.sz ∧ (∀ (j : Nat) (u : Value), cs[j]? = some u → w.cell? (a.add (i * r.sz + j)) = some u) ∧ r.V 0 w cs o) (fun i hil => by
      obtain ⟨cs', hcell, ht⟩ := hel i (by omega)
      rw [hC] at hcell
      obtain ⟨_, hlen, hat⟩ := World.cells?_some hcell
      obtain ⟨v, hv⟩ := ho _ _ _ _ _ hlen ht
      refine ⟨v, cs', hlen, fun j u hu => ?_, hv⟩
      have hj := (List.getElem?_eq_some_iff.1 hu).1
      have := hat j (by omega)
      rw [Go.Deep.add_add] at this
      rw [this]
      simp [hu])
    obtain ⟨b, off, spot⟩ := a
    refine ⟨(List.range len).map O, some ⟨b, off, spot⟩, len, _, rfl, ⟨by simp, fun hpos => ?_⟩, by omega⟩
    obtain ⟨cs0, hl0, q0, _⟩ := hO 0 hpos
    have h00 := q0 0 (cs0[0]'(by omega)) (List.getElem?_eq_getElem (by omega))
    have hspot : spot = none := by simpa [Addr.add] using World.cell?_spot h00
    subst hspot
    refine ⟨b, off, rfl, ?_, Nat.zero_le _, fun i o ho' => ?_⟩
    · have := World.block_lt_of_cell? _ _ h00
      rwa [block_of_add] at this
    · have hil : i < len := by
        have := (List.getElem?_eq_some_iff.1 ho').1
        simpa using this
      rw [List.getElem?_map, List.getElem?_range hil] at ho'
      simp at ho'
      subst ho'
      obtain ⟨cs, _, q1, q2⟩ := hO i hil
      refine ⟨cs, fun j u hu => ?_, q2⟩
      have := q1 j u hu
      rw [add_flat] at this
      rw [Nat.add_assoc]
      exact this
theorem opens_as {r : Rep α} {T : TypeId} {f : β → α} (g : α → β) (hg : ∀ x, f (g x) = x) (h : Opens enc P r T) : Opens enc P (repAs r f) T := fun base w fuel cs x hl ht => by
  obtain ⟨v, hv⟩ := h base w fuel cs x hl ht
  exact ⟨g v, show r.V 0 w cs (f (g v)) by rw [hg]; exact hv⟩
theorem opens_2 {r0 : Rep α} {r1 : Rep β} {T t0 t1 : TypeId} {f0 f1 : Field} (hs : P.underlying T = some (.struct #[f0, f1])) (hone : oneCellFields P #[f0, f1] = true) (e0 : f0.type = t0) (e1 : f1.type = t1)
    (o0 : Opens enc P r0 t0) (o1 : Opens enc P r1 t1) (z0 : r0.sz = 1) (z1 : r1.sz = 1) : Opens enc P (rep2 r0 r1) T := fun base w fuel cs x hl h => by
  subst e0 e1
  obtain ⟨v0, v1, rfl⟩ : ∃ a b, cs = [a, b] := by
    have hl' : cs.length = r0.sz + r1.sz := hl
    rw [z0, z1] at hl'
    match cs, hl' with
    | [a, b], _ => exact ⟨a, b, rfl⟩
  obtain ⟨ys, n', _, _, _, hys, hf⟩ := DataW.trod_struct hs h
  have g : ∀ (i : Nat) (f : Field), #[f0, f1][i]? = some f → DataW.trod enc P w base (fun _ => true) true n' f.type (([v0, v1].drop i).take 1) = ys[i]? := by
    intro i f hfi
    obtain ⟨p, q⟩ := hone_of hone i f hfi
    have := hf i f hfi
    rwa [p, q] at this
  have hy : ys.length = 2 := by simpa using hys
  obtain ⟨x0, h0⟩ := o0 _ _ _ _ _ (by simp [z0]) ((g 0 f0 rfl).trans (List.getElem?_eq_getElem (show 0 < ys.length by omega)))
  obtain ⟨x1, h1⟩ := o1 _ _ _ _ _ (by simp [z1]) ((g 1 f1 rfl).trans (List.getElem?_eq_getElem (show 1 < ys.length by omega)))
  exact ⟨(x0, x1), [v0], [v1], rfl, h0, h1⟩
theorem opens_3 {r0 : Rep α} {r1 : Rep β} {r2 : Rep γ} {T t0 t1 t2 : TypeId} {f0 f1 f2 : Field} (hs : P.underlying T = some (.struct #[f0, f1, f2])) (hone : oneCellFields P #[f0, f1, f2] = true) (e0 : f0.type = t0) (e1 : f1.type = t1) (e2 : f2.type = t2)
    (o0 : Opens enc P r0 t0) (o1 : Opens enc P r1 t1) (o2 : Opens enc P r2 t2) (z0 : r0.sz = 1) (z1 : r1.sz = 1) (z2 : r2.sz = 1) : Opens enc P (rep2 r0 (rep2 r1 r2)) T := fun base w fuel cs x hl h => by
  subst e0 e1 e2
  obtain ⟨v0, v1, v2, rfl⟩ : ∃ a b c, cs = [a, b, c] := by
    have hl' : cs.length = r0.sz + (r1.sz + r2.sz) := hl
    rw [z0, z1, z2] at hl'
    match cs, hl' with
    | [a, b, c], _ => exact ⟨a, b, c, rfl⟩
  obtain ⟨ys, n', _, _, _, hys, hf⟩ := DataW.trod_struct hs h
  have g : ∀ (i : Nat) (f : Field), #[f0, f1, f2][i]? = some f → DataW.trod enc P w base (fun _ => true) true n' f.type (([v0, v1, v2].drop i).take 1) = ys[i]? := by
    intro i f hfi
    obtain ⟨p, q⟩ := hone_of hone i f hfi
    have := hf i f hfi
    rwa [p, q] at this
  have hy : ys.length = 3 := by simpa using hys
  obtain ⟨x0, h0⟩ := o0 _ _ _ _ _ (by simp [z0]) ((g 0 f0 rfl).trans (List.getElem?_eq_getElem (show 0 < ys.length by omega)))
  obtain ⟨x1, h1⟩ := o1 _ _ _ _ _ (by simp [z1]) ((g 1 f1 rfl).trans (List.getElem?_eq_getElem (show 1 < ys.length by omega)))
  obtain ⟨x2, h2⟩ := o2 _ _ _ _ _ (by simp [z2]) ((g 2 f2 rfl).trans (List.getElem?_eq_getElem (show 2 < ys.length by omega)))
  exact ⟨(x0, x1, x2), [v0], [v1, v2], rfl, h0, [v1], [v2], rfl, h1, h2⟩
/-- an argument that is a struct of one-cell fields -/
theorem open_top {r : Rep α} {T : TypeId} {fs : Array Field} {q : Reach} {b0 base : Nat} {w : World} {v : Value} {d : DataW H} {p : List MemPlace} (hs : P.underlying T = some (.struct fs)) (hC : P.cellsOf T = r.sz) (ho : Opens enc P r T)
    (hv : Value.okWide P w q b0 T v) (h : DataW.Trod enc P w base (fun _ => true) true T v d p) : ∃ cs x, v = .agg cs.toArray ∧ r.V 0 w cs x := by
  obtain ⟨cs, rfl, hsz⟩ := okWide_struct hs hv
  obtain ⟨fuel, hf⟩ := h
  obtain ⟨x, hx⟩ := ho _ _ _ _ _ (by show cs.toList.length = _; rw [Array.length_toList, hsz, hC]) hf
  exact ⟨cs.toList, x, by simp, hx⟩
/-- an argument that is a slice -/
theorem open_top_sl {r : Rep α} {S T : TypeId} {q : Reach} {b0 base : Nat} {w : World} {v : Value} {d : DataW H} {p : List MemPlace} (hS : P.underlying S = some (.slice T)) (ho : Opens enc P (repSl r) S)
    (hv : Value.okWide P w q b0 S v) (h : DataW.Trod enc P w base (fun _ => true) true S v d p) : ∃ A n c xs, v = .slice A n c ∧ RSl r 0 w A n xs ∧ n ≤ maxLen := by
  obtain ⟨a0, len, cap, rfl⟩ := okWide_slice hS hv
  obtain ⟨fuel, hf⟩ := h
  obtain ⟨xs, A, n, c, e, h1, h2⟩ := ho _ _ _ _ _ (by rfl) hf
  simp [Value.cells] at e
  obtain ⟨rfl, rfl, rfl⟩ := e
  exact ⟨_, _, _, xs, rfl, h1, h2⟩
end
end Go.Proofs.Ytjofgbbofagoiaa
