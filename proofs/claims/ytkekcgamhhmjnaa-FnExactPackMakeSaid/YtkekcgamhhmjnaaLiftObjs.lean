/- An argument that is a slice of objects, opened to a list of objects. -/
import Derived.Test.YtkekcgamhhmjnaaLiftBase
import Derived.Test.YtkekcgamhhmjnaaObjs
import Derived.Deep.Slices
import Derived.Deep.Fields
namespace Go.Proofs.Ytkekcgamhhmjnaa
open Go.ChangeShapes Go.WideShapes Go.ChangeAt Go.RowKit Go.Joins Go.Deep

instance : Inhabited Ob := ⟨⟨0, [], ⟨#[]⟩⟩⟩
section
variable {H : Type} {enc : TypeId × Value → H} {P : Program}
theorem add_plain (b off n : Nat) : (⟨b, off, none⟩ : Addr).add n = ⟨b, off + n, none⟩ := by
  unfold Addr.add; split
  · subst n; rfl
  · rfl
/-- one element: three cells, each read by its field -/
theorem open_elem {base : Nat} {w : World} {T ti ts tl tn : TypeId} {f0 f1 f2 : Field} {cs : List Value} {x : DataW H × List MemPlace} {fuel : Nat} (hs : P.underlying T = some (.struct #[f0, f1, f2]))
    (hone : oneCellFields P #[f0, f1, f2] = true) (e0 : f0.type = ti) (e1 : f1.type = tl) (e2 : f2.type = ts)
    (hi : P.underlying ti = some (.int .i64)) (hl : P.underlying tl = some (.slice tn)) (hn : P.underlying tn = some (.int .i64)) (hc : P.cellsOf tn = 1) (hst : P.underlying ts = some .string)
    (hlen : cs.length = 3) (h : DataW.trod enc P w base (fun _ => true) true fuel T cs = some x) :
    ∃ (o : Ob) (B : Option Addr) (m d : Nat), cs = [.int .i64 o.k, .slice B m d, .string o.t] ∧ RInts w B m o.xs ∧ m ≤ maxLen ∧ o.t.size ≤ maxLen := by
  subst e0 e1 e2
  obtain ⟨v0, v1, v2, rfl⟩ : ∃ a b c, cs = [a, b, c] := by
    match cs, hlen with
    | [a, b, c], _ => exact ⟨a, b, c, rfl⟩
  obtain ⟨ys, n', _, _, _, hys, hf⟩ := DataW.trod_struct hs h
  have g : ∀ (i : Nat) (f : Field), #[f0, f1, f2][i]? = some f → DataW.trod enc P w base (fun _ => true) true n' f.type (([v0, v1, v2].drop i).take 1) = ys[i]? := by
    intro i f hfi
    obtain ⟨p, q⟩ := hone_of hone i f hfi
    have := hf i f hfi
    rwa [p, q] at this
  have hy : ys.length = 3 := by simpa using hys
  have h0 := (g 0 f0 rfl).trans (List.getElem?_eq_getElem (show 0 < ys.length by omega))
  have h1 := (g 1 f1 rfl).trans (List.getElem?_eq_getElem (show 1 < ys.length by omega))
  have h2 := (g 2 f2 rfl).trans (List.getElem?_eq_getElem (show 2 < ys.length by omega))
  obtain ⟨k, ek, _, _⟩ := DataW.trod_int hi h0
  obtain ⟨A, m, c, xs, ex, hr, hm⟩ := open_rints hl hn hc h1
  obtain ⟨t, et, _, ht⟩ := DataW.trod_string hst h2
  simp at ek ex et
  subst ek ex et
  exact ⟨⟨k, xs, t⟩, A, m, c, rfl, hr, hm, ht⟩

theorem open_objs {r : Reach} {b0 base : Nat} {w : World} {S T ti ts tl tn : TypeId} {f0 f1 f2 : Field} {v : Value} {d : DataW H} {p : List MemPlace} (hS : P.underlying S = some (.slice T)) (hs : P.underlying T = some (.struct #[f0, f1, f2]))
    (hone : oneCellFields P #[f0, f1, f2] = true) (hC : P.cellsOf T = 3) (e0 : f0.type = ti) (e1 : f1.type = tl) (e2 : f2.type = ts)
    (hi : P.underlying ti = some (.int .i64)) (hl : P.underlying tl = some (.slice tn)) (hn : P.underlying tn = some (.int .i64)) (hc : P.cellsOf tn = 1) (hst : P.underlying ts = some .string)
    (hv : Value.okWide P w r b0 S v) (h : DataW.Trod enc P w base (fun _ => true) true S v d p) :
    ∃ A n c os, v = .slice A n c ∧ RObjs w A n os ∧ n ≤ maxLen := by
  obtain ⟨a0, len, cap, rfl⟩ := okWide_slice hS hv
  obtain ⟨fuel, hf⟩ := h
  rcases open_slice hS hf with ⟨hcs, _⟩ | ⟨a, len', cap', m, n, D, Pl, hcs, _, hle, hm, hmm, _, hel⟩
  · simp [Value.cells] at hcs
    obtain ⟨rfl, rfl, rfl⟩ := hcs
    exact ⟨none, 0, 0, [], rfl, ⟨rfl, fun h => absurd h (by omega)⟩, by simp [maxLen]⟩
  · simp [Value.cells] at hcs
    obtain ⟨rfl, rfl, rfl⟩ := hcs
    simp only [if_true] at hmm
    subst hmm
    obtain ⟨O, hO⟩ := choose_lt (α := Ob) (n := len) (p := fun i o => ∃ (B : Option Addr) (m d : Nat), w.cell? (a.add (i * 3)) = some (.int .i64 o.k) ∧ w.cell? (a.add (i * 3 + 1)) = some (.slice B m d) ∧ w.cell? (a.add (i * 3 + 1 + 1)) = some (.string o.t) ∧ RInts w B m o.xs ∧ m ≤ maxLen ∧ o.t.size ≤ maxLen) (fun i hil => by
      obtain ⟨cs', hcell, ht⟩ := hel i (by omega)
      rw [hC] at hcell
      obtain ⟨_, hlen3, hat⟩ := World.cells?_some hcell
      obtain ⟨o, B, m, d, rfl, hr, hm, hz⟩ := open_elem hs hone e0 e1 e2 hi hl hn hc hst hlen3 ht
      have g0 := hat 0 (by omega)
      have g1 := hat 1 (by omega)
      have g2 := hat 2 (by omega)
      rw [Go.Deep.add_add] at g0 g1 g2
      exact ⟨o, B, m, d, g0, g1, g2, hr, hm, hz⟩)
    refine ⟨some a, len, _, (List.range len).map O, rfl, ⟨by simp, fun hpos => ?_⟩, by omega⟩
    obtain ⟨b, off, spot⟩ := a
    obtain ⟨_, _, _, q0, _⟩ := hO 0 hpos
    rw [Nat.zero_mul] at q0
    have hspot : spot = none := by simpa [Addr.add] using World.cell?_spot q0
    subst hspot
    refine ⟨b, off, rfl, ?_, fun i o ho => ?_⟩
    · have := World.block_lt_of_cell? _ _ q0
      rwa [block_of_add] at this
    · have hil : i < len := by
        have := (List.getElem?_eq_some_iff.1 ho).1
        simpa using this
      rw [List.getElem?_map, List.getElem?_range hil] at ho
      simp at ho
      subst ho
      obtain ⟨B, m, d, q0, q1, q2, q3⟩ := hO i hil
      rw [add_plain] at q0 q1 q2
      exact ⟨B, m, d, q0, by rw [Nat.add_assoc]; exact q1, by rw [Nat.add_assoc, Nat.add_assoc]; exact q2, q3⟩
theorem open_ints1 {r : Reach} {b0 base : Nat} {w : World} {tl tn : TypeId} {v : Value} {d : DataW H} {p : List MemPlace} (hl : P.underlying tl = some (.slice tn)) (hn : P.underlying tn = some (.int .i64)) (hc : P.cellsOf tn = 1)
    (hv : Value.okWide P w r b0 tl v) (h : DataW.Trod enc P w base (fun _ => true) true tl v d p) :
    ∃ A n c xs, v = .slice A n c ∧ RInts w A n xs ∧ n ≤ maxLen := by
  obtain ⟨a0, len, cap, rfl⟩ := okWide_slice hl hv
  obtain ⟨fuel, hf⟩ := h
  obtain ⟨A, n, c, xs, e, hr, hm⟩ := open_rints hl hn hc hf
  simp [Value.cells] at e
  obtain ⟨rfl, rfl, rfl⟩ := e
  exact ⟨_, _, _, xs, rfl, hr, hm⟩
end
end Go.Proofs.Ytkekcgamhhmjnaa
