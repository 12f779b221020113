/- Plain: a coordinator while it is drawn. -/
import Derived.Test.YtlmcejpjhdaanaaDrawParts2
import Derived.Test.YtlmcejpjhdaanaaCoM
namespace Go.Proofs.Ytlmcejpjhdaanaa
open Go.RowKit Go.Sort

/-- few and small -/
def tinyQ (q : Co) : Prop := q.ts.length ≤ 12 ∧ q.ord.length ≤ 13 ∧ ∀ t ∈ q.ts, t.ps.length ≤ 3 ∧ t.vs.length ≤ 3 ∧ ∀ p ∈ t.ps, p.us.length ≤ 4
theorem coB_tiny {q : Co} (h : coB q = true) : q.ts.length ≤ 12 ∧ q.ord.length ≤ 12 ∧ ∀ t ∈ q.ts, t.ps.length ≤ 3 ∧ t.vs.length ≤ 3 ∧ ∀ p ∈ t.ps, p.us.length ≤ 4 := by
  obtain ⟨h1, _, h3, h4⟩ := coB_parts h
  have : cntC q.ts ≤ q.ts.length := List.countP_le_length
  refine ⟨h3, by omega, fun t ht => ?_⟩
  obtain ⟨p1, p2, _⟩ := txB_parts (h1 t ht)
  obtain ⟨_, a2, a3⟩ := partsB_len p1
  exact ⟨a2, by omega, fun p hp => (a3 p hp).1⟩
theorem tinyQ.small {q : Co} (h : tinyQ q) : smallQ q :=
  ⟨by have := h.1; omega, by have := h.2.1; omega, fun t ht => ⟨⟨by have := (h.2.2 t ht).1; omega, fun p hp => by have := (h.2.2 t ht).2.2 p hp; omega⟩, by have := (h.2.2 t ht).2.1; omega⟩⟩
theorem tiny_set {q : Co} {k : Nat} {x y : Tx} (h : coB q = true) (hx : q.ts[k]? = some x) (h1 : y.ps = x.ps) (h2 : y.vs.length = x.vs.length) : tinyQ ⟨q.ts.set k y, q.ord⟩ := by
  obtain ⟨a1, a2, a3⟩ := coB_tiny h
  refine ⟨by simpa using a1, by show q.ord.length ≤ 13; omega, fun t ht => ?_⟩
  rcases List.mem_or_eq_of_mem_set ht with ht | rfl
  · exact a3 t ht
  · have := a3 x (List.mem_of_getElem? hx)
    rw [h1, h2]
    exact this
/-- a coordinator in the call's own memory -/
def IsCo (B : Nat) (v : Value) (w : World) : Prop := ∃ cs q S, v = .agg cs.toArray ∧ (∀ b, S b → B ≤ b ∧ b < w.heap.size) ∧ sepCo.V B S w cs q ∧ tinyQ q

/-- a coordinator while it is drawn: cs its two cells, which lie in the fourth new block -/
structure CoP (g : Nat) (w : World) (S : Nat → Prop) (hi : Nat) (cs : List Value) (q : Co) (p : Nat) (wx : World) : Prop where
  inS : ∀ b, S b → w.heap.size + 1 ≤ b ∧ b < hi ∧ b ≠ w.heap.size + 3
  le : hi ≤ wx.heap.size
  lo : w.heap.size + 4 ≤ hi
  sep : sepCo.V (w.heap.size + 1) S wx cs q
  box : Blk wx (w.heap.size + 3) 26 cs
  res : Blk wx w.heap.size 26 [.slice none 0 0, .slice none 0 0]
  ok : coB q = true
  rd : Rd wx g p
  gr : w.grownBy wx (some g)
section
variable {g hi p p' : Nat} {w wx w3 : World} {S : Nat → Prop} {cs : List Value} {q : Co}
theorem CoP.pick (h : CoP g w S hi cs q p wx) (hgw : g < w.heap.size) (hr : Rd w3 g p') (hg : wx.grownBy w3 (some g)) : CoP g w S hi cs q p' w3 :=
  ⟨h.inS, Nat.le_trans h.le hg.size, h.lo, sepCo.kept h.sep (fun b hb => hg.block b (by have := (h.inS b hb).2.1; have := h.le; omega) (by intro e; injection e with e; have := (h.inS b hb).1; omega)),
    h.box.grown hg (by intro e; injection e with e; omega), h.res.grown hg (by intro e; injection e with e; omega), h.ok, hr, grown_trans h.gr hg⟩
theorem CoP.next (h : CoP g w S hi cs q p wx) (hb : Below wx.heap.size wx w3) : CoP g w S hi cs q p w3 :=
  ⟨h.inS, Nat.le_trans h.le hb.size, h.lo, sepCo.kept h.sep (fun b hs => hb.block b (by have := (h.inS b hs).2.1; have := h.le; omega)), h.box.next hb, h.res.next hb, h.ok, h.rd.keep hb, grown_below h.gr hb⟩
theorem Rd.setFar {w : World} {g p b i : Nat} (h : Rd w g p) (hb : g < b) (u : Value) : Rd (w.setCell ⟨b, i, none⟩ u) g p := h.store hb u
theorem grown_set {a w : World} {g b i : Nat} (h : a.grownBy w (some g)) (hb : a.heap.size ≤ b) (u : Value) : a.grownBy (w.setCell ⟨b, i, none⟩ u) (some g) :=
  ⟨h.os, h.tape, h.output, by rw [sz_set]; exact h.size, fun k hk hne => (Below.heap_setCell w ⟨b, i, none⟩ u k (by dsimp only; omega)).trans (h.block k hk hne)⟩
theorem CoP.far (h : CoP g w S hi cs q p wx) (hgw : g < w.heap.size) {gn i : Nat} (hgn : hi ≤ gn) (u : Value) : CoP g w S hi cs q p (wx.setCell ⟨gn, i, none⟩ u) := by
  have h1 := h.lo
  refine ⟨h.inS, by rw [sz_set]; exact h.le, h.lo, sepCo.kept h.sep (fun b hb => Below.heap_setCell wx ⟨gn, i, none⟩ u b (by have := (h.inS b hb).2.1; dsimp only; omega)), h.box.far (by dsimp only; omega) u, h.res.far (by dsimp only; omega) u, h.ok, h.rd.store (by omega) u, grown_set h.gr (by omega) u⟩
/-- another coordinator is put in its place -/
theorem CoP.put {S' : Nat → Prop} {hi' : Nat} {a b : Value} {q2 : Co} {P : Nat} (h : CoP g w S hi cs q p wx) (hgw : g < w.heap.size) (hl : cs.length = 2) (hC : sepCo.V P S' wx [a, b] q2) (hP : w.heap.size + 4 ≤ P) (hS' : ∀ b, S' b → P ≤ b ∧ b < hi') (hh : hi' ≤ wx.heap.size) (hlo : w.heap.size + 4 ≤ hi') (hok : coB q2 = true) :
    CoP g w S' hi' [a, b] q2 p ((wx.setCell ⟨w.heap.size + 3, 0, none⟩ a).setCell ⟨w.heap.size + 3, 1, none⟩ b) := by
  obtain ⟨x, y, rfl⟩ : ∃ x y, cs = [x, y] := by
    match cs, hl with
    | [x, y], _ => exact ⟨x, y, rfl⟩
  have hb := (h.box.set_ 0 a).set_ 1 b
  simp only [List.set_cons_zero, List.set_cons_succ] at hb
  refine ⟨fun c hc => ⟨by have := (hS' c hc).1; omega, (hS' c hc).2, by have := (hS' c hc).1; omega⟩, by rw [sz_set, sz_set]; exact hh, hlo, sepCo.down (sepCo.kept hC (fun c hc => ?_)) (by omega), hb, (h.res.far (by dsimp only; omega) _).far (by dsimp only; omega) _, hok, (h.rd.store (by omega) _).store (by omega) _, grown_set (grown_set h.gr (by omega) _) (by omega) _⟩
  have := (hS' c hc).1
  rw [Below.heap_setCell _ _ _ c (by dsimp only; omega), Below.heap_setCell _ _ _ c (by dsimp only; omega)]
/-- the same is put in its place -/
theorem CoP.same {a b : Value} (h : CoP g w S hi [a, b] q p wx) (hgw : g < w.heap.size) : CoP g w S hi [a, b] q p ((wx.setCell ⟨w.heap.size + 3, 0, none⟩ a).setCell ⟨w.heap.size + 3, 1, none⟩ b) := by
  have hb := (h.box.set_ 0 a).set_ 1 b
  simp only [List.set_cons_zero, List.set_cons_succ] at hb
  have hlo := h.lo
  refine ⟨h.inS, by rw [sz_set, sz_set]; exact h.le, h.lo, sepCo.kept h.sep (fun c hc => ?_), hb, (h.res.far (by dsimp only; omega) _).far (by dsimp only; omega) _, h.ok, (h.rd.store (by omega) _).store (by omega) _, grown_set (grown_set h.gr (by omega) _) (by omega) _⟩
  have := (h.inS c hc).2.2
  rw [Below.heap_setCell _ _ _ c (by dsimp only; omega), Below.heap_setCell _ _ _ c (by dsimp only; omega)]
theorem SSl.grownG {α : Type} {r : RepS α} {T : TypeId} {lo n c g : Nat} {S : Nat → Prop} {w w' : World} {A : Option Addr} {xs : List α} (h : SSl T r lo S w A n c xs) (hg : w.grownBy w' (some g)) (hlt : ∀ b, S b → b < w.heap.size ∧ b ≠ g) : SSl T r lo S w' A n c xs :=
  h.kept (fun b hb => hg.block b (hlt b hb).1 (by intro e; injection e with e; exact (hlt b hb).2 e))
/-- what the drawing hands out -/
theorem co_out {w wx F : World} {S1 S2 : Nat → Prop} {A O : Option Addr} {n c m e : Nat} {ts : List Tx} {os : List Int} {g p K q' : Nat} {hi : Nat} (hS : SSl 35 sepTx (w.heap.size + 1) S1 wx A n c ts) (hO : SSl 3 sepInt (w.heap.size + 1) S2 wx O m e os)
    (h1 : ∀ b, S1 b → w.heap.size + 1 ≤ b ∧ b < hi) (h2 : ∀ b, S2 b → w.heap.size + 1 ≤ b ∧ b < hi) (h3 : ∀ b, S1 b → ¬ S2 b) (hh : hi ≤ wx.heap.size) (hF : F = (wx.setCell ⟨w.heap.size, 0, none⟩ (.slice A n c)).setCell ⟨w.heap.size, 1, none⟩ (.slice O m e)) (ht : tinyQ ⟨ts, os⟩) (hgw : g < w.heap.size) (hr : Rd wx g q') (hg : w.grownBy wx (some g)) (hq : q' ≤ p + K) :
    Drawn g p K w (IsCo w.heap.size) (.returned (.agg #[.slice A n c, .slice O m e])) F := by
  subst hF
  have hk : ∀ b, w.heap.size + 1 ≤ b → ((wx.setCell ⟨w.heap.size, 0, none⟩ (.slice A n c)).setCell ⟨w.heap.size, 1, none⟩ (.slice O m e)).heap[b]? = wx.heap[b]? := fun b hb => by
    rw [Below.heap_setCell _ _ _ b (by dsimp only; omega), Below.heap_setCell _ _ _ b (by dsimp only; omega)]
  refine ⟨_, q', rfl, ⟨[.slice A n c, .slice O m e], ⟨ts, os⟩, fun b => S1 b ∨ S2 b, rfl, fun b hb => ?_, sepCo_mk (S1 := S1) (S2 := S2) (fun _ h => Or.inl h) (fun _ h => Or.inr h) h3 ((hS.kept (fun b hb => hk b (h1 b hb).1)).down (by omega)) ((hO.kept (fun b hb => hk b (h2 b hb).1)).down (by omega)), ht⟩, hq, (hr.store (by omega) _).store (by omega) _, grown_set (grown_set hg (Nat.le_refl _) _) (Nat.le_refl _) _⟩
  rw [sz_set, sz_set]
  rcases hb with hb | hb
  · have := h1 b hb; omega
  · have := h2 b hb; omega
theorem CoP.rep0 (h : CoP g w S hi cs q p wx) : repCo.V 0 wx cs q := repCo.down (sepCo.reads h.sep) (Nat.zero_le _)
theorem CoP.two (h : CoP g w S hi cs q p wx) : ∃ A n c B m d S1 S2, cs = [.slice A n c, .slice B m d] ∧ (∀ b, S1 b → S b) ∧ (∀ b, S2 b → S b) ∧ (∀ b, S1 b → ¬ S2 b) ∧
    SSl 35 sepTx (w.heap.size + 1) S1 wx A n c q.ts ∧ SSl 3 sepInt (w.heap.size + 1) S2 wx B m d q.ord := sepCo_cells h.sep
theorem coB_empty : coB ⟨[], []⟩ = true := by decide
end
end Go.Proofs.Ytlmcejpjhdaanaa
