/- Plain: stores into a coordinator of the call's own: a decision, a vote, one more ordered transaction. -/
import Derived.Test.YtlmcejpjhdaanaaCoP
namespace Go.Proofs.Ytlmcejpjhdaanaa
open Go.RowKit Go.Sort

section
variable {T : TypeId} {lo n c k : Nat} {S : Nat → Prop} {w w' : World} {A : Option Addr} {ts : List Tx} {x : Tx}
/-- a transaction of the call's own: its cells -/
theorem SSl.txCells (h : SSl T sepTx lo S w A n c ts) (hx : ts[k]? = some x) : ∃ g P p d V m e, A = some ⟨g, 0, none⟩ ∧ S g ∧ lo ≤ g ∧ g < w.heap.size ∧ w.cell? ⟨g, k * 3, none⟩ = some (.slice P p d) ∧ w.cell? ⟨g, k * 3 + 1, none⟩ = some (.slice V m e) ∧ w.cell? ⟨g, k * 3 + 1 + 1, none⟩ = some (.int .i64 x.dec) ∧
    (∀ i, w.frozen? ⟨g, i, none⟩ = false) ∧ m = x.vs.length ∧ p = x.ps.length ∧ RSl repPt lo w P p x.ps ∧ p ≤ maxLen ∧ RSl repIntW lo w V m x.vs ∧
    (0 < m → ∃ g2, V = some ⟨g2, 0, none⟩ ∧ S g2 ∧ g2 ≠ g ∧ lo ≤ g2 ∧ g2 < w.heap.size ∧ ∀ i, w.frozen? ⟨g2, i, none⟩ = false) := by
  have hk : k < n := by have := (List.getElem?_eq_some_iff.1 hx).1; have := h.1; omega
  obtain ⟨g, cs, y, N, hA, hlo, hS, hg, hy, hN, hNg, hV, hc, hf, -, -⟩ := h.store hk
  rw [hx] at hy
  injection hy with hy
  subst hy
  obtain ⟨P, p, d, V, m, e, S1, S2, rfl, q1, q2, q3, h4, h5⟩ := sepTx_cells hV
  refine ⟨g, P, p, d, V, m, e, hA, hS, hlo, hg, hc 0 _ rfl, hc 1 _ rfl, hc 2 _ rfl, hf, h5.1.symm, h4.1.symm, h4.reads, by have := h4.small; omega, h5.reads, fun hm => ?_⟩
  obtain ⟨g2, _, _, _, e1, e2, e3, e4, _, _, _, _, _, e5⟩ := h5.at_ hm
  exact ⟨g2, e1, hN _ (q2 _ e3), fun e => hNg (e ▸ q2 _ e3), e2, e4, e5⟩
/-- a store of a decision -/
theorem SSl.setDec {g : Nat} (h : SSl T sepTx lo S w A n c ts) (hx : ts[k]? = some x) (hA : A = some ⟨g, 0, none⟩) (d : Int) : SSl T sepTx lo S (w.setCell ⟨g, k * 3 + 1 + 1, none⟩ (.int .i64 d)) A n c (ts.set k ⟨x.ps, x.vs, d⟩) := by
  have hk : k < n := by have := (List.getElem?_eq_some_iff.1 hx).1; have := h.1; omega
  obtain ⟨g', cs, y, N, hA', hlo, hS, hg, hy, hN, hNg, hV, hc, hf, hst, -⟩ := h.store hk
  rw [hx] at hy
  injection hy with hy
  subst hy
  rw [hA] at hA'
  injection hA' with hA'
  injection hA' with hA'
  subst hA'
  obtain ⟨P, p, d0, V, m, e, S1, S2, rfl, q1, q2, q3, h4, h5⟩ := sepTx_cells hV
  have := hst 2 (.int .i64 d) ⟨x.ps, x.vs, d⟩ (by show 2 < 3; omega) (by
    simp only [List.set_cons_succ, List.set_cons_zero]
    exact sepTx_mk (t := ⟨x.ps, x.vs, d⟩) q1 q2 q3 (h4.kept (fun b hb => Below.heap_setCell w ⟨g, k * 3 + 2, none⟩ _ b (fun (e : b = g) => hNg (e ▸ q1 b hb)))) (h5.kept (fun b hb => Below.heap_setCell w ⟨g, k * 3 + 2, none⟩ _ b (fun (e : b = g) => hNg (e ▸ q2 b hb)))))
  exact this
/-- a store of a vote -/
theorem SSl.setVote {g g2 j m e : Nat} {V : Option Addr} (h : SSl T sepTx lo S w A n c ts) (hx : ts[k]? = some x) (hA : A = some ⟨g, 0, none⟩) (hc1 : w.cell? ⟨g, k * 3 + 1, none⟩ = some (.slice V m e)) (hVa : V = some ⟨g2, 0, none⟩) (hj : j < x.vs.length) (v : Int) (hv : wf64 v) :
    SSl T sepTx lo S (w.setCell ⟨g2, j, none⟩ (.int .i64 v)) A n c (ts.set k ⟨x.ps, x.vs.set j v, x.dec⟩) := by
  have hk : k < n := by have := (List.getElem?_eq_some_iff.1 hx).1; have := h.1; omega
  obtain ⟨g', cs, y, N, hA', hlo, hS, hg, hy, hN, hNg, hV, hc, hf, -, hst⟩ := h.store hk
  rw [hx] at hy
  injection hy with hy
  subst hy
  rw [hA] at hA'
  injection hA' with hA'
  injection hA' with hA'
  subst hA'
  obtain ⟨P, p, d0, V', m', e', S1, S2, rfl, q1, q2, q3, h4, h5⟩ := sepTx_cells hV
  have hcc : w.cell? ⟨g, k * 3 + 1, none⟩ = some (.slice V' m' e') := hc 1 _ rfl
  rw [hc1] at hcc
  injection hcc with hcc
  injection hcc with e1 e2 e3
  subst e1 e2 e3
  obtain ⟨g3, cs3, y3, N3, hB, b1, b2, b3, b4, b5, b6, b7, b8, b9, b10, -⟩ := h5.store (k := j) (by have := h5.1; omega)
  rw [hVa] at hB
  injection hB with hB
  injection hB with hB
  subst hB
  have hv3 : cs3 = [.int .i64 y3] := b7.1
  subst hv3
  refine hst g2 j (.int .i64 v) _ (q2 _ b2) (sepTx_mk (t := ⟨x.ps, x.vs.set j v, x.dec⟩) q1 q2 q3 (h4.kept (fun b hb => Below.heap_setCell w ⟨g2, j, none⟩ _ b (fun e => q3 b hb (e ▸ b2)))) ?_)
  have := b10 0 (.int .i64 v) v (by show 0 < 1; omega) ⟨rfl, hv⟩
  rw [show j * sepIntW.rep.sz + 0 = j by show j * 1 + 0 = j; omega] at this
  exact this
end
theorem sz_set (w : World) (p : Addr) (v : Value) : (w.setCell p v).heap.size = w.heap.size := by simp [World.setCell]
theorem rints_cell {w : World} {g m j : Nat} {xs : List Int} {v : Int} (h : RInts w (some ⟨g, 0, none⟩) m xs) (hj : xs[j]? = some v) : w.cell? ⟨g, j, none⟩ = some (.int .i64 v) := by
  obtain ⟨ad, e, _, hc⟩ := h.2 (by have := (List.getElem?_eq_some_iff.1 hj).1; have := h.1; omega)
  injection e with e
  subst e
  have := hc j v hj
  rwa [add_flat, Nat.zero_add] at this
/-- a vote is stored: what is known ahead of it and behind it -/
theorem vote_store {T : TypeId} {lo n c tn kv : Nat} {S : Nat → Prop} {w : World} {A : Option Addr} {ts : List Tx} {x : Tx} (h : SSl T sepTx lo S w A n c ts) (hx : ts[tn]? = some x) (hk : kv < x.vs.length) (v : Int) (hv : wf64 v) :
    ∃ g g2 m e, A = some ⟨g, 0, none⟩ ∧ S g ∧ S g2 ∧ g2 ≠ g ∧ lo ≤ g ∧ lo ≤ g2 ∧ g < w.heap.size ∧ g2 < w.heap.size ∧ m = x.vs.length ∧ w.cell? ⟨g, tn * 3 + 1, none⟩ = some (.slice (some ⟨g2, 0, none⟩) m e) ∧ w.cell? ⟨g, tn * 3 + 1 + 1, none⟩ = some (.int .i64 x.dec) ∧
      w.cell? ⟨g2, kv, none⟩ = some (.int .i64 (x.vs[kv]'hk)) ∧ w.frozen? ⟨g2, kv, none⟩ = false ∧ RInts w (some ⟨g2, 0, none⟩) m x.vs ∧
      SSl T sepTx lo S (w.setCell ⟨g2, kv, none⟩ (.int .i64 v)) A n c (ts.set tn ⟨x.ps, x.vs.set kv v, x.dec⟩) ∧ (w.setCell ⟨g2, kv, none⟩ (.int .i64 v)).cell? ⟨g, tn * 3 + 1, none⟩ = some (.slice (some ⟨g2, 0, none⟩) m e) ∧
      (w.setCell ⟨g2, kv, none⟩ (.int .i64 v)).cell? ⟨g, tn * 3 + 1 + 1, none⟩ = some (.int .i64 x.dec) ∧ (w.setCell ⟨g2, kv, none⟩ (.int .i64 v)).frozen? ⟨g, tn * 3 + 1 + 1, none⟩ = false ∧ RInts (w.setCell ⟨g2, kv, none⟩ (.int .i64 v)) (some ⟨g2, 0, none⟩) m (x.vs.set kv v) := by
  obtain ⟨g, P4, p4, d4, V4, m4, e4, rfl, hSg, hlg, hgl, u0, u1, u2, fu, hml, -, -, -, hrv, hV⟩ := h.txCells hx
  obtain ⟨g2, rfl, hSg2, hg2g, hlg2, hgl2, fg2⟩ := hV (by omega)
  have hS4 := h.setVote hx rfl u1 rfl hk v hv
  have htl : tn < ts.length := (List.getElem?_eq_some_iff.1 hx).1
  obtain ⟨g', P5, p5, d5, V5, m5, e5, eg', -, -, -, w0, w1', w2', fw, hml5, hpl5, -, -, hrv5, hV5⟩ := hS4.txCells (x := ⟨x.ps, x.vs.set kv v, x.dec⟩) (k := tn) (by rw [List.getElem?_set_self htl])
  injection eg' with eg'
  injection eg' with eg'
  subst eg'
  have w1k : (w.setCell ⟨g2, kv, none⟩ (.int .i64 v)).cell? ⟨g, tn * 3 + 1, none⟩ = some (.slice (some ⟨g2, 0, none⟩) m4 e4) := by
    rw [World.cell?_setCell_other _ _ _ _ (fun e => hg2g (by injection e))]; exact u1
  rw [w1'] at w1k
  injection w1k with w1k
  injection w1k with k5 k6 k7
  subst k5 k6 k7
  refine ⟨g, g2, _, _, rfl, hSg, hSg2, hg2g, hlg, hlg2, hgl, hgl2, hml, u1, u2, ?_, fg2 kv, hrv.plain.rints, hS4, w1', w2', fw _, hrv5.plain.rints⟩
  have hk' : kv < m5 := by omega
  obtain ⟨bq, offq, xq, csq, eq, _, hxq, hcq, hvq⟩ := hrv.at_ hk'
  injection eq with eq
  injection eq with eq1 eq2
  subst eq1 eq2
  have hv1 := hvq.1
  subst hv1
  have := hcq 0 _ rfl
  rw [List.getElem?_eq_getElem hk] at hxq
  injection hxq with hxq
  rw [hxq]
  have e9 : 0 + kv * repIntW.sz + 0 = kv := by show 0 + kv * 1 + 0 = kv; omega
  rw [e9] at this
  exact this
/-- what a call hands out that has stored into its copy -/
theorem out_set {w W F : World} {lo g n d m e : Nat} {A O : Option Addr} {S1 S2 : Nat → Prop} {ts : List Tx} {os : List Int} (hSF : SSl 35 sepTx lo S1 W A n d ts) (hSO : SSl 3 sepInt lo S2 W O m e os)
    (h1 : ∀ b, S1 b → Iv lo g b) (h2 : ∀ b, S2 b → Iv lo g b) (h3 : ∀ b, S1 b → ¬ S2 b) (hlo : w.heap.size ≤ lo) (hk : ∀ b, lo ≤ b → b < g → F.heap[b]? = W.heap[b]?) (hF : g ≤ F.heap.size) :
    sepCo.V w.heap.size (Iv w.heap.size F.heap.size) F [.slice A n d, .slice O m e] ⟨ts, os⟩ :=
  sepCo_mk (S1 := S1) (S2 := S2) (fun b hb => ⟨by have := (h1 b hb).1; omega, by have := (h1 b hb).2; omega⟩) (fun b hb => ⟨by have := (h2 b hb).1; omega, by have := (h2 b hb).2; omega⟩) h3
    ((hSF.kept (fun b hb => hk b (h1 b hb).1 (h1 b hb).2)).down hlo) ((hSO.kept (fun b hb => hk b (h2 b hb).1 (h2 b hb).2)).down hlo)
/-- the same with a new row of numbers -/
theorem out_order {w w9 F : World} {lo g n c m9 d9 : Nat} {A O9 : Option Addr} {S1 : Nat → Prop} {ts : List Tx} {os : List Int} (hS9 : SSl 35 sepTx lo S1 w9 A n c ts) (hown9 : w9.ownsRow lo 3 1 (.slice O9 m9 d9) m9 (ints os))
    (h1 : ∀ b, S1 b → Iv lo g b) (hnew : ∀ b, (Value.slice O9 m9 d9).ownBlock = some b → ¬ S1 b) (hlo : w.heap.size ≤ lo) (hk : ∀ b, lo ≤ b → b ≠ g → F.heap[b]? = w9.heap[b]?) (hng : ∀ b, (Value.slice O9 m9 d9).ownBlock = some b → b ≠ g) (hF : w9.heap.size ≤ F.heap.size) (hg : g ≤ w9.heap.size) :
    sepCo.V w.heap.size (Iv w.heap.size F.heap.size) F [.slice A n c, .slice O9 m9 d9] ⟨ts, os⟩ :=
  sepCo_mk (S1 := S1) (S2 := fun b => (Value.slice O9 m9 d9).ownBlock = some b) (fun b hb => ⟨by have := (h1 b hb).1; omega, by have := (h1 b hb).2; omega⟩) (fun b hb => ⟨by have := (hown9.lt b hb).1; omega, by have := (hown9.lt b hb).2; omega⟩) (fun b hb hc => hnew b hc hb)
    ((hS9.kept (fun b hb => hk b (h1 b hb).1 (by have := (h1 b hb).2; omega))).down hlo) (((SSl.of_ints hown9 (fun b _ _ h => h)).kept (fun b hb => hk b (hown9.lt b hb).1 (hng b hb))).down hlo)
theorem openQ_in {q : Co} {t : Nat} {x : Tx} (hx : q.ts[t]? = some x) : openQ q (t : Int) = if x.dec = 0 then some x else none := by
  unfold openQ
  rw [if_pos (by omega), Int.toNat_natCast, hx]
  by_cases h : x.dec = 0 <;> simp [Option.filter, h]
theorem openQ_out {q : Co} {t : Int} (h : ¬ (0 ≤ t ∧ t ≤ (q.ts.length : Int) - 1)) : openQ q t = none := by
  unfold openQ
  by_cases h0 : 0 ≤ t
  · rw [if_pos h0, List.getElem?_eq_none (by omega)]; rfl
  · rw [if_neg h0]
end Go.Proofs.Ytlmcejpjhdaanaa
