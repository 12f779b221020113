/- Plain: a slice of structs as one row of cells; the same rows in a block of their own. -/
import Derived.Test.YtlmcejpjhdaanaaCoM
import Derived.Test.YtlmcejpjhdaanaaCopyI
namespace Go.Proofs.Ytlmcejpjhdaanaa
open Go.RowKit Go.Sort

theorem repTx_len {lo : Nat} {w : World} {cs : List Value} {x : Tx} (h : repTx.V lo w cs x) : cs.length = 3 := by
  obtain ⟨_, _, _, _, _, _, rfl, _⟩ := repTx_cells h
  rfl
/-- the cells of transactions that can be read -/
theorem RSl.txFlat {lo n : Nat} {w : World} {A : Option Addr} {ts : List Tx} (h : RSl repTx lo w A n ts) : ∃ css : List (List Value), css.length = n ∧ (∀ cs ∈ css, cs.length = 3) ∧ (∀ (i : Nat) (x : Tx), ts[i]? = some x → ∃ cs, css[i]? = some cs ∧ repTx.V lo w cs x) ∧
    (0 < n → ∃ ad, A = some ad ∧ ad.block < w.heap.size ∧ ∀ j u, css.flatten[j]? = some u → w.cell? (ad.add j) = some u) := by
  have hl := h.1
  by_cases hn : 0 < n
  · obtain ⟨b, off, e, hb, _, hc⟩ := h.2 hn
    have hf : ∀ i : Nat, ∃ cs : List Value, ∀ x, ts[i]? = some x → (∀ (j : Nat) (u : Value), cs[j]? = some u → w.cell? ⟨b, off + i * 3 + j, none⟩ = some u) ∧ repTx.V lo w cs x := fun i => by
      cases hx : ts[i]? with
      | none => exact ⟨[], fun x hx' => by cases hx'⟩
      | some x =>
        obtain ⟨cs, h1, h2⟩ := hc i x hx
        exact ⟨cs, fun y hy => by injection hy with hy; subst hy; exact ⟨h1, h2⟩⟩
    obtain ⟨f, hf⟩ := Classical.axiomOfChoice hf
    have hlk : ∀ k, k < n → ((List.range n).map f)[k]? = some (f k) := fun k hk => by rw [List.getElem?_map, List.getElem?_range hk]; rfl
    have h3 : ∀ cs ∈ (List.range n).map f, cs.length = 3 := fun cs hcs => by
      obtain ⟨k, hk, rfl⟩ := List.mem_map.1 hcs
      have hk' := List.mem_range.1 hk
      exact repTx_len (hf k _ (List.getElem?_eq_getElem (show k < ts.length by omega))).2
    refine ⟨(List.range n).map f, by simp, h3, fun i x hx => ?_, fun _ => ⟨_, e, hb, fun j u hu => ?_⟩⟩
    · have hi : i < n := by have := (List.getElem?_eq_some_iff.1 hx).1; omega
      exact ⟨f i, hlk i hi, (hf i x hx).2⟩
    · have hj : j < n * 3 := by
        have := (List.getElem?_eq_some_iff.1 hu).1
        rwa [flat_len h3, List.length_map, List.length_range] at this
      have hk : j / 3 < ts.length := by omega
      obtain ⟨g1, _⟩ := hf (j / 3) _ (List.getElem?_eq_getElem hk)
      have g3 := flat_get h3 (j / 3) (j % 3) _ [] (hlk (j / 3) (by omega)) (Nat.mod_lt _ (by omega))
      rw [List.append_nil, show j / 3 * 3 + j % 3 = j by omega, hu] at g3
      have := g1 (j % 3) u g3.symm
      rw [add_flat]
      rwa [show off + j / 3 * 3 + j % 3 = off + j by omega] at this
  · obtain rfl : n = 0 := by omega
    exact ⟨[], rfl, fun _ h => absurd h (by simp), fun i x hx => by have := (List.getElem?_eq_some_iff.1 hx).1; omega, fun h => absurd h (by omega)⟩
theorem one_flat {css : List (List Value)} {ts : List Tx} {lo : Nat} {w : World} (hl : css.length = ts.length) (h : ∀ (i : Nat) (x : Tx), ts[i]? = some x → ∃ cs, css[i]? = some cs ∧ repTx.V lo w cs x) : ∀ u ∈ css.flatten, u.oneCell' = true := fun u hu => by
  obtain ⟨cs, h1, h2⟩ := List.mem_flatten.1 hu
  obtain ⟨i, hi, rfl⟩ := List.mem_iff_getElem.1 h1
  obtain ⟨cs, h3, h4⟩ := h i _ (List.getElem?_eq_getElem (show i < ts.length by omega))
  rw [List.getElem?_eq_getElem hi] at h3
  injection h3 with h3
  obtain ⟨_, _, _, _, _, _, e, _⟩ := repTx_cells h4
  rw [h3, e] at h2
  simp only [List.mem_cons, List.not_mem_nil, or_false] at h2
  rcases h2 with rfl | rfl | rfl <;> rfl
theorem own_blkR {w : World} {B g n d size : Nat} {e : TypeId} {xs : List Value} (h : w.ownsRow B e size (.slice (some ⟨g, 0, none⟩) n d) n xs) : ∃ cs, Blk w g e cs ∧ B ≤ g ∧ cs.take (n * size) = xs := by
  rcases h.2 with ⟨h0, _⟩ | ⟨g', cap, cur, hv, hb, hh, h1, h2, h3, h4⟩
  · cases h0
  · injection hv with hv1 _ hv3
    injection hv1 with hv1
    injection hv1 with hv1 _ _
    subst hv1
    exact ⟨cur.toList, by unfold Blk; simpa using hh, hb, h4⟩
theorem cur_at {w : World} {n tn : Nat} {css : List (List Value)} {cur : List Value} {ts : List Tx} {x : Tx} {d : Int} (hcl : css.length = n) (h3 : ∀ cs ∈ css, cs.length = 3)
    (hV : ∀ (i : Nat) (x : Tx), ts[i]? = some x → ∃ cs, css[i]? = some cs ∧ repTx.V 0 w cs x) (hx : ts[tn]? = some ⟨x.ps, x.vs, d⟩) (hcur : cur.take (n * 3) = css.flatten) : cur[tn * 3 + 2]? = some (.int .i64 d) := by
  obtain ⟨cs, h4, h5⟩ := hV tn _ hx
  obtain ⟨P, p, c, V, v, s, rfl, -⟩ := repTx_cells h5
  have hi := (List.getElem?_eq_some_iff.1 h4).1
  have g3 := flat_get h3 tn 2 _ [] h4 (by omega)
  rw [List.append_nil, ← hcur, List.getElem?_take, if_pos (by omega)] at g3
  exact g3
/-- rows copied into a block of their own, one decision changed there -/
theorem redec {w F : World} {g n tn : Nat} {css : List (List Value)} {cur : List Value} {ts : List Tx} {x : Tx} {d z : Int} (hl : ts.length = n) (hcl : css.length = n) (h3 : ∀ cs ∈ css, cs.length = 3)
    (hV : ∀ (i : Nat) (x : Tx), ts[i]? = some x → ∃ cs, css[i]? = some cs ∧ repTx.V 0 w cs x) (hx : ts[tn]? = some ⟨x.ps, x.vs, d⟩) (hcur : cur.take (n * 3) = css.flatten) (hB : Blk F g 35 (cur.set (tn * 3 + 2) (.int .i64 z))) (hb : Below w.heap.size w F) :
    RSl repTx 0 F (some ⟨g, 0, none⟩) n (ts.set tn ⟨x.ps, x.vs, z⟩) := by
  have htn : tn < ts.length := (List.getElem?_eq_some_iff.1 hx).1
  have hget : ∀ (i j : Nat) (cs : List Value), css[i]? = some cs → j < 3 → cur[i * 3 + j]? = cs[j]? := fun i j cs hcs hj => by
    have hi := (List.getElem?_eq_some_iff.1 hcs).1
    have g3 := flat_get h3 i j cs [] hcs hj
    rw [List.append_nil, ← hcur, List.getElem?_take, if_pos (by omega)] at g3
    exact g3
  refine ⟨by rw [List.length_set]; exact hl, fun _ => ⟨g, 0, rfl, hB.lt, Nat.zero_le _, fun i y hy => ?_⟩⟩
  have hi : i < ts.length := by have := (List.getElem?_eq_some_iff.1 hy).1; rwa [List.length_set] at this
  by_cases hij : tn = i
  · subst hij
    rw [List.getElem?_set_self htn] at hy
    injection hy with hy
    subst hy
    obtain ⟨cs, h4, h5⟩ := hV tn _ hx
    obtain ⟨P, p, c, V, v, s, rfl, r1, r2, r3, r4⟩ := repTx_cells h5
    have k0 := hget tn 0 _ h4 (by omega)
    have k1 := hget tn 1 _ h4 (by omega)
    refine ⟨[.slice P p c, .slice V v s, .int .i64 z], fun j u hu => ?_, repTx_mk (x := ⟨x.ps, x.vs, z⟩) (r1.next hb) r2 (r3.next hb) r4⟩
    show F.cell? ⟨g, 0 + tn * 3 + j, none⟩ = some u
    rw [Nat.zero_add, hB.cell]
    have hlen : tn * 3 + 2 < cur.length := by
      have k2 := hget tn 2 _ h4 (by omega)
      exact (List.getElem?_eq_some_iff.1 k2).1
    match j, hu with
    | 0, hu => rw [List.getElem?_set_ne (by omega)]; simp at hu; subst hu; exact k0
    | 1, hu => rw [List.getElem?_set_ne (by omega)]; simp at hu; subst hu; exact k1
    | 2, hu => rw [List.getElem?_set_self hlen]; simp at hu; subst hu; rfl
  · rw [List.getElem?_set_ne hij] at hy
    obtain ⟨cs, h4, h5⟩ := hV i y hy
    refine ⟨cs, fun j u hu => ?_, repTx.next h5 hb⟩
    have hj : j < 3 := by have := (List.getElem?_eq_some_iff.1 hu).1; rw [repTx_len h5] at this; exact this
    show F.cell? ⟨g, 0 + i * 3 + j, none⟩ = some u
    rw [Nat.zero_add, hB.cell, List.getElem?_set_ne (by omega), hget i j cs h4 hj]
    exact hu
end Go.Proofs.Ytlmcejpjhdaanaa
