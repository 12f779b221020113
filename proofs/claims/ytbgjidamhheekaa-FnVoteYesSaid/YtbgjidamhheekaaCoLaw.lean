/- Plain: what the laws of the coordinator need: valid ones stay valid. -/
import Derived.Test.YtbgjidamhheekaaCoI
import Derived.Test.YtbgjidamhheekaaCoP
import Derived.Test.YtbgjidamhheekaaWaits
namespace Go.Proofs.Ytbgjidamhheekaa
open Go.RowKit Go.Sort

theorem sepCo_two {lo : Nat} {S : Nat → Prop} {w : World} {cs : List Value} {q : Co} (h : sepCo.V lo S w cs q) : ∃ A n c C m d, cs = [.slice A n c, .slice C m d] ∧ Hid (n = q.ts.length) ∧ Hid (m = q.ord.length) ∧ n ≤ c ∧ c ≤ maxLen := by
  obtain ⟨A, n, c, C, m, d, _, _, rfl, _, _, _, h0, h1⟩ := sepCo_cells h
  exact ⟨A, n, c, C, m, d, rfl, Lib.hid h0.1.symm, Lib.hid h1.1.symm, h0.small.1, h0.small.2⟩
theorem repCo_two {lo : Nat} {w : World} {cs : List Value} {q : Co} (h : repCo.V lo w cs q) : ∃ A n c C m d, cs = [.slice A n c, .slice C m d] ∧ Hid (n = q.ts.length) ∧ Hid (m = q.ord.length) := by
  obtain ⟨A, n, c, C, m, d, rfl, h0, _, h1, _⟩ := repCo_cells h
  exact ⟨A, n, c, C, m, d, rfl, Lib.hid h0.1.symm, Lib.hid h1.1.symm⟩
theorem RSl.butLast {α : Type} {r : Rep α} {lo n : Nat} {w : World} {A : Option Addr} {xs : List α} {x : α} (h : RSl r lo w A (n + 1) (xs ++ [x])) : RSl r lo w A n xs := by
  have hl : xs.length = n := by have := h.1; simp at this; omega
  refine ⟨hl, fun hn => ?_⟩
  obtain ⟨b, off, e, hb, hlo, hc⟩ := h.2 (by omega)
  exact ⟨b, off, e, hb, hlo, fun i y hy => hc i y (by rw [List.getElem?_append_left (List.getElem?_eq_some_iff.1 hy).1]; exact hy)⟩
theorem missI_zero : ∀ ps : List Pt, missI ps (List.replicate ps.length 0) = ps.map (·.shard)
  | [] => rfl
  | p :: ps => by
    have := missI_zero ps
    simp only [List.length_cons, List.replicate_succ, missI, this, List.map_cons]
    rfl
theorem shards_succ (k : Nat) (ps : List Pt) (p : Pt) (hp : ps[k]? = some p) : (ps.take (k + 1)).map (·.shard) = (ps.take k).map (·.shard) ++ [p.shard] := by
  obtain ⟨h1, h2⟩ := List.getElem?_eq_some_iff.1 hp
  rw [List.take_succ_eq_append_getElem h1, h2, List.map_append]
  rfl
theorem waits_new {q : Co} {ps : List Pt} {n : Nat} (h : coB ⟨q.ts ++ [newTx ps], q.ord⟩ = true) (hn : n = q.ts.length) : waitsQ ⟨q.ts ++ [newTx ps], q.ord⟩ (n : Int) = ps.map (·.shard) := by
  subst hn
  unfold waitsQ
  rw [h, if_pos rfl, openQ_in (x := newTx ps) (by simp), if_pos (show (newTx ps).dec = 0 from rfl)]
  exact missI_zero ps
theorem waits_short (q : Co) (z : Int) : (waitsQ q z).length ≤ 3 := by
  unfold waitsQ
  cases hb : coB q
  · simp
  · rw [if_pos rfl]
    cases ho : openQ q z with
    | none => simp
    | some x =>
      have hx : x ∈ q.ts := by
        unfold openQ at ho
        split at ho
        · exact List.mem_of_getElem? (Option.filter_eq_some_iff.1 ho).1
        · cases ho
      have h1 := missI_len x.ps x.vs
      have h2 := (partsB_len (txB_parts ((coB_parts hb).1 x hx)).1).2.1
      show (missI x.ps x.vs).length ≤ 3
      omega
theorem newTx_ok {ps : List Pt} (h : partsB ps = true) : txB (newTx ps) = true := by
  have hl := (partsB_len h).1
  have h0 : cntV 1 (List.replicate ps.length (0 : Int)) = 0 := by simp [cntV]
  have h1 : cntV (-1) (List.replicate ps.length (0 : Int)) = 0 := by simp [cntV]
  have hv : votesB (List.replicate ps.length (0 : Int)) = true := by
    unfold votesB
    rw [List.all_eq_true]
    intro x hx
    rw [(List.mem_replicate.1 hx).2]
    decide
  have hd : decB (newTx ps) = true := by
    simp [decB, newTx, h0, h1]
    omega
  unfold txB
  rw [hd]
  simp [newTx, h, hv]
theorem begin_ok {q : Co} {ps : List Pt} (h : coB q = true) (hp : partsB ps = true) (hl : q.ts.length < 12) : coB ⟨q.ts ++ [newTx ps], q.ord⟩ = true := by
  obtain ⟨h1, h2, h3, h4⟩ := coB_parts h
  refine coB_mk (fun t ht => ?_) (fun k t hk => ?_) (by simp; omega) ?_
  · rcases List.mem_append.1 ht with ht | ht
    · exact h1 t ht
    · rw [List.mem_singleton.1 ht]; exact newTx_ok hp
  · show (t.dec == 2) = hasI q.ord (k : Int)
    have hk' : (q.ts ++ [newTx ps])[k]? = some t := hk
    by_cases hlt : k < q.ts.length
    · rw [List.getElem?_append_left hlt] at hk'
      exact h2 k t hk'
    · rw [List.getElem?_append_right (by omega)] at hk'
      have hk0 : k = q.ts.length := by
        have := (List.getElem?_eq_some_iff.1 hk').1
        simp at this
        omega
      subst hk0
      rw [Nat.sub_self] at hk'
      simp at hk'
      subst hk'
      have hn : hasI q.ord (q.ts.length : Int) = false := by
        have hs := (sort_eq q.ord (comI 0 q.ts) (comI_pw q.ts 0)).1 (by
          have := (coB_impl q).symm.trans h
          simp only [Bool.and_eq_true, decide_eq_true_eq] at this
          exact this.2.2)
        have hperm := perm_of_sub (comI 0 q.ts) q.ord (comI_pw q.ts 0) hs.1 hs.2
        cases hh : hasI q.ord (q.ts.length : Int)
        · rfl
        · have hm : (q.ts.length : Int) ∈ q.ord := by simpa [hasI] using hh
          have hm2 := hperm.mem_iff.1 hm
          obtain ⟨k, t, g1, _, g3⟩ := (comI_mem q.ts 0 _).1 hm2
          have := (List.getElem?_eq_some_iff.1 g1).1
          omega
      rw [hn]
      rfl
  · show q.ord.length = cntC (q.ts ++ [newTx ps])
    rw [h4]
    simp [cntC, newTx]
theorem begin_yes {q : Co} {ps : List Pt} (h : coB q = true) (hp : partsB ps = true) (hl : q.ts.length < 12) : beginQ q ps = (⟨q.ts ++ [newTx ps], q.ord⟩, true) := by
  unfold beginQ
  rw [h, hp, Bool.true_and, if_pos rfl, if_pos hl]
theorem begin_full {q : Co} {ps : List Pt} (h : coB q = true) (hp : partsB ps = true) (hl : ¬ q.ts.length < 12) : beginQ q ps = (q, false) := by
  unfold beginQ
  rw [h, hp, Bool.true_and, if_pos rfl, if_neg hl]
theorem begin_bad {q : Co} {ps : List Pt} (h : (coB q && partsB ps) = false) : beginQ q ps = (noQ, false) := by
  unfold beginQ
  rw [h]
  rfl
theorem begin_done {q qo : Co} {ps : List Pt} (h : beginQ q ps = (qo, true)) : coB q = true ∧ partsB ps = true ∧ q.ts.length < 12 ∧ qo = ⟨q.ts ++ [newTx ps], q.ord⟩ := by
  unfold beginQ at h
  cases hc : (coB q && partsB ps)
  · rw [hc] at h; cases h
  · rw [hc, if_pos rfl] at h
    by_cases hl : q.ts.length < 12
    · rw [if_pos hl] at h
      simp only [Bool.and_eq_true] at hc
      injection h with h1 _
      exact ⟨hc.1, hc.2, hl, h1.symm⟩
    · rw [if_neg hl] at h; cases h
theorem begin_tiny {q qo : Co} {ps : List Pt} {b : Bool} (h : beginQ q ps = (qo, b)) : qo.ts.length ≤ 12 ∧ qo.ord.length ≤ 100000000 := by
  unfold beginQ at h
  cases hc : (coB q && partsB ps)
  · rw [hc] at h
    injection h with h1 _
    subst h1
    simp [noQ]
  · simp only [Bool.and_eq_true] at hc
    have h3 := (coB_parts hc.1).2.2
    have h4 := cntC_le q.ts
    rw [hc.1, hc.2, Bool.true_and, if_pos rfl] at h
    by_cases hl : q.ts.length < 12
    · rw [if_pos hl] at h
      injection h with h1 _
      subst h1
      simp
      omega
    · rw [if_neg hl] at h
      injection h with h1 _
      subst h1
      omega
end Go.Proofs.Ytbgjidamhheekaa
