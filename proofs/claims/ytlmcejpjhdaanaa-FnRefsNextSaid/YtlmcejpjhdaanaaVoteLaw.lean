/- Plain: what the laws say of votes. -/
import Derived.Test.YtlmcejpjhdaanaaVotePlain
import Derived.Test.YtlmcejpjhdaanaaWaits
namespace Go.Proofs.Ytlmcejpjhdaanaa
open Go.RowKit Go.Sort

theorem chain_parts (p : Pt → Bool) : ∀ ps : List Pt, chainB p (fun a b => decide (a.shard < b.shard)) ps = true → ps.Pairwise (fun a b => a.shard < b.shard)
  | [], _ => .nil
  | [x], _ => by simp
  | x :: y :: l, h => by
    simp only [chainB, Bool.and_eq_true, decide_eq_true_eq] at h
    have ih := chain_parts p (y :: l) h.2
    refine List.Pairwise.cons (fun z hz => ?_) ih
    rcases List.mem_cons.1 hz with rfl | hz
    · exact h.1.2
    · have := (List.pairwise_cons.1 ih).1 z hz
      have h8 := h.1.2
      omega
theorem parts_pw {ps : List Pt} (h : partsB ps = true) : ps.Pairwise (fun a b => a.shard < b.shard) := by
  unfold partsB ascP at h
  simp only [Bool.and_eq_true] at h
  exact chain_parts _ _ h.1
theorem shAt_unique {ps : List Pt} (h : partsB ps = true) {k : Nat} {p : Pt} (hp : ps[k]? = some p) : shAt ps p.shard = some k := by
  refine shAt_some (fun j y hy hj => ?_) hp rfl
  obtain ⟨a1, a2⟩ := List.getElem?_eq_some_iff.1 hp
  obtain ⟨b1, b2⟩ := List.getElem?_eq_some_iff.1 hy
  have := List.pairwise_iff_getElem.1 (parts_pw h) j k b1 a1 hj
  rw [a2, b2] at this
  omega
theorem missI_mem : ∀ (ps : List Pt) (vs : List Int) (s : Int), s ∈ missI ps vs ↔ ∃ (k : Nat) (p : Pt), ps[k]? = some p ∧ vs[k]? = some 0 ∧ p.shard = s
  | [], _, s => by simp [missI]
  | _ :: _, [], s => by simp [missI]
  | p :: ps, v :: vs, s => by
    have ih := missI_mem ps vs s
    simp only [missI, List.mem_append, ih]
    constructor
    · rintro (h | ⟨k, p', h1, h2, h3⟩)
      · by_cases hv : v = 0
        · rw [if_pos hv] at h
          exact ⟨0, p, rfl, by simp [hv], (List.mem_singleton.1 h).symm⟩
        · rw [if_neg hv] at h; cases h
      · exact ⟨k + 1, p', by simpa using h1, by simpa using h2, h3⟩
    · rintro ⟨k, p', h1, h2, h3⟩
      cases k with
      | zero =>
        simp at h1 h2
        subst h1
        left
        rw [if_pos h2]
        exact List.mem_singleton.2 h3.symm
      | succ k => exact Or.inr ⟨k, p', by simpa using h1, by simpa using h2, h3⟩
theorem missI_cnt : ∀ (ps : List Pt) (vs : List Int), vs.length = ps.length → (missI ps vs).length = cntV 0 vs
  | [], [], _ => rfl
  | p :: ps, v :: vs, h => by
    have ih := missI_cnt ps vs (by simpa using h)
    simp only [missI, List.length_append, ih, cntV, List.countP_cons]
    by_cases hv : v = 0 <;> simp [hv]
    omega
  | [], _ :: _, h => by simp at h
  | _ :: _, [], h => by simp at h
/-- a vote is counted just if it is awaited -/
theorem vote_awaited {q : Co} {t s : Int} {y : Bool} (h : coB q = true) : (voteQ q t s y).2 = hasI (waitsQ q t) s := by
  cases ho : openQ q t with
  | none =>
    rw [vote_closed h ho]
    unfold waitsQ
    rw [h, if_pos rfl, ho]
    simp [hasI]
  | some x =>
    have hx : x ∈ q.ts := by
      obtain ⟨tn, _, h1, _⟩ := openQ_some ho
      exact List.mem_of_getElem? h1
    have htp := txB_parts ((coB_parts h).1 x hx)
    have hw : waitsQ q t = missI x.ps x.vs := by unfold waitsQ; rw [h, if_pos rfl, ho]
    rw [hw]
    cases hs : shAt x.ps s with
    | none =>
      rw [vote_nopart h ho hs]
      have : ¬ s ∈ missI x.ps x.vs := fun hm => by
        obtain ⟨k, p, h1, _, h3⟩ := (missI_mem _ _ _).1 hm
        have := shAt_unique htp.1 h1
        rw [h3, hs] at this
        cases this
      simp [hasI, this]
    | some k =>
      obtain ⟨p, hp, hps⟩ := shAt_lt hs
      by_cases hv : x.vs[k]? = some 0
      · obtain ⟨tn, rfl, _, _⟩ := openQ_some ho
        rw [vote_counts h ho hs hv]
        have : s ∈ missI x.ps x.vs := (missI_mem _ _ _).2 ⟨k, p, hp, hv, hps⟩
        simp [hasI, this]
      · rw [vote_known h ho hs hv]
        have : ¬ s ∈ missI x.ps x.vs := fun hm => by
          obtain ⟨k', p', h1, h2, h3⟩ := (missI_mem _ _ _).1 hm
          have := shAt_unique htp.1 h1
          rw [h3, hs] at this
          injection this with this
          subst this
          exact hv h2
        simp [hasI, this]
theorem vote_same {q qo : Co} {t s : Int} {y : Bool} (h : coB q = true) (hr : voteQ q t s y = (qo, false)) : qo = q := by
  cases ho : openQ q t with
  | none => rw [vote_closed h ho] at hr; injection hr with e _; exact e.symm
  | some x =>
    cases hs : shAt x.ps s with
    | none => rw [vote_nopart h ho hs] at hr; injection hr with e _; exact e.symm
    | some k =>
      by_cases hv : x.vs[k]? = some 0
      · obtain ⟨tn, rfl, _, _⟩ := openQ_some ho
        rw [vote_counts h ho hs hv] at hr
        injection hr with _ e
        cases e
      · rw [vote_known h ho hs hv] at hr; injection hr with e _; exact e.symm
/-- the order of two votes does not matter -/
theorem vote_swap {q qo a b : Co} {t s o : Int} (h1 : voteQ q t s true = (qo, true)) (h2 : voteQ qo t o true = (a, true)) (h3 : voteQ q t o true = (b, true)) : voteQ b t s true = (a, true) := by
  obtain ⟨hv, tn, k, x, rfl, hx, hd, hs, hvk, rfl⟩ := vote_done h1
  obtain ⟨hv', tn', k2, x', e, hx', hd', ho', hvk', rfl⟩ := vote_done h2
  have e' : tn' = tn := by omega
  subst e'
  obtain ⟨_, tn3, k3, x3, e3, hx3, _, ho3, hvk3, rfl⟩ := vote_done h3
  have e3' : tn3 = tn' := by omega
  subst e3'
  rw [hx] at hx3
  injection hx3 with hx3
  subst hx3
  have hl := (List.getElem?_eq_some_iff.1 hx).1
  -- the first vote left it open
  have hopen : (x.vs.set k 1).all (· == 1) = false := by
    cases ha : (x.vs.set k 1).all (· == 1)
    · rfl
    · unfold vote1 at hx'
      rw [if_pos rfl, if_pos ha] at hx'
      have : (q.ts.set tn3 ⟨x.ps, x.vs.set k 1, 2⟩)[tn3]? = some x' := hx'
      rw [List.getElem?_set_self hl] at this
      injection this with this
      subst this
      cases hd'
  have hqo : vote1 q tn3 x k true = ⟨q.ts.set tn3 ⟨x.ps, x.vs.set k 1, x.dec⟩, q.ord⟩ := by
    unfold vote1
    rw [if_pos rfl, if_neg (by rw [hopen]; simp)]
  rw [hqo] at hx' ⊢
  have hx2 : (q.ts.set tn3 ⟨x.ps, x.vs.set k 1, x.dec⟩)[tn3]? = some x' := hx'
  rw [List.getElem?_set_self hl] at hx2
  injection hx2 with hx2
  subst hx2
  have hk23 : k2 = k3 := by
    have : shAt x.ps o = some k2 := ho'
    rw [ho3] at this
    injection this with this
    exact this.symm
  subst hk23
  have hne : k ≠ k2 := fun e => by
    subst e
    have : (x.vs.set k 1)[k]? = some 0 := hvk'
    rw [List.getElem?_set_self (List.getElem?_eq_some_iff.1 hvk).1] at this
    simp at this
  have hk' : (x.vs.set k2 1)[k]? = some 0 := by rw [List.getElem?_set_ne (fun e => hne e.symm)]; exact hvk
  have hb : vote1 q tn3 x k2 true = ⟨q.ts.set tn3 ⟨x.ps, x.vs.set k2 1, x.dec⟩, q.ord⟩ := by
    unfold vote1
    rw [if_pos rfl, if_neg]
    intro ha
    have := List.all_eq_true.1 ha 0 (List.mem_of_getElem? hk')
    simp at this
  have hbok := vote1_ok (y := true) hv hx hd hvk3
  rw [hb] at hbok ⊢
  have hbx : (⟨q.ts.set tn3 ⟨x.ps, x.vs.set k2 1, x.dec⟩, q.ord⟩ : Co).ts[tn3]? = some ⟨x.ps, x.vs.set k2 1, x.dec⟩ := by
    show (q.ts.set tn3 _)[tn3]? = _
    rw [List.getElem?_set_self hl]
  rw [vote_counts (x := ⟨x.ps, x.vs.set k2 1, x.dec⟩) (k := k) hbok (openQ_mk hbx hd) hs hk']
  have hcomm : (x.vs.set k2 1).set k 1 = (x.vs.set k 1).set k2 1 := List.set_comm _ _ (fun e => hne e.symm)
  unfold vote1
  rw [if_pos rfl, if_pos rfl]
  simp only [hcomm, List.set_set]
/-- a vote for it -/
theorem vote_yes_more {q : Co} {tn k : Nat} {x : Tx} {s : Int} (h : coB q = true) (hx : q.ts[tn]? = some x) (hd : x.dec = 0) (hs : shAt x.ps s = some k) (hv : x.vs[k]? = some 0) (hl : 1 < (missI x.ps x.vs).length) :
    vote1 q tn x k true = ⟨q.ts.set tn ⟨x.ps, x.vs.set k 1, 0⟩, q.ord⟩ ∧ coB ⟨q.ts.set tn ⟨x.ps, x.vs.set k 1, 0⟩, q.ord⟩ = true ∧ waitsQ ⟨q.ts.set tn ⟨x.ps, x.vs.set k 1, 0⟩, q.ord⟩ (tn : Int) = missI x.ps (x.vs.set k 1) ∧ (missI x.ps (x.vs.set k 1)).length + 1 = (missI x.ps x.vs).length ∧ hasI (missI x.ps (x.vs.set k 1)) s = false := by
  have htp := txB_parts ((coB_parts h).1 x (List.mem_of_getElem? hx))
  have hc := cntV_set (b := 1) (z := 0) hv
  have h1 := missI_cnt x.ps x.vs htp.2.1
  have h2 := missI_cnt x.ps (x.vs.set k 1) (by rw [List.length_set]; exact htp.2.1)
  have hlen : (missI x.ps (x.vs.set k 1)).length + 1 = (missI x.ps x.vs).length := by
    rw [h1, h2]
    simp at hc
    omega
  have ha : (x.vs.set k 1).all (· == 1) = false := by
    cases ha : (x.vs.set k 1).all (· == 1)
    · rfl
    · have h0 : cntV 0 (x.vs.set k 1) = 0 := by
        unfold cntV
        rw [List.countP_eq_zero]
        intro v hv'
        have := List.all_eq_true.1 ha v hv'
        simp at this ⊢
        omega
      omega
  have hok := vote_yes_ok h hx hd hv ha
  rw [hd] at hok
  have hq : vote1 q tn x k true = ⟨q.ts.set tn ⟨x.ps, x.vs.set k 1, 0⟩, q.ord⟩ := by
    unfold vote1
    rw [if_pos rfl, if_neg (by rw [ha]; simp), hd]
  refine ⟨hq, hok, ?_, hlen, ?_⟩
  · unfold waitsQ
    rw [hok, if_pos rfl, openQ_mk (x := ⟨x.ps, x.vs.set k 1, 0⟩) (by show (q.ts.set tn _)[tn]? = _; rw [List.getElem?_set_self (List.getElem?_eq_some_iff.1 hx).1]) rfl]
  · have : ¬ s ∈ missI x.ps (x.vs.set k 1) := fun hm => by
      obtain ⟨k', p, h3, h4, h5⟩ := (missI_mem _ _ _).1 hm
      have h6 := shAt_unique htp.1 h3
      rw [h5, hs] at h6
      injection h6 with h6
      subst h6
      rw [List.getElem?_set_self (List.getElem?_eq_some_iff.1 hv).1] at h4
      simp at h4
    simp [hasI, this]
theorem vote_yes_last {q : Co} {tn k : Nat} {x : Tx} (h : coB q = true) (hx : q.ts[tn]? = some x) (hd : x.dec = 0) (hv : x.vs[k]? = some 0) (hl : ¬ 1 < (missI x.ps x.vs).length) :
    vote1 q tn x k true = ⟨q.ts.set tn ⟨x.ps, x.vs.set k 1, 2⟩, q.ord ++ [(tn : Int)]⟩ := by
  have ht := (coB_parts h).1 x (List.mem_of_getElem? hx)
  have htp := txB_parts ht
  have hc0 := open_cnt ht hd
  have hc := cntV_set (b := 1) (z := 0) hv
  have h1 := missI_cnt x.ps x.vs htp.2.1
  have hz : cntV 0 (x.vs.set k 1) = 0 := by simp at hc; omega
  have ha : (x.vs.set k 1).all (· == 1) = true := by
    rw [List.all_eq_true]
    intro v hv'
    unfold cntV at hz
    have h3 := List.countP_eq_zero.1 hz v hv'
    rcases List.mem_or_eq_of_mem_set hv' with h4 | h4
    · have h5 := List.all_eq_true.1 htp.2.2.1 v h4
      have h6 := hc0.1
      unfold cntV at h6
      have h7 := List.countP_eq_zero.1 h6 v h4
      unfold voteB at h5
      simp at h3 h5 h7 ⊢
      omega
    · simp [h4]
  unfold vote1
  rw [if_pos rfl, if_pos ha]
theorem vote1_other {q : Co} {tn k i : Nat} {x y : Tx} {b : Bool} (hx : q.ts[tn]? = some x) (hi : i ≠ tn) (hy : q.ts[i]? = some y) : (vote1 q tn x k b).ts[i]? = some y := by
  obtain ⟨d, h1, _⟩ := vote1_tx (k := k) (y := b) hx
  rw [h1, List.getElem?_set_ne (fun e => hi e.symm)]
  exact hy
theorem vote1_len {q : Co} {tn k : Nat} {x : Tx} {b : Bool} (hx : q.ts[tn]? = some x) : (vote1 q tn x k b).ts.length = q.ts.length := by
  obtain ⟨d, h1, _⟩ := vote1_tx (k := k) (y := b) hx
  rw [h1, List.length_set]
theorem vote1_ord {q : Co} {tn k : Nat} {x : Tx} {b : Bool} : (vote1 q tn x k b).ord.length ≤ q.ord.length + 1 := by
  unfold vote1
  split
  · split <;> simp
  · simp
theorem vote_tiny {q qo : Co} {t s : Int} {y b : Bool} (h : voteQ q t s y = (qo, b)) (hq : q.ts.length ≤ 12) (ho : q.ord.length ≤ 13) : qo.ts.length ≤ 12 ∧ qo.ord.length ≤ 14 := by
  cases hb : coB q
  · rw [vote_bad hb] at h
    injection h with e _
    subst e
    simp [noQ]
  · cases b
    · rw [vote_same hb h]
      omega
    · obtain ⟨_, tn, k, x, rfl, hx, _, _, _, rfl⟩ := vote_done h
      have h1 := vote1_len (k := k) (b := y) hx
      have h2 := vote1_ord (q := q) (tn := tn) (k := k) (x := x) (b := y)
      omega
end Go.Proofs.Ytlmcejpjhdaanaa
