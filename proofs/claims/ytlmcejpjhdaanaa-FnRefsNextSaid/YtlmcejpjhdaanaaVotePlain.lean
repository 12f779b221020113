/- Plain: what a vote and a timeout make of a valid coordinator. -/
import Derived.Test.YtlmcejpjhdaanaaCoM
import Derived.Test.YtlmcejpjhdaanaaCoI
import Derived.Test.YtlmcejpjhdaanaaShardS
import Derived.Test.YtlmcejpjhdaanaaWaits
namespace Go.Proofs.Ytlmcejpjhdaanaa
open Go.RowKit Go.Sort

theorem openQ_some {q : Co} {t : Int} {x : Tx} (h : openQ q t = some x) : ∃ tn : Nat, t = (tn : Int) ∧ q.ts[tn]? = some x ∧ x.dec = 0 := by
  unfold openQ at h
  by_cases h0 : 0 ≤ t
  · rw [if_pos h0] at h
    have h1 := Option.filter_eq_some_iff.1 h
    exact ⟨t.toNat, by omega, h1.1, by simpa using h1.2⟩
  · rw [if_neg h0] at h; cases h
theorem openQ_mk {q : Co} {tn : Nat} {x : Tx} (h : q.ts[tn]? = some x) (hd : x.dec = 0) : openQ q (tn : Int) = some x := by rw [openQ_in h, if_pos hd]
theorem openQ_no {q : Co} {tn : Nat} {x : Tx} (h : q.ts[tn]? = some x) (hd : x.dec ≠ 0) : openQ q (tn : Int) = none := by rw [openQ_in h, if_neg hd]
theorem timeout_bad {q : Co} {t : Int} (h : coB q = false) : timeoutQ q t = (noQ, false) := by unfold timeoutQ; rw [h]; rfl
theorem timeout_none {q : Co} {t : Int} (h : coB q = true) (ho : openQ q t = none) : timeoutQ q t = (q, false) := by unfold timeoutQ; rw [h, if_pos rfl, ho]
theorem timeout_some {q : Co} {tn : Nat} {x : Tx} (h : coB q = true) (ho : openQ q (tn : Int) = some x) : timeoutQ q (tn : Int) = (⟨q.ts.set tn ⟨x.ps, x.vs, 3⟩, q.ord⟩, true) := by unfold timeoutQ; rw [h, if_pos rfl, ho]; rfl
theorem timeout_done {q qo : Co} {t : Int} (h : timeoutQ q t = (qo, true)) : coB q = true ∧ ∃ (tn : Nat) (x : Tx), t = (tn : Int) ∧ q.ts[tn]? = some x ∧ x.dec = 0 ∧ qo = ⟨q.ts.set tn ⟨x.ps, x.vs, 3⟩, q.ord⟩ := by
  cases hb : coB q
  · rw [timeout_bad hb] at h; cases h
  · cases ho : openQ q t with
    | none => rw [timeout_none hb ho] at h; cases h
    | some x =>
      obtain ⟨tn, rfl, h1, h2⟩ := openQ_some ho
      rw [timeout_some hb ho] at h
      injection h with h _
      exact ⟨rfl, tn, x, rfl, h1, h2, h.symm⟩
theorem cntC_set {ts : List Tx} {k : Nat} {x y : Tx} (hx : ts[k]? = some x) : cntC (ts.set k y) + (if x.dec = 2 then 1 else 0) = cntC ts + (if y.dec = 2 then 1 else 0) := by
  obtain ⟨h1, h2⟩ := List.getElem?_eq_some_iff.1 hx
  unfold cntC
  have key : ∀ (ts : List Tx) (k : Nat) (hk : k < ts.length), (ts.set k y).countP (fun t => t.dec == 2) + (if ts[k].dec = 2 then 1 else 0) = ts.countP (fun t => t.dec == 2) + (if y.dec = 2 then 1 else 0) := by
    intro ts
    induction ts with
    | nil => intro k hk; simp at hk
    | cons a ts ih =>
      intro k hk
      cases k with
      | zero =>
        simp only [List.set_cons_zero, List.countP_cons, List.getElem_cons_zero, beq_iff_eq]
        omega
      | succ k =>
        have := ih k (by simpa using hk)
        simp only [List.set_cons_succ, List.countP_cons, List.getElem_cons_succ]
        omega
  have := key ts k h1
  rwa [h2] at this
/-- one transaction is replaced, by one that is not committed either -/
theorem set_ok {q : Co} {k : Nat} {x y : Tx} (h : coB q = true) (hx : q.ts[k]? = some x) (hx2 : x.dec ≠ 2) (hy : txB y = true) (hy2 : y.dec ≠ 2) : coB ⟨q.ts.set k y, q.ord⟩ = true := by
  obtain ⟨h1, h2, h3, h4⟩ := coB_parts h
  refine coB_mk (fun t ht => ?_) (fun j t hj => ?_) (by simpa using h3) ?_
  · rcases List.mem_or_eq_of_mem_set ht with ht | rfl
    · exact h1 t ht
    · exact hy
  · have hj' : (q.ts.set k y)[j]? = some t := hj
    by_cases hjk : k = j
    · subst hjk
      rw [List.getElem?_set_self (List.getElem?_eq_some_iff.1 hx).1] at hj'
      injection hj' with hj'
      subst hj'
      have := h2 k x hx
      show (y.dec == 2) = hasI q.ord (k : Int)
      rw [← this, (by simpa using hx2 : (x.dec == 2) = false)]
      simpa using hy2
    · rw [List.getElem?_set_ne hjk] at hj'
      exact h2 j t hj'
  · have := cntC_set (y := y) hx
    rw [if_neg hx2, if_neg hy2] at this
    show q.ord.length = cntC (q.ts.set k y)
    omega
/-- one transaction is committed -/
theorem set_commit {q : Co} {k : Nat} {x y : Tx} (h : coB q = true) (hx : q.ts[k]? = some x) (hx2 : x.dec ≠ 2) (hy : txB y = true) (hy2 : y.dec = 2) : coB ⟨q.ts.set k y, q.ord ++ [(k : Int)]⟩ = true := by
  obtain ⟨h1, h2, h3, h4⟩ := coB_parts h
  refine coB_mk (fun t ht => ?_) (fun j t hj => ?_) (by simpa using h3) ?_
  · rcases List.mem_or_eq_of_mem_set ht with ht | rfl
    · exact h1 t ht
    · exact hy
  · have hj' : (q.ts.set k y)[j]? = some t := hj
    show (t.dec == 2) = hasI (q.ord ++ [(k : Int)]) (j : Int)
    by_cases hjk : k = j
    · subst hjk
      rw [List.getElem?_set_self (List.getElem?_eq_some_iff.1 hx).1] at hj'
      injection hj' with hj'
      subst hj'
      rw [hy2]
      simp [hasI]
    · rw [List.getElem?_set_ne hjk] at hj'
      rw [h2 j t hj']
      have hne : (j : Int) ≠ (k : Int) := by omega
      simp [hasI, hne]
  · have := cntC_set (y := y) hx
    rw [if_neg hx2, if_pos hy2] at this
    show (q.ord ++ [(k : Int)]).length = cntC (q.ts.set k y)
    simp
    omega
theorem txB_mk {t : Tx} (h1 : votesB t.vs = true) (h2 : partsB t.ps = true) (h3 : t.vs.length = t.ps.length) (h4 : decB t = true) : txB t = true := by
  unfold txB
  rw [h1, h2, h4]
  simpa using h3
theorem abort_tx {x : Tx} (h : txB x = true) (hd : x.dec = 0) : txB ⟨x.ps, x.vs, 3⟩ = true := by
  obtain ⟨p1, p2, p3, p4⟩ := txB_parts h
  refine txB_mk p3 p1 p2 ?_
  unfold decB at p4 ⊢
  rw [hd] at p4
  simp at p4 ⊢
  omega
theorem abort_ok {q : Co} {tn : Nat} {x : Tx} (h : coB q = true) (hx : q.ts[tn]? = some x) (hd : x.dec = 0) : coB ⟨q.ts.set tn ⟨x.ps, x.vs, 3⟩, q.ord⟩ = true :=
  set_ok h hx (by omega) (abort_tx ((coB_parts h).1 x (List.mem_of_getElem? hx)) hd) (by simp)
theorem abort_again {q : Co} {tn : Nat} {x : Tx} (h : coB q = true) (hx : q.ts[tn]? = some x) (hd : x.dec = 0) : timeoutQ ⟨q.ts.set tn ⟨x.ps, x.vs, 3⟩, q.ord⟩ (tn : Int) = (⟨q.ts.set tn ⟨x.ps, x.vs, 3⟩, q.ord⟩, false) :=
  timeout_none (abort_ok h hx hd) (openQ_no (x := ⟨x.ps, x.vs, 3⟩) (by show (q.ts.set tn _)[tn]? = _; rw [List.getElem?_set_self (List.getElem?_eq_some_iff.1 hx).1]) (by simp))
theorem abort_waits {q : Co} {tn : Nat} {x : Tx} (h : coB q = true) (hx : q.ts[tn]? = some x) (hd : x.dec = 0) : waitsQ ⟨q.ts.set tn ⟨x.ps, x.vs, 3⟩, q.ord⟩ (tn : Int) = [] := by
  unfold waitsQ
  rw [abort_ok h hx hd, if_pos rfl, openQ_no (x := ⟨x.ps, x.vs, 3⟩) (by show (q.ts.set tn _)[tn]? = _; rw [List.getElem?_set_self (List.getElem?_eq_some_iff.1 hx).1]) (by simp)]
/-- votes -/
theorem vote_bad {q : Co} {t s : Int} {y : Bool} (h : coB q = false) : voteQ q t s y = (noQ, false) := by unfold voteQ; rw [h]; rfl
theorem vote_closed {q : Co} {t s : Int} {y : Bool} (h : coB q = true) (ho : openQ q t = none) : voteQ q t s y = (q, false) := by unfold voteQ; rw [h, if_pos rfl, ho]
theorem vote_nopart {q : Co} {t s : Int} {y : Bool} {x : Tx} (h : coB q = true) (ho : openQ q t = some x) (hs : shAt x.ps s = none) : voteQ q t s y = (q, false) := by unfold voteQ; rw [h, if_pos rfl, ho]; simp only [hs]
theorem vote_known {q : Co} {t s : Int} {y : Bool} {x : Tx} {k : Nat} (h : coB q = true) (ho : openQ q t = some x) (hs : shAt x.ps s = some k) (hv : x.vs[k]? ≠ some 0) : voteQ q t s y = (q, false) := by unfold voteQ; rw [h, if_pos rfl, ho]; simp only [hs]; rw [if_neg hv]
theorem vote_counts {q : Co} {tn : Nat} {s : Int} {y : Bool} {x : Tx} {k : Nat} (h : coB q = true) (ho : openQ q (tn : Int) = some x) (hs : shAt x.ps s = some k) (hv : x.vs[k]? = some 0) : voteQ q (tn : Int) s y = (vote1 q tn x k y, true) := by unfold voteQ; rw [h, if_pos rfl, ho]; simp only [hs]; rw [if_pos hv]; rfl
theorem vote_done {q qo : Co} {t s : Int} {y : Bool} (h : voteQ q t s y = (qo, true)) : coB q = true ∧ ∃ (tn k : Nat) (x : Tx), t = (tn : Int) ∧ q.ts[tn]? = some x ∧ x.dec = 0 ∧ shAt x.ps s = some k ∧ x.vs[k]? = some 0 ∧ qo = vote1 q tn x k y := by
  cases hb : coB q
  · rw [vote_bad hb] at h; cases h
  · cases ho : openQ q t with
    | none => rw [vote_closed hb ho] at h; cases h
    | some x =>
      cases hs : shAt x.ps s with
      | none => rw [vote_nopart hb ho hs] at h; cases h
      | some k =>
        by_cases hv : x.vs[k]? = some 0
        · obtain ⟨tn, rfl, h1, h2⟩ := openQ_some ho
          rw [vote_counts hb ho hs hv] at h
          injection h with h _
          exact ⟨rfl, tn, k, x, rfl, h1, h2, hs, hv, h.symm⟩
        · rw [vote_known hb ho hs hv] at h; cases h
theorem cntV_set {vs : List Int} {k : Nat} {a b z : Int} (hk : vs[k]? = some a) : cntV z (vs.set k b) + (if a = z then 1 else 0) = cntV z vs + (if b = z then 1 else 0) := by
  obtain ⟨h1, h2⟩ := List.getElem?_eq_some_iff.1 hk
  have key : ∀ (vs : List Int) (k : Nat) (hk : k < vs.length), cntV z (vs.set k b) + (if vs[k] = z then 1 else 0) = cntV z vs + (if b = z then 1 else 0) := by
    intro vs
    induction vs with
    | nil => intro k hk; simp at hk
    | cons v vs ih =>
      intro k hk
      cases k with
      | zero =>
        simp only [cntV, List.set_cons_zero, List.countP_cons, List.getElem_cons_zero, beq_iff_eq]
        omega
      | succ k =>
        have := ih k (by simpa using hk)
        simp only [cntV, List.set_cons_succ, List.countP_cons, List.getElem_cons_succ] at this ⊢
        omega
  have := key vs k h1
  rwa [h2] at this
theorem votesB_set {vs : List Int} {k : Nat} {b : Int} (h : votesB vs = true) (hb : voteB b = true) : votesB (vs.set k b) = true := by
  unfold votesB at h ⊢
  rw [List.all_eq_true] at h ⊢
  intro v hv
  rcases List.mem_or_eq_of_mem_set hv with hv | rfl
  · exact h v hv
  · exact hb
theorem all_one {vs : List Int} : vs.all (· == 1) = true ↔ cntV 1 vs = vs.length := by
  unfold cntV
  rw [List.countP_eq_length, List.all_eq_true]
theorem vote_tx {x : Tx} {k : Nat} (h : txB x = true) (b : Int) (hb : voteB b = true) (d : Int) (hdb : decB ⟨x.ps, x.vs.set k b, d⟩ = true) : txB ⟨x.ps, x.vs.set k b, d⟩ = true := by
  obtain ⟨p1, p2, p3, _⟩ := txB_parts h
  exact txB_mk (votesB_set p3 hb) p1 (by simpa using p2) hdb
theorem open_cnt {x : Tx} (h : txB x = true) (hd : x.dec = 0) : cntV (-1) x.vs = 0 ∧ cntV 1 x.vs < x.vs.length := by
  obtain ⟨_, _, _, p4⟩ := txB_parts h
  unfold decB at p4
  rw [if_pos hd] at p4
  simpa using p4
theorem vote_no_ok {q : Co} {tn k : Nat} {x : Tx} (h : coB q = true) (hx : q.ts[tn]? = some x) (hd : x.dec = 0) (hv : x.vs[k]? = some 0) : coB ⟨q.ts.set tn ⟨x.ps, x.vs.set k (-1), 3⟩, q.ord⟩ = true := by
  have ht := (coB_parts h).1 x (List.mem_of_getElem? hx)
  have hc := open_cnt ht hd
  have h1 := cntV_set (b := -1) (z := 1) hv
  refine set_ok h hx (by omega) (vote_tx ht (-1) (by decide) 3 ?_) (by simp)
  unfold decB
  simp at h1 ⊢
  omega
theorem vote_yes_ok {q : Co} {tn k : Nat} {x : Tx} (h : coB q = true) (hx : q.ts[tn]? = some x) (hd : x.dec = 0) (hv : x.vs[k]? = some 0) (ha : (x.vs.set k 1).all (· == 1) = false) : coB ⟨q.ts.set tn ⟨x.ps, x.vs.set k 1, x.dec⟩, q.ord⟩ = true := by
  have ht := (coB_parts h).1 x (List.mem_of_getElem? hx)
  have hc := open_cnt ht hd
  have h1 := cntV_set (b := 1) (z := -1) hv
  have h2 : cntV 1 (x.vs.set k 1) ≠ (x.vs.set k 1).length := fun e => by rw [all_one.2 e] at ha; cases ha
  have h3 := cntV_le 1 (x.vs.set k 1)
  refine set_ok h hx (by omega) (vote_tx ht 1 (by decide) x.dec ?_) (by show x.dec ≠ 2; omega)
  unfold decB
  rw [if_pos hd]
  simp at h1 ⊢
  rw [List.length_set] at h2 h3
  omega
theorem vote_all_ok {q : Co} {tn k : Nat} {x : Tx} (h : coB q = true) (hx : q.ts[tn]? = some x) (hd : x.dec = 0) (_hv : x.vs[k]? = some 0) (ha : (x.vs.set k 1).all (· == 1) = true) : coB ⟨q.ts.set tn ⟨x.ps, x.vs.set k 1, 2⟩, q.ord ++ [(tn : Int)]⟩ = true := by
  have ht := (coB_parts h).1 x (List.mem_of_getElem? hx)
  have h2 := all_one.1 ha
  refine set_commit h hx (by omega) (vote_tx ht 1 (by decide) 2 ?_) rfl
  unfold decB
  simp at h2 ⊢
  exact h2
theorem vote1_ok {q : Co} {tn k : Nat} {x : Tx} {y : Bool} (h : coB q = true) (hx : q.ts[tn]? = some x) (hd : x.dec = 0) (hv : x.vs[k]? = some 0) : coB (vote1 q tn x k y) = true := by
  unfold vote1
  cases y
  · exact vote_no_ok h hx hd hv
  · cases ha : (x.vs.set k 1).all (· == 1)
    · rw [if_pos rfl, if_neg (by simp)]; exact vote_yes_ok h hx hd hv ha
    · rw [if_pos rfl, if_pos rfl]; exact vote_all_ok h hx hd hv ha
/-- what is left of the transaction that was voted on -/
theorem vote1_tx {q : Co} {tn k : Nat} {x : Tx} {y : Bool} (hx : q.ts[tn]? = some x) : ∃ d : Int, (vote1 q tn x k y).ts = q.ts.set tn ⟨x.ps, x.vs.set k (if y then 1 else -1), d⟩ ∧ (vote1 q tn x k y).ts[tn]? = some ⟨x.ps, x.vs.set k (if y then 1 else -1), d⟩ := by
  have hl := (List.getElem?_eq_some_iff.1 hx).1
  unfold vote1
  cases y
  · exact ⟨3, rfl, by simp [hl]⟩
  · cases ha : (x.vs.set k 1).all (· == 1)
    · exact ⟨x.dec, rfl, by simp [hl]⟩
    · exact ⟨2, rfl, by simp [hl]⟩
theorem vote_again {q : Co} {tn k : Nat} {x : Tx} {s : Int} {y z : Bool} (h : coB q = true) (hx : q.ts[tn]? = some x) (hd : x.dec = 0) (hs : shAt x.ps s = some k) (hv : x.vs[k]? = some 0) : voteQ (vote1 q tn x k y) (tn : Int) s z = (vote1 q tn x k y, false) := by
  have hk := vote1_ok (y := y) h hx hd hv
  obtain ⟨d, _, h2⟩ := vote1_tx (k := k) (y := y) hx
  by_cases hd0 : d = 0
  · refine vote_known hk (openQ_mk h2 hd0) hs ?_
    show (x.vs.set k (if y then 1 else -1))[k]? ≠ some 0
    rw [List.getElem?_set_self (List.getElem?_eq_some_iff.1 hv).1]
    cases y <;> simp
  · exact vote_closed hk (openQ_no h2 hd0)
end Go.Proofs.Ytlmcejpjhdaanaa
