/- Plain: how many marks the results of votes and timeouts take. -/
import Derived.Test.YtbgjidamhheekaaMarkP
import Derived.Test.YtbgjidamhheekaaVotePlain
namespace Go.Proofs.Ytbgjidamhheekaa
open Go.RowKit Go.Sort

theorem szL_set {α : Type} (sz : α → Nat) (y : α) : ∀ (xs : List α) (k : Nat) (x : α), xs[k]? = some x → szL sz (xs.set k y) + sz x = szL sz xs + sz y
  | [], k, x, h => by simp at h
  | a :: xs, 0, x, h => by
    simp at h
    subst h
    simp only [List.set_cons_zero, szL]
    omega
  | a :: xs, k + 1, x, h => by
    have := szL_set sz y xs k x (by simpa using h)
    simp only [List.set_cons_succ, szL]
    omega
theorem szCo_set {q : Co} {tn : Nat} {x y : Tx} {os : List Int} (hx : q.ts[tn]? = some x) (hp : y.ps = x.ps) (hv : y.vs.length = x.vs.length) (ho : os.length ≤ q.ord.length + 1) (hq : smallCo q) : szCo ⟨q.ts.set tn y, os⟩ ≤ 8500000000000000000 := by
  have h1 := szCo_small hq
  have h2 := szL_set szTx y q.ts tn x hx
  have h3 : szTx y = szTx x := by
    have a := szL_I y.vs
    have b := szL_I x.vs
    unfold szTx
    rw [hp]
    omega
  have h4 := szL_I os
  have h5 := szL_I q.ord
  unfold szCo at h1 ⊢
  show szL szTx (q.ts.set tn y) + szL szI1 os ≤ _
  omega
theorem szCo_timeout {q qo : Co} {t : Int} {b : Bool} (h : timeoutQ q t = (qo, b)) (hq : smallCo q) : szCo qo ≤ 8500000000000000000 := by
  have h1 := szCo_small hq
  cases hb : coB q
  · rw [timeout_bad hb] at h
    injection h with e _
    subst e
    simp [szCo, noQ, szL]
  · cases ho : openQ q t with
    | none =>
      rw [timeout_none hb ho] at h
      injection h with e _
      subst e
      omega
    | some x =>
      obtain ⟨tn, rfl, h2, _⟩ := openQ_some ho
      rw [timeout_some hb ho] at h
      injection h with e _
      subst e
      exact szCo_set h2 rfl rfl (by omega) hq
theorem szCo_vote {q qo : Co} {t s : Int} {y b : Bool} (h : voteQ q t s y = (qo, b)) (hq : smallCo q) : szCo qo ≤ 8500000000000000000 := by
  have h1 := szCo_small hq
  cases hb : coB q
  · rw [vote_bad hb] at h
    injection h with e _
    subst e
    simp [szCo, noQ, szL]
  · cases b
    · have : qo = q := by
        cases ho : openQ q t with
        | none => rw [vote_closed hb ho] at h; injection h with e _; exact e.symm
        | some x =>
          cases hs : shAt x.ps s with
          | none => rw [vote_nopart hb ho hs] at h; injection h with e _; exact e.symm
          | some k =>
            by_cases hv : x.vs[k]? = some 0
            · obtain ⟨tn, rfl, _, _⟩ := openQ_some ho
              rw [vote_counts hb ho hs hv] at h
              injection h with _ e
              cases e
            · rw [vote_known hb ho hs hv] at h; injection h with e _; exact e.symm
      subst this
      omega
    · obtain ⟨_, tn, k, x, rfl, h2, _, _, _, rfl⟩ := vote_done h
      unfold vote1
      split
      · split
        · exact szCo_set (y := ⟨x.ps, x.vs.set k 1, 2⟩) h2 rfl (by simp) (by simp) hq
        · exact szCo_set (y := ⟨x.ps, x.vs.set k 1, x.dec⟩) h2 rfl (by simp) (by omega) hq
      · exact szCo_set (y := ⟨x.ps, x.vs.set k (-1), 3⟩) h2 rfl (by simp) (by omega) hq
end Go.Proofs.Ytbgjidamhheekaa
