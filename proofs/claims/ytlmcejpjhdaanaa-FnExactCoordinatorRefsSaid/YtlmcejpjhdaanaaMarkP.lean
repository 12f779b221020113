/- Plain: how many marks small data take; slices in intervals of blocks. -/
import Derived.Test.YtlmcejpjhdaanaaToC
namespace Go.Proofs.Ytlmcejpjhdaanaa
open Go.RowKit Go.Sort

theorem szL_const {α : Type} (sz : α → Nat) (c : Nat) (h : ∀ x, sz x = c) : ∀ xs : List α, szL sz xs = c * xs.length
  | [] => by simp [szL]
  | x :: xs => by
    have := szL_const sz c h xs
    simp only [szL, h, this, List.length_cons, Nat.mul_succ]
    omega
theorem szPt_small {p : Pt} (h : smallPt p) : szPt p ≤ 4000000 := by
  have h1 : p.us.length ≤ 1048576 := h.1
  unfold szPt
  rw [szL_const szUp 3 (fun _ => rfl)]
  omega
theorem szPts_small {ps : List Pt} (h : smallL smallPt ps) : szL szPt ps ≤ 4200000000000 := by
  have h1 := szL_le (sz := szPt) (xs := ps) (M := 4000000) fun p hp => szPt_small (h.2 p hp)
  have h2 := h.1
  omega
theorem szCo_small {q : Co} (h : smallCo q) : szCo q ≤ 8000000000000000000 := by
  obtain ⟨⟨h1, h2⟩, h3⟩ := h
  have h4 := szL_le (sz := szTx) (xs := q.ts) (M := 4300000000000) fun t ht => by
    obtain ⟨a1, a2⟩ := h2 t ht
    have a3 := szPts_small a1
    have a4 := szL_I t.vs
    have a5 : t.vs.length ≤ 1048576 := a2
    unfold szTx
    omega
  have h5 := szL_I q.ord
  have h6 : q.ord.length ≤ 1048576 := h3
  unfold szCo
  omega
theorem szL_app {α : Type} (sz : α → Nat) (b : List α) : ∀ a : List α, szL sz (a ++ b) = szL sz a + szL sz b
  | [] => by simp [szL]
  | x :: a => by
    have := szL_app sz b a
    simp only [List.cons_append, szL, this]
    omega
theorem szCo_begin {q qo : Co} {ps : List Pt} {b : Bool} (h : beginQ q ps = (qo, b)) (hq : smallCo q) (hp : smallL smallPt ps) : szCo qo ≤ 8500000000000000000 := by
  have h1 := szCo_small hq
  have h2 := szPts_small hp
  have h3 := hp.1
  unfold beginQ at h
  split at h
  · split at h
    · injection h with e _
      subst e
      have h4 : szTx (newTx ps) = szL szPt ps + szL szI1 (List.replicate ps.length 0) + 1 := rfl
      have h5 := szL_I (List.replicate ps.length 0)
      rw [List.length_replicate] at h5
      have h6 : szL szTx (q.ts ++ [newTx ps]) = szL szTx q.ts + szL szTx [newTx ps] := szL_app _ _ _
      have h7 : szL szTx [newTx ps] = szTx (newTx ps) + 0 := rfl
      unfold szCo at h1 ⊢
      show szL szTx (q.ts ++ [newTx ps]) + szL szI1 q.ord ≤ _
      omega
    · injection h with e _
      subst e
      omega
  · injection h with e _
    subst e
    simp [szCo, noQ, szL]
theorem SSl.iv {α : Type} {T : TypeId} {r : RepS α} {lo a b a' b' n c : Nat} {w : World} {A : Option Addr} {xs : List α} (h : SSl T r lo (Iv a b) w A n c xs) (h1 : a' ≤ a) (h2 : b ≤ b') : SSl T r lo (Iv a' b') w A n c xs :=
  h.wide fun _ hi => ⟨Nat.le_trans h1 hi.1, Nat.lt_of_lt_of_le hi.2 h2⟩
theorem own_ssl {lo n c : Nat} {w : World} {A : Option Addr} {xs : List Int} (h : w.ownsRow lo 3 1 (.slice A n c) n (ints xs)) : SSl 3 sepInt lo (Iv lo w.heap.size) w A n c xs :=
  SSl.of_ints h fun _ h1 h2 _ => ⟨h1, h2⟩
theorem SSl.rints0 {lo n c : Nat} {S : Nat → Prop} {w : World} {A : Option Addr} {xs : List Int} (h : SSl 3 sepInt lo S w A n c xs) : RInts w A n xs := (h.reads.down (Nat.zero_le _)).rints
end Go.Proofs.Ytlmcejpjhdaanaa
