/- Lists each of whose elements is good, and stands well behind the one ahead of it. Plain lemmas. -/
import Derived.Test.YtkekcgamhhmjnaaPlain
namespace Go.Proofs.Ytkekcgamhhmjnaa

section
variable {α : Type} (p : α → Bool) (r : α → α → Bool)
def chainB : List α → Bool
  | [] => true
  | [x] => p x
  | x :: y :: l => p x && r x y && chainB (y :: l)
theorem chainB_snoc (l : List α) (x : α) : chainB p r (l ++ [x]) = (chainB p r l && p x && (match l.getLast? with | none => true | some y => r y x)) := by
  induction l with
  | nil => simp [chainB]
  | cons a l ih =>
    cases l with
    | nil => simp [chainB]; cases p a <;> cases p x <;> cases r a x <;> rfl
    | cons b l =>
      simp only [List.cons_append, chainB] at ih ⊢
      rw [ih]
      simp only [List.getLast?_cons_cons]
      cases p a <;> cases r a b <;> simp
theorem getLast_take' (xs : List α) (k : Nat) (h : k < xs.length) : (xs.take (k+1)).getLast? = some xs[k] := by
  rw [List.take_succ_eq_append_getElem h, List.getLast?_append]
  simp
theorem chainB_zero (xs : List α) (x : α) (hx : xs[0]? = some x) : chainB p r (xs.take 1) = p x := by
  cases xs with
  | nil => cases hx
  | cons a l => simp at hx; subst hx; rfl
theorem chainB_succ (xs : List α) (k : Nat) (x y : α) (hy : xs[k]? = some y) (hx : xs[k+1]? = some x) :
    chainB p r (xs.take (k+2)) = (chainB p r (xs.take (k+1)) && p x && r y x) := by
  have hk : k + 1 < xs.length := (List.getElem?_eq_some_iff.1 hx).1
  have hxk : xs[k+1] = x := (List.getElem?_eq_some_iff.1 hx).2
  have hyk : xs[k] = y := (List.getElem?_eq_some_iff.1 hy).2
  rw [List.take_succ_eq_append_getElem hk, chainB_snoc, hxk, getLast_take' xs k (by omega), hyk]
theorem chainB_false (xs : List α) (k : Nat) (h : chainB p r (xs.take k) = false) : chainB p r xs = false := by
  obtain ⟨m, hm⟩ : ∃ m, m = xs.length - k := ⟨_, rfl⟩
  induction m generalizing k with
  | zero => rwa [List.take_of_length_le (by omega)] at h
  | succ m ih =>
    have hk : k < xs.length := by omega
    refine ih (k+1) ?_ (by omega)
    rw [List.take_succ_eq_append_getElem hk, chainB_snoc, h]; rfl
theorem chainB_mem {xs : List α} (h : chainB p r xs = true) : ∀ x ∈ xs, p x = true := by
  induction xs with
  | nil => intro x hx; cases hx
  | cons a l ih =>
    cases l with
    | nil => intro x hx; simp at hx; subst hx; exact h
    | cons b l =>
      simp only [chainB, Bool.and_eq_true] at h
      intro x hx
      rcases List.mem_cons.1 hx with rfl | hx
      · exact h.1.1
      · exact ih h.2 x hx
theorem chainB_take {xs : List α} (h : chainB p r xs = true) (k : Nat) : chainB p r (xs.take k) = true := by
  cases hc : chainB p r (xs.take k)
  · rw [chainB_false p r xs k hc] at h; cases h
  · rfl
end
end Go.Proofs.Ytkekcgamhhmjnaa
