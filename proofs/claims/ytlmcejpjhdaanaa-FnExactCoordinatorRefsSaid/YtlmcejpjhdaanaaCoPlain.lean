/- Plain laws: a sorted list is that of the committed transactions just if the two agree on every member, and are of one length. -/
import Derived.Test.YtlmcejpjhdaanaaCoS
import Derived.Test.YtlmcejpjhdaanaaSortC
namespace Go.Proofs.Ytlmcejpjhdaanaa
open Go.RowKit Go.Sort

/-- the numbers of the committed ones, from i on -/
def comI : Nat → List Tx → List Int
  | _, [] => []
  | i, t :: ts => (if t.dec = 2 then [(i : Int)] else []) ++ comI (i + 1) ts
theorem comI_snoc (t : Tx) : ∀ (ts : List Tx) (i : Nat), comI i (ts ++ [t]) = comI i ts ++ (if t.dec = 2 then [((i + ts.length : Nat) : Int)] else [])
  | [], i => by simp [comI]
  | x :: ts, i => by
    have := comI_snoc t ts (i + 1)
    simp only [List.cons_append, comI, this, List.length_cons, List.append_assoc]
    rw [show i + 1 + ts.length = i + (ts.length + 1) by omega]
theorem comI_succ (ts : List Tx) (k : Nat) (t : Tx) (h : ts[k]? = some t) : comI 0 (ts.take (k + 1)) = comI 0 (ts.take k) ++ (if t.dec = 2 then [(k : Int)] else []) := by
  obtain ⟨h1, h2⟩ := List.getElem?_eq_some_iff.1 h
  rw [List.take_succ_eq_append_getElem h1, h2, comI_snoc, List.length_take, Nat.min_eq_left (by omega), Nat.zero_add]
theorem comI_len : ∀ (ts : List Tx) (i : Nat), (comI i ts).length = cntC ts
  | [], i => rfl
  | t :: ts, i => by
    have := comI_len ts (i + 1)
    unfold cntC at this ⊢
    simp only [comI, List.length_append, this, List.countP_cons]
    by_cases h : t.dec = 2 <;> simp [h]
    omega
theorem comI_mem : ∀ (ts : List Tx) (i : Nat) (z : Int), z ∈ comI i ts ↔ ∃ (k : Nat) (t : Tx), ts[k]? = some t ∧ t.dec = 2 ∧ z = ((i + k : Nat) : Int)
  | [], i, z => by simp [comI]
  | t :: ts, i, z => by
    have ih := comI_mem ts (i + 1) z
    simp only [comI, List.mem_append, ih]
    constructor
    · rintro (h | ⟨k, t', h1, h2, h3⟩)
      · by_cases hd : t.dec = 2
        · rw [if_pos hd] at h; simp at h
          exact ⟨0, t, rfl, hd, by simpa using h⟩
        · rw [if_neg hd] at h; cases h
      · exact ⟨k + 1, t', by simpa using h1, h2, by rw [h3]; congr 1; omega⟩
    · rintro ⟨k, t', h1, h2, h3⟩
      cases k with
      | zero =>
        simp at h1; subst h1
        left; rw [if_pos h2]; simpa using h3
      | succ k => exact Or.inr ⟨k, t', by simpa using h1, h2, by rw [h3]; congr 1; omega⟩
theorem comI_pw : ∀ (ts : List Tx) (i : Nat), (comI i ts).Pairwise (· < ·)
  | [], _ => .nil
  | t :: ts, i => by
    have ih := comI_pw ts (i + 1)
    simp only [comI]
    by_cases hd : t.dec = 2
    · rw [if_pos hd]
      refine List.Pairwise.cons (fun z hz => ?_) ih
      obtain ⟨k, _, _, _, rfl⟩ := (comI_mem ts (i + 1) z).1 hz
      omega
    · rw [if_neg hd]; exact ih
/-- a list without repetitions within another one of its length: a permutation of it -/
theorem perm_of_sub : ∀ (cs os : List Int), cs.Pairwise (· < ·) → (∀ z ∈ cs, z ∈ os) → os.length = cs.length → os.Perm cs
  | [], os, _, _, hl => by
    have : os = [] := List.eq_nil_of_length_eq_zero hl
    rw [this]
  | c :: cs, os, hp, hs, hl => by
    have hc : c ∈ os := hs c (by simp)
    have h1 := List.perm_cons_erase hc
    have hp' := List.pairwise_cons.1 hp
    have h2 := perm_of_sub cs (os.erase c) hp'.2 (fun z hz => by
      have hzc := hp'.1 z hz
      exact (List.mem_erase_of_ne (by omega)).2 (hs z (List.mem_cons_of_mem _ hz))) (by
      have := List.length_erase_of_mem hc
      simp only [List.length_cons] at hl
      omega)
    exact h1.trans (h2.cons c)
theorem sortI_perm (xs : List Int) : (sortI xs).Perm xs := List.mergeSort_perm _ _
theorem sortI_len (xs : List Int) : (sortI xs).length = xs.length := (sortI_perm xs).length_eq
theorem sortI_asc (xs : List Int) : (sortI xs).Pairwise (fun x y => x ≤ y) := by
  have := List.pairwise_mergeSort (le := fun x y : Int => decide (x ≤ y)) (fun a b c h1 h2 => by simp at h1 h2 ⊢; omega) (fun a b => by simp; omega) xs
  exact this.imp (by intro a b h; simpa using h)
theorem asc_perm_eq : ∀ (a b : List Int), a.Pairwise (fun x y => x ≤ y) → b.Pairwise (fun x y => x ≤ y) → a.Perm b → a = b := fun a b ha hb h =>
  h.eq_of_pairwise (fun x y _ _ h1 h2 => by omega) ha hb
theorem sort_eq (xs cs : List Int) (hp : cs.Pairwise (· < ·)) : sortI xs = cs ↔ ((∀ z ∈ cs, z ∈ xs) ∧ xs.length = cs.length) := by
  constructor
  · rintro rfl
    exact ⟨fun z hz => (sortI_perm xs).mem_iff.1 hz, (sortI_len xs).symm⟩
  · rintro ⟨h1, h2⟩
    exact asc_perm_eq _ _ (sortI_asc xs) (hp.imp (by intro a b h; omega)) ((sortI_perm xs).trans (perm_of_sub cs xs hp h1 h2))
theorem allOk_tx : ∀ (ord : List Int) (ts : List Tx) (i : Nat), allOk ord i ts = true ↔ (∀ t ∈ ts, txB t = true) ∧ ∀ (k : Nat) (t : Tx), ts[k]? = some t → (t.dec == 2) = hasI ord ((i + k : Nat) : Int)
  | ord, [], i => by simp [allOk]
  | ord, t :: ts, i => by
    have ih := allOk_tx ord ts (i + 1)
    simp only [allOk, Bool.and_eq_true, ih, okAt, beq_iff_eq]
    constructor
    · rintro ⟨⟨h1, h2⟩, h3, h4⟩
      refine ⟨fun x hx => ?_, fun k x hx => ?_⟩
      · rcases List.mem_cons.1 hx with rfl | hx
        · exact h1
        · exact h3 x hx
      · cases k with
        | zero => simp at hx; subst hx; simpa using h2
        | succ k =>
          have := h4 k x (by simpa using hx)
          rw [this]; congr 2; omega
    · rintro ⟨h1, h2⟩
      refine ⟨⟨h1 t (by simp), by simpa using h2 0 t rfl⟩, fun x hx => h1 x (List.mem_cons_of_mem _ hx), fun k x hx => ?_⟩
      have := h2 (k + 1) x (by simpa using hx)
      rw [this]; congr 2; omega
/-- the program's way of checking -/
theorem coB_impl (c : Co) : coB c = (c.ts.all txB && (decide (c.ts.length ≤ 12) && decide (sortI c.ord = comI 0 c.ts))) := by
  rw [Bool.eq_iff_iff]
  unfold coB
  simp only [Bool.and_eq_true, decide_eq_true_eq, List.all_eq_true, allOk_tx, sort_eq _ _ (comI_pw c.ts 0), comI_len]
  constructor
  · rintro ⟨⟨h1, h2⟩, h3, h4⟩
    refine ⟨h1, h3, fun z hz => ?_, h4⟩
    obtain ⟨k, t, a1, a2, rfl⟩ := (comI_mem c.ts 0 z).1 hz
    have := h2 k t a1
    rw [a2] at this
    unfold hasI at this
    exact of_decide_eq_true this.symm
  · rintro ⟨h1, h3, h4, h5⟩
    refine ⟨⟨h1, fun k t hk => ?_⟩, h3, h5⟩
    have hperm := perm_of_sub _ _ (comI_pw c.ts 0) h4 (by rw [comI_len]; exact h5)
    unfold hasI
    rw [Bool.eq_iff_iff, beq_iff_eq, decide_eq_true_eq]
    constructor
    · intro hd
      exact h4 _ ((comI_mem c.ts 0 _).2 ⟨k, t, hk, hd, rfl⟩)
    · intro hm
      obtain ⟨k', t', a1, a2, a3⟩ := (comI_mem c.ts 0 _).1 (hperm.mem_iff.1 hm)
      have : k = k' := by omega
      subst this
      rw [hk] at a1
      injection a1 with a1
      rw [a1]; exact a2
end Go.Proofs.Ytlmcejpjhdaanaa
