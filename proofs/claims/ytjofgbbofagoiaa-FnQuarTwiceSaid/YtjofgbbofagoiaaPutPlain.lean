/- Plain laws of putting into a store: again, found, order. -/
import Derived.Test.YtjofgbbofagoiaaImplPut
namespace Go.Proofs.Ytjofgbbofagoiaa
open Go.RowKit Go.Sort

theorem eqO_eq {x y : Ob} (h : eqO x y = true) : x = y := by
  unfold eqO eqI at h
  rw [Bool.and_eq_true, Bool.and_eq_true] at h
  obtain ⟨⟨h1, h2⟩, h3⟩ := h
  have e1 := beq_iff_eq.1 h1
  have e2 := of_decide_eq_true h2
  have e3 := beq_iff_eq.1 h3
  rw [ByteArray.toList_eq, ByteArray.toList_eq] at e3
  have e4 := ByteArray.ext (Array.toList_inj.1 e3)
  cases x; cases y; simp_all
theorem posO_lt : ∀ (os : List Ob) (z : Int) (j : Nat) (x : Ob), j < posO os z → os[j]? = some x → x.id < z
  | [], z, j, x, h, hx => by simp at hx
  | y :: os, z, j, x, h, hx => by
    unfold posO at h
    split at h
    · rename_i hy
      cases j with
      | zero => simp at hx; subst hx; exact hy
      | succ j => exact posO_lt os z j x (by omega) (by simpa using hx)
    · omega
theorem posO_ge : ∀ (os : List Ob) (z : Int) (x : Ob), os[posO os z]? = some x → ¬ x.id < z
  | [], z, x, hx => by simp at hx
  | y :: os, z, x, hx => by
    unfold posO at hx
    split at hx
    · exact posO_ge os z x (by simpa using hx)
    · rename_i hy; simp at hx; subst hx; exact hy
/-- o put in at its place -/
def ins (os : List Ob) (o : Ob) : List Ob := os.take (posO os o.id) ++ [o] ++ os.drop (posO os o.id)
theorem mem_ins {os : List Ob} {o x : Ob} : x ∈ ins os o ↔ x ∈ os ∨ x = o := by
  have h : x ∈ os ↔ x ∈ os.take (posO os o.id) ∨ x ∈ os.drop (posO os o.id) := by rw [← List.mem_append, List.take_append_drop]
  unfold ins
  rw [List.mem_append, List.mem_append, List.mem_singleton, h]
  constructor
  · rintro ((h | h) | h)
    · exact Or.inl (Or.inl h)
    · exact Or.inr h
    · exact Or.inl (Or.inr h)
  · rintro ((h | h) | h)
    · exact Or.inl (Or.inl h)
    · exact Or.inr h
    · exact Or.inl (Or.inr h)
theorem ins_len (os : List Ob) (o : Ob) : (ins os o).length = os.length + 1 := by
  have := posO_le os o.id
  unfold ins
  simp only [List.length_append, List.length_take, List.length_drop, List.length_singleton]; omega
theorem drop_gt {os : List Ob} {z : Int} (ha : ascO os = true) (hn : hasO os z = false) : ∀ x ∈ os.drop (posO os z), z < x.id := by
  intro x hx
  obtain ⟨j, hj⟩ := List.mem_iff_getElem?.1 hx
  rw [List.getElem?_drop] at hj
  have hlt := (List.getElem?_eq_some_iff.1 hj).1
  have h0 : os[posO os z]? = some os[posO os z] := List.getElem?_eq_getElem (by omega)
  have h1 := posO_ge os z _ h0
  have h2 : os[posO os z].id ≠ z := by
    intro e
    unfold hasO at hn
    rw [h0] at hn
    exact of_decide_eq_false hn e
  by_cases hj0 : j = 0
  · subst hj0
    rw [Nat.add_zero, h0] at hj; injection hj with hj; subst hj; omega
  · have := asc_lt ha (show posO os z < posO os z + j by omega) h0 hj
    omega
theorem take_lt {os : List Ob} {z : Int} : ∀ x ∈ os.take (posO os z), x.id < z := by
  intro x hx
  obtain ⟨j, hj⟩ := List.mem_iff_getElem?.1 hx
  rw [List.getElem?_take] at hj
  split at hj
  · exact posO_lt os z j x (by assumption) hj
  · cases hj
theorem ins_store {os : List Ob} {o : Ob} (hs : storeB os = true) (ho : o.ok = true) (hn : hasO os o.id = false) (hl : os.length < 16) : storeB (ins os o) = true := by
  obtain ⟨h1, h2, h3⟩ := (storeB_iff os).1 hs
  refine (storeB_iff _).2 ⟨fun x hx => ?_, ?_, by rw [ins_len]; omega⟩
  · rcases mem_ins.1 hx with hx | rfl
    · exact h1 x hx
    · exact ho
  · unfold ins
    rw [List.pairwise_append, List.pairwise_append]
    refine ⟨⟨h2.sublist (List.take_sublist _ _), List.pairwise_singleton _ _, fun a ha b hb => ?_⟩, h2.sublist (List.drop_sublist _ _), fun a ha b hb => ?_⟩
    · rw [List.mem_singleton] at hb; subst hb; exact take_lt a ha
    · have hb' := drop_gt (storeB_asc hs) hn b hb
      rcases List.mem_append.1 ha with ha | ha
      · have := take_lt a ha; omega
      · rw [List.mem_singleton] at ha; subst ha; exact hb'
/-- an object of a store is found by its id -/
theorem store_at {os : List Ob} {x : Ob} (hs : storeB os = true) (hx : x ∈ os) : hasO os x.id = true ∧ os[posO os x.id]? = some x := by
  obtain ⟨j, hj⟩ := List.mem_iff_getElem?.1 hx
  obtain ⟨h1, h2⟩ := locO_at (storeB_asc hs) hj rfl
  exact ⟨h1, by rw [h2]; exact hj⟩
theorem hasO_mem {os : List Ob} {z : Int} (h : hasO os z = true) : ∃ x ∈ os, x.id = z ∧ os[posO os z]? = some x := by
  obtain ⟨x, h1, h2⟩ := hasO_at h
  exact ⟨x, List.mem_of_getElem? h1, h2, h1⟩

/-- when putting succeeds -/
theorem putR_yes {os : List Ob} {o : Ob} (h : (putR os o).2 = true) : storeB os = true ∧ o.ok = true ∧ ((o ∈ os ∧ (putR os o).1 = os) ∨ (hasO os o.id = false ∧ os.length < 16 ∧ (putR os o).1 = ins os o)) := by
  cases hs : storeB os
  · rw [putR_bad (Or.inl hs)] at h; cases h
  · cases ho : o.ok
    · rw [putR_bad (Or.inr ho)] at h; cases h
    · rw [putR_good hs ho] at h ⊢
      refine ⟨rfl, rfl, ?_⟩
      cases hh : hasO os o.id
      · rw [putO_new hh] at h ⊢
        by_cases hl : 16 ≤ os.length
        · rw [if_pos hl] at h; cases h
        · rw [if_neg hl]; exact Or.inr ⟨rfl, by omega, rfl⟩
      · obtain ⟨x, hx, hi⟩ := hasO_at hh
        rw [putO_found hx hi] at h ⊢
        have := eqO_eq h
        subst this
        exact Or.inl ⟨List.mem_of_getElem? hx, rfl⟩
theorem putR_in {os : List Ob} {o : Ob} (hs : storeB os = true) (h : o ∈ os) : putR os o = (os, true) := by
  have hat := store_at hs h
  rw [putR_good hs (storeB_ok hs o h), putO_found hat.2 rfl, eqO_refl]
theorem putR_new {os : List Ob} {o : Ob} (hs : storeB os = true) (ho : o.ok = true) (hn : hasO os o.id = false) (hl : os.length < 16) : putR os o = (ins os o, true) := by
  rw [putR_good hs ho, putO_new hn, if_neg (by omega)]; rfl
theorem putR_store {os : List Ob} {o : Ob} (h : (putR os o).2 = true) : storeB (putR os o).1 = true ∧ o ∈ (putR os o).1 ∧ (∀ x ∈ os, x ∈ (putR os o).1) ∧ (∀ x ∈ (putR os o).1, x ∈ os ∨ x = o) := by
  obtain ⟨hs, ho, (⟨hm, he⟩ | ⟨hn, hl, he⟩)⟩ := putR_yes h
  · rw [he]; exact ⟨hs, hm, fun x hx => hx, fun x hx => Or.inl hx⟩
  · rw [he]; exact ⟨ins_store hs ho hn hl, mem_ins.2 (Or.inr rfl), fun x hx => mem_ins.2 (Or.inl hx), fun x hx => mem_ins.1 hx⟩
theorem putR_again {os : List Ob} {o : Ob} (h : (putR os o).2 = true) : putR (putR os o).1 o = ((putR os o).1, true) := by
  obtain ⟨h1, h2, _⟩ := putR_store h
  exact putR_in h1 h2
theorem getR_mem {os : List Ob} {o : Ob} (hs : storeB os = true) (h : o ∈ os) : getR os o.id = some o := by
  have hat := store_at hs h
  exact getR_some hs hat.1 hat.2
/-- two objects of a store with one id are one -/
theorem store_inj {os : List Ob} {x y : Ob} (hs : storeB os = true) (hx : x ∈ os) (hy : y ∈ os) (h : x.id = y.id) : x = y := by
  have h1 := (store_at hs hx).2
  have h2 := (store_at hs hy).2
  rw [h, h2] at h1
  injection h1 with h1; exact h1.symm
/-- stores with the same objects are one -/
theorem store_ext {os ps : List Ob} (h1 : os.Pairwise (fun a b => a.id < b.id)) (h2 : ps.Pairwise (fun a b => a.id < b.id)) (h : ∀ x, x ∈ os ↔ x ∈ ps) : os = ps := by
  induction os generalizing ps with
  | nil =>
    cases ps with
    | nil => rfl
    | cons p ps => have := (h p).2 (by simp); simp at this
  | cons o os ih =>
    cases ps with
    | nil => have := (h o).1 (by simp); simp at this
    | cons p ps =>
      obtain ⟨a1, a2⟩ := List.pairwise_cons.1 h1
      obtain ⟨b1, b2⟩ := List.pairwise_cons.1 h2
      have hop : o = p := by
        rcases List.mem_cons.1 ((h o).1 (by simp)) with e | e
        · exact e
        · rcases List.mem_cons.1 ((h p).2 (by simp)) with e' | e'
          · exact e'.symm
          · have := b1 o e; have := a1 p e'; omega
      subst hop
      rw [ih a2 b2 (fun x => ?_)]
      constructor
      · intro hx
        rcases List.mem_cons.1 ((h x).1 (List.mem_cons_of_mem _ hx)) with e | e
        · subst e; have := a1 x hx; omega
        · exact e
      · intro hx
        rcases List.mem_cons.1 ((h x).2 (List.mem_cons_of_mem _ hx)) with e | e
        · subst e; have := b1 x hx; omega
        · exact e
theorem store_len {os ps : List Ob} (h1 : os.Pairwise (fun a b => a.id < b.id)) (h : ∀ x ∈ os, x ∈ ps) : os.length ≤ ps.length := by
  induction os generalizing ps with
  | nil => exact Nat.zero_le _
  | cons o os ih =>
    obtain ⟨a1, a2⟩ := List.pairwise_cons.1 h1
    obtain ⟨l, r, rfl⟩ := List.append_of_mem (h o (by simp))
    have := ih (ps := l ++ r) a2 (fun x hx => by
      have hx' := h x (List.mem_cons_of_mem _ hx)
      rcases List.mem_append.1 hx' with e | e
      · exact List.mem_append.2 (Or.inl e)
      · rcases List.mem_cons.1 e with e | e
        · subst e; have := a1 x hx; omega
        · exact List.mem_append.2 (Or.inr e))
    simp only [List.length_append, List.length_cons] at this ⊢
    omega
theorem putR_order {os : List Ob} {o p : Ob} (h1 : (putR os o).2 = true) (h2 : (putR (putR os o).1 p).2 = true) (h3 : (putR os p).2 = true) :
    putR (putR os p).1 o = ((putR (putR os o).1 p).1, true) := by
  obtain ⟨s1, m1, k1, e1⟩ := putR_store h1
  obtain ⟨s2, m2, k2, e2⟩ := putR_store h2
  obtain ⟨s3, m3, k3, e3⟩ := putR_store h3
  have ho : o.ok = true := storeB_ok s1 o m1
  -- all objects of the store with p are in the greater one
  have sub : ∀ x ∈ (putR os p).1, x ∈ (putR (putR os o).1 p).1 := fun x hx => by
    rcases e3 x hx with hx | rfl
    · exact k2 x (k1 x hx)
    · exact m2
  by_cases hmem : o ∈ (putR os p).1
  · rw [putR_in s3 hmem]
    have : (putR os p).1 = (putR (putR os o).1 p).1 := store_ext ((storeB_iff _).1 s3).2.1 ((storeB_iff _).1 s2).2.1 (fun x => ⟨sub x, fun hx => by
      rcases e2 x hx with hx | rfl
      · rcases e1 x hx with hx | rfl
        · exact k3 x hx
        · exact hmem
      · exact m3⟩)
    rw [this]
  · have hn : hasO (putR os p).1 o.id = false := by
      cases hh : hasO (putR os p).1 o.id
      · rfl
      · obtain ⟨x, hx, hi, _⟩ := hasO_mem hh
        have := store_inj s2 (sub x hx) (k2 o m1) hi
        subst this
        exact absurd hx hmem
    have hl : (putR os p).1.length < 16 := by
      have hle := storeB_len s2
      have : ((putR os p).1.length) + 1 ≤ (putR (putR os o).1 p).1.length := by
        have hi := ins_store s3 ho hn
        obtain ⟨l, r, e⟩ := List.append_of_mem (k2 o m1)
        have hsub : ∀ x ∈ (putR os p).1, x ∈ l ++ r := fun x hx => by
          have := sub x hx
          rw [e] at this
          rcases List.mem_append.1 this with h | h
          · exact List.mem_append.2 (Or.inl h)
          · rcases List.mem_cons.1 h with h | h
            · subst h; exact absurd hx hmem
            · exact List.mem_append.2 (Or.inr h)
        have := store_len ((storeB_iff _).1 s3).2.1 hsub
        rw [e]
        simp only [List.length_append, List.length_cons] at this ⊢
        omega
      omega
    rw [putR_new s3 ho hn hl]
    have : ins (putR os p).1 o = (putR (putR os o).1 p).1 := store_ext ((storeB_iff _).1 (ins_store s3 ho hn hl)).2.1 ((storeB_iff _).1 s2).2.1 (fun x => ⟨fun hx => by
      rcases mem_ins.1 hx with hx | rfl
      · exact sub x hx
      · exact k2 _ m1, fun hx => by
      rcases e2 x hx with hx | rfl
      · rcases e1 x hx with hx | rfl
        · exact mem_ins.2 (Or.inl (k3 x hx))
        · exact mem_ins.2 (Or.inr rfl)
      · exact mem_ins.2 (Or.inl m3)⟩)
    rw [this]
/-- when putting is refused -/
theorem putR_no {os : List Ob} {o : Ob} (hs : storeB os = true) (ho : o.ok = true) (h : (putR os o).2 = false) : (putR os o).1 = os ∧ ((∃ x, getR os o.id = some x ∧ eqO x o = false) ∨ os.length = 16) := by
  rw [putR_good hs ho] at h ⊢
  cases hh : hasO os o.id
  · rw [putO_new hh] at h ⊢
    by_cases hl : 16 ≤ os.length
    · rw [if_pos hl]; exact ⟨rfl, Or.inr (by have := storeB_len hs; omega)⟩
    · rw [if_neg hl] at h; cases h
  · obtain ⟨x, hx, hi⟩ := hasO_at hh
    rw [putO_found hx hi] at h ⊢
    exact ⟨rfl, Or.inl ⟨x, getR_some hs hh hx, h⟩⟩
end Go.Proofs.Ytjofgbbofagoiaa
