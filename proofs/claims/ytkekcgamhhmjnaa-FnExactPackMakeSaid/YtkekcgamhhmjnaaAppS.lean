/- append of a slice that may be empty, as a step of a drawn region and of a fixed one; stores without one object, with one object twice. -/
import Derived.Test.YtkekcgamhhmjnaaPutLaw
namespace Go.Proofs.Ytkekcgamhhmjnaa
open Go.RowKit Go.Sort

section
variable {P : Program} {w : World}
theorem step_appS {ops : Array Oper} {o : Oper} {a : Act} {K : Act → World → Prop} {Q : Exit → Act → World → Prop} {E : Prop} (hgd : o.guard = none) (s x : Operand) (t : TypeId)
    (ho : o.op = .call { callee := .builtin .append, args := #[s, x], argTypes := #[t, t] })
    (base : Nat) (e : TypeId) {z : Value} {size bytes : Nat} (ht : P.underlying t = some (.slice e)) (hi : (P.info? e).map (fun i => (i.zero, i.size, i.bytes)) = some (some z, size, bytes)) (hzs : z.cells.size = size) (hsz : 0 < size) (hb : bytes ≤ 1000)
    (v : Value) (n : Nat) (xs : List Value) (hs : a.eval s = v) (hown : w.ownsRow base e size v n xs)
    (S : Option Addr) (m c : Nat) (news : List Value) (hx : a.eval x = .slice S m c) (hl : news.length = m * size) (hnews : 0 < m → ∃ ad, S = some ad ∧ ∀ j u, news[j]? = some u → w.cell? (ad.add j) = some u) (h1 : ∀ u ∈ news, u.oneCell' = true)
    (nm : Nat) (hnm : n + m = nm) (hn : nm ≤ 1000000000) (hbase : base ≤ w.heap.size)
    (h : ∀ A c' w', w'.ownsRow base e size (.slice A nm c') nm (xs ++ news) → nm ≤ c' → Below base w w' → w.grownBy w' v.ownBlock → K (a.put o.dst (.slice A nm c')) w') :
    if Region.wanted o (yielded ops a.tmps) = true then Oper.wp P o a w K Q else E := by
  subst hnm
  by_cases h0 : m = 0
  · subst h0
    obtain rfl : news = [] := List.eq_nil_of_length_eq_zero (by rw [hl]; simp)
    obtain ⟨A, c', rfl, hc'⟩ := own_form hown
    refine step_app0 hgd s x t ho base e ht hi _ n xs hs hown S c hx ?_
    exact h A c' w (by simpa using hown) hc' (Below.refl _ _) (World.grownBy.refl _ _)
  · obtain ⟨ad, rfl, hc⟩ := hnews (by omega)
    exact step_app hgd s x t ho base e ht hi hzs hsz hb v n xs hs hown ad m c news hx hl hc h1 hn hbase (fun A c' w' h1 h2 h3 h4 _ => h A c' w' h1 h2 h3 h4)
theorem wpList_appS {ops : Array Oper} {rest : List Oper} {o : Oper} {a : Act} {Q : Exit → Act → World → Prop} (hgd : o.guard = none) (s x : Operand) (t : TypeId)
    (ho : o.op = .call { callee := .builtin .append, args := #[s, x], argTypes := #[t, t] })
    (base : Nat) (e : TypeId) {z : Value} {size bytes : Nat} (ht : P.underlying t = some (.slice e)) (hi : (P.info? e).map (fun i => (i.zero, i.size, i.bytes)) = some (some z, size, bytes)) (hzs : z.cells.size = size) (hsz : 0 < size) (hb : bytes ≤ 1000)
    (v : Value) (n : Nat) (xs : List Value) (hs : a.eval s = v) (hown : w.ownsRow base e size v n xs)
    (S : Option Addr) (m c : Nat) (news : List Value) (hx : a.eval x = .slice S m c) (hl : news.length = m * size) (hnews : 0 < m → ∃ ad, S = some ad ∧ ∀ j u, news[j]? = some u → w.cell? (ad.add j) = some u) (h1 : ∀ u ∈ news, u.oneCell' = true)
    (nm : Nat) (hnm : n + m = nm) (hn : nm ≤ 1000000000) (hbase : base ≤ w.heap.size)
    (h : ∀ A c' w', w'.ownsRow base e size (.slice A nm c') nm (xs ++ news) → nm ≤ c' → Below base w w' → w.grownBy w' v.ownBlock → wpList P ops Q rest (a.put o.dst (.slice A nm c')) w') : wpList P ops Q (o :: rest) a w := by
  subst hnm
  by_cases h0 : m = 0
  · subst h0
    obtain rfl : news = [] := List.eq_nil_of_length_eq_zero (by rw [hl]; simp)
    obtain ⟨A, c', rfl, hc'⟩ := own_form hown
    refine wpList_app0 hgd s x t ho base e ht hi _ n xs hs hown S c hx ?_
    exact h A c' w (by simpa using hown) hc' (Below.refl _ _) (World.grownBy.refl _ _)
  · obtain ⟨ad, rfl, hc⟩ := hnews (by omega)
    exact wpList_app hgd s x t ho base e ht hi hzs hsz hb v n xs hs hown ad m c news hx hl hc h1 hn hbase (fun A c' w' h1 h2 h3 h4 _ => h A c' w' h1 h2 h3 h4)
end

section
variable {α : Type} (p : α → Bool) (r : α → α → Bool)
theorem chainB_pw (ht : ∀ a b c, r a b = true → r b c = true → r a c = true) (xs : List α) : chainB p r xs = true ↔ (∀ x ∈ xs, p x = true) ∧ xs.Pairwise (fun a b => r a b = true) := by
  induction xs with
  | nil => simp [chainB]
  | cons a l ih =>
    cases l with
    | nil => simp [chainB]
    | cons b l =>
      simp only [chainB, Bool.and_eq_true]
      rw [ih]
      constructor
      · rintro ⟨⟨h1, h2⟩, h3, h4⟩
        refine ⟨fun x hx => ?_, List.pairwise_cons.2 ⟨fun x hx => ?_, h4⟩⟩
        · rcases List.mem_cons.1 hx with rfl | hx
          · exact h1
          · exact h3 x hx
        · rcases List.mem_cons.1 hx with rfl | hx
          · exact h2
          · exact ht _ _ _ h2 ((List.pairwise_cons.1 h4).1 x hx)
      · rintro ⟨h1, h2⟩
        obtain ⟨h3, h4⟩ := List.pairwise_cons.1 h2
        exact ⟨⟨h1 a (by simp), h3 b (by simp)⟩, fun x hx => h1 x (List.mem_cons_of_mem _ hx), h4⟩
end
theorem ascO_pw (os : List Ob) : ascO os = true ↔ (∀ x ∈ os, x.ok = true) ∧ os.Pairwise (fun a b => a.id < b.id) := by
  unfold ascO
  rw [chainB_pw Ob.ok (fun a b => decide (a.id < b.id)) (fun a b c h1 h2 => by simp at h1 h2 ⊢; omega)]
  simp
theorem storeB_iff (os : List Ob) : storeB os = true ↔ (∀ x ∈ os, x.ok = true) ∧ os.Pairwise (fun a b => a.id < b.id) ∧ os.length ≤ 16 := by
  unfold storeB
  rw [Bool.and_eq_true, ascO_pw, and_assoc, decide_eq_true_eq]
  constructor
  · rintro ⟨h1, h2, h3⟩; exact ⟨h1, h2, by omega⟩
  · rintro ⟨h1, h2, h3⟩; exact ⟨h1, h2, by omega⟩
theorem storeB_sub {os ps : List Ob} (h : storeB os = true) (hs : ps.Sublist os) : storeB ps = true := by
  obtain ⟨h1, h2, h3⟩ := (storeB_iff os).1 h
  exact (storeB_iff ps).2 ⟨fun x hx => h1 x (hs.subset hx), h2.sublist hs, Nat.le_trans hs.length_le h3⟩
theorem storeB_less {os : List Ob} (h : storeB os = true) (k : Nat) : storeB (os.take k ++ os.drop (k + 1)) = true := by
  refine storeB_sub h ?_
  have : (os.take k ++ os.drop (k + 1)).Sublist (os.take k ++ os.drop k) := List.Sublist.append (List.Sublist.refl _) (List.drop_sublist_drop_left os (Nat.le_succ k))
  rwa [List.take_append_drop] at this
theorem storeB_twice {os : List Ob} (k : Nat) (hk : k < os.length) : storeB (os.take (k + 1) ++ os.drop k) = false := by
  cases h : storeB (os.take (k + 1) ++ os.drop k)
  · rfl
  · obtain ⟨_, h2, _⟩ := (storeB_iff _).1 h
    have := (List.pairwise_append.1 h2).2.2 os[k] (List.mem_iff_getElem?.2 ⟨k, by simp [hk]⟩) os[k] (List.mem_iff_getElem?.2 ⟨0, by simp [hk]⟩)
    omega
end Go.Proofs.Ytkekcgamhhmjnaa
