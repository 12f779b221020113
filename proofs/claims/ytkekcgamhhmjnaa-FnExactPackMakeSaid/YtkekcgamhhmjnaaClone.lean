/- Walks: slices.Clone at ints and at objects; the program's copyObjects. -/
import Derived.Test.YtkekcgamhhmjnaaAppS
import Derived.Lib.SliceRun
namespace Go.Proofs.Ytkekcgamhhmjnaa
open Go.RowKit Go.Sort

theorem own_nil {W : World} {B : Nat} {t : TypeId} {size : Nat} : W.ownsRow B t size (.slice none 0 0) 0 [] := ⟨by simp, .inl ⟨rfl, rfl⟩⟩

set_option maxHeartbeats 1600000 in
theorem cloneI_any (A : Option Addr) (n c : Nat) (xs : List Int) (w : World) (h : RInts w A n xs) (hn : n ≤ 1000000) :
    Calls Try.prog 31 #[.slice A n c] w fun e w' => ∃ B d, e = .returned (.slice B n d) ∧ w'.ownsRow w.heap.size 3 1 (.slice B n d) n (ints xs) ∧ Below w.heap.size w w' := by
  have q22 : ∀ (w : World) (a : Option Addr) (n c n' c' : Nat), (binOp .eql 29 (.slice a n c) (.slice none n' c')).run Try.prog w = .ok (.bool a.isNone) w := fun w a n c n' c' => Lib.run_eql_slice_nil w _ _ a n c n' c' Try.underlying29
  cases A with
  | none =>
    have h0 : n = 0 := by
      apply Classical.byContradiction; intro h0
      obtain ⟨ad, e, _⟩ := h.2 (by omega); cases e
    subst h0
    have hxs : xs = [] := List.eq_nil_of_length_eq_zero h.1
    go_enter Try.func31, Try.ntmps31
    go_wp2_with fail
    go_ret
    exact ⟨none, 0, rfl, by rw [hxs]; exact own_nil, Below.refl _ _⟩
  | some ad =>
    have E1 := Blk.new w 3 []
    have b1 := below_box w (.cells #[] 3)
    have hl := h.1
    have h1 := h.next b1
    go_enter Try.func31, Try.ntmps31
    go_wp2_with (at_builtin; go_loud (refine wpList_appS rfl (.tmp 5) (.tmp 6) 29 rfl w.heap.size 3 Try.underlying29 int_info1 rfl (by omega) (by omega) _ 0 [] rfl (own_emp E1 (Nat.le_refl _)) _ n c (ints xs) rfl (by rw [length_ints]; omega) (fun hn => by
      obtain ⟨ad', e, _, hc⟩ := h1.2 hn
      exact ⟨ad', e, fun j u hu => by
        rw [ints, List.getElem?_map] at hu
        cases hx : xs[j]? with
        | none => rw [hx] at hu; cases hu
        | some x => rw [hx] at hu; rw [hc j x hx]; exact hu⟩) (by simp [ints, Value.oneCell']) n (by omega) (by omega) b1.size ?_; intro B d w2 hown2 _ hb2 hg2))
    go_ret
    exact ⟨B, d, rfl, by simpa using hown2, b1.trans hb2⟩

/-- the cells of a slice of objects -/
theorem RObjs.cellsA {w : World} {A : Option Addr} {n : Nat} {os : List Ob} (h : RObjs w A n os) : ∃ cs : List Value, cs.length = n * 3 ∧ (0 < n → ∃ ad, A = some ad ∧ ad.block < w.heap.size ∧ ∀ j u, cs[j]? = some u → w.cell? (ad.add j) = some u) ∧ Elems cs os (RInts w) ∧ ∀ u ∈ cs, u.oneCell' = true := by
  by_cases h0 : n = 0
  · subst h0
    have : os = [] := List.eq_nil_of_length_eq_zero h.1
    subst this
    exact ⟨[], by simp, fun h => absurd h (by omega), Elems.nil, by simp⟩
  · obtain ⟨b, off, o, rfl, hb, _, _⟩ := h.at_ (k := 0) (by omega)
    obtain ⟨cs, h1, h2, h3, h4, h5⟩ := h.cellsL
    exact ⟨cs, h1, fun _ => ⟨_, rfl, hb, fun j u hu => by rw [add_at]; exact h3 j u hu⟩, h4, h5⟩

end Go.Proofs.Ytkekcgamhhmjnaa
