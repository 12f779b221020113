/- Walks: slices.Clone at ints (for seats without objects). -/
import Derived.Test.YtlmcejpjhdaanaaAppG
import Derived.Test.YtlmcejpjhdaanaaSort
import Derived.Lib.SliceRun
namespace Go.Proofs.Ytlmcejpjhdaanaa
open Go.RowKit Go.Sort

theorem own_nil {W : World} {B : Nat} {t : TypeId} {size : Nat} : W.ownsRow B t size (.slice none 0 0) 0 [] := ⟨by simp, .inl ⟨rfl, rfl⟩⟩
set_option maxHeartbeats 1600000 in
theorem cloneI_any (A : Option Addr) (n c : Nat) (xs : List Int) (w : World) (h : RInts w A n xs) (hn : n ≤ 100000000) :
    Calls Try.prog 40 #[.slice A n c] w fun e w' => ∃ B d, e = .returned (.slice B n d) ∧ w'.ownsRow w.heap.size 3 1 (.slice B n d) n (ints xs) ∧ Below w.heap.size w w' := by
  have q22 : ∀ (w : World) (a : Option Addr) (n c n' c' : Nat), (binOp .eql 24 (.slice a n c) (.slice none n' c')).run Try.prog w = .ok (.bool a.isNone) w := fun w a n c n' c' => Lib.run_eql_slice_nil w _ _ a n c n' c' Try.underlying24
  cases A with
  | none =>
    have h0 : n = 0 := by
      apply Classical.byContradiction; intro h0
      obtain ⟨ad, e, _⟩ := h.2 (by omega); cases e
    subst h0
    have hxs : xs = [] := List.eq_nil_of_length_eq_zero h.1
    go_enter Try.func40, Try.ntmps40
    go_wp2_with fail
    go_ret
    exact ⟨none, 0, rfl, by rw [hxs]; exact own_nil, Below.refl _ _⟩
  | some ad =>
    have E1 := Blk.new w 3 []
    have b1 := below_box w (.cells #[] 3)
    have hl := h.1
    have h1 := h.next b1
    go_enter Try.func40, Try.ntmps40
    go_wp2_with (at_builtin; go_loud (refine wpList_appS rfl (.tmp 5) (.tmp 6) 24 rfl w.heap.size 3 Try.underlying24 int_info1 rfl (by omega) (by omega) _ 0 [] rfl (own_emp E1 (Nat.le_refl _)) _ n c (ints xs) rfl (by rw [length_ints]; omega) (fun hn => by
      obtain ⟨ad', e, _, hc⟩ := h1.2 hn
      exact ⟨ad', e, fun j u hu => by
        rw [ints, List.getElem?_map] at hu
        cases hx : xs[j]? with
        | none => rw [hx] at hu; cases hu
        | some x => rw [hx] at hu; rw [hc j x hx]; exact hu⟩) (by simp [ints, Value.oneCell']) n (by omega) (by omega) b1.size ?_; intro B d w2 hown2 _ hb2 hg2))
    go_ret
    exact ⟨B, d, rfl, by simpa using hown2, b1.trans hb2⟩
end Go.Proofs.Ytlmcejpjhdaanaa
