/- Walks: the program's StoreReach and StoreMissing. -/
import Derived.Test.YtjofgbbofagoiaaRchT
import Derived.Test.YtjofgbbofagoiaaById
namespace Go.Proofs.Ytjofgbbofagoiaa
open Go.RowKit Go.Sort Go.Maps

theorem OMap.below {w w' : World} {D : DataW Value} {os : List Ob} (h : OMap w D os) (hb : Below w.heap.size w w') : OMap w' D os := fun x hx => by
  have h0 := h x hx
  cases hg : getO os x with
  | none => rw [hg] at h0; exact h0
  | some o =>
    rw [hg] at h0
    obtain ⟨h1, B, m, d, h2, h3, h4⟩ := h0
    exact ⟨h1, B, m, d, h2, h3.below hb (Nat.le_refl _), h4⟩
/-- one list, then none -/
def oneV (v : Value) (j : Nat) : Value := if j = 0 then v else .slice none 0 0
def oneL (os : List Ob) (j : Nat) : List Ob := if j = 0 then os else []
theorem oneL_flat (os : List Ob) : ((List.range 1).map (oneL os)).flatten = os := by simp [oneL]
theorem robjs_nil (w : World) : RObjs w none 0 [] := ⟨rfl, fun h => absurd h (by omega)⟩
theorem storeB_nil : storeB [] = true := by rfl
theorem oneV_all {w : World} {A : Option Addr} {n c : Nat} {os : List Ob} (h : RObjs w A n os) (hs : storeB os = true) : ∀ j, ∃ B m d, oneV (.slice A n c) j = .slice B m d ∧ RObjs w B m (oneL os j) ∧ storeB (oneL os j) = true := fun j => by
  unfold oneV oneL
  by_cases e : j = 0
  · rw [if_pos e, if_pos e]; exact ⟨A, n, c, rfl, h, hs⟩
  · rw [if_neg e, if_neg e]; exact ⟨none, 0, 0, rfl, robjs_nil w, storeB_nil⟩
end Go.Proofs.Ytjofgbbofagoiaa
