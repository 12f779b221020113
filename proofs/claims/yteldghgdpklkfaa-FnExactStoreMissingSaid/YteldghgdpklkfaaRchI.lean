/- Walks: the program's StoreReach and StoreMissing. -/
import Derived.Test.YteldghgdpklkfaaRchT
import Derived.Test.YteldghgdpklkfaaById
namespace Go.Proofs.Yteldghgdpklkfaa
open Go.RowKit Go.Sort Go.Maps

theorem OMap.below {w w' : World} {D : DataW Value} {os : List Ob} (h : OMap w D os) (hb : Below w.heap.size w w') : OMap w' D os := fun x hx => by
  have h0 := h x hx
  cases hg : getO os x with
  | none => rw [hg] at h0; exact h0
  | some o =>
    rw [hg] at h0
    obtain ⟨h1, B, m, d, h2, h3, h4⟩ := h0
    exact ⟨h1, B, m, d, h2, h3.below hb (Nat.le_refl _), h4⟩
/-- one list, then none -/
def oneV (v : Value) (j : Nat) : Value := if j = 0 then v else .slice none 0 0
def oneL (os : List Ob) (j : Nat) : List Ob := if j = 0 then os else []
theorem oneL_flat (os : List Ob) : ((List.range 1).map (oneL os)).flatten = os := by simp [oneL]
theorem robjs_nil (w : World) : RObjs w none 0 [] := ⟨rfl, fun h => absurd h (by omega)⟩
theorem storeB_nil : storeB [] = true := by rfl
theorem oneV_all {w : World} {A : Option Addr} {n c : Nat} {os : List Ob} (h : RObjs w A n os) (hs : storeB os = true) : ∀ j, ∃ B m d, oneV (.slice A n c) j = .slice B m d ∧ RObjs w B m (oneL os j) ∧ storeB (oneL os j) = true := fun j => by
  unfold oneV oneL
  by_cases e : j = 0
  · rw [if_pos e, if_pos e]; exact ⟨A, n, c, rfl, h, hs⟩
  · rw [if_neg e, if_neg e]; exact ⟨none, 0, 0, rfl, robjs_nil w, storeB_nil⟩
set_option maxRecDepth 100000 in
set_option maxHeartbeats 3200000 in
theorem implStoreReach_any (A : Option Addr) (n c : Nat) (os : List Ob) (F : Option Addr) (m d : Nat) (fs : List Int) (w : World) (h : RObjs w A n os) (hn : n ≤ maxLen) (hf : RInts w F m fs) (hm : m ≤ maxLen) :
    Calls Try.prog 16 #[.slice A n c, .slice F m d] w (RchTo w os fs true) := by
  have HL := Lib.hid (And.intro h.1 hf.1)
  go_enter Try.func16, Try.ntmps16
  go_wp2_with fail
  refine (implStoreValid_any A n c os w h hn).mono ?_
  rintro e w1 ⟨rfl, hb1⟩
  have hf1 := hf.below hb1 (Nat.le_refl _)
  cases hs : storeB os
  · go_wp2_with fail
    go_ret
    exact ⟨none, 0, [], rfl, by unfold IsRch; rw [hs, if_neg (by simp)], ⟨by simp [ints], .inl ⟨rfl, rfl⟩⟩, hb1⟩
  · go_wp2_with fail
    refine (idsOk_any F m d fs w1 hf1 hm).mono ?_
    rintro e w2 ⟨rfl, rfl⟩
    cases hi : idsOkB fs
    · go_wp2_with fail
      go_ret
      exact ⟨none, 0, [], rfl, by unfold IsRch; rw [hi, if_neg (by simp)], ⟨by simp [ints], .inl ⟨rfl, rfl⟩⟩, hb1⟩
    · obtain ⟨ha, hlen⟩ := storeB_all hs
      obtain ⟨hfn, hfr, hf4, -⟩ := idsOk_facts hi
      have hn16 : n ≤ 16 := by have := HL.out.1; omega
      have hm4 : m ≤ 4 := by have := HL.out.2; omega
      have bx := below_box w1 (.cells #[.slice A n c] 23)
      have xx := Blk.new w1 23 [.slice A n c]
      have hO2 := (h.next hb1).next bx
      have hcc : ∀ j, j < 1 → (w1.alloc (.cells #[.slice A n c] 23)).cell? ⟨w1.heap.size, j, none⟩ = some (oneV (.slice A n c) j) := fun j hj => by
        obtain rfl : j = 0 := by omega
        exact xx.cell 0
      have hlt := xx.lt
      have hfx := hf1.below bx (Nat.le_refl _)
      go_wp2_with fail
      refine (byId_any w1.heap.size 1 1 (oneV (.slice A n c)) (oneL os) _ (by omega) hlt hcc (oneV_all hO2 hs)).mono ?_
      rintro e w3 ⟨rfl, D, nn, hM3, hOM, hb3⟩
      rw [oneL_flat] at hOM
      have bb3 := below_ext (below_ext hb1 bx) hb3
      rw [show (w1.alloc (.cells #[.slice A n c] 23)).heap.size = w1.heap.size + 1 by simp] at hM3 ⊢
      have hfy := hfx.below hb3 (Nat.le_refl _)
      go_wp2_with fail
      refine (reach_any (w1.heap.size + 1) nn D os F m d fs w3 hM3 (hOM.below hb3) ha hfy hm4 hfr).mono ?_
      rintro e w4 ⟨AS, cs, AM, cm, LS, LM, rfl, hAS, hAM, hrs, hrm, hb4⟩
      go_wp2_with fail
      go_ret
      exact ⟨AS, cs, LS, rfl, by unfold IsRch; rw [hs, hi, if_pos (by simp)]; exact hAS, own_base hrs bb3.size, below_ext bb3 hb4⟩
set_option maxRecDepth 100000 in
set_option maxHeartbeats 3200000 in
theorem implStoreMissing_any (A : Option Addr) (n c : Nat) (os : List Ob) (F : Option Addr) (m d : Nat) (fs : List Int) (w : World) (h : RObjs w A n os) (hn : n ≤ maxLen) (hf : RInts w F m fs) (hm : m ≤ maxLen) :
    Calls Try.prog 27 #[.slice A n c, .slice F m d] w (RchTo w os fs false) := by
  have HL := Lib.hid (And.intro h.1 hf.1)
  go_enter Try.func27, Try.ntmps27
  go_wp2_with fail
  refine (implStoreValid_any A n c os w h hn).mono ?_
  rintro e w1 ⟨rfl, hb1⟩
  have hf1 := hf.below hb1 (Nat.le_refl _)
  cases hs : storeB os
  · go_wp2_with fail
    go_ret
    exact ⟨none, 0, [], rfl, by unfold IsRch; rw [hs, if_neg (by simp)], ⟨by simp [ints], .inl ⟨rfl, rfl⟩⟩, hb1⟩
  · go_wp2_with fail
    refine (idsOk_any F m d fs w1 hf1 hm).mono ?_
    rintro e w2 ⟨rfl, rfl⟩
    cases hi : idsOkB fs
    · go_wp2_with fail
      go_ret
      exact ⟨none, 0, [], rfl, by unfold IsRch; rw [hi, if_neg (by simp)], ⟨by simp [ints], .inl ⟨rfl, rfl⟩⟩, hb1⟩
    · obtain ⟨ha, hlen⟩ := storeB_all hs
      obtain ⟨hfn, hfr, hf4, -⟩ := idsOk_facts hi
      have hn16 : n ≤ 16 := by have := HL.out.1; omega
      have hm4 : m ≤ 4 := by have := HL.out.2; omega
      have bx := below_box w1 (.cells #[.slice A n c] 23)
      have xx := Blk.new w1 23 [.slice A n c]
      have hO2 := (h.next hb1).next bx
      have hcc : ∀ j, j < 1 → (w1.alloc (.cells #[.slice A n c] 23)).cell? ⟨w1.heap.size, j, none⟩ = some (oneV (.slice A n c) j) := fun j hj => by
        obtain rfl : j = 0 := by omega
        exact xx.cell 0
      have hlt := xx.lt
      have hfx := hf1.below bx (Nat.le_refl _)
      go_wp2_with fail
      refine (byId_any w1.heap.size 1 1 (oneV (.slice A n c)) (oneL os) _ (by omega) hlt hcc (oneV_all hO2 hs)).mono ?_
      rintro e w3 ⟨rfl, D, nn, hM3, hOM, hb3⟩
      rw [oneL_flat] at hOM
      have bb3 := below_ext (below_ext hb1 bx) hb3
      rw [show (w1.alloc (.cells #[.slice A n c] 23)).heap.size = w1.heap.size + 1 by simp] at hM3 ⊢
      have hfy := hfx.below hb3 (Nat.le_refl _)
      go_wp2_with fail
      refine (reach_any (w1.heap.size + 1) nn D os F m d fs w3 hM3 (hOM.below hb3) ha hfy hm4 hfr).mono ?_
      rintro e w4 ⟨AS, cs, AM, cm, LS, LM, rfl, hAS, hAM, hrs, hrm, hb4⟩
      go_wp2_with fail
      go_ret
      exact ⟨AM, cm, LM, rfl, by unfold IsRch; rw [hs, hi, if_pos (by simp)]; exact hAM, own_base hrm bb3.size, below_ext bb3 hb4⟩
end Go.Proofs.Yteldghgdpklkfaa
