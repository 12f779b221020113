/- Walks: whether an object is valid (the program's and the reference's). -/
import Derived.Test.YtkekcgamhhmjnaaIds
namespace Go.Proofs.Ytkekcgamhhmjnaa
open Go.RowKit

/-- what 'valid' says, of kind, links and text -/
def objOkB (k : Int) (xs : List Int) (t : ByteArray) : Bool :=
  idsOkB xs && !decide (8 < (t.size : Int)) && (if k == 1 then ((xs.length : Int) == 0) else if k == 2 then t.toList.isEmpty else if k == 3 then decide (0 < xs.length) else false)

set_option maxHeartbeats 800000 in
theorem ok_any (k : Int) (A : Option Addr) (n c : Nat) (xs : List Int) (t : ByteArray) (w : World) (h : RInts w A n xs) (hn : n ≤ maxLen) :
    Calls Try.prog 30 #[.agg #[.int .i64 k, .slice A n c, .string t]] w fun e w' => e = .returned (.bool (objOkB k xs t)) ∧ Below w.heap.size w w' := by
  have HL := Lib.hid h.1
  have h1 := fun (o : Obj) => h.below (below_box w o) (Nat.le_refl _)
  cases hb : idsOkB xs
  · go_enter Try.func30, Try.ntmps30
    go_wp2_with (go_at_call 53; refine (idsOk_any _ _ _ xs _ (h1 _) hn).mono ?_; rintro e w' ⟨rfl, rfl⟩)
    go_ret
    exact ⟨by simp [objOkB, hb], below_box _ _⟩
  · go_enter Try.func30, Try.ntmps30
    go_wp2_with (go_at_call 53; refine (idsOk_any _ _ _ xs _ (h1 _) hn).mono ?_; rintro e w' ⟨rfl, rfl⟩)
    all_goals (go_ret; refine ⟨ret_bool ?_, below_box _ _⟩; simp only [objOkB, hb, HL.out]; simp [*])

set_option maxHeartbeats 400000 in
theorem implValid_any (k : Int) (A : Option Addr) (n c : Nat) (xs : List Int) (t : ByteArray) (w : World) (h : RInts w A n xs) (hn : n ≤ maxLen) :
    Calls Try.prog 17 #[.agg #[.int .i64 k, .slice A n c, .string t]] w fun e w' => e = .returned (.bool (objOkB k xs t)) ∧ Below w.heap.size w w' := by
  have h1 := fun (o : Obj) => h.below (below_box w o) (Nat.le_refl _)
  go_enter Try.func17, Try.ntmps17
  go_wp2_with (go_at_call 30; refine (ok_any _ _ _ _ xs _ _ (h1 _) hn).mono ?_; rintro e w' ⟨rfl, hb⟩)
  go_ret
  exact ⟨rfl, below_ext (below_box _ _) hb⟩

set_option maxHeartbeats 800000 in
theorem specValid_any (k : Int) (A : Option Addr) (n c : Nat) (xs : List Int) (t : ByteArray) (w : World) (h : RInts w A n xs) (hn : n ≤ maxLen) :
    Calls Try.prog 33 #[.agg #[.int .i64 k, .slice A n c, .string t]] w fun e w' => e = .returned (.bool (objOkB k xs t)) ∧ Below w.heap.size w w' := by
  have HL := Lib.hid h.1
  have h1 := fun (o : Obj) => h.below (below_box w o) (Nat.le_refl _)
  cases ha : ascB xs
  · have hi : idsOkB xs = false := by simp [idsOkB, ha]
    go_enter Try.func33, Try.ntmps33
    go_wp2_with (go_at_call 54; refine (l1Ids_any _ _ _ xs _ (h1 _) hn).mono ?_; rintro e w' ⟨rfl, hb⟩)
    go_ret
    exact ⟨ret_bool (by simp [objOkB, hi]), below_ext (below_box _ _) hb⟩
  · by_cases h4 : (n : Int) ≤ 4
    · have hi : idsOkB xs = true := by simp [idsOkB, ha, HL.out]; omega
      go_enter Try.func33, Try.ntmps33
      go_wp2_with (go_at_call 54; refine (l1Ids_any _ _ _ xs _ (h1 _) hn).mono ?_; rintro e w' ⟨rfl, hb⟩; have c0 := box_cell hb 0 _ rfl; have c1 := box_cell hb 1 _ rfl; have c2 := box_cell hb 2 _ rfl)
      all_goals (go_ret; refine ⟨ret_bool ?_, below_ext (below_box _ _) hb⟩; simp only [objOkB, hi, HL.out]; first | (simp [*]; done) | (simp [*]; intro _; omega))
    · have hi : idsOkB xs = false := by simp [idsOkB, HL.out]; omega
      go_enter Try.func33, Try.ntmps33
      go_wp2_with (go_at_call 54; refine (l1Ids_any _ _ _ xs _ (h1 _) hn).mono ?_; rintro e w' ⟨rfl, hb⟩; have c0 := box_cell hb 0 _ rfl; have c1 := box_cell hb 1 _ rfl; have c2 := box_cell hb 2 _ rfl)
      all_goals (go_ret; refine ⟨ret_bool ?_, below_ext (below_box _ _) hb⟩; simp [objOkB, hi])
end Go.Proofs.Ytkekcgamhhmjnaa
