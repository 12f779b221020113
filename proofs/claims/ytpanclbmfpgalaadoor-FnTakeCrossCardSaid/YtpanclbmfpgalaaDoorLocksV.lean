/- Walks: transactions, locks: LocksValid, the program's and the reference's. -/
import Derived.Test.YtpanclbmfpgalaaDoorIds
import Derived.Test.YtpanclbmfpgalaaDoorMem
import Derived.Test.YtpanclbmfpgalaaDoorApp
namespace Go.Proofs.YtpanclbmfpgalaaDoor
open Go.RowKit Go.Sort

def txnB (n : Int) : Bool := decide (0 ≤ n) && decide (n ≤ 11)
def lockB (n : Int) : Bool := decide (-1 ≤ n) && decide (n ≤ 11)
def locksB (xs : List Int) : Bool := xs.all lockB && decide (xs.length = 4)
theorem lockB_txn (n : Int) : (decide (n ≠ -1) && !txnB n) = !lockB n := by
  unfold txnB lockB
  rw [Bool.eq_iff_iff]
  simp only [Bool.and_eq_true, decide_eq_true_eq, Bool.not_eq_true', Bool.and_eq_false_iff, decide_eq_false_iff_not]
  omega

set_option maxHeartbeats 400000 in
theorem isTxn_any (n : Int) (w : World) : Calls Tryd.prog 18 #[.int .i64 n] w fun e w' => e = .returned (.bool (txnB n)) ∧ w = w' := by
  go_enter Tryd.func18, Tryd.ntmps18
  go_wp2_with (go_at_call 35; refine (inRange_any _ _ _ _).mono ?_; rintro e w' ⟨rfl, rfl⟩)
  go_ret
  exact ⟨rfl, rfl⟩
set_option maxHeartbeats 400000 in
theorem l12Txn_any (n : Int) (w : World) : Calls Tryd.prog 24 #[.int .i64 n] w fun e w' => e = .returned (.bool (txnB n)) ∧ w = w' := by
  go_enter Tryd.func24, Tryd.ntmps24
  go_wp2_with (go_at_call 39; refine (l6In_any _ _ _ _).mono ?_; rintro e w' ⟨rfl, rfl⟩)
  go_ret
  exact ⟨rfl, rfl⟩

set_option maxHeartbeats 800000 in
theorem badLock_any (n : Int) (w : World) : Calls Tryd.prog 34 #[.int .i64 n] w fun e w' => e = .returned (.bool (!lockB n)) ∧ w = w' := by
  cases h1 : (n != -1)
  · have hn : n = -1 := by simpa using h1
    subst hn
    go_enter Tryd.func34, Tryd.ntmps34
    go_wp2
    go_ret
    exact ⟨rfl, rfl⟩
  · have hb : (!lockB n) = !txnB n := by
      rw [← lockB_txn]
      have : decide (n ≠ -1) = true := by simp at h1; simp [h1]
      rw [this, Bool.true_and]
    rw [hb]
    go_enter Tryd.func34, Tryd.ntmps34
    go_wp2_with (go_at_call 18; refine (isTxn_any _ _).mono ?_; rintro e w' ⟨rfl, rfl⟩)
    go_ret
    exact ⟨rfl, rfl⟩

set_option maxHeartbeats 800000 in
theorem badIndex_any (A : Option Addr) (n c : Nat) (xs : List Int) (w : World) (h : RInts w A n xs) (hn : n ≤ maxLen) :
    Calls Tryd.prog 42 #[.slice A n c, .func (.func 34) #[] #[]] w fun e w' => (∃ z : Int, e = .returned (.int .i64 z) ∧ decide (z ≥ 0) = !xs.all lockB) ∧ w = w' := by
  unfold maxLen at hn
  go_enter Tryd.func42, Tryd.ntmps42
  go_wp2
  go_loop [8] (fun i => ∃ k : Nat, k ≤ n ∧ i = .int .i64 k ∧ Hid ((xs.take k).all lockB = true)) (fun i => n - (intOf i).toNat)
  case atStart => exact ⟨0, Nat.zero_le _, rfl, (show (xs.take 0).all lockB = true by simp)⟩
  case round =>
    obtain ⟨k, hk, rfl, hall⟩ := hrel
    by_cases hlt : k < n
    · obtain ⟨ad, x, rfl, hb, hx, hc⟩ := h.at_ hlt
      have hkl : k < xs.length := by have := h.1; omega
      have hxe : xs[k] = x := (List.getElem?_eq_some_iff.1 hx).2
      cases hx1 : lockB x
      · go_wp2_with (refine (badLock_any _ _).mono ?_; rintro e w' ⟨rfl, rfl⟩)
        go_ret
        refine ⟨⟨k, rfl, ?_⟩, rfl⟩
        have h1 : xs.all lockB = false := by
          cases hh : xs.all lockB
          · rfl
          · have := List.all_eq_true.1 hh x (List.mem_of_getElem? hx)
            rw [hx1] at this; cases this
        rw [h1]
        exact decide_eq_true (by omega)
      · go_wp2_with (refine (badLock_any _ _).mono ?_; rintro e w' ⟨rfl, rfl⟩)
        go_round
        case rel => exact ⟨k + 1, by omega, by go_num, (show (xs.take (k + 1)).all lockB = true by
          rw [List.take_succ_eq_append_getElem hkl, List.all_append, hall.out, hxe]; simp [hx1])⟩
        case measure => simp [intOf]; omega
    · obtain rfl : k = n := by omega
      rw [List.take_of_length_le (by have := h.1; omega)] at hall
      go_wp2
      go_ret
      exact ⟨⟨-1, rfl, by rw [hall.out]; rfl⟩, rfl⟩

set_option maxHeartbeats 800000 in
theorem implLocksValid_any (A : Option Addr) (n c : Nat) (xs : List Int) (w : World) (h : RInts w A n xs) (hn : n ≤ maxLen) :
    Calls Tryd.prog 17 #[.slice A n c] w fun e w' => e = .returned (.bool (locksB xs)) ∧ w = w' := by
  have hl := h.1
  cases h4 : ((n : Int) == 4)
  · have hr : locksB xs = false := by unfold locksB; rw [hl]; have : decide (n = 4) = false := by simp at h4; simp; omega
                                      rw [this]; simp
    rw [hr]
    go_enter Tryd.func17, Tryd.ntmps17
    go_wp2
    go_ret
    exact ⟨rfl, rfl⟩
  · have hr : locksB xs = xs.all lockB := by unfold locksB; rw [hl]; have : decide (n = 4) = true := by simp at h4; simp; omega
                                             rw [this]; simp
    rw [hr]
    have hcf : Calls Tryd.prog 33 #[.slice A n c, .func (.func 34) #[] #[]] w fun e w' => e = .returned (.bool (!xs.all lockB)) ∧ w = w' := by
      go_enter Tryd.func33, Tryd.ntmps33
      go_wp2_with fail
      refine (badIndex_any A n c xs w h hn).mono ?_
      rintro e w' ⟨⟨z, rfl, hz⟩, rfl⟩
      go_wp2_with fail
      go_ret
      exact ⟨ret_bool (by rw [← hz]), rfl⟩
    go_enter Tryd.func17, Tryd.ntmps17
    go_wp2_with (go_at_call 33; refine hcf.mono ?_; rintro e w' ⟨rfl, rfl⟩)
    go_ret
    exact ⟨ret_bool (by simp), rfl⟩

set_option maxHeartbeats 800000 in
theorem specLocksValid_any (A : Option Addr) (n c : Nat) (xs : List Int) (w : World) (h : RInts w A n xs) (hn : n ≤ maxLen) :
    Calls Tryd.prog 23 #[.slice A n c] w fun e w' => e = .returned (.bool (locksB xs)) ∧ w = w' := by
  unfold maxLen at hn
  have hl := h.1
  go_enter Tryd.func23, Tryd.ntmps23
  go_wp2
  go_loop [3] (fun i => ∃ k : Nat, k ≤ n ∧ i = .int .i64 k ∧ Hid ((xs.take k).all lockB = true)) (fun i => n - (intOf i).toNat)
  case atStart => exact ⟨0, Nat.zero_le _, rfl, (show (xs.take 0).all lockB = true by simp)⟩
  case round =>
    obtain ⟨k, hk, rfl, hall⟩ := hrel
    by_cases hlt : k < n
    · obtain ⟨ad, x, rfl, hb, hx, hc⟩ := h.at_ hlt
      have hkl : k < xs.length := by omega
      have hxe : xs[k] = x := (List.getElem?_eq_some_iff.1 hx).2
      have hin : ∀ W, Calls Tryd.prog 39 #[.int .i64 x, .int .i64 (-1), .int .i64 11] W fun e w' => e = .returned (.bool (lockB x)) ∧ W = w' := fun W => l6In_any x (-1) 11 W
      cases hx1 : lockB x
      · go_wp2_with (go_at_call 39; refine (hin _).mono ?_; rintro e w' ⟨rfl, rfl⟩)
        go_ret
        have h1 : xs.all lockB = false := by
          cases hh : xs.all lockB
          · rfl
          · have := List.all_eq_true.1 hh x (List.mem_of_getElem? hx)
            rw [hx1] at this; cases this
        exact ⟨ret_bool (by unfold locksB; rw [h1]; rfl), rfl⟩
      · go_wp2_with (go_at_call 39; refine (hin _).mono ?_; rintro e w' ⟨rfl, rfl⟩)
        go_round
        case rel => exact ⟨k + 1, by omega, by go_num, (show (xs.take (k + 1)).all lockB = true by
          rw [List.take_succ_eq_append_getElem hkl, List.all_append, hall.out, hxe]; simp [hx1])⟩
        case measure => simp [intOf]; omega
    · obtain rfl : k = n := by omega
      rw [List.take_of_length_le (by omega)] at hall
      go_wp2
      go_ret
      exact ⟨ret_bool (by unfold locksB; rw [hall.out, Bool.true_and, Bool.eq_iff_iff, beq_iff_eq, decide_eq_true_eq]; omega), rfl⟩
end Go.Proofs.YtpanclbmfpgalaaDoor
