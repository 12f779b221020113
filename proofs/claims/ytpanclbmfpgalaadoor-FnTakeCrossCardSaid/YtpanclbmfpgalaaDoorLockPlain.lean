/- Plain laws of locks. -/
import Derived.Test.YtpanclbmfpgalaaDoorTakeS
import Derived.Test.YtpanclbmfpgalaaDoorChain
import Derived.Test.YtpanclbmfpgalaaDoorLaw
namespace Go.Proofs.YtpanclbmfpgalaaDoor
open Go.RowKit Go.Sort

theorem refB_lt {u : Up} (h : upOk u = true) : 0 ≤ u.ref ∧ u.ref.toNat < 4 := by
  have := (upOk_parts h).1
  unfold refB at this
  simp only [Bool.and_eq_true, decide_eq_true_eq] at this
  omega
/-- what lies in a lock behind lockAll -/
theorem lockAll_get (t : Int) (r : Nat) (hr : r < 4) : ∀ (us : List Up) (xs : List Int), xs.length = 4 → (∀ u ∈ us, upOk u = true) →
    (lockAll xs t us)[r]? = if us.any (fun u => u.ref.toNat == r) then some t else xs[r]?
  | [], xs, _, _ => by simp [lockAll]
  | u :: us, xs, hl, hok => by
    have ih := lockAll_get t r hr us (xs.set u.ref.toNat t) (by rw [List.length_set]; exact hl) (fun v hv => hok v (List.mem_cons_of_mem _ hv))
    have h0 := refB_lt (hok u (by simp))
    show (lockAll (xs.set u.ref.toNat t) t us)[r]? = _
    rw [ih, List.any_cons]
    by_cases hu : u.ref.toNat = r
    · subst hu
      simp only [beq_self_eq_true, Bool.true_or, if_true]
      split
      · rfl
      · rw [List.getElem?_set_self (by omega)]
    · have hf : (u.ref.toNat == r) = false := by simpa using hu
      rw [hf, Bool.false_or, List.getElem?_set_ne hu]
theorem getL_lockAll {t : Int} {us : List Up} {xs : List Int} (hl : xs.length = 4) (hok : ∀ u ∈ us, upOk u = true) (v : Up) (hv : upOk v = true) :
    getL (lockAll xs t us) v.ref = if us.any (fun u => u.ref == v.ref) then t else getL xs v.ref := by
  have h0 := refB_lt hv
  unfold getL
  rw [List.getD_eq_getElem?_getD, lockAll_get t _ h0.2 us xs hl hok, List.getD_eq_getElem?_getD]
  have he : us.any (fun u => u.ref.toNat == v.ref.toNat) = us.any (fun u => u.ref == v.ref) := by
    rw [Bool.eq_iff_iff, List.any_eq_true, List.any_eq_true]
    constructor
    · rintro ⟨u, hu, h⟩
      have := refB_lt (hok u hu)
      exact ⟨u, hu, by simp at h ⊢; omega⟩
    · rintro ⟨u, hu, h⟩
      exact ⟨u, hu, by simp at h ⊢; omega⟩
  rw [he]
  split <;> rfl
theorem updB_ne {us : List Up} (h : updB us = true) : 0 < us.length := by
  unfold updB at h; rw [Bool.and_eq_true, decide_eq_true_eq] at h; exact h.2
theorem takeR_yes {xs : List Int} {t : Int} {us : List Up} (h : (takeR xs t us).2 = true) : locksB xs = true ∧ txnB t = true ∧ updB us = true ∧ freeB xs us = true ∧ takeR xs t us = (lockAll xs t us, true) := by
  unfold takeR at h ⊢
  by_cases h1 : (locksB xs && txnB t && updB us) = true
  · rw [if_pos h1] at h ⊢
    have h1' := h1
    simp only [Bool.and_eq_true] at h1'
    by_cases h2 : freeB xs us = true
    · rw [if_pos h2]; exact ⟨h1'.1.1, h1'.1.2, h1'.2, h2, rfl⟩
    · rw [if_neg h2] at h; cases h
  · rw [if_neg h1] at h; cases h
theorem locksB_lockAll {xs : List Int} {t : Int} (ht : txnB t = true) : ∀ {us : List Up}, (h : locksB xs = true) → locksB (lockAll xs t us) = true := by
  intro us
  induction us generalizing xs with
  | nil => exact id
  | cons u us ih =>
    intro h
    refine ih (xs := xs.set u.ref.toNat t) ?_
    unfold locksB at h ⊢
    rw [Bool.and_eq_true, List.all_eq_true, decide_eq_true_eq] at h ⊢
    refine ⟨fun x hx => ?_, by rw [List.length_set]; exact h.2⟩
    rcases List.mem_or_eq_of_mem_set hx with h1 | rfl
    · exact h.1 x h1
    · unfold txnB at ht; unfold lockB
      simp only [Bool.and_eq_true, decide_eq_true_eq] at ht ⊢
      omega
theorem txnB_ne {t : Int} (h : txnB t = true) : t ≠ -1 := by
  unfold txnB at h; simp only [Bool.and_eq_true, decide_eq_true_eq] at h; omega
/-- what is free beside a list of updates that has been locked -/
theorem freeB_lockAll {xs : List Int} {t : Int} {us vs : List Up} (hl : xs.length = 4) (ht : t ≠ -1) (hu : ∀ u ∈ us, upOk u = true) (hv : ∀ v ∈ vs, upOk v = true) :
    freeB (lockAll xs t us) vs = (freeB xs vs && !vs.any fun v => us.any fun u => u.ref == v.ref) := by
  rw [Bool.eq_iff_iff]
  unfold freeB
  rw [Bool.and_eq_true, Bool.not_eq_true', List.all_eq_true, List.all_eq_true, List.any_eq_false]
  constructor
  · intro h
    have hh : ∀ v ∈ vs, us.any (fun u => u.ref == v.ref) = false := fun v hm => by
      have := of_decide_eq_true (h v hm)
      rw [getL_lockAll hl hu v (hv v hm)] at this
      cases h1 : us.any (fun u => u.ref == v.ref)
      · rfl
      · rw [h1] at this; exact absurd this ht
    refine ⟨fun v hm => ?_, fun v hm => by rw [hh v hm]; simp⟩
    have := h v hm
    rw [getL_lockAll hl hu v (hv v hm), hh v hm] at this
    exact this
  · rintro ⟨h1, h2⟩ v hm
    rw [getL_lockAll hl hu v (hv v hm)]
    have := h2 v hm
    simp only [Bool.not_eq_true] at this
    rw [this]
    exact h1 v hm
theorem take_again {xs : List Int} {t t2 : Int} {us : List Up} (h : (takeR xs t us).2 = true) (h2 : txnB t2 = true) : takeR (takeR xs t us).1 t2 us = ((takeR xs t us).1, false) := by
  obtain ⟨a1, a2, a3, a4, a5⟩ := takeR_yes h
  rw [a5]
  show takeR (lockAll xs t us) t2 us = _
  rw [takeR_ok (locksB_lockAll a2 a1) h2 a3]
  have hn : freeB (lockAll xs t us) us = false := by
    rw [freeB_lockAll (locksB_len a1) (txnB_ne a2) (updB_ok a3) (updB_ok a3)]
    obtain ⟨u, us, rfl⟩ : ∃ u vs, us = u :: vs := by
      cases us with
      | nil => have := updB_ne a3; simp at this
      | cons u vs => exact ⟨u, vs, rfl⟩
    simp
  rw [hn]
  rfl
theorem takeR_len4 {xs : List Int} {t : Int} {us : List Up} : (takeR xs t us).1.length ≤ 4 := by
  unfold takeR
  by_cases h1 : (locksB xs && txnB t && updB us) = true
  · rw [if_pos h1]
    have h1' := h1
    simp only [Bool.and_eq_true] at h1'
    have := locksB_len h1'.1.1
    split
    · rw [lockAll_len]; omega
    · show xs.length ≤ 4; omega
  · rw [if_neg h1]; simp

theorem eqI_refl (xs : List Int) : eqI xs xs = true := by simp [eqI]
end Go.Proofs.YtpanclbmfpgalaaDoor
