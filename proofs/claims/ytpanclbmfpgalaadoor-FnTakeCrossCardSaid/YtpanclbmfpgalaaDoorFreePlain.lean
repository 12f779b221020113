/- Plain laws of freed locks and of updates that cross. -/
import Derived.Test.YtpanclbmfpgalaaDoorFree
import Derived.Test.YtpanclbmfpgalaaDoorCross
import Derived.Test.YtpanclbmfpgalaaDoorLockPlain
namespace Go.Proofs.YtpanclbmfpgalaaDoor
open Go.RowKit Go.Sort

theorem ascU_pw : ∀ (us : List Up), ascU us = true → us.Pairwise (fun a b => a.ref < b.ref)
  | [], _ => .nil
  | [x], _ => by simp
  | x :: y :: l, h => by
    unfold ascU at h
    simp only [chainB, Bool.and_eq_true, decide_eq_true_eq] at h
    have ih := ascU_pw (y :: l) h.2
    refine List.Pairwise.cons (fun z hz => ?_) ih
    rcases List.mem_cons.1 hz with rfl | hz
    · exact h.1.2
    · have := (List.pairwise_cons.1 ih).1 z hz
      have := h.1.2
      omega
theorem cnt_set (t : Int) (ht : t ≠ -1) : ∀ (xs : List Int) (i : Nat), xs[i]? = some (-1) → cntT t (xs.set i t) = cntT t xs + 1
  | [], _, h => by cases h
  | x :: xs, 0, h => by
    simp at h; subst h
    unfold cntT
    have : ¬ (-1 = t) := fun h => ht h.symm
    simp [this]
  | x :: xs, i + 1, h => by
    simp at h
    have := cnt_set t ht xs i h
    unfold cntT at this ⊢
    rw [List.set_cons_succ, List.countP_cons, this, List.countP_cons]
    omega
theorem getL_some {xs : List Int} {v : Up} (hl : xs.length = 4) (hv : upOk v = true) : xs[v.ref.toNat]? = some (getL xs v.ref) := by
  have h0 := refB_lt hv
  unfold getL
  rw [List.getD_eq_getElem?_getD, List.getElem?_eq_getElem (by omega)]
  rfl
theorem cnt_lockAll (t : Int) (ht : t ≠ -1) : ∀ (us : List Up) (xs : List Int), xs.length = 4 → us.Pairwise (fun a b => a.ref < b.ref) → (∀ u ∈ us, upOk u = true) → freeB xs us = true → cntT t (lockAll xs t us) = cntT t xs + us.length
  | [], xs, _, _, _, _ => rfl
  | u :: us, xs, hl, hp, hok, hf => by
    have hu := hok u (by simp)
    have hus := fun v (hv : v ∈ us) => hok v (List.mem_cons_of_mem _ hv)
    unfold freeB at hf
    rw [List.all_cons, Bool.and_eq_true, decide_eq_true_eq, List.all_eq_true] at hf
    have hf2 : freeB (xs.set u.ref.toNat t) us = true := by
      unfold freeB
      rw [List.all_eq_true]
      intro v hv
      have h1 := of_decide_eq_true (hf.2 v hv)
      have h2 := (List.pairwise_cons.1 hp).1 v hv
      have h3 := refB_lt (hus v hv)
      have h4 := refB_lt hu
      refine decide_eq_true ?_
      unfold getL at h1 ⊢
      rw [List.getD_eq_getElem?_getD] at h1 ⊢
      rw [List.getElem?_set_ne (by omega)]
      exact h1
    have ih := cnt_lockAll t ht us (xs.set u.ref.toNat t) (by rw [List.length_set]; exact hl) (List.pairwise_cons.1 hp).2 hus hf2
    show cntT t (lockAll (xs.set u.ref.toNat t) t us) = _
    rw [ih, cnt_set t ht xs u.ref.toNat (by rw [getL_some hl hu, hf.1]), List.length_cons]
    omega
theorem updB_pw {us : List Up} (h : updB us = true) : us.Pairwise (fun a b => a.ref < b.ref) := by
  unfold updB at h; rw [Bool.and_eq_true] at h; exact ascU_pw us h.1
/-- locks that were taken by one who had some: he has more than the updates -/
theorem take_more {xs : List Int} {t : Int} {us : List Up} (h : (takeR xs t us).2 = true) (h0 : 0 < ofN xs t) : us.length < ofN (takeR xs t us).1 t := by
  obtain ⟨a1, a2, a3, a4, a5⟩ := takeR_yes h
  rw [a5]
  show _ < ofN (lockAll xs t us) t
  unfold ofN at h0 ⊢
  rw [a1, a2] at h0
  rw [locksB_lockAll a2 a1, a2]
  have := cnt_lockAll t (txnB_ne a2) us xs (locksB_len a1) (updB_pw a3) (updB_ok a3) a4
  simp only [Bool.and_self, if_true] at h0 ⊢
  omega
/-- .. by one who had none: they come free again -/
theorem take_free {xs : List Int} {t : Int} {us : List Up} (h : (takeR xs t us).2 = true) (h0 : ofN xs t = 0) : freeR (takeR xs t us).1 t = (xs, true) := by
  obtain ⟨a1, a2, a3, a4, a5⟩ := takeR_yes h
  rw [a5]
  show freeR (lockAll xs t us) t = _
  have hl := locksB_len a1
  have hoku := updB_ok a3
  unfold ofN at h0
  rw [a1, a2] at h0
  simp only [Bool.and_self, if_true] at h0
  have hno : ∀ x ∈ xs, x ≠ t := fun x hx e => by
    have := List.countP_eq_zero.1 h0 x hx
    simp at this
    exact this e
  have hcn := cnt_lockAll t (txnB_ne a2) us xs hl (updB_pw a3) hoku a4
  have hne := updB_ne a3
  have hhas : hasT t (lockAll xs t us) = true := by
    unfold hasT
    rw [List.any_eq_true]
    unfold cntT at hcn
    have : 0 < (lockAll xs t us).countP (fun x => x == t) := by omega
    obtain ⟨x, hx, hx1⟩ := List.countP_pos_iff.1 this
    exact ⟨x, hx, hx1⟩
  have hmap : (lockAll xs t us).map (relV t) = xs := by
    apply List.ext_getElem?
    intro i
    rw [List.getElem?_map]
    by_cases hi : i < 4
    · rw [lockAll_get t i hi us xs hl hoku]
      obtain ⟨x, hx⟩ : ∃ x, xs[i]? = some x := ⟨_, List.getElem?_eq_getElem (by omega)⟩
      rw [hx]
      cases hany : us.any (fun u => u.ref.toNat == i)
      · simp [relV, hno x (List.mem_of_getElem? hx)]
      · obtain ⟨u, hu, hui⟩ := List.any_eq_true.1 hany
        have hui' : u.ref.toNat = i := by simpa using hui
        have hfu := of_decide_eq_true (List.all_eq_true.1 (show us.all (fun u => decide (getL xs u.ref = -1)) = true from a4) u hu)
        have := getL_some hl (hoku u hu)
        rw [hui', hx, hfu] at this
        injection this with this
        simp [relV, this]
    · rw [List.getElem?_eq_none (by rw [lockAll_len]; omega), List.getElem?_eq_none (by omega)]; rfl
  unfold freeR
  rw [locksB_lockAll a2 a1, a2, hhas, hmap]
  rfl
/-- two lists of updates that can be locked alone: both can be, unless they cross -/
theorem take_cross {xs : List Int} {t t2 : Int} {us vs : List Up} (h : (takeR xs t us).2 = true) (h2 : (takeR xs t2 vs).2 = true) :
    (takeR (takeR xs t us).1 t2 vs).2 = !(updB us && updB vs && crossR us vs) := by
  obtain ⟨a1, a2, a3, a4, a5⟩ := takeR_yes h
  obtain ⟨b1, b2, b3, b4, b5⟩ := takeR_yes h2
  rw [a5]
  show (takeR (lockAll xs t us) t2 vs).2 = _
  rw [takeR_ok (locksB_lockAll a2 a1) b2 b3, freeB_lockAll (locksB_len a1) (txnB_ne a2) (updB_ok a3) (updB_ok b3), b4, a3, b3]
  have hc : (vs.any fun v => us.any fun u => u.ref == v.ref) = crossR us vs := by
    unfold crossR hasRef
    rw [Bool.eq_iff_iff, List.any_eq_true, List.any_eq_true]
    constructor
    · rintro ⟨v, hv, h⟩
      obtain ⟨u, hu, h⟩ := List.any_eq_true.1 h
      exact ⟨u, hu, List.any_eq_true.2 ⟨v, hv, h⟩⟩
    · rintro ⟨v, hv, h⟩
      obtain ⟨u, hu, h⟩ := List.any_eq_true.1 h
      exact ⟨u, hu, List.any_eq_true.2 ⟨v, hv, h⟩⟩
  rw [hc]
  cases crossR us vs <;> rfl
end Go.Proofs.YtpanclbmfpgalaaDoor
