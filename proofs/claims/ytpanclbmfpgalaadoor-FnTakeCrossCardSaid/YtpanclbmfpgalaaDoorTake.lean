/- Walks: LocksTake, the program's and the reference's. -/
import Derived.Test.YtpanclbmfpgalaaDoorLock
import Derived.Test.YtpanclbmfpgalaaDoorCloneI
import Derived.Test.YtpanclbmfpgalaaDoorErrIs
import Derived.Deep.RegionHeld3
namespace Go.Proofs.YtpanclbmfpgalaaDoor
open Go.RowKit Go.Sort

theorem own_baseL {w : World} {base base' : Nat} {e : TypeId} {size n : Nat} {v : Value} {xs : List Value} (h : w.ownsRow base e size v n xs) (hb : base' ≤ base) : w.ownsRow base' e size v n xs := by
  refine ⟨h.1, ?_⟩
  rcases h.2 with h0 | ⟨g, cap, cur, hv, hg, r⟩
  · exact Or.inl h0
  · exact Or.inr ⟨g, cap, cur, hv, Nat.le_trans hb hg, r⟩
def takeR (xs : List Int) (t : Int) (us : List Up) : List Int × Bool := if locksB xs && txnB t && updB us then (if freeB xs us then (lockAll xs t us, true) else (xs, false)) else ([], false)
def TakeTo (w : World) (xs : List Int) (t : Int) (us : List Up) (e : Ending) (w' : World) : Prop := ∃ B d, e = .returned (.tuple #[.slice B (takeR xs t us).1.length d, .bool (takeR xs t us).2]) ∧
  w'.ownsRow w.heap.size 3 1 (.slice B (takeR xs t us).1.length d) (takeR xs t us).1.length (ints (takeR xs t us).1) ∧ Below w.heap.size w w'
theorem takeR_bad {xs : List Int} {t : Int} {us : List Up} (h : (locksB xs && txnB t && updB us) = false) : takeR xs t us = ([], false) := by unfold takeR; rw [h]; rfl
theorem takeR_ok {xs : List Int} {t : Int} {us : List Up} (h1 : locksB xs = true) (h2 : txnB t = true) (h3 : updB us = true) : takeR xs t us = if freeB xs us then (lockAll xs t us, true) else (xs, false) := by unfold takeR; rw [h1, h2, h3]; rfl
theorem updB_ok {us : List Up} (h : updB us = true) : ∀ u ∈ us, upOk u = true := by
  unfold updB at h; rw [Bool.and_eq_true] at h
  exact chainB_mem _ _ h.1
theorem locksB_len {xs : List Int} (h : locksB xs = true) : xs.length = 4 := by
  unfold locksB at h; rw [Bool.and_eq_true, decide_eq_true_eq] at h; exact h.2

set_option maxRecDepth 100000 in
set_option maxHeartbeats 1600000 in
theorem implLocksTake_any (A : Option Addr) (n c : Nat) (xs : List Int) (t : Int) (A2 : Option Addr) (n2 c2 : Nat) (us : List Up) (a : Addr) (w : World) (h : RInts w A n xs) (hn : n ≤ maxLen) (hu : RUps w A2 n2 us) (hn2 : n2 ≤ maxLen)
    (hE : w.cell? ⟨0, 0, none⟩ = some (.iface 76 (.pointer (some a)))) :
    Calls Tryd.prog 7 #[.slice A n c, .int .i64 t, .slice A2 n2 c2] w (TakeTo w xs t us) := by
  have hl := h.1
  have nilcase : takeR xs t us = ([], false) → TakeTo w xs t us (.returned (.tuple #[.slice none 0 0, .bool false])) w := fun e => by
    unfold TakeTo; rw [e]; exact ⟨none, 0, rfl, own_nil, Below.refl _ _⟩
  go_enter Tryd.func7, Tryd.ntmps7
  go_wp2_with fail
  refine (implLocksValid_any A n c xs w h hn).mono ?_
  rintro e w1 ⟨rfl, rfl⟩
  cases h1 : locksB xs
  · have HN := Lib.hid (nilcase (takeR_bad (by rw [h1]; rfl)))
    clear nilcase
    go_wp2_with fail
    refine bodyPost_ret (v := .tuple #[.slice none 0 0, .bool false]) (by simp [results, Tryd.results7, go_sem]) rfl HN.out
  · have hl4 := locksB_len h1
    go_wp2_with fail
    refine (isTxn_any t w).mono ?_
    rintro e w1 ⟨rfl, rfl⟩
    cases h2 : txnB t
    · have HN := Lib.hid (nilcase (takeR_bad (by rw [h2]; simp)))
      clear nilcase
      go_wp2_with fail
      refine bodyPost_ret (v := .tuple #[.slice none 0 0, .bool false]) (by simp [results, Tryd.results7, go_sem]) rfl HN.out
    · go_wp2_with fail
      refine (implUpdatesValid_any A2 n2 c2 us w hu hn2).mono ?_
      rintro e w2 ⟨rfl, hb2⟩
      cases h3 : updB us
      · have hbad := takeR_bad (xs := xs) (t := t) (us := us) (by rw [h3]; simp)
        have HN := Lib.hid hbad
        clear nilcase hbad
        go_wp2_with fail
        refine bodyPost_ret (v := .tuple #[.slice none 0 0, .bool false]) (by simp [results, Tryd.results7, go_sem]) rfl ?_
        unfold TakeTo; rw [HN.out]; exact ⟨none, 0, rfl, own_nil, hb2⟩
      · have HOK := Lib.hid (takeR_ok h1 h2 h3)
        have hups := updB_ok h3
        clear nilcase
        go_wp2_with fail
        refine (cloneI_any A n c xs w2 (h.next hb2) (by omega)).mono ?_
        rintro e w3 ⟨B, d, rfl, hown3, hb3⟩
        have hn4 : n = 4 := by omega
        subst hn4
        obtain ⟨g, rfl, hg1, hg2⟩ := own_addr hown3 (by omega)
        have hu3 := (hu.next hb2).next hb3
        have hE3 : w3.cell? ⟨0, 0, none⟩ = some (.iface 76 (.pointer (some a))) := ((below_ext hb2 hb3).cell (p := ⟨0, 0, none⟩) (block_lt_of_cellL hE)).trans hE
        have b3 := below_ext hb2 hb3
        have hne : ∀ b off, A2 = some ⟨b, off, none⟩ → 0 < n2 → b ≠ g := fun b off e hpos => by
          obtain ⟨b', off', e', hlt, _⟩ := hu.2 hpos
          rw [e] at e'; injection e' with e'; injection e' with e1 _ _
          have := hb2.size
          omega
        have hpos : 0 < n2 := by
          have := h3; unfold updB at this; rw [Bool.and_eq_true, decide_eq_true_eq] at this; have := hu.1; omega
        cases hf : freeB xs us
        · have HR : takeR xs t us = (xs, false) := by rw [HOK.out, hf]; rfl
          have HRR := Lib.hid HR
          have hlen : xs.length = 4 := by exact hl4
          have HLEN := Lib.hid hlen
          clear HR hlen
          have hlock : ∀ W, W.ownsRow w2.heap.size 3 1 (.slice (some ⟨g, 0, none⟩) 4 d) 4 (ints xs) → RUps W A2 n2 us → W.cell? ⟨0, 0, none⟩ = some (.iface 76 (.pointer (some a))) →
              Calls Tryd.prog 22 #[.slice (some ⟨g, 0, none⟩) 4 d, .int .i64 t, .slice A2 n2 c2] W fun e w' => e = .returned (.iface 76 (.pointer (some a))) ∧ w'.ownsRow w2.heap.size 3 1 (.slice (some ⟨g, 0, none⟩) 4 d) 4 (ints xs) ∧ W.grownBy w' (some g) := fun W q1 q2 q3 => by
            have := lock_any w2.heap.size g d xs t A2 n2 c2 us _ W q1 q2 hn2 hups (fun b off e => hne b off e hpos) q3
            unfold LockTo at this
            rw [hf] at this
            exact this
          clear hf hups
          go_wp2_with fail
          go_region_held3 (fun w' => w'.cell? ⟨0, 0, none⟩ = some (.iface 76 (.pointer (some a))))
            (first
              | exact hE3
              | exact hE5
              | assumption)
            (first
              | (go_at_call 22; refine (hlock _ (own_belowL hown3 (Below.refl _ _).drew) (hu3.next (Below.refl _ _).drew) (by assumption)).mono ?_
                 rintro e w5 ⟨rfl, hown5, hg5⟩
                 have hg5' : w3.grownBy w5 (some g) := ⟨hg5.os, hg5.tape, hg5.output, hg5.size, hg5.block⟩
                 have hE5 : w5.cell? ⟨0, 0, none⟩ = some (.iface 76 (.pointer (some a))) := (World.cell?_of_block (hg5'.block 0 (block_lt_of_cellL hE3) (by intro e; injection e with e; have := block_lt_of_cellL hE; have := hb2.size; omega))).trans hE3)
              | (go_at_call 21; refine (is_same a _).mono ?_
                 rintro e w6 ⟨rfl, rfl⟩))
          all_goals
            go_wp2
            refine bodyPost_ret (v := .tuple #[.slice (some ⟨g, 0, none⟩) 4 d, .bool false]) (by simp [results, Tryd.results7, go_sem]) rfl ?_
            unfold TakeTo
            rw [HRR.out]
            simp only [HLEN.out]
            refine ⟨some ⟨g, 0, none⟩, d, rfl, own_baseL hown5 hb2.size, b3.trans ⟨hg5'.os, hg5'.tape, hg5'.output, hg5'.size, fun i hi => hg5'.block i (by have := b3.size; omega) (by intro e; injection e with e; have := hb2.size; omega)⟩⟩
        · have HR : takeR xs t us = ((lockAll xs t us), true) := by rw [HOK.out, hf]; rfl
          have HRR := Lib.hid HR
          have hlen : (lockAll xs t us).length = 4 := by rw [lockAll_len]; exact hl4
          have HLEN := Lib.hid hlen
          clear HR hlen
          have hlock : ∀ W, W.ownsRow w2.heap.size 3 1 (.slice (some ⟨g, 0, none⟩) 4 d) 4 (ints xs) → RUps W A2 n2 us → W.cell? ⟨0, 0, none⟩ = some (.iface 76 (.pointer (some a))) →
              Calls Tryd.prog 22 #[.slice (some ⟨g, 0, none⟩) 4 d, .int .i64 t, .slice A2 n2 c2] W fun e w' => e = .returned .nilIface ∧ w'.ownsRow w2.heap.size 3 1 (.slice (some ⟨g, 0, none⟩) 4 d) 4 (ints (lockAll xs t us)) ∧ W.grownBy w' (some g) := fun W q1 q2 q3 => by
            have := lock_any w2.heap.size g d xs t A2 n2 c2 us _ W q1 q2 hn2 hups (fun b off e => hne b off e hpos) q3
            unfold LockTo at this
            rw [hf] at this
            exact this
          clear hf hups
          go_wp2_with fail
          go_region_held3 (fun w' => w'.cell? ⟨0, 0, none⟩ = some (.iface 76 (.pointer (some a))))
            (first
              | exact hE3
              | exact hE5
              | assumption)
            (first
              | (go_at_call 22; refine (hlock _ (own_belowL hown3 (Below.refl _ _).drew) (hu3.next (Below.refl _ _).drew) (by assumption)).mono ?_
                 rintro e w5 ⟨rfl, hown5, hg5⟩
                 have hg5' : w3.grownBy w5 (some g) := ⟨hg5.os, hg5.tape, hg5.output, hg5.size, hg5.block⟩
                 have hE5 : w5.cell? ⟨0, 0, none⟩ = some (.iface 76 (.pointer (some a))) := (World.cell?_of_block (hg5'.block 0 (block_lt_of_cellL hE3) (by intro e; injection e with e; have := block_lt_of_cellL hE; have := hb2.size; omega))).trans hE3)
              | (go_at_call 21; refine (is_nil a _).mono ?_
                 rintro e w6 ⟨rfl, rfl⟩))
          all_goals
            go_wp2
            refine bodyPost_ret (v := .tuple #[.slice (some ⟨g, 0, none⟩) 4 d, .bool true]) (by simp [results, Tryd.results7, go_sem]) rfl ?_
            unfold TakeTo
            rw [HRR.out]
            simp only [HLEN.out]
            refine ⟨some ⟨g, 0, none⟩, d, rfl, own_baseL hown5 hb2.size, b3.trans ⟨hg5'.os, hg5'.tape, hg5'.output, hg5'.size, fun i hi => hg5'.block i (by have := b3.size; omega) (by intro e; injection e with e; have := hb2.size; omega)⟩⟩
end Go.Proofs.YtpanclbmfpgalaaDoor
