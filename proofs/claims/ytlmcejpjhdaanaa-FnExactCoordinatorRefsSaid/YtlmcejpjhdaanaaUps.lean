/- Walks: lists of updates: UpdatesValid, the program's and the reference's. -/
import Derived.Test.YtlmcejpjhdaanaaIds
import Derived.Test.YtlmcejpjhdaanaaApp
import Derived.Test.YtlmcejpjhdaanaaChain
import Derived.WalkSpells
import Derived.WalkLawsBesides
import Derived.Handy
import Derived.BigQuiet
namespace Go.Proofs.Ytlmcejpjhdaanaa
open Go.RowKit Go.Sort

structure Up where
  ref : Int
  old : Int
  new : Int
def RUps (w : World) (A : Option Addr) (n : Nat) (us : List Up) : Prop := us.length = n ∧ (0 < n → ∃ b off, A = some ⟨b, off, none⟩ ∧ b < w.heap.size ∧ ∀ (i : Nat) (u : Up), us[i]? = some u →
  w.cell? ⟨b, off + i * 3, none⟩ = some (.int .i64 u.ref) ∧ w.cell? ⟨b, off + i * 3 + 1, none⟩ = some (.int .i64 u.old) ∧ w.cell? ⟨b, off + i * 3 + 1 + 1, none⟩ = some (.int .i64 u.new))
theorem RUps.next {w w' : World} {A : Option Addr} {n : Nat} {us : List Up} (h : RUps w A n us) (hb : Below w.heap.size w w') : RUps w' A n us :=
  ⟨h.1, fun hn => by
    obtain ⟨b, off, e, hlt, hc⟩ := h.2 hn
    refine ⟨b, off, e, Nat.lt_of_lt_of_le hlt hb.size, fun i u hu => ?_⟩
    obtain ⟨c0, c1, c2⟩ := hc i u hu
    exact ⟨(hb.cell (p := ⟨b, off + i * 3, none⟩) hlt).trans c0, (hb.cell (p := ⟨b, off + i * 3 + 1, none⟩) hlt).trans c1, (hb.cell (p := ⟨b, off + i * 3 + 1 + 1, none⟩) hlt).trans c2⟩⟩
theorem RUps.at_ {w : World} {A : Option Addr} {n : Nat} {us : List Up} (h : RUps w A n us) {k : Nat} (hk : k < n) : ∃ b off u, A = some ⟨b, off, none⟩ ∧ b < w.heap.size ∧ us[k]? = some u ∧
    w.cell? ⟨b, off + k * 3, none⟩ = some (.int .i64 u.ref) ∧ w.cell? ⟨b, off + k * 3 + 1, none⟩ = some (.int .i64 u.old) ∧ w.cell? ⟨b, off + k * 3 + 1 + 1, none⟩ = some (.int .i64 u.new) := by
  obtain ⟨b, off, e, hlt, hc⟩ := h.2 (by omega)
  have hl : k < us.length := by have := h.1; omega
  exact ⟨b, off, us[k], e, hlt, List.getElem?_eq_getElem hl, hc k _ (List.getElem?_eq_getElem hl)⟩
def refB (n : Int) : Bool := decide (0 ≤ n) && decide (n ≤ 3)
def valB (n : Int) : Bool := decide (-1 ≤ n) && decide (n ≤ 990)
def upOk (u : Up) : Bool := refB u.ref && valB u.old && valB u.new && !(u.old == u.new)
def ascU (us : List Up) : Bool := chainB upOk (fun a b => decide (a.ref < b.ref)) us
def updB (us : List Up) : Bool := ascU us && decide (0 < us.length)
theorem upOk_parts {u : Up} (h : upOk u = true) : refB u.ref = true ∧ valB u.old = true ∧ valB u.new = true ∧ (u.old == u.new) = false := by
  unfold upOk at h
  simp only [Bool.and_eq_true, Bool.not_eq_true'] at h
  exact ⟨h.1.1.1, h.1.1.2, h.1.2, h.2⟩
theorem upOk_not {u : Up} (h : ¬ upOk u = true) : refB u.ref = false ∨ (refB u.ref = true ∧ valB u.old = false) ∨ (refB u.ref = true ∧ valB u.old = true ∧ valB u.new = false) ∨ (refB u.ref = true ∧ valB u.old = true ∧ valB u.new = true ∧ (u.old == u.new) = true) := by
  unfold upOk at h
  cases h1 : refB u.ref
  · exact Or.inl rfl
  · cases h2 : valB u.old
    · exact Or.inr (Or.inl ⟨rfl, rfl⟩)
    · cases h3 : valB u.new
      · exact Or.inr (Or.inr (Or.inl ⟨rfl, rfl, rfl⟩))
      · cases h4 : (u.old == u.new)
        · rw [h1, h2, h3, h4] at h; exact absurd rfl h
        · exact Or.inr (Or.inr (Or.inr ⟨rfl, rfl, rfl, rfl⟩))

set_option maxHeartbeats 400000 in
theorem implUpdatesValid_any_id (n : Int) (w : World) : Calls Try.prog 56 #[.int .i64 n] w fun e w' => e = .returned (.bool (valB n)) ∧ Below w.heap.size w w' := by
  go_enter Try.func56, Try.ntmps56
  go_wp2_with (go_at_call 51; refine (inRange_any _ _ _ _).mono ?_; rintro e w' ⟨rfl, rfl⟩)
  go_ret
  exact ⟨rfl, Below.refl _ _⟩
set_option maxHeartbeats 400000 in
theorem specUpdatesValid_any_id (n : Int) (w : World) : Calls Try.prog 104 #[.int .i64 n] w fun e w' => e = .returned (.bool (valB n)) ∧ Below w.heap.size w w' := by
  go_enter Try.func104, Try.ntmps104
  go_wp2_with (go_at_call 35; refine (l6In_any _ _ _ _).mono ?_; rintro e w' ⟨rfl, rfl⟩)
  go_ret
  exact ⟨rfl, Below.refl _ _⟩

set_option maxHeartbeats 3200000 in
theorem implUpdatesValid_any (A : Option Addr) (n c : Nat) (us : List Up) (w : World) (h : RUps w A n us) (hn : n ≤ maxLen) :
    Calls Try.prog 84 #[.slice A n c] w fun e w' => e = .returned (.bool (updB us)) ∧ Below w.heap.size w w' := by
  unfold maxLen at hn
  have hl := h.1
  go_enter Try.func84, Try.ntmps84
  go_wp2
  go_loopw [7] (fun i wr => ∃ k : Nat, k ≤ n ∧ i = .int .i64 k ∧ Hid (ascU (us.take k) = true) ∧ Below w.heap.size w wr) (fun i _ => n - (intOf i).toNat)
  case atStart => exact ⟨0, Nat.zero_le _, rfl, rfl, Below.refl _ _⟩
  case round =>
    obtain ⟨k, hk, rfl, hasc, hbr⟩ := hrel
    have hr := h.next hbr
    by_cases hlt : k < n
    · obtain ⟨b, off, u, rfl, hb, hx, c0, c1, c2⟩ := hr.at_ hlt
      have bo := Blk.new wr 53 [.int .i64 u.ref, .int .i64 u.old, .int .i64 u.new]
      have ea := below_box wr (.cells #[.int .i64 u.ref, .int .i64 u.old, .int .i64 u.new] 53)
      have hbr2 := below_ext hbr ea
      have hA0 : ∀ W, Calls Try.prog 51 #[.int .i64 u.ref, .int .i64 0, .int .i64 3] W fun e w' => e = .returned (.bool (refB u.ref)) ∧ Below W.heap.size W w' := fun W => (inRange_any u.ref 0 3 W).mono fun _ _ ⟨he, hw⟩ => ⟨he, hw ▸ Below.refl _ _⟩
      have hB0 := fun W => implUpdatesValid_any_id u.old W
      have hC0 := fun W => implUpdatesValid_any_id u.new W
      by_cases hok : upOk u = true
      · obtain ⟨o1, o2, o3, o4⟩ := upOk_parts hok
        have hA : ∀ W, Calls Try.prog 51 #[.int .i64 u.ref, .int .i64 0, .int .i64 3] W fun e w' => e = .returned (.bool true) ∧ Below W.heap.size W w' := fun W => by rw [← o1]; exact hA0 W
        have hB : ∀ W, Calls Try.prog 56 #[.int .i64 u.old] W fun e w' => e = .returned (.bool true) ∧ Below W.heap.size W w' := fun W => by rw [← o2]; exact hB0 W
        have hC : ∀ W, Calls Try.prog 56 #[.int .i64 u.new] W fun e w' => e = .returned (.bool true) ∧ Below W.heap.size W w' := fun W => by rw [← o3]; exact hC0 W
        have HOK := Lib.hid hok
        clear hA0 hB0 hC0 hok o1 o2 o3
        by_cases hk0 : k = 0
        · subst hk0
          have hT : ascU (us.take (0+1)) = true := (chainB_zero _ _ us u hx).trans HOK.out
          have HT := Lib.hid hT
          clear hT hx
          simp only [Nat.zero_mul, Nat.add_zero] at c0 c1 c2
          go_wp2
          generalize hW : wr.alloc (.cells #[.int .i64 u.ref, .int .i64 u.old, .int .i64 u.new] 53) = wq at *
          have HW := Lib.hid hW
          clear hW
          obtain ⟨e0, e1, e2⟩ := bo.cells3
          have g0 := cell_regrown e0
          have g1 := cell_regrown e1
          have g2 := cell_regrown e2
          clear e0 e1 e2 c0 c1 c2
          refine wp_region_ext (by kernel_rfl) (by kernel_rfl) ?_
          repeat (go_big_quiet_step ((first
            | (go_at_call 51; exact rg_below (hA _))
            | (go_at_call 56; first | with_reducible exact rg_below (hB _) | with_reducible exact rg_below (hC _)))))
          refine wpQuiet_nil ?_
          intro w1 hb1
          go_wp2
          go_roundw
          case rel => exact ⟨1, by omega, by go_num, HT.out, below_ext hbr2 hb1⟩
          case measure => simp [intOf]; omega
        · obtain ⟨b', off', u', hA', _, hx', p0, p1, p2⟩ := hr.at_ (k := k - 1) (by omega)
          obtain ⟨rfl, rfl⟩ : b = b' ∧ off = off' := by injection hA' with e; injection e with e1 e2; exact ⟨e1, e2⟩
          have p0' := (ea.cell (p := ⟨b, off + (k - 1) * 3, none⟩) hb).trans p0
          have hT : ascU (us.take (k+1)) = decide (u'.ref < u.ref) := by
            obtain ⟨j, rfl⟩ : ∃ j, k = j + 1 := ⟨k - 1, by omega⟩
            unfold ascU
            rw [chainB_succ _ _ us j u u' hx' hx]
            have := hasc.out
            unfold ascU at this
            rw [this, HOK.out]; simp
          have HF := Lib.hid (chainB_false upOk (fun a b => decide (a.ref < b.ref)) us (k+1))
          have HT := Lib.hid hT
          clear hT hx hx' p0 p1 p2
          have hkp : decide (0 < k) = true := by simp; omega
          by_cases hlt2 : u'.ref < u.ref
          · have hcmp : decide (u.ref ≤ u'.ref) = false := decide_eq_false (by omega)
            have HT2 := Lib.hid (HT.out.trans (decide_eq_true hlt2))
            clear hlt2 HT
            have g3 := cell_regrown p0'
            go_wp2
            generalize hW : wr.alloc (.cells #[.int .i64 u.ref, .int .i64 u.old, .int .i64 u.new] 53) = wq at *
            have HW := Lib.hid hW
            clear hW
            obtain ⟨e0, e1, e2⟩ := bo.cells3
            have g0 := cell_regrown e0
            have g1 := cell_regrown e1
            have g2 := cell_regrown e2
            clear e0 e1 e2 c0 c1 c2
            refine wp_region_ext (by kernel_rfl) (by kernel_rfl) ?_
            repeat (go_big_quiet_step ((first
              | (go_at_call 51; exact rg_below (hA _))
              | (go_at_call 56; first | with_reducible exact rg_below (hB _) | with_reducible exact rg_below (hC _)))))
            refine wpQuiet_nil ?_
            intro w1 hb1
            go_wp2
            go_roundw
            case rel => exact ⟨k + 1, by omega, by go_num, HT2.out, below_ext hbr2 hb1⟩
            case measure => simp [intOf]; omega
          · have hcmp : decide (u.ref ≤ u'.ref) = true := decide_eq_true (by omega)
            have HBAD := Lib.hid (show ascU us = false from HF.out (HT.out.trans (decide_eq_false hlt2)))
            clear hlt2 HT
            have g3 := cell_regrown p0'
            go_wp2
            generalize hW : wr.alloc (.cells #[.int .i64 u.ref, .int .i64 u.old, .int .i64 u.new] 53) = wq at *
            have HW := Lib.hid hW
            clear hW
            obtain ⟨e0, e1, e2⟩ := bo.cells3
            have g0 := cell_regrown e0
            have g1 := cell_regrown e1
            have g2 := cell_regrown e2
            clear e0 e1 e2 c0 c1 c2
            refine wp_region_ext (by kernel_rfl) (by kernel_rfl) ?_
            repeat (go_big_quiet_step ((first
              | (go_at_call 51; exact rg_below (hA _))
              | (go_at_call 56; first | with_reducible exact rg_below (hB _) | with_reducible exact rg_below (hC _)))))
            refine wpQuiet_nil ?_
            intro w1 hb1
            go_wp2
            go_ret
            exact ⟨ret_bool (by unfold updB; rw [HBAD.out]; rfl), below_ext hbr2 hb1⟩
      · have hF : ascU us = false := by
          have hok' : upOk u = false := by cases hh : upOk u; rfl; exact absurd hh hok
          refine chainB_false upOk (fun a b => decide (a.ref < b.ref)) us (k+1) ?_
          cases k with
          | zero => exact (chainB_zero _ _ us u hx).trans hok'
          | succ k => rw [chainB_succ _ _ us k u (us[k]'(by omega)) (List.getElem?_eq_getElem _) hx, hok']; simp
        have HBAD := Lib.hid hF
        have hnot := upOk_not hok
        clear hF hx hok
        rcases hnot with o1 | ⟨o1, o2⟩ | ⟨o1, o2, o3⟩ | ⟨o1, o2, o3, o4⟩
        · have hA : ∀ W, Calls Try.prog 51 #[.int .i64 u.ref, .int .i64 0, .int .i64 3] W fun e w' => e = .returned (.bool false) ∧ Below W.heap.size W w' := fun W => by rw [← o1]; exact hA0 W
          have hB : ∀ W, Calls Try.prog 56 #[.int .i64 u.old] W fun e w' => e = .returned (.bool (valB u.old)) ∧ Below W.heap.size W w' := fun W => by exact hB0 W
          have hC : ∀ W, Calls Try.prog 56 #[.int .i64 u.new] W fun e w' => e = .returned (.bool (valB u.new)) ∧ Below W.heap.size W w' := fun W => by exact hC0 W
          clear hA0 hB0 hC0
          go_wp2
          generalize hW : wr.alloc (.cells #[.int .i64 u.ref, .int .i64 u.old, .int .i64 u.new] 53) = wq at *
          have HW := Lib.hid hW
          clear hW
          obtain ⟨e0, e1, e2⟩ := bo.cells3
          have g0 := cell_regrown e0
          have g1 := cell_regrown e1
          have g2 := cell_regrown e2
          clear e0 e1 e2 c0 c1 c2
          refine wp_region_ext (by kernel_rfl) (by kernel_rfl) ?_
          repeat (go_big_quiet_step ((first
            | (go_at_call 51; exact rg_below (hA _))
            | (go_at_call 56; first | with_reducible exact rg_below (hB _) | with_reducible exact rg_below (hC _)))))
          refine wpQuiet_nil ?_
          intro w1 hb1
          go_wp2
          go_ret
          exact ⟨ret_bool (by unfold updB; rw [HBAD.out]; rfl), below_ext hbr2 hb1⟩
        · have hA : ∀ W, Calls Try.prog 51 #[.int .i64 u.ref, .int .i64 0, .int .i64 3] W fun e w' => e = .returned (.bool true) ∧ Below W.heap.size W w' := fun W => by rw [← o1]; exact hA0 W
          have hB : ∀ W, Calls Try.prog 56 #[.int .i64 u.old] W fun e w' => e = .returned (.bool false) ∧ Below W.heap.size W w' := fun W => by rw [← o2]; exact hB0 W
          have hC : ∀ W, Calls Try.prog 56 #[.int .i64 u.new] W fun e w' => e = .returned (.bool (valB u.new)) ∧ Below W.heap.size W w' := fun W => by exact hC0 W
          clear hA0 hB0 hC0
          go_wp2
          generalize hW : wr.alloc (.cells #[.int .i64 u.ref, .int .i64 u.old, .int .i64 u.new] 53) = wq at *
          have HW := Lib.hid hW
          clear hW
          obtain ⟨e0, e1, e2⟩ := bo.cells3
          have g0 := cell_regrown e0
          have g1 := cell_regrown e1
          have g2 := cell_regrown e2
          clear e0 e1 e2 c0 c1 c2
          refine wp_region_ext (by kernel_rfl) (by kernel_rfl) ?_
          repeat (go_big_quiet_step ((first
            | (go_at_call 51; exact rg_below (hA _))
            | (go_at_call 56; first | with_reducible exact rg_below (hB _) | with_reducible exact rg_below (hC _)))))
          refine wpQuiet_nil ?_
          intro w1 hb1
          go_wp2
          go_ret
          exact ⟨ret_bool (by unfold updB; rw [HBAD.out]; rfl), below_ext hbr2 hb1⟩
        · have hA : ∀ W, Calls Try.prog 51 #[.int .i64 u.ref, .int .i64 0, .int .i64 3] W fun e w' => e = .returned (.bool true) ∧ Below W.heap.size W w' := fun W => by rw [← o1]; exact hA0 W
          have hB : ∀ W, Calls Try.prog 56 #[.int .i64 u.old] W fun e w' => e = .returned (.bool true) ∧ Below W.heap.size W w' := fun W => by rw [← o2]; exact hB0 W
          have hC : ∀ W, Calls Try.prog 56 #[.int .i64 u.new] W fun e w' => e = .returned (.bool false) ∧ Below W.heap.size W w' := fun W => by rw [← o3]; exact hC0 W
          clear hA0 hB0 hC0
          go_wp2
          generalize hW : wr.alloc (.cells #[.int .i64 u.ref, .int .i64 u.old, .int .i64 u.new] 53) = wq at *
          have HW := Lib.hid hW
          clear hW
          obtain ⟨e0, e1, e2⟩ := bo.cells3
          have g0 := cell_regrown e0
          have g1 := cell_regrown e1
          have g2 := cell_regrown e2
          clear e0 e1 e2 c0 c1 c2
          refine wp_region_ext (by kernel_rfl) (by kernel_rfl) ?_
          repeat (go_big_quiet_step ((first
            | (go_at_call 51; exact rg_below (hA _))
            | (go_at_call 56; first | with_reducible exact rg_below (hB _) | with_reducible exact rg_below (hC _)))))
          refine wpQuiet_nil ?_
          intro w1 hb1
          go_wp2
          go_ret
          exact ⟨ret_bool (by unfold updB; rw [HBAD.out]; rfl), below_ext hbr2 hb1⟩
        · have hA : ∀ W, Calls Try.prog 51 #[.int .i64 u.ref, .int .i64 0, .int .i64 3] W fun e w' => e = .returned (.bool true) ∧ Below W.heap.size W w' := fun W => by rw [← o1]; exact hA0 W
          have hB : ∀ W, Calls Try.prog 56 #[.int .i64 u.old] W fun e w' => e = .returned (.bool true) ∧ Below W.heap.size W w' := fun W => by rw [← o2]; exact hB0 W
          have hC : ∀ W, Calls Try.prog 56 #[.int .i64 u.new] W fun e w' => e = .returned (.bool true) ∧ Below W.heap.size W w' := fun W => by rw [← o3]; exact hC0 W
          clear hA0 hB0 hC0
          go_wp2
          generalize hW : wr.alloc (.cells #[.int .i64 u.ref, .int .i64 u.old, .int .i64 u.new] 53) = wq at *
          have HW := Lib.hid hW
          clear hW
          obtain ⟨e0, e1, e2⟩ := bo.cells3
          have g0 := cell_regrown e0
          have g1 := cell_regrown e1
          have g2 := cell_regrown e2
          clear e0 e1 e2 c0 c1 c2
          refine wp_region_ext (by kernel_rfl) (by kernel_rfl) ?_
          repeat (go_big_quiet_step ((first
            | (go_at_call 51; exact rg_below (hA _))
            | (go_at_call 56; first | with_reducible exact rg_below (hB _) | with_reducible exact rg_below (hC _)))))
          refine wpQuiet_nil ?_
          intro w1 hb1
          go_wp2
          go_ret
          exact ⟨ret_bool (by unfold updB; rw [HBAD.out]; rfl), below_ext hbr2 hb1⟩
    · obtain rfl : k = n := by omega
      rw [List.take_of_length_le (by omega)] at hasc
      go_wp2
      go_ret
      exact ⟨ret_bool (by unfold updB; rw [hasc.out, Bool.true_and, hl]), hbr⟩

set_option maxHeartbeats 3200000 in
theorem specUpdatesValid_any (A : Option Addr) (n c : Nat) (us : List Up) (w : World) (h : RUps w A n us) (hn : n ≤ maxLen) :
    Calls Try.prog 83 #[.slice A n c] w fun e w' => e = .returned (.bool (updB us)) ∧ Below w.heap.size w w' := by
  unfold maxLen at hn
  have hl := h.1
  go_enter Try.func83, Try.ntmps83
  go_wp2
  go_loopw [3] (fun i wr => ∃ k : Nat, k ≤ n ∧ i = .int .i64 k ∧ Hid (ascU (us.take k) = true) ∧ Below w.heap.size w wr) (fun i _ => n - (intOf i).toNat)
  case atStart => exact ⟨0, Nat.zero_le _, rfl, rfl, Below.refl _ _⟩
  case round =>
    obtain ⟨k, hk, rfl, hasc, hbr⟩ := hrel
    have hr := h.next hbr
    by_cases hlt : k < n
    · obtain ⟨b, off, u, rfl, hb, hx, c0, c1, c2⟩ := hr.at_ hlt
      have bo := Blk.new wr 53 [.int .i64 u.ref, .int .i64 u.old, .int .i64 u.new]
      have ea := below_box wr (.cells #[.int .i64 u.ref, .int .i64 u.old, .int .i64 u.new] 53)
      have hbr2 := below_ext hbr ea
      have hA0 : ∀ W, Calls Try.prog 35 #[.int .i64 u.ref, .int .i64 0, .int .i64 3] W fun e w' => e = .returned (.bool (refB u.ref)) ∧ Below W.heap.size W w' := fun W => (l6In_any u.ref 0 3 W).mono fun _ _ ⟨he, hw⟩ => ⟨he, hw ▸ Below.refl _ _⟩
      have hB0 := fun W => specUpdatesValid_any_id u.old W
      have hC0 := fun W => specUpdatesValid_any_id u.new W
      by_cases hok : upOk u = true
      · obtain ⟨o1, o2, o3, o4⟩ := upOk_parts hok
        have hA : ∀ W, Calls Try.prog 35 #[.int .i64 u.ref, .int .i64 0, .int .i64 3] W fun e w' => e = .returned (.bool true) ∧ Below W.heap.size W w' := fun W => by rw [← o1]; exact hA0 W
        have hB : ∀ W, Calls Try.prog 104 #[.int .i64 u.old] W fun e w' => e = .returned (.bool true) ∧ Below W.heap.size W w' := fun W => by rw [← o2]; exact hB0 W
        have hC : ∀ W, Calls Try.prog 104 #[.int .i64 u.new] W fun e w' => e = .returned (.bool true) ∧ Below W.heap.size W w' := fun W => by rw [← o3]; exact hC0 W
        have HOK := Lib.hid hok
        clear hA0 hB0 hC0 hok o1 o2 o3
        by_cases hk0 : k = 0
        · subst hk0
          have hT : ascU (us.take (0+1)) = true := (chainB_zero _ _ us u hx).trans HOK.out
          have HT := Lib.hid hT
          clear hT hx
          simp only [Nat.zero_mul, Nat.add_zero] at c0 c1 c2
          go_wp2
          generalize hW : wr.alloc (.cells #[.int .i64 u.ref, .int .i64 u.old, .int .i64 u.new] 53) = wq at *
          have HW := Lib.hid hW
          clear hW
          obtain ⟨e0, e1, e2⟩ := bo.cells3
          have g0 := cell_regrown e0
          have g1 := cell_regrown e1
          have g2 := cell_regrown e2
          clear e0 e1 e2 c0 c1 c2
          refine wp_region_ext (by kernel_rfl) (by kernel_rfl) ?_
          repeat (go_big_quiet_step ((first
            | (go_at_call 35; exact rg_below (hA _))
            | (go_at_call 104; first | with_reducible exact rg_below (hB _) | with_reducible exact rg_below (hC _)))))
          refine wpQuiet_nil ?_
          intro w1 hb1
          go_wp2
          go_roundw
          case rel => exact ⟨1, by omega, by go_num, HT.out, below_ext hbr2 hb1⟩
          case measure => simp [intOf]; omega
        · obtain ⟨b', off', u', hA', _, hx', p0, p1, p2⟩ := hr.at_ (k := k - 1) (by omega)
          obtain ⟨rfl, rfl⟩ : b = b' ∧ off = off' := by injection hA' with e; injection e with e1 e2; exact ⟨e1, e2⟩
          have p0' := (ea.cell (p := ⟨b, off + (k - 1) * 3, none⟩) hb).trans p0
          have hT : ascU (us.take (k+1)) = decide (u'.ref < u.ref) := by
            obtain ⟨j, rfl⟩ : ∃ j, k = j + 1 := ⟨k - 1, by omega⟩
            unfold ascU
            rw [chainB_succ _ _ us j u u' hx' hx]
            have := hasc.out
            unfold ascU at this
            rw [this, HOK.out]; simp
          have HF := Lib.hid (chainB_false upOk (fun a b => decide (a.ref < b.ref)) us (k+1))
          have HT := Lib.hid hT
          clear hT hx hx' p0 p1 p2
          have hkp : decide (0 < k) = true := by simp; omega
          by_cases hlt2 : u'.ref < u.ref
          · have hcmp : decide (u.ref ≤ u'.ref) = false := decide_eq_false (by omega)
            have HT2 := Lib.hid (HT.out.trans (decide_eq_true hlt2))
            clear hlt2 HT
            have g3 := cell_regrown p0'
            go_wp2
            generalize hW : wr.alloc (.cells #[.int .i64 u.ref, .int .i64 u.old, .int .i64 u.new] 53) = wq at *
            have HW := Lib.hid hW
            clear hW
            obtain ⟨e0, e1, e2⟩ := bo.cells3
            have g0 := cell_regrown e0
            have g1 := cell_regrown e1
            have g2 := cell_regrown e2
            clear e0 e1 e2 c0 c1 c2
            refine wp_region_ext (by kernel_rfl) (by kernel_rfl) ?_
            repeat (go_big_quiet_step ((first
              | (go_at_call 35; exact rg_below (hA _))
              | (go_at_call 104; first | with_reducible exact rg_below (hB _) | with_reducible exact rg_below (hC _)))))
            refine wpQuiet_nil ?_
            intro w1 hb1
            go_wp2
            go_roundw
            case rel => exact ⟨k + 1, by omega, by go_num, HT2.out, below_ext hbr2 hb1⟩
            case measure => simp [intOf]; omega
          · have hcmp : decide (u.ref ≤ u'.ref) = true := decide_eq_true (by omega)
            have HBAD := Lib.hid (show ascU us = false from HF.out (HT.out.trans (decide_eq_false hlt2)))
            clear hlt2 HT
            have g3 := cell_regrown p0'
            go_wp2
            generalize hW : wr.alloc (.cells #[.int .i64 u.ref, .int .i64 u.old, .int .i64 u.new] 53) = wq at *
            have HW := Lib.hid hW
            clear hW
            obtain ⟨e0, e1, e2⟩ := bo.cells3
            have g0 := cell_regrown e0
            have g1 := cell_regrown e1
            have g2 := cell_regrown e2
            clear e0 e1 e2 c0 c1 c2
            refine wp_region_ext (by kernel_rfl) (by kernel_rfl) ?_
            repeat (go_big_quiet_step ((first
              | (go_at_call 35; exact rg_below (hA _))
              | (go_at_call 104; first | with_reducible exact rg_below (hB _) | with_reducible exact rg_below (hC _)))))
            refine wpQuiet_nil ?_
            intro w1 hb1
            go_wp2
            go_ret
            exact ⟨ret_bool (by unfold updB; rw [HBAD.out]; rfl), below_ext hbr2 hb1⟩
      · have hF : ascU us = false := by
          have hok' : upOk u = false := by cases hh : upOk u; rfl; exact absurd hh hok
          refine chainB_false upOk (fun a b => decide (a.ref < b.ref)) us (k+1) ?_
          cases k with
          | zero => exact (chainB_zero _ _ us u hx).trans hok'
          | succ k => rw [chainB_succ _ _ us k u (us[k]'(by omega)) (List.getElem?_eq_getElem _) hx, hok']; simp
        have HBAD := Lib.hid hF
        have hnot := upOk_not hok
        clear hF hx hok
        rcases hnot with o1 | ⟨o1, o2⟩ | ⟨o1, o2, o3⟩ | ⟨o1, o2, o3, o4⟩
        · have hA : ∀ W, Calls Try.prog 35 #[.int .i64 u.ref, .int .i64 0, .int .i64 3] W fun e w' => e = .returned (.bool false) ∧ Below W.heap.size W w' := fun W => by rw [← o1]; exact hA0 W
          have hB : ∀ W, Calls Try.prog 104 #[.int .i64 u.old] W fun e w' => e = .returned (.bool (valB u.old)) ∧ Below W.heap.size W w' := fun W => by exact hB0 W
          have hC : ∀ W, Calls Try.prog 104 #[.int .i64 u.new] W fun e w' => e = .returned (.bool (valB u.new)) ∧ Below W.heap.size W w' := fun W => by exact hC0 W
          clear hA0 hB0 hC0
          go_wp2
          generalize hW : wr.alloc (.cells #[.int .i64 u.ref, .int .i64 u.old, .int .i64 u.new] 53) = wq at *
          have HW := Lib.hid hW
          clear hW
          obtain ⟨e0, e1, e2⟩ := bo.cells3
          have g0 := cell_regrown e0
          have g1 := cell_regrown e1
          have g2 := cell_regrown e2
          clear e0 e1 e2 c0 c1 c2
          refine wp_region_ext (by kernel_rfl) (by kernel_rfl) ?_
          repeat (go_big_quiet_step ((first
            | (go_at_call 35; exact rg_below (hA _))
            | (go_at_call 104; first | with_reducible exact rg_below (hB _) | with_reducible exact rg_below (hC _)))))
          refine wpQuiet_nil ?_
          intro w1 hb1
          go_wp2
          go_ret
          exact ⟨ret_bool (by unfold updB; rw [HBAD.out]; rfl), below_ext hbr2 hb1⟩
        · have hA : ∀ W, Calls Try.prog 35 #[.int .i64 u.ref, .int .i64 0, .int .i64 3] W fun e w' => e = .returned (.bool true) ∧ Below W.heap.size W w' := fun W => by rw [← o1]; exact hA0 W
          have hB : ∀ W, Calls Try.prog 104 #[.int .i64 u.old] W fun e w' => e = .returned (.bool false) ∧ Below W.heap.size W w' := fun W => by rw [← o2]; exact hB0 W
          have hC : ∀ W, Calls Try.prog 104 #[.int .i64 u.new] W fun e w' => e = .returned (.bool (valB u.new)) ∧ Below W.heap.size W w' := fun W => by exact hC0 W
          clear hA0 hB0 hC0
          go_wp2
          generalize hW : wr.alloc (.cells #[.int .i64 u.ref, .int .i64 u.old, .int .i64 u.new] 53) = wq at *
          have HW := Lib.hid hW
          clear hW
          obtain ⟨e0, e1, e2⟩ := bo.cells3
          have g0 := cell_regrown e0
          have g1 := cell_regrown e1
          have g2 := cell_regrown e2
          clear e0 e1 e2 c0 c1 c2
          refine wp_region_ext (by kernel_rfl) (by kernel_rfl) ?_
          repeat (go_big_quiet_step ((first
            | (go_at_call 35; exact rg_below (hA _))
            | (go_at_call 104; first | with_reducible exact rg_below (hB _) | with_reducible exact rg_below (hC _)))))
          refine wpQuiet_nil ?_
          intro w1 hb1
          go_wp2
          go_ret
          exact ⟨ret_bool (by unfold updB; rw [HBAD.out]; rfl), below_ext hbr2 hb1⟩
        · have hA : ∀ W, Calls Try.prog 35 #[.int .i64 u.ref, .int .i64 0, .int .i64 3] W fun e w' => e = .returned (.bool true) ∧ Below W.heap.size W w' := fun W => by rw [← o1]; exact hA0 W
          have hB : ∀ W, Calls Try.prog 104 #[.int .i64 u.old] W fun e w' => e = .returned (.bool true) ∧ Below W.heap.size W w' := fun W => by rw [← o2]; exact hB0 W
          have hC : ∀ W, Calls Try.prog 104 #[.int .i64 u.new] W fun e w' => e = .returned (.bool false) ∧ Below W.heap.size W w' := fun W => by rw [← o3]; exact hC0 W
          clear hA0 hB0 hC0
          go_wp2
          generalize hW : wr.alloc (.cells #[.int .i64 u.ref, .int .i64 u.old, .int .i64 u.new] 53) = wq at *
          have HW := Lib.hid hW
          clear hW
          obtain ⟨e0, e1, e2⟩ := bo.cells3
          have g0 := cell_regrown e0
          have g1 := cell_regrown e1
          have g2 := cell_regrown e2
          clear e0 e1 e2 c0 c1 c2
          refine wp_region_ext (by kernel_rfl) (by kernel_rfl) ?_
          repeat (go_big_quiet_step ((first
            | (go_at_call 35; exact rg_below (hA _))
            | (go_at_call 104; first | with_reducible exact rg_below (hB _) | with_reducible exact rg_below (hC _)))))
          refine wpQuiet_nil ?_
          intro w1 hb1
          go_wp2
          go_ret
          exact ⟨ret_bool (by unfold updB; rw [HBAD.out]; rfl), below_ext hbr2 hb1⟩
        · have hA : ∀ W, Calls Try.prog 35 #[.int .i64 u.ref, .int .i64 0, .int .i64 3] W fun e w' => e = .returned (.bool true) ∧ Below W.heap.size W w' := fun W => by rw [← o1]; exact hA0 W
          have hB : ∀ W, Calls Try.prog 104 #[.int .i64 u.old] W fun e w' => e = .returned (.bool true) ∧ Below W.heap.size W w' := fun W => by rw [← o2]; exact hB0 W
          have hC : ∀ W, Calls Try.prog 104 #[.int .i64 u.new] W fun e w' => e = .returned (.bool true) ∧ Below W.heap.size W w' := fun W => by rw [← o3]; exact hC0 W
          clear hA0 hB0 hC0
          go_wp2
          generalize hW : wr.alloc (.cells #[.int .i64 u.ref, .int .i64 u.old, .int .i64 u.new] 53) = wq at *
          have HW := Lib.hid hW
          clear hW
          obtain ⟨e0, e1, e2⟩ := bo.cells3
          have g0 := cell_regrown e0
          have g1 := cell_regrown e1
          have g2 := cell_regrown e2
          clear e0 e1 e2 c0 c1 c2
          refine wp_region_ext (by kernel_rfl) (by kernel_rfl) ?_
          repeat (go_big_quiet_step ((first
            | (go_at_call 35; exact rg_below (hA _))
            | (go_at_call 104; first | with_reducible exact rg_below (hB _) | with_reducible exact rg_below (hC _)))))
          refine wpQuiet_nil ?_
          intro w1 hb1
          go_wp2
          go_ret
          exact ⟨ret_bool (by unfold updB; rw [HBAD.out]; rfl), below_ext hbr2 hb1⟩
    · obtain rfl : k = n := by omega
      rw [List.take_of_length_le (by omega)] at hasc
      go_wp2
      go_ret
      exact ⟨ret_bool (by unfold updB; rw [hasc.out, Bool.true_and, hl]), hbr⟩
end Go.Proofs.Ytlmcejpjhdaanaa
