/- Walks: parts of a transaction: partsOk, the program's, and l22Parts, the reference's. -/
import Derived.Test.YtlmcejpjhdaanaaDataC
import Derived.WalkSpells
import Derived.WalkLawsBesides
import Derived.Handy
import Derived.BigQuiet
namespace Go.Proofs.Ytlmcejpjhdaanaa
open Go.RowKit Go.Sort

def shardB (n : Int) : Bool := decide (0 ≤ n) && decide (n ≤ 2)
def ptOk (p : Pt) : Bool := shardB p.shard && updB p.us
def ascP (ps : List Pt) : Bool := chainB ptOk (fun a b => decide (a.shard < b.shard)) ps
def partsB (ps : List Pt) : Bool := ascP ps && decide (0 < ps.length)
theorem ascP_bad {l : List Pt} {k : Nat} {a : Pt} (hx : l[k]? = some a) (h : ptOk a = false) : ascP l = false := by
  refine chainB_false ptOk (fun a b => decide (a.shard < b.shard)) l (k+1) ?_
  have hk := (List.getElem?_eq_some_iff.1 hx).1
  cases k with
  | zero => exact (chainB_zero _ _ l a hx).trans h
  | succ k => rw [chainB_succ _ _ l k a (l[k]'(by omega)) (List.getElem?_eq_getElem _) hx, h]; simp

set_option maxHeartbeats 3200000 in
theorem implParts_any (A : Option Addr) (n c : Nat) (ps : List Pt) (w : World) (h : RSl repPt 0 w A n ps) (hn : n ≤ maxLen) :
    Calls Try.prog 64 #[.slice A n c] w fun e w' => e = .returned (.bool (partsB ps)) ∧ Below w.heap.size w w' := by
  unfold maxLen at hn
  have hl := h.1
  go_enter Try.func64, Try.ntmps64
  go_wp2
  go_loopw [7] (fun i wr => ∃ k : Nat, k ≤ n ∧ i = .int .i64 k ∧ Hid (ascP (ps.take k) = true) ∧ Below w.heap.size w wr) (fun i _ => n - (intOf i).toNat)
  case atStart => exact ⟨0, Nat.zero_le _, rfl, rfl, Below.refl _ _⟩
  case round =>
    obtain ⟨k, hk, rfl, hasc, hbr⟩ := hrel
    have hr := h.next hbr
    by_cases hlt : k < n
    · obtain ⟨b, off, a, cs', rfl, hb, hx, hcx, hva⟩ := hr.at_ hlt
      obtain ⟨B, m, d, rfl, hro, hmo⟩ := repPt_cells hva
      have c0 : wr.cell? ⟨b, off + k * 2, none⟩ = some (.int .i64 a.shard) := hcx 0 _ rfl
      have c1 : wr.cell? ⟨b, off + k * 2 + 1, none⟩ = some (.slice B m d) := hcx 1 _ rfl
      clear hcx hva
      have bo := Blk.new wr 51 [.int .i64 a.shard, .slice B m d]
      have ea := below_box wr (.cells #[.int .i64 a.shard, .slice B m d] 51)
      have hbr2 := below_ext hbr ea
      have hA0 : ∀ W, Calls Try.prog 51 #[.int .i64 a.shard, .int .i64 0, .int .i64 2] W fun e w' => e = .returned (.bool (shardB a.shard)) ∧ Below W.heap.size W w' := fun W => (inRange_any a.shard 0 2 W).mono fun _ _ ⟨he, hw⟩ => ⟨he, hw ▸ Below.refl _ _⟩
      have hS0 : ∀ W, Below (wr.alloc (.cells #[.int .i64 a.shard, .slice B m d] 51)).heap.size (wr.alloc (.cells #[.int .i64 a.shard, .slice B m d] 51)) W → Calls Try.prog 84 #[.slice B m d] W fun e w' => e = .returned (.bool (updB a.us)) ∧ Below W.heap.size W w' := fun W hW => implUpdatesValid_any B m d a.us W ((hro.next ea).next hW).rups hmo
      cases o1 : shardB a.shard
      · have HBAD := Lib.hid (ascP_bad hx (show ptOk a = false by unfold ptOk; rw [o1]; rfl))
        have hA : ∀ W, Calls Try.prog 51 #[.int .i64 a.shard, .int .i64 0, .int .i64 2] W fun e w' => e = .returned (.bool false) ∧ Below W.heap.size W w' := fun W => by rw [← o1]; exact hA0 W
        have hS := hS0
        clear hA0 hS0 hx
        go_wp2
        generalize hW : wr.alloc (.cells #[.int .i64 a.shard, .slice B m d] 51) = wq at *
        have HW := Lib.hid hW
        clear hW
        obtain ⟨e0, e1⟩ := bo.cells2
        have g0 := cell_regrown e0
        have g1 := cell_regrown e1
        clear e0 e1 c0 c1
        refine wp_region_ext (by kernel_rfl) (by kernel_rfl) ?_
        repeat (go_big_quiet_step ((first
          | (go_at_call 51; exact rg_below (hA _))
          | (go_at_call 84; exact rg_below (hS _ (below_regrown _ _ _))))))
        refine wpQuiet_nil ?_
        intro w1 hb1
        go_wp2
        go_ret
        exact ⟨ret_bool (by unfold partsB; rw [HBAD.out]; rfl), below_ext hbr2 hb1⟩
      · have hA : ∀ W, Calls Try.prog 51 #[.int .i64 a.shard, .int .i64 0, .int .i64 2] W fun e w' => e = .returned (.bool true) ∧ Below W.heap.size W w' := fun W => by rw [← o1]; exact hA0 W
        clear hA0
        cases o2 : updB a.us
        · have HBAD := Lib.hid (ascP_bad hx (show ptOk a = false by unfold ptOk; rw [o2]; simp))
          have hS : ∀ W, Below (wr.alloc (.cells #[.int .i64 a.shard, .slice B m d] 51)).heap.size (wr.alloc (.cells #[.int .i64 a.shard, .slice B m d] 51)) W → Calls Try.prog 84 #[.slice B m d] W fun e w' => e = .returned (.bool false) ∧ Below W.heap.size W w' := fun W hW => by rw [← o2]; exact hS0 W hW
          clear hS0 hx
          go_wp2
          generalize hW : wr.alloc (.cells #[.int .i64 a.shard, .slice B m d] 51) = wq at *
          have HW := Lib.hid hW
          clear hW
          obtain ⟨e0, e1⟩ := bo.cells2
          have g0 := cell_regrown e0
          have g1 := cell_regrown e1
          clear e0 e1 c0 c1
          refine wp_region_ext (by kernel_rfl) (by kernel_rfl) ?_
          repeat (go_big_quiet_step ((first
            | (go_at_call 51; exact rg_below (hA _))
            | (go_at_call 84; exact rg_below (hS _ (below_regrown _ _ _))))))
          refine wpQuiet_nil ?_
          intro w1 hb1
          go_wp2
          go_ret
          exact ⟨ret_bool (by unfold partsB; rw [HBAD.out]; rfl), below_ext hbr2 hb1⟩
        · have hS : ∀ W, Below (wr.alloc (.cells #[.int .i64 a.shard, .slice B m d] 51)).heap.size (wr.alloc (.cells #[.int .i64 a.shard, .slice B m d] 51)) W → Calls Try.prog 84 #[.slice B m d] W fun e w' => e = .returned (.bool true) ∧ Below W.heap.size W w' := fun W hW => by rw [← o2]; exact hS0 W hW
          clear hS0
          have HOK := Lib.hid (show ptOk a = true by unfold ptOk; rw [o1, o2]; rfl)
          by_cases hk0 : k = 0
          · subst hk0
            have HT := Lib.hid (show ascP (ps.take (0 + 1)) = true from (chainB_zero _ _ ps a hx).trans HOK.out)
            clear hx
            simp only [Nat.zero_mul, Nat.add_zero] at c0 c1
            go_wp2
            generalize hW : wr.alloc (.cells #[.int .i64 a.shard, .slice B m d] 51) = wq at *
            have HW := Lib.hid hW
            clear hW
            obtain ⟨e0, e1⟩ := bo.cells2
            have g0 := cell_regrown e0
            have g1 := cell_regrown e1
            clear e0 e1 c0 c1
            refine wp_region_ext (by kernel_rfl) (by kernel_rfl) ?_
            repeat (go_big_quiet_step ((first
              | (go_at_call 51; exact rg_below (hA _))
              | (go_at_call 84; exact rg_below (hS _ (below_regrown _ _ _))))))
            refine wpQuiet_nil ?_
            intro w1 hb1
            go_wp2
            go_roundw
            case rel => exact ⟨1, by omega, by go_num, HT.out, below_ext hbr2 hb1⟩
            case measure => simp [intOf]; omega
          · obtain ⟨b', off', a', cs'', hA', _, hx', hcx', hva'⟩ := hr.at_ (k := k - 1) (by omega)
            obtain ⟨rfl, rfl⟩ : b = b' ∧ off = off' := by injection hA' with e; injection e with e1 e2; exact ⟨e1, e2⟩
            obtain ⟨B', m', d', rfl, hro', hmo'⟩ := repPt_cells hva'
            have p0 : wr.cell? ⟨b, off + (k - 1) * 2, none⟩ = some (.int .i64 a'.shard) := hcx' 0 _ rfl
            have p0' := ((ea.cell (p := ⟨b, off + (k - 1) * 2, none⟩) hb).trans p0)
            clear hcx' hva' hro' hmo'
            have hT : ascP (ps.take (k+1)) = decide (a'.shard < a.shard) := by
              obtain ⟨j, rfl⟩ : ∃ j, k = j + 1 := ⟨k - 1, by omega⟩
              unfold ascP
              rw [chainB_succ _ _ ps j a a' hx' hx]
              have := hasc.out
              unfold ascP at this
              rw [this, HOK.out]; simp
            have HF := Lib.hid (chainB_false ptOk (fun a b => decide (a.shard < b.shard)) ps (k+1))
            have HT := Lib.hid hT
            clear hT hx hx' p0
            have hkp : decide (0 < k) = true := by simp; omega
            by_cases hlt2 : a'.shard < a.shard
            · have hcmp : decide (a.shard ≤ a'.shard) = false := decide_eq_false (by omega)
              have HT2 := Lib.hid (HT.out.trans (decide_eq_true hlt2))
              clear hlt2 HT
              have g4 := cell_regrown p0'
              go_wp2
              generalize hW : wr.alloc (.cells #[.int .i64 a.shard, .slice B m d] 51) = wq at *
              have HW := Lib.hid hW
              clear hW
              obtain ⟨e0, e1⟩ := bo.cells2
              have g0 := cell_regrown e0
              have g1 := cell_regrown e1
              clear e0 e1 c0 c1
              refine wp_region_ext (by kernel_rfl) (by kernel_rfl) ?_
              repeat (go_big_quiet_step ((first
                | (go_at_call 51; exact rg_below (hA _))
                | (go_at_call 84; exact rg_below (hS _ (below_regrown _ _ _))))))
              refine wpQuiet_nil ?_
              intro w1 hb1
              go_wp2
              go_roundw
              case rel => exact ⟨k + 1, by omega, by go_num, HT2.out, below_ext hbr2 hb1⟩
              case measure => simp [intOf]; omega
            · have hcmp : decide (a.shard ≤ a'.shard) = true := decide_eq_true (by omega)
              have HBAD := Lib.hid (show ascP ps = false from HF.out (HT.out.trans (decide_eq_false hlt2)))
              clear hlt2 HT
              have g4 := cell_regrown p0'
              go_wp2
              generalize hW : wr.alloc (.cells #[.int .i64 a.shard, .slice B m d] 51) = wq at *
              have HW := Lib.hid hW
              clear hW
              obtain ⟨e0, e1⟩ := bo.cells2
              have g0 := cell_regrown e0
              have g1 := cell_regrown e1
              clear e0 e1 c0 c1
              refine wp_region_ext (by kernel_rfl) (by kernel_rfl) ?_
              repeat (go_big_quiet_step ((first
                | (go_at_call 51; exact rg_below (hA _))
                | (go_at_call 84; exact rg_below (hS _ (below_regrown _ _ _))))))
              refine wpQuiet_nil ?_
              intro w1 hb1
              go_wp2
              go_ret
              exact ⟨ret_bool (by unfold partsB; rw [HBAD.out]; rfl), below_ext hbr2 hb1⟩
    · obtain rfl : k = n := by omega
      rw [List.take_of_length_le (by omega)] at hasc
      have HA := Lib.hid hasc.out
      go_wp2_with fail
      go_ret
      exact ⟨ret_bool (by unfold partsB; rw [HA.out, hl]; simp), hbr⟩

set_option maxHeartbeats 3200000 in
theorem specParts_any (A : Option Addr) (n c : Nat) (ps : List Pt) (w : World) (h : RSl repPt 0 w A n ps) (hn : n ≤ maxLen) :
    Calls Try.prog 63 #[.slice A n c] w fun e w' => e = .returned (.bool (partsB ps)) ∧ Below w.heap.size w w' := by
  unfold maxLen at hn
  have hl := h.1
  go_enter Try.func63, Try.ntmps63
  go_wp2
  go_loopw [3] (fun i wr => ∃ k : Nat, k ≤ n ∧ i = .int .i64 k ∧ Hid (ascP (ps.take k) = true) ∧ Below w.heap.size w wr) (fun i _ => n - (intOf i).toNat)
  case atStart => exact ⟨0, Nat.zero_le _, rfl, rfl, Below.refl _ _⟩
  case round =>
    obtain ⟨k, hk, rfl, hasc, hbr⟩ := hrel
    have hr := h.next hbr
    by_cases hlt : k < n
    · obtain ⟨b, off, a, cs', rfl, hb, hx, hcx, hva⟩ := hr.at_ hlt
      obtain ⟨B, m, d, rfl, hro, hmo⟩ := repPt_cells hva
      have c0 : wr.cell? ⟨b, off + k * 2, none⟩ = some (.int .i64 a.shard) := hcx 0 _ rfl
      have c1 : wr.cell? ⟨b, off + k * 2 + 1, none⟩ = some (.slice B m d) := hcx 1 _ rfl
      clear hcx hva
      have hbr2 := hbr
      have hA0 : ∀ W, Calls Try.prog 35 #[.int .i64 a.shard, .int .i64 0, .int .i64 2] W fun e w' => e = .returned (.bool (shardB a.shard)) ∧ Below W.heap.size W w' := fun W => (l6In_any a.shard 0 2 W).mono fun _ _ ⟨he, hw⟩ => ⟨he, hw ▸ Below.refl _ _⟩
      have hS0 : ∀ W, Below wr.heap.size wr W → Calls Try.prog 83 #[.slice B m d] W fun e w' => e = .returned (.bool (updB a.us)) ∧ Below W.heap.size W w' := fun W hW => specUpdatesValid_any B m d a.us W (hro.next hW).rups hmo
      cases o1 : shardB a.shard
      · have HBAD := Lib.hid (ascP_bad hx (show ptOk a = false by unfold ptOk; rw [o1]; rfl))
        have hA : ∀ W, Calls Try.prog 35 #[.int .i64 a.shard, .int .i64 0, .int .i64 2] W fun e w' => e = .returned (.bool false) ∧ Below W.heap.size W w' := fun W => by rw [← o1]; exact hA0 W
        have hS := hS0
        clear hA0 hS0 hx
        go_wp2
        have g0 := cell_regrown c0
        have g1 := cell_regrown c1
        clear c0 c1
        refine wp_region_ext (by kernel_rfl) (by kernel_rfl) ?_
        repeat (go_big_quiet_step ((first
          | (go_at_call 35; exact rg_below (hA _))
          | (go_at_call 83; exact rg_below (hS _ (below_regrown _ _ _))))))
        refine wpQuiet_nil ?_
        intro w1 hb1
        go_wp2
        go_ret
        exact ⟨ret_bool (by unfold partsB; rw [HBAD.out]; rfl), below_ext hbr2 hb1⟩
      · have hA : ∀ W, Calls Try.prog 35 #[.int .i64 a.shard, .int .i64 0, .int .i64 2] W fun e w' => e = .returned (.bool true) ∧ Below W.heap.size W w' := fun W => by rw [← o1]; exact hA0 W
        clear hA0
        cases o2 : updB a.us
        · have HBAD := Lib.hid (ascP_bad hx (show ptOk a = false by unfold ptOk; rw [o2]; simp))
          have hS : ∀ W, Below wr.heap.size wr W → Calls Try.prog 83 #[.slice B m d] W fun e w' => e = .returned (.bool false) ∧ Below W.heap.size W w' := fun W hW => by rw [← o2]; exact hS0 W hW
          clear hS0 hx
          go_wp2
          have g0 := cell_regrown c0
          have g1 := cell_regrown c1
          clear c0 c1
          refine wp_region_ext (by kernel_rfl) (by kernel_rfl) ?_
          repeat (go_big_quiet_step ((first
            | (go_at_call 35; exact rg_below (hA _))
            | (go_at_call 83; exact rg_below (hS _ (below_regrown _ _ _))))))
          refine wpQuiet_nil ?_
          intro w1 hb1
          go_wp2
          go_ret
          exact ⟨ret_bool (by unfold partsB; rw [HBAD.out]; rfl), below_ext hbr2 hb1⟩
        · have hS : ∀ W, Below wr.heap.size wr W → Calls Try.prog 83 #[.slice B m d] W fun e w' => e = .returned (.bool true) ∧ Below W.heap.size W w' := fun W hW => by rw [← o2]; exact hS0 W hW
          clear hS0
          have HOK := Lib.hid (show ptOk a = true by unfold ptOk; rw [o1, o2]; rfl)
          by_cases hk0 : k = 0
          · subst hk0
            have HT := Lib.hid (show ascP (ps.take (0 + 1)) = true from (chainB_zero _ _ ps a hx).trans HOK.out)
            clear hx
            simp only [Nat.zero_mul, Nat.add_zero] at c0 c1
            go_wp2
            have g0 := cell_regrown c0
            have g1 := cell_regrown c1
            clear c0 c1
            refine wp_region_ext (by kernel_rfl) (by kernel_rfl) ?_
            repeat (go_big_quiet_step ((first
              | (go_at_call 35; exact rg_below (hA _))
              | (go_at_call 83; exact rg_below (hS _ (below_regrown _ _ _))))))
            refine wpQuiet_nil ?_
            intro w1 hb1
            go_wp2
            go_roundw
            case rel => exact ⟨1, by omega, by go_num, HT.out, below_ext hbr2 hb1⟩
            case measure => simp [intOf]; omega
          · obtain ⟨b', off', a', cs'', hA', _, hx', hcx', hva'⟩ := hr.at_ (k := k - 1) (by omega)
            obtain ⟨rfl, rfl⟩ : b = b' ∧ off = off' := by injection hA' with e; injection e with e1 e2; exact ⟨e1, e2⟩
            obtain ⟨B', m', d', rfl, hro', hmo'⟩ := repPt_cells hva'
            have p0 : wr.cell? ⟨b, off + (k - 1) * 2, none⟩ = some (.int .i64 a'.shard) := hcx' 0 _ rfl
            have p0' := p0
            clear hcx' hva' hro' hmo'
            have hT : ascP (ps.take (k+1)) = decide (a'.shard < a.shard) := by
              obtain ⟨j, rfl⟩ : ∃ j, k = j + 1 := ⟨k - 1, by omega⟩
              unfold ascP
              rw [chainB_succ _ _ ps j a a' hx' hx]
              have := hasc.out
              unfold ascP at this
              rw [this, HOK.out]; simp
            have HF := Lib.hid (chainB_false ptOk (fun a b => decide (a.shard < b.shard)) ps (k+1))
            have HT := Lib.hid hT
            clear hT hx hx' p0
            have hkp : decide (0 < k) = true := by simp; omega
            by_cases hlt2 : a'.shard < a.shard
            · have hcmp : decide (a.shard ≤ a'.shard) = false := decide_eq_false (by omega)
              have HT2 := Lib.hid (HT.out.trans (decide_eq_true hlt2))
              clear hlt2 HT
              have g4 := cell_regrown p0'
              go_wp2
              have g0 := cell_regrown c0
              have g1 := cell_regrown c1
              clear c0 c1
              refine wp_region_ext (by kernel_rfl) (by kernel_rfl) ?_
              repeat (go_big_quiet_step ((first
                | (go_at_call 35; exact rg_below (hA _))
                | (go_at_call 83; exact rg_below (hS _ (below_regrown _ _ _))))))
              refine wpQuiet_nil ?_
              intro w1 hb1
              go_wp2
              go_roundw
              case rel => exact ⟨k + 1, by omega, by go_num, HT2.out, below_ext hbr2 hb1⟩
              case measure => simp [intOf]; omega
            · have hcmp : decide (a.shard ≤ a'.shard) = true := decide_eq_true (by omega)
              have HBAD := Lib.hid (show ascP ps = false from HF.out (HT.out.trans (decide_eq_false hlt2)))
              clear hlt2 HT
              have g4 := cell_regrown p0'
              go_wp2
              have g0 := cell_regrown c0
              have g1 := cell_regrown c1
              clear c0 c1
              refine wp_region_ext (by kernel_rfl) (by kernel_rfl) ?_
              repeat (go_big_quiet_step ((first
                | (go_at_call 35; exact rg_below (hA _))
                | (go_at_call 83; exact rg_below (hS _ (below_regrown _ _ _))))))
              refine wpQuiet_nil ?_
              intro w1 hb1
              go_wp2
              go_ret
              exact ⟨ret_bool (by unfold partsB; rw [HBAD.out]; rfl), below_ext hbr2 hb1⟩
    · obtain rfl : k = n := by omega
      rw [List.take_of_length_le (by omega)] at hasc
      have HA := Lib.hid hasc.out
      go_wp2_with fail
      go_ret
      exact ⟨ret_bool (by unfold partsB; rw [HA.out, hl]; simp), hbr⟩
end Go.Proofs.Ytlmcejpjhdaanaa
