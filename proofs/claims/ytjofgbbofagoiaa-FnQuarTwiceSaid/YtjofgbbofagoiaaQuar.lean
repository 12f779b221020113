/- Walks: quarantines: QuarantineValid, the program's and the reference's. -/
import Derived.Test.YtjofgbbofagoiaaDataQ
import Derived.Test.YtjofgbbofagoiaaTxnB
import Derived.WalkSpells
import Derived.WalkLawsBesides
import Derived.Handy
import Derived.BigQuiet
namespace Go.Proofs.Ytjofgbbofagoiaa
open Go.RowKit Go.Sort

def fullB (os : List Ob) : Bool := decide (0 < os.length) && storeB os
def arOk (a : Ar) : Bool := txnB a.t && (storeB a.os && decide (0 < a.os.length))
theorem fullB_eq (os : List Ob) : fullB os = (storeB os && decide (0 < os.length)) := Bool.and_comm _ _
def ascA (l : List Ar) : Bool := chainB arOk (fun a b => decide (a.t < b.t)) l
def quarB (q : Qu) : Bool := ascA q.ars && (storeB q.main && decide ((q.ars.length : Int) ≤ 4))
theorem asc_bad {l : List Ar} {k : Nat} {a : Ar} (hx : l[k]? = some a) (h : arOk a = false) : ascA l = false := by
  refine chainB_false arOk (fun a b => decide (a.t < b.t)) l (k+1) ?_
  have hk := (List.getElem?_eq_some_iff.1 hx).1
  cases k with
  | zero => exact (chainB_zero _ _ l a hx).trans h
  | succ k => rw [chainB_succ _ _ l k a (l[k]'(by omega)) (List.getElem?_eq_getElem _) hx, h]; simp

set_option maxHeartbeats 800000 in
theorem fullStore_any (A : Option Addr) (n c : Nat) (os : List Ob) (w : World) (h : RObjs w A n os) (hn : n ≤ maxLen) :
    Calls Try.prog 60 #[.slice A n c] w fun e w' => e = .returned (.bool (fullB os)) ∧ Below w.heap.size w w' := by
  have hl := h.1
  by_cases hz : n = 0
  · subst hz
    go_enter Try.func60, Try.ntmps60
    go_wp2_with fail
    go_ret
    exact ⟨ret_bool (by unfold fullB; rw [hl]; rfl), Below.refl _ _⟩
  · have hp : (0 : Int) < n := by omega
    go_enter Try.func60, Try.ntmps60
    go_wp2_with fail
    refine (implStoreValid_any A n c os w h hn).mono ?_
    rintro e w1 ⟨rfl, hb1⟩
    go_wp2_with fail
    go_ret
    exact ⟨ret_bool (by unfold fullB; rw [decide_eq_true (by omega : 0 < os.length)]; rfl), hb1⟩

set_option maxHeartbeats 3200000 in
theorem implQuarantineValid_any (cs : List Value) (q : Qu) (w : World) (hv : repQu.V 0 w cs q) :
    Calls Try.prog 20 #[.agg cs.toArray] w fun e w' => e = .returned (.bool (quarB q)) ∧ Below w.heap.size w w' := by
  obtain ⟨B0, m0, d0, B1, m1, d1, rfl, hr0, hm0, hr1, hm1⟩ := repQu_cells hv
  unfold maxLen at hm1
  have hl := hr1.1
  have hbx := below_box w (.cells #[.slice B0 m0 d0, .slice B1 m1 d1] 26)
  have bx := Blk.new w 26 [.slice B0 m0 d0, .slice B1 m1 d1]
  obtain ⟨x0, x1⟩ := bx.cells2
  go_enter Try.func20, Try.ntmps20
  go_wp2
  go_loopw [8] (fun i wr => ∃ k : Nat, k ≤ m1 ∧ i = .int .i64 k ∧ Hid (ascA (q.ars.take k) = true) ∧ Below w.heap.size w wr ∧ Blk wr w.heap.size 26 [.slice B0 m0 d0, .slice B1 m1 d1]) (fun i _ => m1 - (intOf i).toNat)
  case atStart => exact ⟨0, Nat.zero_le _, rfl, rfl, hbx, bx⟩
  case round =>
    obtain ⟨k, hk, rfl, hasc, hbr, hbo⟩ := hrel
    have hr := hr1.next hbr
    obtain ⟨z0, z1⟩ := hbo.cells2
    by_cases hlt : k < m1
    · obtain ⟨b, off, a, cs', rfl, hb, hx, hcx, hva⟩ := hr.at_ hlt
      obtain ⟨B, m, d, rfl, hro, hmo⟩ := repAr_cells hva
      have c0 : wr.cell? ⟨b, off + k * 2, none⟩ = some (.int .i64 a.t) := hcx 0 _ rfl
      have c1 : wr.cell? ⟨b, off + k * 2 + 1, none⟩ = some (.slice B m d) := hcx 1 _ rfl
      clear hcx hva
      have bo := Blk.new wr 70 [.int .i64 a.t, .slice B m d]
      have ea := below_box wr (.cells #[.int .i64 a.t, .slice B m d] 70)
      have hbr2 := below_ext hbr ea
      obtain ⟨y0, y1⟩ := (hbo.next ea).cells2
      have hlo := hro.1
      have hA0 : ∀ W, Calls Try.prog 43 #[.int .i64 a.t] W fun e w' => e = .returned (.bool (txnB a.t)) ∧ Below W.heap.size W w' := fun W => (isTxn_any a.t W).mono fun _ _ ⟨he, hw⟩ => ⟨he, hw ▸ Below.refl _ _⟩
      have hS0 : ∀ W, Below (wr.alloc (.cells #[.int .i64 a.t, .slice B m d] 70)).heap.size (wr.alloc (.cells #[.int .i64 a.t, .slice B m d] 70)) W → Calls Try.prog 60 #[.slice B m d] W fun e w' => e = .returned (.bool (fullB a.os)) ∧ Below W.heap.size W w' := fun W hW => fullStore_any B m d a.os W ((hro.next ea).next hW).robjs hmo
      cases o1 : txnB a.t
      · have HBAD := Lib.hid (asc_bad hx (show arOk a = false by unfold arOk; rw [o1]; rfl))
        have hA : ∀ W, Calls Try.prog 43 #[.int .i64 a.t] W fun e w' => e = .returned (.bool false) ∧ Below W.heap.size W w' := fun W => by rw [← o1]; exact hA0 W
        have hS := hS0
        clear hA0 hS0 hx
        go_wp2
        generalize hW : wr.alloc (.cells #[.int .i64 a.t, .slice B m d] 70) = wq at *
        have HW := Lib.hid hW
        clear hW
        obtain ⟨e0, e1⟩ := bo.cells2
        have g0 := cell_regrown e0
        have g1 := cell_regrown e1
        have g2 := cell_regrown y0
        have g3 := cell_regrown y1
        clear e0 e1 c0 c1 y0 y1
        refine wp_region_ext (by kernel_rfl) (by kernel_rfl) ?_
        repeat (go_big_quiet_step ((first
          | (go_at_call 43; exact rg_below (hA _))
          | (go_at_call 60; exact rg_below (hS _ (below_regrown _ _ _))))))
        refine wpQuiet_nil ?_
        intro w1 hb1
        go_wp2
        go_ret
        exact ⟨ret_bool (by unfold quarB; rw [HBAD.out]; rfl), below_ext hbr2 hb1⟩
      · have hA : ∀ W, Calls Try.prog 43 #[.int .i64 a.t] W fun e w' => e = .returned (.bool true) ∧ Below W.heap.size W w' := fun W => by rw [← o1]; exact hA0 W
        clear hA0
        cases o2 : fullB a.os
        · have HBAD := Lib.hid (asc_bad hx (show arOk a = false by unfold arOk; rw [fullB_eq] at o2; rw [o2]; simp))
          have hS : ∀ W, Below (wr.alloc (.cells #[.int .i64 a.t, .slice B m d] 70)).heap.size (wr.alloc (.cells #[.int .i64 a.t, .slice B m d] 70)) W → Calls Try.prog 60 #[.slice B m d] W fun e w' => e = .returned (.bool false) ∧ Below W.heap.size W w' := fun W hW => by rw [← o2]; exact hS0 W hW
          clear hS0 hx
          go_wp2
          generalize hW : wr.alloc (.cells #[.int .i64 a.t, .slice B m d] 70) = wq at *
          have HW := Lib.hid hW
          clear hW
          obtain ⟨e0, e1⟩ := bo.cells2
          have g0 := cell_regrown e0
          have g1 := cell_regrown e1
          have g2 := cell_regrown y0
          have g3 := cell_regrown y1
          clear e0 e1 c0 c1 y0 y1
          refine wp_region_ext (by kernel_rfl) (by kernel_rfl) ?_
          repeat (go_big_quiet_step ((first
            | (go_at_call 43; exact rg_below (hA _))
            | (go_at_call 60; exact rg_below (hS _ (below_regrown _ _ _))))))
          refine wpQuiet_nil ?_
          intro w1 hb1
          go_wp2
          go_ret
          exact ⟨ret_bool (by unfold quarB; rw [HBAD.out]; rfl), below_ext hbr2 hb1⟩
        · have hS : ∀ W, Below (wr.alloc (.cells #[.int .i64 a.t, .slice B m d] 70)).heap.size (wr.alloc (.cells #[.int .i64 a.t, .slice B m d] 70)) W → Calls Try.prog 60 #[.slice B m d] W fun e w' => e = .returned (.bool true) ∧ Below W.heap.size W w' := fun W hW => by rw [← o2]; exact hS0 W hW
          clear hS0
          have hok : arOk a = true := by unfold arOk; rw [o1]; rw [fullB_eq] at o2; rw [o2]; rfl
          have HOK := Lib.hid hok
          clear hok
          by_cases hk0 : k = 0
          · subst hk0
            have HT := Lib.hid (show ascA (q.ars.take (0 + 1)) = true from (chainB_zero _ _ q.ars a hx).trans HOK.out)
            clear hx
            simp only [Nat.zero_mul, Nat.add_zero] at c0 c1
            go_wp2
            generalize hW : wr.alloc (.cells #[.int .i64 a.t, .slice B m d] 70) = wq at *
            have HW := Lib.hid hW
            clear hW
            obtain ⟨e0, e1⟩ := bo.cells2
            have g0 := cell_regrown e0
            have g1 := cell_regrown e1
            have g2 := cell_regrown y0
            have g3 := cell_regrown y1
            clear e0 e1 c0 c1 y0 y1
            refine wp_region_ext (by kernel_rfl) (by kernel_rfl) ?_
            repeat (go_big_quiet_step ((first
              | (go_at_call 43; exact rg_below (hA _))
              | (go_at_call 60; exact rg_below (hS _ (below_regrown _ _ _))))))
            refine wpQuiet_nil ?_
            intro w1 hb1
            go_wp2
            go_roundw
            case rel => exact ⟨1, by omega, by go_num, HT.out, below_ext hbr2 hb1, (hbo.next ea).next hb1⟩
            case measure => simp [intOf]; omega
          · obtain ⟨b', off', a', cs'', hA', _, hx', hcx', hva'⟩ := hr.at_ (k := k - 1) (by omega)
            obtain ⟨rfl, rfl⟩ : b = b' ∧ off = off' := by injection hA' with e; injection e with e1 e2; exact ⟨e1, e2⟩
            obtain ⟨B', m', d', rfl, hro', hmo'⟩ := repAr_cells hva'
            have p0 : wr.cell? ⟨b, off + (k - 1) * 2, none⟩ = some (.int .i64 a'.t) := hcx' 0 _ rfl
            have p0' := (ea.cell (p := ⟨b, off + (k - 1) * 2, none⟩) hb).trans p0
            clear hcx' hva' hro' hmo'
            have hT : ascA (q.ars.take (k+1)) = decide (a'.t < a.t) := by
              obtain ⟨j, rfl⟩ : ∃ j, k = j + 1 := ⟨k - 1, by omega⟩
              unfold ascA
              rw [chainB_succ _ _ q.ars j a a' hx' hx]
              have := hasc.out
              unfold ascA at this
              rw [this, HOK.out]; simp
            have HF := Lib.hid (chainB_false arOk (fun a b => decide (a.t < b.t)) q.ars (k+1))
            have HT := Lib.hid hT
            clear hT hx hx' p0
            have hkp : decide (0 < k) = true := by simp; omega
            by_cases hlt2 : a'.t < a.t
            · have hcmp : decide (a.t ≤ a'.t) = false := decide_eq_false (by omega)
              have HT2 := Lib.hid (HT.out.trans (decide_eq_true hlt2))
              clear hlt2 HT
              have g4 := cell_regrown p0'
              go_wp2
              generalize hW : wr.alloc (.cells #[.int .i64 a.t, .slice B m d] 70) = wq at *
              have HW := Lib.hid hW
              clear hW
              obtain ⟨e0, e1⟩ := bo.cells2
              have g0 := cell_regrown e0
              have g1 := cell_regrown e1
              have g2 := cell_regrown y0
              have g3 := cell_regrown y1
              clear e0 e1 c0 c1 y0 y1
              refine wp_region_ext (by kernel_rfl) (by kernel_rfl) ?_
              repeat (go_big_quiet_step ((first
                | (go_at_call 43; exact rg_below (hA _))
                | (go_at_call 60; exact rg_below (hS _ (below_regrown _ _ _))))))
              refine wpQuiet_nil ?_
              intro w1 hb1
              go_wp2
              go_roundw
              case rel => exact ⟨k + 1, by omega, by go_num, HT2.out, below_ext hbr2 hb1, (hbo.next ea).next hb1⟩
              case measure => simp [intOf]; omega
            · have hcmp : decide (a.t ≤ a'.t) = true := decide_eq_true (by omega)
              have HBAD := Lib.hid (show ascA q.ars = false from HF.out (HT.out.trans (decide_eq_false hlt2)))
              clear hlt2 HT
              have g4 := cell_regrown p0'
              go_wp2
              generalize hW : wr.alloc (.cells #[.int .i64 a.t, .slice B m d] 70) = wq at *
              have HW := Lib.hid hW
              clear hW
              obtain ⟨e0, e1⟩ := bo.cells2
              have g0 := cell_regrown e0
              have g1 := cell_regrown e1
              have g2 := cell_regrown y0
              have g3 := cell_regrown y1
              clear e0 e1 c0 c1 y0 y1
              refine wp_region_ext (by kernel_rfl) (by kernel_rfl) ?_
              repeat (go_big_quiet_step ((first
                | (go_at_call 43; exact rg_below (hA _))
                | (go_at_call 60; exact rg_below (hS _ (below_regrown _ _ _))))))
              refine wpQuiet_nil ?_
              intro w1 hb1
              go_wp2
              go_ret
              exact ⟨ret_bool (by unfold quarB; rw [HBAD.out]; rfl), below_ext hbr2 hb1⟩
    · obtain rfl : k = m1 := by omega
      rw [List.take_of_length_le (by omega)] at hasc
      have HA := Lib.hid hasc.out
      go_wp2_with fail
      refine (implStoreValid_any B0 m0 d0 q.main _ (hr0.next hbr).robjs hm0).mono ?_
      rintro e w2 ⟨rfl, hb2⟩
      obtain ⟨y0, y1⟩ := (hbo.next hb2).cells2
      cases h1 : storeB q.main
      · go_wp2_with fail
        go_ret
        exact ⟨ret_bool (by unfold quarB; rw [h1]; simp), below_ext hbr hb2⟩
      · go_wp2_with fail
        go_ret
        exact ⟨ret_bool (by unfold quarB; rw [HA.out, h1, hl]; first | rfl | simp), below_ext hbr hb2⟩

set_option maxHeartbeats 3200000 in
theorem specQuarantineValid_any (cs : List Value) (q : Qu) (w : World) (hv : repQu.V 0 w cs q) :
    Calls Try.prog 18 #[.agg cs.toArray] w fun e w' => e = .returned (.bool (quarB q)) ∧ Below w.heap.size w w' := by
  obtain ⟨B0, m0, d0, B1, m1, d1, rfl, hr0, hm0, hr1, hm1⟩ := repQu_cells hv
  unfold maxLen at hm1
  have hl := hr1.1
  have hbx := below_box w (.cells #[.slice B0 m0 d0, .slice B1 m1 d1] 26)
  have bx := Blk.new w 26 [.slice B0 m0 d0, .slice B1 m1 d1]
  obtain ⟨x0, x1⟩ := bx.cells2
  go_enter Try.func18, Try.ntmps18
  go_wp2
  go_loopw [3] (fun i wr => ∃ k : Nat, k ≤ m1 ∧ i = .int .i64 k ∧ Hid (ascA (q.ars.take k) = true) ∧ Below w.heap.size w wr ∧ Blk wr w.heap.size 26 [.slice B0 m0 d0, .slice B1 m1 d1]) (fun i _ => m1 - (intOf i).toNat)
  case atStart => exact ⟨0, Nat.zero_le _, rfl, rfl, hbx, bx⟩
  case round =>
    obtain ⟨k, hk, rfl, hasc, hbr, hbo⟩ := hrel
    have hr := hr1.next hbr
    obtain ⟨z0, z1⟩ := hbo.cells2
    by_cases hlt : k < m1
    · obtain ⟨b, off, a, cs', rfl, hb, hx, hcx, hva⟩ := hr.at_ hlt
      obtain ⟨B, m, d, rfl, hro, hmo⟩ := repAr_cells hva
      have c0 : wr.cell? ⟨b, off + k * 2, none⟩ = some (.int .i64 a.t) := hcx 0 _ rfl
      have c1 : wr.cell? ⟨b, off + k * 2 + 1, none⟩ = some (.slice B m d) := hcx 1 _ rfl
      clear hcx hva
      have bo := Blk.new wr 70 [.int .i64 a.t, .slice B m d]
      have ea := below_box wr (.cells #[.int .i64 a.t, .slice B m d] 70)
      have hbr2 := below_ext hbr ea
      obtain ⟨y0, y1⟩ := (hbo.next ea).cells2
      have hlo := hro.1
      have hA0 : ∀ W, Calls Try.prog 48 #[.int .i64 a.t] W fun e w' => e = .returned (.bool (txnB a.t)) ∧ Below W.heap.size W w' := fun W => (l12Txn_any a.t W).mono fun _ _ ⟨he, hw⟩ => ⟨he, hw ▸ Below.refl _ _⟩
      have hS0 : ∀ W, Below (wr.alloc (.cells #[.int .i64 a.t, .slice B m d] 70)).heap.size (wr.alloc (.cells #[.int .i64 a.t, .slice B m d] 70)) W → Calls Try.prog 57 #[.slice B m d] W fun e w' => e = .returned (.bool (storeB a.os)) ∧ Below W.heap.size W w' := fun W hW => specStoreValid_any B m d a.os W ((hro.next ea).next hW).robjs hmo
      cases o1 : txnB a.t
      · have HBAD := Lib.hid (asc_bad hx (show arOk a = false by unfold arOk; rw [o1]; rfl))
        have hA : ∀ W, Calls Try.prog 48 #[.int .i64 a.t] W fun e w' => e = .returned (.bool false) ∧ Below W.heap.size W w' := fun W => by rw [← o1]; exact hA0 W
        have hS := hS0
        clear hA0 hS0 hx
        go_wp2
        generalize hW : wr.alloc (.cells #[.int .i64 a.t, .slice B m d] 70) = wq at *
        have HW := Lib.hid hW
        clear hW
        obtain ⟨e0, e1⟩ := bo.cells2
        have g0 := cell_regrown e0
        have g1 := cell_regrown e1
        have g2 := cell_regrown y0
        have g3 := cell_regrown y1
        clear e0 e1 c0 c1 y0 y1
        refine wp_region_ext (by kernel_rfl) (by kernel_rfl) ?_
        repeat (go_big_quiet_step ((first
          | (go_at_call 48; exact rg_below (hA _))
          | (go_at_call 57; exact rg_below (hS _ (below_regrown _ _ _))))))
        refine wpQuiet_nil ?_
        intro w1 hb1
        go_wp2
        go_ret
        exact ⟨ret_bool (by unfold quarB; rw [HBAD.out]; rfl), below_ext hbr2 hb1⟩
      · have hA : ∀ W, Calls Try.prog 48 #[.int .i64 a.t] W fun e w' => e = .returned (.bool true) ∧ Below W.heap.size W w' := fun W => by rw [← o1]; exact hA0 W
        clear hA0
        cases o2 : storeB a.os
        · have HBAD := Lib.hid (asc_bad hx (show arOk a = false by unfold arOk; rw [o2]; simp))
          have hS : ∀ W, Below (wr.alloc (.cells #[.int .i64 a.t, .slice B m d] 70)).heap.size (wr.alloc (.cells #[.int .i64 a.t, .slice B m d] 70)) W → Calls Try.prog 57 #[.slice B m d] W fun e w' => e = .returned (.bool false) ∧ Below W.heap.size W w' := fun W hW => by rw [← o2]; exact hS0 W hW
          clear hS0 hx
          go_wp2
          generalize hW : wr.alloc (.cells #[.int .i64 a.t, .slice B m d] 70) = wq at *
          have HW := Lib.hid hW
          clear hW
          obtain ⟨e0, e1⟩ := bo.cells2
          have g0 := cell_regrown e0
          have g1 := cell_regrown e1
          have g2 := cell_regrown y0
          have g3 := cell_regrown y1
          clear e0 e1 c0 c1 y0 y1
          refine wp_region_ext (by kernel_rfl) (by kernel_rfl) ?_
          repeat (go_big_quiet_step ((first
            | (go_at_call 48; exact rg_below (hA _))
            | (go_at_call 57; exact rg_below (hS _ (below_regrown _ _ _))))))
          refine wpQuiet_nil ?_
          intro w1 hb1
          go_wp2
          go_ret
          exact ⟨ret_bool (by unfold quarB; rw [HBAD.out]; rfl), below_ext hbr2 hb1⟩
        · have hS : ∀ W, Below (wr.alloc (.cells #[.int .i64 a.t, .slice B m d] 70)).heap.size (wr.alloc (.cells #[.int .i64 a.t, .slice B m d] 70)) W → Calls Try.prog 57 #[.slice B m d] W fun e w' => e = .returned (.bool true) ∧ Below W.heap.size W w' := fun W hW => by rw [← o2]; exact hS0 W hW
          clear hS0
          by_cases hz : m = 0
          · have HBAD := Lib.hid (asc_bad hx (show arOk a = false by unfold arOk; rw [decide_eq_false (show ¬ (0 < a.os.length) by omega)]; simp))
            have hzb : ((m : Int) == 0) = true := by simp; omega
            clear hx hz
            go_wp2
            generalize hW : wr.alloc (.cells #[.int .i64 a.t, .slice B m d] 70) = wq at *
            have HW := Lib.hid hW
            clear hW
            obtain ⟨e0, e1⟩ := bo.cells2
            have g0 := cell_regrown e0
            have g1 := cell_regrown e1
            have g2 := cell_regrown y0
            have g3 := cell_regrown y1
            clear e0 e1 c0 c1 y0 y1
            refine wp_region_ext (by kernel_rfl) (by kernel_rfl) ?_
            repeat (go_big_quiet_step ((first
              | (go_at_call 48; exact rg_below (hA _))
              | (go_at_call 57; exact rg_below (hS _ (below_regrown _ _ _))))))
            refine wpQuiet_nil ?_
            intro w1 hb1
            go_wp2
            go_ret
            exact ⟨ret_bool (by unfold quarB; rw [HBAD.out]; rfl), below_ext hbr2 hb1⟩
          have hzb : ((m : Int) == 0) = false := by simp; omega
          have hok : arOk a = true := by unfold arOk; rw [o1]; rw [o2]; simp; omega
          have HOK := Lib.hid hok
          clear hok
          by_cases hk0 : k = 0
          · subst hk0
            have HT := Lib.hid (show ascA (q.ars.take (0 + 1)) = true from (chainB_zero _ _ q.ars a hx).trans HOK.out)
            clear hx
            simp only [Nat.zero_mul, Nat.add_zero] at c0 c1
            go_wp2
            generalize hW : wr.alloc (.cells #[.int .i64 a.t, .slice B m d] 70) = wq at *
            have HW := Lib.hid hW
            clear hW
            obtain ⟨e0, e1⟩ := bo.cells2
            have g0 := cell_regrown e0
            have g1 := cell_regrown e1
            have g2 := cell_regrown y0
            have g3 := cell_regrown y1
            clear e0 e1 c0 c1 y0 y1
            refine wp_region_ext (by kernel_rfl) (by kernel_rfl) ?_
            repeat (go_big_quiet_step ((first
              | (go_at_call 48; exact rg_below (hA _))
              | (go_at_call 57; exact rg_below (hS _ (below_regrown _ _ _))))))
            refine wpQuiet_nil ?_
            intro w1 hb1
            go_wp2
            go_roundw
            case rel => exact ⟨1, by omega, by go_num, HT.out, below_ext hbr2 hb1, (hbo.next ea).next hb1⟩
            case measure => simp [intOf]; omega
          · obtain ⟨b', off', a', cs'', hA', _, hx', hcx', hva'⟩ := hr.at_ (k := k - 1) (by omega)
            obtain ⟨rfl, rfl⟩ : b = b' ∧ off = off' := by injection hA' with e; injection e with e1 e2; exact ⟨e1, e2⟩
            obtain ⟨B', m', d', rfl, hro', hmo'⟩ := repAr_cells hva'
            have p0 : wr.cell? ⟨b, off + (k - 1) * 2, none⟩ = some (.int .i64 a'.t) := hcx' 0 _ rfl
            have p0' := (ea.cell (p := ⟨b, off + (k - 1) * 2, none⟩) hb).trans p0
            clear hcx' hva' hro' hmo'
            have hT : ascA (q.ars.take (k+1)) = decide (a'.t < a.t) := by
              obtain ⟨j, rfl⟩ : ∃ j, k = j + 1 := ⟨k - 1, by omega⟩
              unfold ascA
              rw [chainB_succ _ _ q.ars j a a' hx' hx]
              have := hasc.out
              unfold ascA at this
              rw [this, HOK.out]; simp
            have HF := Lib.hid (chainB_false arOk (fun a b => decide (a.t < b.t)) q.ars (k+1))
            have HT := Lib.hid hT
            clear hT hx hx' p0
            have hkp : decide (0 < k) = true := by simp; omega
            by_cases hlt2 : a'.t < a.t
            · have hcmp : decide (a.t ≤ a'.t) = false := decide_eq_false (by omega)
              have HT2 := Lib.hid (HT.out.trans (decide_eq_true hlt2))
              clear hlt2 HT
              have g4 := cell_regrown p0'
              go_wp2
              generalize hW : wr.alloc (.cells #[.int .i64 a.t, .slice B m d] 70) = wq at *
              have HW := Lib.hid hW
              clear hW
              obtain ⟨e0, e1⟩ := bo.cells2
              have g0 := cell_regrown e0
              have g1 := cell_regrown e1
              have g2 := cell_regrown y0
              have g3 := cell_regrown y1
              clear e0 e1 c0 c1 y0 y1
              refine wp_region_ext (by kernel_rfl) (by kernel_rfl) ?_
              repeat (go_big_quiet_step ((first
                | (go_at_call 48; exact rg_below (hA _))
                | (go_at_call 57; exact rg_below (hS _ (below_regrown _ _ _))))))
              refine wpQuiet_nil ?_
              intro w1 hb1
              go_wp2
              go_roundw
              case rel => exact ⟨k + 1, by omega, by go_num, HT2.out, below_ext hbr2 hb1, (hbo.next ea).next hb1⟩
              case measure => simp [intOf]; omega
            · have hcmp : decide (a.t ≤ a'.t) = true := decide_eq_true (by omega)
              have HBAD := Lib.hid (show ascA q.ars = false from HF.out (HT.out.trans (decide_eq_false hlt2)))
              clear hlt2 HT
              have g4 := cell_regrown p0'
              go_wp2
              generalize hW : wr.alloc (.cells #[.int .i64 a.t, .slice B m d] 70) = wq at *
              have HW := Lib.hid hW
              clear hW
              obtain ⟨e0, e1⟩ := bo.cells2
              have g0 := cell_regrown e0
              have g1 := cell_regrown e1
              have g2 := cell_regrown y0
              have g3 := cell_regrown y1
              clear e0 e1 c0 c1 y0 y1
              refine wp_region_ext (by kernel_rfl) (by kernel_rfl) ?_
              repeat (go_big_quiet_step ((first
                | (go_at_call 48; exact rg_below (hA _))
                | (go_at_call 57; exact rg_below (hS _ (below_regrown _ _ _))))))
              refine wpQuiet_nil ?_
              intro w1 hb1
              go_wp2
              go_ret
              exact ⟨ret_bool (by unfold quarB; rw [HBAD.out]; rfl), below_ext hbr2 hb1⟩
    · obtain rfl : k = m1 := by omega
      rw [List.take_of_length_le (by omega)] at hasc
      have HA := Lib.hid hasc.out
      go_wp2_with fail
      refine (specStoreValid_any B0 m0 d0 q.main _ (hr0.next hbr).robjs hm0).mono ?_
      rintro e w2 ⟨rfl, hb2⟩
      obtain ⟨y0, y1⟩ := (hbo.next hb2).cells2
      cases h1 : storeB q.main
      · go_wp2_with fail
        go_ret
        exact ⟨ret_bool (by unfold quarB; rw [h1]; simp), below_ext hbr hb2⟩
      · go_wp2_with fail
        go_ret
        exact ⟨ret_bool (by unfold quarB; rw [HA.out, h1, hl]; first | rfl | simp), below_ext hbr hb2⟩
end Go.Proofs.Ytjofgbbofagoiaa
