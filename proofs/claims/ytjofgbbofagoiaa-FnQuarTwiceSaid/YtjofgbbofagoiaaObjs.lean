/- Slices of objects that read as lists; whether a list is a store: the program's and the reference's StoreValid. -/
import Derived.Test.YtjofgbbofagoiaaId
import Derived.Test.YtjofgbbofagoiaaChain
import Derived.BigQuiet
namespace Go.Proofs.Ytjofgbbofagoiaa
open Go.RowKit Go.Sort

structure Ob where
  k : Int
  xs : List Int
  t : ByteArray
def Ob.ok (o : Ob) : Bool := objOkB o.k o.xs o.t
def Ob.id (o : Ob) : Int := idV o.k o.xs o.t

/-- the three cells of an object from place i on -/
def RObj (w : World) (b off : Nat) (o : Ob) : Prop := ∃ B m d, w.cell? ⟨b, off, none⟩ = some (.int .i64 o.k) ∧ w.cell? ⟨b, off + 1, none⟩ = some (.slice B m d) ∧ w.cell? ⟨b, off + 1 + 1, none⟩ = some (.string o.t) ∧ RInts w B m o.xs ∧ m ≤ maxLen ∧ o.t.size ≤ maxLen
def RObjs (w : World) (A : Option Addr) (n : Nat) (os : List Ob) : Prop :=
  os.length = n ∧ (0 < n → ∃ b off, A = some ⟨b, off, none⟩ ∧ b < w.heap.size ∧ ∀ i o, os[i]? = some o → RObj w b (off + i * 3) o)
theorem RObj.next {w w' : World} {b off : Nat} {o : Ob} (h : RObj w b off o) (hb : Below w.heap.size w w') (hlt : b < w.heap.size) : RObj w' b off o := by
  obtain ⟨B, m, d, h0, h1, h2, h3, h4⟩ := h
  exact ⟨B, m, d, (hb.cell (p := ⟨b, off, none⟩) hlt).trans h0, (hb.cell (p := ⟨b, off + 1, none⟩) hlt).trans h1, (hb.cell (p := ⟨b, off + 1 + 1, none⟩) hlt).trans h2, h3.next hb, h4⟩
theorem RObjs.next {w w' : World} {A : Option Addr} {n : Nat} {os : List Ob} (h : RObjs w A n os) (hb : Below w.heap.size w w') : RObjs w' A n os :=
  ⟨h.1, fun hn => by
    obtain ⟨b, off, e, hlt, hc⟩ := h.2 hn
    exact ⟨b, off, e, Nat.lt_of_lt_of_le hlt hb.size, fun i o ho => (hc i o ho).next hb hlt⟩⟩
theorem RObjs.at_ {w : World} {A : Option Addr} {n : Nat} {os : List Ob} (h : RObjs w A n os) {k : Nat} (hk : k < n) :
    ∃ b off o, A = some ⟨b, off, none⟩ ∧ b < w.heap.size ∧ os[k]? = some o ∧ RObj w b (off + k * 3) o := by
  obtain ⟨b, off, e, hb, hc⟩ := h.2 (by omega)
  have hl : k < os.length := by have := h.1; omega
  exact ⟨b, off, os[k], e, hb, List.getElem?_eq_getElem hl, hc k _ (List.getElem?_eq_getElem hl)⟩

/-- all valid, ascending by their ids -/
def ascO (os : List Ob) : Bool := chainB Ob.ok (fun a b => decide (a.id < b.id)) os
/-- a store -/
def storeB (os : List Ob) : Bool := ascO os && decide ((os.length : Int) ≤ 16)

set_option maxHeartbeats 3200000 in
theorem implStoreValid_any (A : Option Addr) (n c : Nat) (os : List Ob) (w : World) (h : RObjs w A n os) (hn : n ≤ maxLen) :
    Calls Try.prog 51 #[.slice A n c] w fun e w' => e = .returned (.bool (storeB os)) ∧ Below w.heap.size w w' := by
  unfold maxLen at hn
  go_enter Try.func51, Try.ntmps51
  go_wp2
  go_loopw [7] (fun i wr => ∃ k : Nat, k ≤ n ∧ i = .int .i64 k ∧ Hid (ascO (os.take k) = true) ∧ Below w.heap.size w wr) (fun i _ => n - (intOf i).toNat)
  case atStart => exact ⟨0, Nat.zero_le _, rfl, rfl, Below.refl _ _⟩
  case round =>
    obtain ⟨k, hk, rfl, hasc, hbr⟩ := hrel
    have hr := h.next hbr
    by_cases hlt : k < n
    · obtain ⟨b, off, o, rfl, hb, hx, hob⟩ := hr.at_ hlt
      obtain ⟨B, m, d, c0, c1, c2, hri, hm, ht⟩ := hob
      have hob0 : RObj wr b (off + k * 3) o := ⟨B, m, d, c0, c1, c2, hri, hm, ht⟩
      have bo := Blk.new wr 33 [.int .i64 o.k, .slice B m d, .string o.t]
      have ea := below_box wr (.cells #[.int .i64 o.k, .slice B m d, .string o.t] 33)
      have hri2 := hri.next ea
      have hbr2 := below_ext hbr ea
      have hF := chainB_false Ob.ok (fun a b => decide (a.id < b.id)) os (k+1)
      have HF := Lib.hid hF
      clear hF
      cases hok : o.ok
      · have hok' : objOkB o.k o.xs o.t = false := hok
        have hT : ascO (os.take (k+1)) = false := by
          cases k with
          | zero => exact (chainB_zero _ _ os o hx).trans hok
          | succ k => unfold ascO; rw [chainB_succ _ _ os k o (os[k]'(by have := h.1; omega)) (List.getElem?_eq_getElem _) hx, hok]; simp
        have HT := Lib.hid hT
        clear hT hx
        go_wp2
        generalize hW : wr.alloc (.cells #[.int .i64 o.k, .slice B m d, .string o.t] 33) = wq at *
        have HW := Lib.hid hW
        clear hW
        obtain ⟨e0, e1, e2⟩ := bo.cells3
        have g0 := cell_regrown e0
        have g1 := cell_regrown e1
        have g2 := cell_regrown e2
        clear e0 e1 e2 c0 c1 c2
        refine wp_region_ext (by kernel_rfl) (by kernel_rfl) ?_
        repeat (go_big_quiet_step ((go_at_call 91; exact rg_below (ok_any _ _ _ _ o.xs _ _ (hri2.regrown _ _) hm))))
        refine wpQuiet_nil ?_
        intro w1 hb1
        go_wp2
        go_ret
        exact ⟨ret_bool (by unfold storeB ascO; rw [HF.out HT.out]; rfl), below_ext hbr2 hb1⟩
      · have hok' : objOkB o.k o.xs o.t = true := hok
        have hoo := ObjOk.of hok'
        by_cases hk0 : k = 0
        · subst hk0
          have hT : ascO (os.take (0+1)) = true := (chainB_zero _ _ os o hx).trans hok
          have HT := Lib.hid hT
          clear hT hx
          simp only [Nat.zero_mul, Nat.add_zero] at c0 c1 c2
          go_wp2
          generalize hW : wr.alloc (.cells #[.int .i64 o.k, .slice B m d, .string o.t] 33) = wq at *
          have HW := Lib.hid hW
          clear hW
          obtain ⟨e0, e1, e2⟩ := bo.cells3
          have g0 := cell_regrown e0
          have g1 := cell_regrown e1
          have g2 := cell_regrown e2
          clear e0 e1 e2 c0 c1 c2
          refine wp_region_ext (by kernel_rfl) (by kernel_rfl) ?_
          repeat (go_big_quiet_step ((go_at_call 91; exact rg_below (ok_any _ _ _ _ o.xs _ _ (hri2.regrown _ _) hm))))
          refine wpQuiet_nil ?_
          intro w1 hb1
          go_wp2
          go_roundw
          case rel => exact ⟨1, by omega, by go_num, HT.out, below_ext hbr2 hb1⟩
          case measure => simp [intOf]; omega
        · obtain ⟨b', off', o', hA', _, hx', hob'⟩ := hr.at_ (k := k - 1) (by omega)
          obtain ⟨rfl, rfl⟩ : b = b' ∧ off = off' := by injection hA' with e; injection e with e1 e2; exact ⟨e1, e2⟩
          have hob2 := hob'.next ea hb
          obtain ⟨B', m', d', p0, p1, p2, hri', hm', ht'⟩ := hob2
          have hok1 : o'.ok = true := by
            refine chainB_mem Ob.ok _ hasc.out o' ?_
            have : (os.take k)[k-1]? = some o' := by rw [List.getElem?_take, if_pos (by omega)]; exact hx'
            exact List.mem_of_getElem? this
          have hoo' : ObjOk o'.k o'.xs o'.t := ObjOk.of hok1
          have hT : ascO (os.take (k+1)) = decide (o'.id < o.id) := by
            obtain ⟨j, rfl⟩ : ∃ j, k = j + 1 := ⟨k - 1, by omega⟩
            unfold ascO
            rw [chainB_succ _ _ os j o o' hx' hx]
            have := hasc.out
            unfold ascO at this
            rw [this, hok]; simp
          have HT := Lib.hid hT
          clear hT hx hx' hob'
          have hkp : decide (0 < k) = true := by simp; omega
          by_cases hlt2 : o'.id < o.id
          all_goals
            have hcmp : decide (idV o.k o.xs o.t ≤ idV o'.k o'.xs o'.t) = !decide (o'.id < o.id) := by
              unfold Ob.id; rw [← decide_not]; exact decide_eq_decide.2 (by omega)
            simp only [hlt2, decide_true, decide_false, Bool.not_true, Bool.not_false] at hcmp HT
            go_wp2
            generalize hW : wr.alloc (.cells #[.int .i64 o.k, .slice B m d, .string o.t] 33) = wq at *
            have HW := Lib.hid hW
            clear hW
            obtain ⟨e0, e1, e2⟩ := bo.cells3
            have g0 := cell_regrown e0
            have g1 := cell_regrown e1
            have g2 := cell_regrown e2
            have g3 := cell_regrown p0
            have g4 := cell_regrown p1
            have g5 := cell_regrown p2
            clear e0 e1 e2 c0 c1 c2 p0 p1 p2
            refine wp_region_ext (by kernel_rfl) (by kernel_rfl) ?_
            repeat (go_big_quiet_step ((first
              | (go_at_call 91; exact rg_below (ok_any _ _ _ _ o.xs _ _ (hri2.regrown _ _) hm))
              | (go_at_call 86; first | with_reducible exact rg_below (id_any _ _ _ _ o.xs _ _ (hri2.regrown _ _) hoo) | with_reducible exact rg_below (id_any _ _ _ _ o'.xs _ _ (hri'.regrown _ _) hoo')))))
            refine wpQuiet_nil ?_
            intro w1 hb1
            go_wp2
          · go_roundw
            case rel => exact ⟨k + 1, by omega, by go_num, HT.out, below_ext hbr2 hb1⟩
            case measure => simp [intOf]; omega
          · go_ret
            exact ⟨ret_bool (by unfold storeB ascO; rw [HF.out HT.out]; rfl), below_ext hbr2 hb1⟩
    · obtain rfl : k = n := by omega
      rw [List.take_of_length_le (by rw [h.1]; exact Nat.le_refl _)] at hasc
      go_wp2
      go_ret
      exact ⟨ret_bool (by unfold storeB; rw [hasc.out, h.1]; rfl), hbr⟩
set_option maxHeartbeats 3200000 in
theorem specStoreValid_any (A : Option Addr) (n c : Nat) (os : List Ob) (w : World) (h : RObjs w A n os) (hn : n ≤ maxLen) :
    Calls Try.prog 57 #[.slice A n c] w fun e w' => e = .returned (.bool (storeB os)) ∧ Below w.heap.size w w' := by
  unfold maxLen at hn
  go_enter Try.func57, Try.ntmps57
  go_wp2
  go_loopw [3] (fun i wr => ∃ k : Nat, k ≤ n ∧ i = .int .i64 k ∧ Hid (ascO (os.take k) = true) ∧ Below w.heap.size w wr) (fun i _ => n - (intOf i).toNat)
  case atStart => exact ⟨0, Nat.zero_le _, rfl, rfl, Below.refl _ _⟩
  case round =>
    obtain ⟨k, hk, rfl, hasc, hbr⟩ := hrel
    have hr := h.next hbr
    by_cases hlt : k < n
    · obtain ⟨b, off, o, rfl, hb, hx, hob⟩ := hr.at_ hlt
      obtain ⟨B, m, d, c0, c1, c2, hri, hm, ht⟩ := hob
      have hob0 : RObj wr b (off + k * 3) o := ⟨B, m, d, c0, c1, c2, hri, hm, ht⟩
      have hri2 := hri
      have hbr2 := hbr
      have hF := chainB_false Ob.ok (fun a b => decide (a.id < b.id)) os (k+1)
      have HF := Lib.hid hF
      clear hF
      cases hok : o.ok
      · have hok' : objOkB o.k o.xs o.t = false := hok
        have hT : ascO (os.take (k+1)) = false := by
          cases k with
          | zero => exact (chainB_zero _ _ os o hx).trans hok
          | succ k => unfold ascO; rw [chainB_succ _ _ os k o (os[k]'(by have := h.1; omega)) (List.getElem?_eq_getElem _) hx, hok]; simp
        have HT := Lib.hid hT
        clear hT hx
        go_wp2
        have g0 := cell_regrown c0
        have g1 := cell_regrown c1
        have g2 := cell_regrown c2
        clear c0 c1 c2
        refine wp_region_ext (by kernel_rfl) (by kernel_rfl) ?_
        repeat (go_big_quiet_step ((go_at_call 97; exact rg_below (specValid_any _ _ _ _ o.xs _ _ (hri2.regrown _ _) hm))))
        refine wpQuiet_nil ?_
        intro w1 hb1
        go_wp2
        go_ret
        exact ⟨ret_bool (by unfold storeB ascO; rw [HF.out HT.out]; rfl), below_ext hbr2 hb1⟩
      · have hok' : objOkB o.k o.xs o.t = true := hok
        have hoo := ObjOk.of hok'
        by_cases hk0 : k = 0
        · subst hk0
          have hT : ascO (os.take (0+1)) = true := (chainB_zero _ _ os o hx).trans hok
          have HT := Lib.hid hT
          clear hT hx
          simp only [Nat.zero_mul, Nat.add_zero] at c0 c1 c2
          go_wp2
          have g0 := cell_regrown c0
          have g1 := cell_regrown c1
          have g2 := cell_regrown c2
          clear c0 c1 c2
          refine wp_region_ext (by kernel_rfl) (by kernel_rfl) ?_
          repeat (go_big_quiet_step ((go_at_call 97; exact rg_below (specValid_any _ _ _ _ o.xs _ _ (hri2.regrown _ _) hm))))
          refine wpQuiet_nil ?_
          intro w1 hb1
          go_wp2
          go_roundw
          case rel => exact ⟨1, by omega, by go_num, HT.out, below_ext hbr2 hb1⟩
          case measure => simp [intOf]; omega
        · obtain ⟨b', off', o', hA', _, hx', hob'⟩ := hr.at_ (k := k - 1) (by omega)
          obtain ⟨rfl, rfl⟩ : b = b' ∧ off = off' := by injection hA' with e; injection e with e1 e2; exact ⟨e1, e2⟩
          have hob2 := hob'
          obtain ⟨B', m', d', p0, p1, p2, hri', hm', ht'⟩ := hob2
          have hok1 : o'.ok = true := by
            refine chainB_mem Ob.ok _ hasc.out o' ?_
            have : (os.take k)[k-1]? = some o' := by rw [List.getElem?_take, if_pos (by omega)]; exact hx'
            exact List.mem_of_getElem? this
          have hoo' : ObjOk o'.k o'.xs o'.t := ObjOk.of hok1
          have hT : ascO (os.take (k+1)) = decide (o'.id < o.id) := by
            obtain ⟨j, rfl⟩ : ∃ j, k = j + 1 := ⟨k - 1, by omega⟩
            unfold ascO
            rw [chainB_succ _ _ os j o o' hx' hx]
            have := hasc.out
            unfold ascO at this
            rw [this, hok]; simp
          have HT := Lib.hid hT
          clear hT hx hx' hob'
          have hkp : decide (0 < k) = true := by simp; omega
          by_cases hlt2 : o'.id < o.id
          all_goals
            have hcmp : decide (idV o.k o.xs o.t ≤ idV o'.k o'.xs o'.t) = !decide (o'.id < o.id) := by
              unfold Ob.id; rw [← decide_not]; exact decide_eq_decide.2 (by omega)
            simp only [hlt2, decide_true, decide_false, Bool.not_true, Bool.not_false] at hcmp HT
            go_wp2
            have g0 := cell_regrown c0
            have g1 := cell_regrown c1
            have g2 := cell_regrown c2
            have g3 := cell_regrown p0
            have g4 := cell_regrown p1
            have g5 := cell_regrown p2
            clear c0 c1 c2 p0 p1 p2
            refine wp_region_ext (by kernel_rfl) (by kernel_rfl) ?_
            repeat (go_big_quiet_step ((first
              | (go_at_call 97; exact rg_below (specValid_any _ _ _ _ o.xs _ _ (hri2.regrown _ _) hm))
              | (go_at_call 79; first | with_reducible exact rg_below (l1Of_any _ _ _ _ o.xs _ _ (hri2.regrown _ _) hoo) | with_reducible exact rg_below (l1Of_any _ _ _ _ o'.xs _ _ (hri'.regrown _ _) hoo')))))
            refine wpQuiet_nil ?_
            intro w1 hb1
            go_wp2
          · go_roundw
            case rel => exact ⟨k + 1, by omega, by go_num, HT.out, below_ext hbr2 hb1⟩
            case measure => simp [intOf]; omega
          · go_ret
            exact ⟨ret_bool (by unfold storeB ascO; rw [HF.out HT.out]; rfl), below_ext hbr2 hb1⟩
    · obtain rfl : k = n := by omega
      rw [List.take_of_length_le (by rw [h.1]; exact Nat.le_refl _)] at hasc
      go_wp2
      go_ret
      exact ⟨ret_bool (by unfold storeB; rw [hasc.out, h.1]; rfl), hbr⟩
end Go.Proofs.Ytjofgbbofagoiaa
