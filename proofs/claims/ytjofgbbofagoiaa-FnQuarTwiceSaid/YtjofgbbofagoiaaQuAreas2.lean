/- Walk: areas(): the areas of a quarantine by transaction. -/
import Derived.Test.YtjofgbbofagoiaaQuAreas
import Derived.Test.YtjofgbbofagoiaaImplCopy
import Derived.Deep.RegionHeld3
namespace Go.Proofs.Ytjofgbbofagoiaa
open Go.RowKit Go.Sort Go.Maps

theorem grown_noneQ {a b : World} (h : Below a.heap.size a b) : a.grownBy b none := ⟨h.os, h.tape, h.output, h.size, fun i hi _ => h.block i hi⟩
theorem grownBelowQ {a b c : World} {B g : Nat} (h : Below B a b) (hg : b.grownBy c (some g)) (hB : B ≤ g) (hs : B ≤ a.heap.size := by exact Nat.le_refl _) : Below B a c :=
  ⟨hg.os.trans h.os, hg.tape.trans h.tape, hg.output.trans h.output, Nat.le_trans h.size hg.size, fun i hi => (hg.block i (Nat.lt_of_lt_of_le (Nat.lt_of_lt_of_le hi hs) h.size) (fun e => by injection e with e; omega)).trans (h.block i hi)⟩
set_option maxRecDepth 100000 in
set_option maxHeartbeats 3200000 in
theorem areas_any (cs : List Value) (q : Qu) (w : World) (hv : repQu.V 0 w cs q) (hq : quarB q = true) :
    Calls Try.prog 47 #[.agg cs.toArray] w fun e w' => ∃ gm l, e = .returned (.map (some gm)) ∧ w.heap.size ≤ gm ∧ w'.ownsMap Try.prog 3 RH gm 4 (arsD l) ∧ AV w' gm (gm + 1) (Iv (gm + 1) w'.heap.size) l q.ars ∧ Below w.heap.size w w' := by
  obtain ⟨B0, m0, d0, B1, m1, d1, rfl, hr0, hm0, hr1, hm1⟩ := repQu_cells hv
  obtain ⟨hq1, hq2, hq3⟩ := quarB_parts hq
  have HL := Lib.hid hr1.1
  have hm14 : m1 ≤ 4 := by have := hr1.1; omega
  have b0 := below_box2 w (.cells #[.slice B0 m0 d0, .slice B1 m1 d1] 26) (.map #[] 0)
  have x0 := (Blk.new w 26 [.slice B0 m0 d0, .slice B1 m1 d1]).alloc (.map #[] 0)
  have hM0 : ((w.alloc (.cells #[.slice B0 m0 d0, .slice B1 m1 d1] 26)).alloc (.map #[] 0)).ownsMap Try.prog 3 RH (w.heap.size + 1) 0 (.map []) := by simpa using World.ownsMap_made (w.alloc (.cells #[.slice B0 m0 d0, .slice B1 m1 d1] 26)) Try.prog 3 RH
  obtain ⟨y0, y1⟩ := x0.cells2
  clear hr0
  have hmk : ∀ w : World, (Instr.makeMap 76 none).run Try.prog w = .ok (.map (some w.heap.size)) (w.alloc (.map #[] 0)) := fun _ => rfl
  go_enter Try.func47, Try.ntmps47
  go_wp2_with fail
  go_loopw [10] (fun i wr => ∃ (k : Nat) (l : List (Int × Value)), k ≤ m1 ∧ i = .int .i64 k ∧ wr.ownsMap Try.prog 3 RH (w.heap.size + 1) k (arsD l) ∧ AV wr (w.heap.size + 1) (w.heap.size + 2) (Iv (w.heap.size + 2) wr.heap.size) l (q.ars.take k) ∧ Below w.heap.size w wr) (fun i _ => m1 - (intOf i).toNat)
  case atStart => exact ⟨0, [], Nat.zero_le _, rfl, hM0, trivial, b0⟩
  case round =>
    obtain ⟨k, l, hk, rfl, hM, hA, hbr⟩ := hrel
    by_cases hlt : k < m1
    · obtain ⟨b, off, x, c1, rfl, hb, hx, hc, hvx⟩ := (hr1.next hbr).at_ hlt
      obtain ⟨L, ml, dl, rfl, hl, hml⟩ := repAr_cells hvx
      have a0 : wr.cell? ⟨b, off + k * 2, none⟩ = some (.int .i64 x.t) := hc 0 _ rfl
      have a1 : wr.cell? ⟨b, off + k * 2 + 1, none⟩ = some (.slice L ml dl) := hc 1 _ rfl
      obtain ⟨ht, hs, -⟩ := hq2 x (List.mem_of_getElem? hx)
      have hml16 : ml ≤ 16 := by have := stB_len hs; have := hl.1; omega
      have hxs := ok_small (stB_ok hs)
      have HP := Lib.hid (put_last (v := .slice none 0 0) (keys_lt hq hA hx))
      have HPL := Lib.hid (keys_lt hq hA hx)
      have HT := Lib.hid (show q.ars.take (k + 1) = q.ars.take k ++ [x] by
        obtain ⟨h1, h2⟩ := List.getElem?_eq_some_iff.1 hx
        rw [List.take_succ_eq_append_getElem h1, h2])
      have hkey := int_key (txn_range ht)
      have hki : (k : Int) < (m1 : Int) := by omega
      clear hc hvx hx
      have ea := below_box wr (.cells #[.int .i64 x.t, .slice L ml dl] 70)
      have xa := Blk.new wr 70 [.int .i64 x.t, .slice L ml dl]
      have hMa := hM.alloc (.cells #[.int .i64 x.t, .slice L ml dl] 70)
      have bba := below_ext hbr ea
      have hla := hl.next ea
      have hgm : w.heap.size + 1 < wr.heap.size := hM.lt
      go_wp2_with fail
      have HWR : wr.heap.size ≤ (wr.alloc (.cells #[.int .i64 x.t, .slice L ml dl] 70)).heap.size := ea.size
      have HEA := ea.block
      generalize wr.alloc (.cells #[.int .i64 x.t, .slice L ml dl] 70) = wa at *
      generalize wr.heap.size = ga at *
      obtain ⟨s0, s1⟩ := xa.cells2
      have hbd : Below wa.heap.size wa wa.drew := (Below.refl _ _).drew
      go_region_held3 (fun w' => w'.cell? ⟨ga, 0, none⟩ = some (.int .i64 x.t) ∧ w'.cell? ⟨ga, 1, none⟩ = some (.slice L ml dl))
        (first
          | exact ⟨s0, s1⟩
          | exact ⟨s20, s21⟩
          | exact ⟨s30, s31⟩)
        (first
          | (go_simp; go_at_call 54; refine (copyObjectsS_any L ml dl x.os _ (hla.next hbd).robjs (by omega) hxs).mono ?_
             rintro e w2 ⟨v2, rfl, hO2, hb2⟩
             obtain ⟨A2, c2, rfl, hAc2⟩ := hO2.own.form
             have bz2 := below_ext hbd hb2
             have hM2 := hMa.kept (row := none) (grown_noneQ bz2) (by simp)
             obtain ⟨w3, hrun, hM3, hg3⟩ := hM2.update intK Try.underlying76 (by simp only [maxLen]; omega) hkey (show RH (.slice A2 ml c2) = some (.held (.slice A2 ml c2), []) from rfl)
             obtain ⟨s20, s21⟩ := (xa.next bz2).cells2
             have xa3 := (xa.next bz2).grown hg3 (fun e => by injection e with e; omega)
             obtain ⟨s30, s31⟩ := xa3.cells2))
      have hsz : w.heap.size + 2 ≤ wa.heap.size := by have := xa.lt; omega
      have hdz : wa.drew.heap.size = wa.heap.size := rfl
      have hss := (hO2.ssl (Nat.le_refl _)).kept (w' := w3) (fun b hb => hg3.block b hb.2 (fun e => by injection e with e; have := hb.1; omega))
      have hA3 : AV w3 (w.heap.size + 1) (w.heap.size + 2) (Iv (w.heap.size + 2) w3.heap.size) (l ++ [(x.t, .slice A2 ml c2)]) (q.ars.take (k + 1)) := by
        unfold AV
        rw [HT.out, List.map_append]
        have hk3 := (Parts.kept hA fun b hb hne => (hg3.block b (Nat.lt_of_lt_of_le (Nat.lt_of_lt_of_le hb.2 HWR) bz2.size) (fun e => hne (by injection e))).trans ((bz2.block b (Nat.lt_of_lt_of_le hb.2 HWR)).trans (HEA b hb.2)))
        refine hk3.snoc (N := Iv wa.heap.size w2.heap.size) ?_ ?_ ?_ ?_ (sepAr.down (sepAr_mk (x := x) hss) hsz)
        · intro b hb
          exact ⟨hb.1, Nat.lt_of_lt_of_le hb.2 (Nat.le_trans HWR (Nat.le_trans bz2.size hg3.size))⟩
        · intro b hb
          exact ⟨Nat.le_trans hsz hb.1, Nat.lt_of_lt_of_le hb.2 hg3.size⟩
        · intro b hb hb2
          exact absurd (Nat.lt_of_lt_of_le hb2.2 HWR) (by have := hb.1; omega)
        · intro hb
          have := hb.1
          omega
      have hP2 := put_last (v := .slice A2 ml c2) HPL.out
      rw [hP2] at hM3
      have bb3 : Below w.heap.size w w3 := grownBelowQ (below_ext bba bz2) hg3 (Nat.le_succ _)
      go_wp2_with fail
      go_roundw
      case rel => exact ⟨k + 1, _, by omega, by go_num, hM3, hA3, bb3⟩
      case measure => simp [intOf]; omega
    · obtain rfl : k = m1 := by omega
      rw [List.take_of_length_le (by rw [HL.out]; exact Nat.le_refl _)] at hA
      go_wp2_with fail
      go_ret
      exact ⟨_, l, rfl, Nat.le_succ _, hM.mono hm14, hA, hbr⟩
end Go.Proofs.Ytjofgbbofagoiaa
