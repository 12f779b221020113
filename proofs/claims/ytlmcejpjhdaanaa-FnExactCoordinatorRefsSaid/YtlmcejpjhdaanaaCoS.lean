/- Walks: coordinators: the reference's CoordinatorValid. -/
import Derived.Test.YtlmcejpjhdaanaaTxn
import Derived.Test.YtlmcejpjhdaanaaSort
namespace Go.Proofs.Ytlmcejpjhdaanaa
open Go.RowKit Go.Sort

def okAt (ord : List Int) (i : Nat) (t : Tx) : Bool := txB t && ((t.dec == 2) == hasI ord i)
def allOk (ord : List Int) : Nat → List Tx → Bool
  | _, [] => true
  | i, t :: ts => okAt ord i t && allOk ord (i + 1) ts
def cntC (ts : List Tx) : Nat := ts.countP fun t => t.dec == 2
def coB (c : Co) : Bool := allOk c.ord 0 c.ts && (decide (c.ts.length ≤ 12) && decide (c.ord.length = cntC c.ts))
theorem allOk_snoc (ord : List Int) (t : Tx) : ∀ (ts : List Tx) (i : Nat), allOk ord i (ts ++ [t]) = (allOk ord i ts && okAt ord (i + ts.length) t)
  | [], i => by simp [allOk]
  | x :: ts, i => by
    have := allOk_snoc ord t ts (i + 1)
    simp only [List.cons_append, allOk, this, List.length_cons]
    rw [show i + 1 + ts.length = i + (ts.length + 1) by omega, Bool.and_assoc]
theorem allOk_succ (ord : List Int) (ts : List Tx) (k : Nat) (t : Tx) (h : ts[k]? = some t) : allOk ord 0 (ts.take (k + 1)) = (allOk ord 0 (ts.take k) && okAt ord k t) := by
  obtain ⟨h1, h2⟩ := List.getElem?_eq_some_iff.1 h
  rw [List.take_succ_eq_append_getElem h1, h2, allOk_snoc, List.length_take, Nat.min_eq_left (by omega), Nat.zero_add]
theorem allOk_take (ord : List Int) : ∀ (ts : List Tx) (i k : Nat), allOk ord i ts = true → allOk ord i (ts.take k) = true
  | [], _, _, _ => by simp [allOk]
  | x :: ts, _, 0, _ => by simp [allOk]
  | x :: ts, i, k + 1, h => by
    simp only [allOk, Bool.and_eq_true] at h
    simp only [List.take_succ_cons, allOk, h.1, allOk_take ord ts (i + 1) k h.2, Bool.and_self]
theorem allOk_bad {ord : List Int} {ts : List Tx} {k : Nat} {t : Tx} (h : ts[k]? = some t) (hb : okAt ord k t = false) : allOk ord 0 ts = false := by
  cases hh : allOk ord 0 ts
  · rfl
  · have := allOk_take ord ts 0 (k + 1) hh
    rw [allOk_succ ord ts k t h, hb] at this
    simp at this
theorem cntC_succ (ts : List Tx) (k : Nat) (t : Tx) (h : ts[k]? = some t) : cntC (ts.take (k + 1)) = cntC (ts.take k) + if t.dec = 2 then 1 else 0 := by
  obtain ⟨h1, h2⟩ := List.getElem?_eq_some_iff.1 h
  unfold cntC
  rw [List.take_succ_eq_append_getElem h1, List.countP_append, h2]
  by_cases hx : t.dec = 2 <;> simp [hx]
theorem cntC_le (ts : List Tx) : cntC ts ≤ ts.length := List.countP_le_length

set_option maxHeartbeats 3200000 in
theorem specCoordinatorValid_any (cs : List Value) (q : Co) (w : World) (hv : repCo.V 0 w cs q) :
    Calls Try.prog 13 #[.agg cs.toArray] w fun e w' => e = .returned (.bool (coB q)) ∧ Below w.heap.size w w' := by
  obtain ⟨B0, m0, d0, B1, m1, d1, rfl, hr0, hm0, hr1, hm1⟩ := repCo_cells hv
  have hm1' := hm1
  unfold maxLen at hm1' hm0
  have hl0 := hr0.1
  have hl1 := hr1.1
  have hbx := below_box w (.cells #[.slice B0 m0 d0, .slice B1 m1 d1] 26)
  have bx := Blk.new w 26 [.slice B0 m0 d0, .slice B1 m1 d1]
  obtain ⟨x0, x1⟩ := bx.cells2
  have hri := hr1.rints
  go_enter Try.func13, Try.ntmps13
  go_wp2
  go_loopw [3, 4] (fun s i wr => ∃ k n : Nat, k ≤ m0 ∧ n ≤ k ∧ s = .int .i64 n ∧ i = .int .i64 k ∧ Hid (allOk q.ord 0 (q.ts.take k) = true ∧ n = cntC (q.ts.take k)) ∧ Below w.heap.size w wr ∧ Blk wr w.heap.size 26 [.slice B0 m0 d0, .slice B1 m1 d1]) (fun _ i _ => m0 - (intOf i).toNat)
  case atStart => exact ⟨0, 0, Nat.zero_le _, Nat.zero_le _, rfl, rfl, ⟨rfl, rfl⟩, hbx, bx⟩
  case round =>
    obtain ⟨k, n, hk, hn, rfl, rfl, hH, hbr, hbo⟩ := hrel
    obtain ⟨z0, z1⟩ := hbo.cells2
    by_cases hlt : k < m0
    · obtain ⟨b, off, x, cs', rfl, hb, hx, hcx, hvx⟩ := (hr0.next hbr).at_ hlt
      have hcall := specTxn_any cs' x wr hvx
      obtain ⟨P0, p0, e0, P1, p1, e1, rfl, -, -, -, -⟩ := repTx_cells hvx
      have c0 : wr.cell? ⟨b, off + k * 3, none⟩ = some (.slice P0 p0 e0) := hcx 0 _ rfl
      have c1 : wr.cell? ⟨b, off + k * 3 + 1, none⟩ = some (.slice P1 p1 e1) := hcx 1 _ rfl
      have c2 : wr.cell? ⟨b, off + k * 3 + 1 + 1, none⟩ = some (.int .i64 x.dec) := hcx 2 _ rfl
      have c2' : wr.cell? ⟨b, off + k * 3 + 2, none⟩ = some (.int .i64 x.dec) := hcx 2 _ rfl
      have HB := Lib.hid (fun hh => allOk_bad (ord := q.ord) hx hh)
      have HS := Lib.hid (allOk_succ q.ord q.ts k x hx)
      have HC := Lib.hid (cntC_succ q.ts k x hx)
      clear hcx hvx hx
      go_wp2_with fail
      refine hcall.mono ?_
      rintro e w2 ⟨rfl, hb2⟩
      have hbb := below_ext hbr hb2
      have hbo2 := hbo.next hb2
      obtain ⟨y0, y1⟩ := hbo2.cells2
      have f2 := (hb2.cell (p := ⟨b, off + k * 3 + 2, none⟩) hb).trans c2'
      clear c0 c1 c2 c2' hcall
      cases hok : txB x
      · have HBAD := Lib.hid (HB.out (by unfold okAt; rw [hok]; rfl))
        go_wp2_with fail
        go_ret
        exact ⟨ret_bool (by unfold coB; rw [HBAD.out]; rfl), hbb⟩
      · have hcH : ∀ W, Below w2.heap.size w2 W → Calls Try.prog 38 #[.slice B1 m1 d1, .int .i64 k] W fun e w' => e = .returned (.bool (hasI q.ord k)) ∧ Below W.heap.size W w' := fun W hW => (l1Has_any B1 m1 d1 q.ord k W (hri.next (below_ext hbb hW)) hm1).mono fun _ _ ⟨he, hw⟩ => ⟨he, hw ▸ Below.refl _ _⟩
        have HOK := Lib.hid hok
        clear hok
        by_cases hd : x.dec = 2
        · have hdb : (x.dec == 2) = true := by simpa using hd
          cases hh : hasI q.ord k
          · rw [hh] at hcH
            have HK := Lib.hid (show okAt q.ord k x = false by unfold okAt; rw [HOK.out, hdb, hh]; rfl)
            have HN := Lib.hid (show cntC (q.ts.take (k + 1)) = n + 1 by rw [HC.out, if_pos hd, ← hH.out.2])
            rw [hd] at f2
            clear hh hd hdb
            go_wp2_with fail
            have g0 := cell_regrown y0
            have g1 := cell_regrown y1
            have g2 := cell_regrown f2
            clear y0 y1 f2
            refine wp_region_ext (by kernel_rfl) (by kernel_rfl) ?_
            repeat (go_big_quiet_step ((go_at_call 38; exact rg_below (hcH _ (below_regrown _ _ _)))))
            refine wpQuiet_nil ?_
            intro w3 hb3
            go_wp2
            have HBAD := Lib.hid (HB.out HK.out)
            go_ret
            exact ⟨ret_bool (by unfold coB; rw [HBAD.out]; rfl), below_ext hbb hb3⟩
          · rw [hh] at hcH
            have HK := Lib.hid (show okAt q.ord k x = true by unfold okAt; rw [HOK.out, hdb, hh]; rfl)
            have HN := Lib.hid (show cntC (q.ts.take (k + 1)) = n + 1 by rw [HC.out, if_pos hd, ← hH.out.2])
            rw [hd] at f2
            clear hh hd hdb
            go_wp2_with fail
            have g0 := cell_regrown y0
            have g1 := cell_regrown y1
            have g2 := cell_regrown f2
            clear y0 y1 f2
            refine wp_region_ext (by kernel_rfl) (by kernel_rfl) ?_
            repeat (go_big_quiet_step ((go_at_call 38; exact rg_below (hcH _ (below_regrown _ _ _)))))
            refine wpQuiet_nil ?_
            intro w3 hb3
            go_wp2
            go_roundw
            case rel => exact ⟨k + 1, n + 1, by omega, by omega, by go_num, by go_num, ⟨by rw [HS.out, hH.out.1, HK.out]; rfl, HN.out.symm⟩, below_ext hbb hb3, hbo2.next hb3⟩
            case measure => simp [intOf]; omega
        · have hdb : (x.dec == 2) = false := by simpa using hd
          cases hh : hasI q.ord k
          · rw [hh] at hcH
            have HK := Lib.hid (show okAt q.ord k x = true by unfold okAt; rw [HOK.out, hdb, hh]; rfl)
            have HN := Lib.hid (show cntC (q.ts.take (k + 1)) = n by rw [HC.out, if_neg hd, ← hH.out.2]; rfl)
            skip
            clear hh hd
            go_wp2_with fail
            have g0 := cell_regrown y0
            have g1 := cell_regrown y1
            have g2 := cell_regrown f2
            clear y0 y1 f2
            refine wp_region_ext (by kernel_rfl) (by kernel_rfl) ?_
            repeat (go_big_quiet_step ((go_at_call 38; exact rg_below (hcH _ (below_regrown _ _ _)))))
            refine wpQuiet_nil ?_
            intro w3 hb3
            go_wp2
            go_roundw
            case rel => exact ⟨k + 1, n, by omega, by omega, rfl, by go_num, ⟨by rw [HS.out, hH.out.1, HK.out]; rfl, HN.out.symm⟩, below_ext hbb hb3, hbo2.next hb3⟩
            case measure => simp [intOf]; omega
          · rw [hh] at hcH
            have HK := Lib.hid (show okAt q.ord k x = false by unfold okAt; rw [HOK.out, hdb, hh]; rfl)
            have HN := Lib.hid (show cntC (q.ts.take (k + 1)) = n by rw [HC.out, if_neg hd, ← hH.out.2]; rfl)
            skip
            clear hh hd
            go_wp2_with fail
            have g0 := cell_regrown y0
            have g1 := cell_regrown y1
            have g2 := cell_regrown f2
            clear y0 y1 f2
            refine wp_region_ext (by kernel_rfl) (by kernel_rfl) ?_
            repeat (go_big_quiet_step ((go_at_call 38; exact rg_below (hcH _ (below_regrown _ _ _)))))
            refine wpQuiet_nil ?_
            intro w3 hb3
            go_wp2
            have HBAD := Lib.hid (HB.out HK.out)
            go_ret
            exact ⟨ret_bool (by unfold coB; rw [HBAD.out]; rfl), below_ext hbb hb3⟩
    · obtain rfl : k = m0 := by omega
      rw [List.take_of_length_le (by omega)] at hH
      have HH := Lib.hid hH.out
      clear hH
      by_cases h12 : k ≤ 12
      · have h12b : decide ((k : Int) ≤ 12) = true := decide_eq_true (by omega)
        have HC := Lib.hid (show coB q = decide (m1 = n) by unfold coB; rw [HH.out.1, hl0, hl1, ← HH.out.2, decide_eq_true h12]; simp)
        clear h12
        go_wp2_with fail
        go_ret
        exact ⟨ret_bool (by rw [HC.out, Bool.eq_iff_iff]; simp; omega), hbr⟩
      · have h12b : decide ((k : Int) ≤ 12) = false := decide_eq_false (by omega)
        have HC := Lib.hid (show coB q = false by unfold coB; rw [hl0, decide_eq_false h12]; simp)
        clear h12
        go_wp2_with fail
        go_ret
        exact ⟨ret_bool HC.out.symm, hbr⟩
end Go.Proofs.Ytlmcejpjhdaanaa
