/- Walks: the laws' sameUpdates, sameParts, sameCoordinator. -/
import Derived.Test.YtlmcejpjhdaanaaWaits
namespace Go.Proofs.Ytlmcejpjhdaanaa
open Go.RowKit Go.Sort
set_option maxHeartbeats 3200000 in
theorem sameUpdates_any (A B : Option Addr) (n c m d : Nat) (xs ys : List Up) (w : World) (hx : RSl repUp 0 w A n xs) (hy : RSl repUp 0 w B m ys) (hn : n ≤ maxLen) (hm : m ≤ maxLen) :
    Calls Try.prog 62 #[.slice A n c, .slice B m d] w fun e w' => e = .returned (.bool (eqL eqUp xs ys)) ∧ Below w.heap.size w w' := by
  unfold maxLen at hn hm
  by_cases hnm : n = m
  · subst hnm
    go_enter Try.func62, Try.ntmps62
    go_wp2
    go_loopw [5] (fun i wr => ∃ k : Nat, k ≤ n ∧ i = .int .i64 k ∧ Hid (eqL eqUp (xs.take k) (ys.take k) = true) ∧ Below w.heap.size w wr) (fun i _ => n - (intOf i).toNat)
    case atStart => exact ⟨0, Nat.zero_le _, rfl, by show _ = _; simp [eqL], Below.refl _ _⟩
    case round =>
      obtain ⟨k, hk, rfl, hasc, hbr⟩ := hrel
      by_cases hlt : k < n
      · obtain ⟨b, off, x, cs, rfl, hb, hxk, hcx, hvx⟩ := (hx.next hbr).at_ hlt
        obtain ⟨b', off', y, cs', rfl, hb', hyk, hcy, hvy⟩ := (hy.next hbr).at_ hlt
        have HT := Lib.hid (eqL_take (f := eqUp) xs ys k x y hxk hyk)
        have HF := Lib.hid (fun hh => eqL_of_take (f := eqUp) xs ys (k+1) hh)
        clear hxk hyk
        obtain rfl := repUp_cells hvx
        obtain rfl := repUp_cells hvy
        have c0 : wr.cell? ⟨b, off + k * 3, none⟩ = some (.int .i64 x.ref) := hcx 0 _ rfl
        have c1 : wr.cell? ⟨b, off + k * 3 + 1, none⟩ = some (.int .i64 x.old) := hcx 1 _ rfl
        have c2 : wr.cell? ⟨b, off + k * 3 + 1 + 1, none⟩ = some (.int .i64 x.new) := hcx 2 _ rfl
        have e0 : wr.cell? ⟨b', off' + k * 3, none⟩ = some (.int .i64 y.ref) := hcy 0 _ rfl
        have e1 : wr.cell? ⟨b', off' + k * 3 + 1, none⟩ = some (.int .i64 y.old) := hcy 1 _ rfl
        have e2 : wr.cell? ⟨b', off' + k * 3 + 1 + 1, none⟩ = some (.int .i64 y.new) := hcy 2 _ rfl
        clear hcx hcy hvx hvy
        cases hk0 : (x.ref != y.ref)
        · have hj0 : (x.ref == y.ref) = true := by simpa using hk0
          cases hk1 : (x.old != y.old)
          · have hj1 : (x.old == y.old) = true := by simpa using hk1
            cases hk2 : (x.new != y.new)
            · have hj2 : (x.new == y.new) = true := by simpa using hk2
              go_wp2
              have g0 := cell_regrown c0
              have j0 := cell_regrown e0
              have g1 := cell_regrown c1
              have j1 := cell_regrown e1
              have g2 := cell_regrown c2
              have j2 := cell_regrown e2
              clear c0 e0 c1 e1 c2 e2
              refine wp_region_ext (by kernel_rfl) (by kernel_rfl) ?_
              repeat (go_big_quiet_step (fail))
              refine wpQuiet_nil ?_
              intro w1 hb1
              go_wp2
              go_roundw
              case rel => exact ⟨k + 1, by omega, by go_num, by show _ = _; rw [HT.out, hasc.out]; exact by simp [eqUp, hj0, hj1, hj2], below_ext hbr hb1⟩
              case measure => simp [intOf]; omega
            · have hj2 : (x.new == y.new) = false := by simpa using hk2
              go_wp2
              have g0 := cell_regrown c0
              have j0 := cell_regrown e0
              have g1 := cell_regrown c1
              have j1 := cell_regrown e1
              have g2 := cell_regrown c2
              have j2 := cell_regrown e2
              clear c0 e0 c1 e1 c2 e2
              refine wp_region_ext (by kernel_rfl) (by kernel_rfl) ?_
              repeat (go_big_quiet_step (fail))
              refine wpQuiet_nil ?_
              intro w1 hb1
              go_wp2
              go_ret
              exact ⟨ret_bool (by
                cases hh : eqL eqUp xs ys
                · rfl
                · have h1 := HF.out hh
                  rw [HT.out, (by simp [eqUp, hj2] : eqUp x y = false)] at h1
                  simp at h1), below_ext hbr hb1⟩
          · have hj1 : (x.old == y.old) = false := by simpa using hk1
            go_wp2
            have g0 := cell_regrown c0
            have j0 := cell_regrown e0
            have g1 := cell_regrown c1
            have j1 := cell_regrown e1
            have g2 := cell_regrown c2
            have j2 := cell_regrown e2
            clear c0 e0 c1 e1 c2 e2
            refine wp_region_ext (by kernel_rfl) (by kernel_rfl) ?_
            repeat (go_big_quiet_step (fail))
            refine wpQuiet_nil ?_
            intro w1 hb1
            go_wp2
            go_ret
            exact ⟨ret_bool (by
              cases hh : eqL eqUp xs ys
              · rfl
              · have h1 := HF.out hh
                rw [HT.out, (by simp [eqUp, hj1] : eqUp x y = false)] at h1
                simp at h1), below_ext hbr hb1⟩
        · have hj0 : (x.ref == y.ref) = false := by simpa using hk0
          go_wp2
          have g0 := cell_regrown c0
          have j0 := cell_regrown e0
          have g1 := cell_regrown c1
          have j1 := cell_regrown e1
          have g2 := cell_regrown c2
          have j2 := cell_regrown e2
          clear c0 e0 c1 e1 c2 e2
          refine wp_region_ext (by kernel_rfl) (by kernel_rfl) ?_
          repeat (go_big_quiet_step (fail))
          refine wpQuiet_nil ?_
          intro w1 hb1
          go_wp2
          go_ret
          exact ⟨ret_bool (by
            cases hh : eqL eqUp xs ys
            · rfl
            · have h1 := HF.out hh
              rw [HT.out, (by simp [eqUp, hj0] : eqUp x y = false)] at h1
              simp at h1), below_ext hbr hb1⟩
      · obtain rfl : k = n := by omega
        rw [List.take_of_length_le (by rw [hx.1]; exact Nat.le_refl _), List.take_of_length_le (by rw [hy.1]; exact Nat.le_refl _)] at hasc
        go_wp2
        go_ret
        exact ⟨ret_bool hasc.out.symm, hbr⟩
  · have hne : ((n : Int) != (m : Int)) = true := by simp; omega
    have : eqL eqUp xs ys = false := by
      cases hh : eqL eqUp xs ys
      · rfl
      · exact absurd (eqL_len _ _ hh) (by rw [hx.1, hy.1]; exact hnm)
    go_enter Try.func62, Try.ntmps62
    go_wp2
    go_ret
    exact ⟨ret_bool this.symm, Below.refl _ _⟩
set_option maxHeartbeats 3200000 in
theorem sameParts_any (A B : Option Addr) (n c m d : Nat) (xs ys : List Pt) (w : World) (hx : RSl repPt 0 w A n xs) (hy : RSl repPt 0 w B m ys) (hn : n ≤ maxLen) (hm : m ≤ maxLen) :
    Calls Try.prog 36 #[.slice A n c, .slice B m d] w fun e w' => e = .returned (.bool (eqL eqPt xs ys)) ∧ Below w.heap.size w w' := by
  unfold maxLen at hn hm
  by_cases hnm : n = m
  · subst hnm
    go_enter Try.func36, Try.ntmps36
    go_wp2
    go_loopw [5] (fun i wr => ∃ k : Nat, k ≤ n ∧ i = .int .i64 k ∧ Hid (eqL eqPt (xs.take k) (ys.take k) = true) ∧ Below w.heap.size w wr) (fun i _ => n - (intOf i).toNat)
    case atStart => exact ⟨0, Nat.zero_le _, rfl, by show _ = _; simp [eqL], Below.refl _ _⟩
    case round =>
      obtain ⟨k, hk, rfl, hasc, hbr⟩ := hrel
      by_cases hlt : k < n
      · obtain ⟨b, off, x, cs, rfl, hb, hxk, hcx, hvx⟩ := (hx.next hbr).at_ hlt
        obtain ⟨b', off', y, cs', rfl, hb', hyk, hcy, hvy⟩ := (hy.next hbr).at_ hlt
        have HT := Lib.hid (eqL_take (f := eqPt) xs ys k x y hxk hyk)
        have HF := Lib.hid (fun hh => eqL_of_take (f := eqPt) xs ys (k+1) hh)
        clear hxk hyk
        obtain ⟨B1, m1, d1, rfl, hr1, hm1⟩ := repPt_cells hvx
        obtain ⟨B1q, m1q, d1q, rfl, hr1q, hm1q⟩ := repPt_cells hvy
        have hcall1 := fun W (q : Below wr.heap.size wr W) => sameUpdates_any B1 B1q m1 d1 m1q d1q x.us y.us W (hr1.next q) (hr1q.next q) hm1 hm1q
        have c0 : wr.cell? ⟨b, off + k * 2, none⟩ = some (.int .i64 x.shard) := hcx 0 _ rfl
        have c1 : wr.cell? ⟨b, off + k * 2 + 1, none⟩ = some (.slice B1 m1 d1) := hcx 1 _ rfl
        have e0 : wr.cell? ⟨b', off' + k * 2, none⟩ = some (.int .i64 y.shard) := hcy 0 _ rfl
        have e1 : wr.cell? ⟨b', off' + k * 2 + 1, none⟩ = some (.slice B1q m1q d1q) := hcy 1 _ rfl
        clear hcx hcy hvx hvy
        cases hk0 : (x.shard != y.shard)
        · have hj0 : (x.shard == y.shard) = true := by simpa using hk0
          cases hk1 : eqL eqUp x.us y.us
          · rw [hk1] at hcall1
            go_wp2
            have g0 := cell_regrown c0
            have j0 := cell_regrown e0
            have g1 := cell_regrown c1
            have j1 := cell_regrown e1
            clear c0 e0 c1 e1
            refine wp_region_ext (by kernel_rfl) (by kernel_rfl) ?_
            repeat (go_big_quiet_step ((go_at_call 62; exact rg_below (hcall1 _ (below_regrown _ _ _)))))
            refine wpQuiet_nil ?_
            intro w1 hb1
            go_wp2
            go_ret
            exact ⟨ret_bool (by
              cases hh : eqL eqPt xs ys
              · rfl
              · have h1 := HF.out hh
                rw [HT.out, (by simp [eqPt, hk1] : eqPt x y = false)] at h1
                simp at h1), below_ext hbr hb1⟩
          · rw [hk1] at hcall1
            go_wp2
            have g0 := cell_regrown c0
            have j0 := cell_regrown e0
            have g1 := cell_regrown c1
            have j1 := cell_regrown e1
            clear c0 e0 c1 e1
            refine wp_region_ext (by kernel_rfl) (by kernel_rfl) ?_
            repeat (go_big_quiet_step ((go_at_call 62; exact rg_below (hcall1 _ (below_regrown _ _ _)))))
            refine wpQuiet_nil ?_
            intro w1 hb1
            go_wp2
            go_roundw
            case rel => exact ⟨k + 1, by omega, by go_num, by show _ = _; rw [HT.out, hasc.out]; exact by simp [eqPt, hj0, hk1], below_ext hbr hb1⟩
            case measure => simp [intOf]; omega
        · have hj0 : (x.shard == y.shard) = false := by simpa using hk0
          go_wp2
          have g0 := cell_regrown c0
          have j0 := cell_regrown e0
          have g1 := cell_regrown c1
          have j1 := cell_regrown e1
          clear c0 e0 c1 e1
          refine wp_region_ext (by kernel_rfl) (by kernel_rfl) ?_
          repeat (go_big_quiet_step ((go_at_call 62; exact rg_below (hcall1 _ (below_regrown _ _ _)))))
          refine wpQuiet_nil ?_
          intro w1 hb1
          go_wp2
          go_ret
          exact ⟨ret_bool (by
            cases hh : eqL eqPt xs ys
            · rfl
            · have h1 := HF.out hh
              rw [HT.out, (by simp [eqPt, hj0] : eqPt x y = false)] at h1
              simp at h1), below_ext hbr hb1⟩
      · obtain rfl : k = n := by omega
        rw [List.take_of_length_le (by rw [hx.1]; exact Nat.le_refl _), List.take_of_length_le (by rw [hy.1]; exact Nat.le_refl _)] at hasc
        go_wp2
        go_ret
        exact ⟨ret_bool hasc.out.symm, hbr⟩
  · have hne : ((n : Int) != (m : Int)) = true := by simp; omega
    have : eqL eqPt xs ys = false := by
      cases hh : eqL eqPt xs ys
      · rfl
      · exact absurd (eqL_len _ _ hh) (by rw [hx.1, hy.1]; exact hnm)
    go_enter Try.func36, Try.ntmps36
    go_wp2
    go_ret
    exact ⟨ret_bool this.symm, Below.refl _ _⟩
set_option maxRecDepth 100000 in
set_option maxHeartbeats 6400000 in
theorem sameCoordinator_any (cs cs' : List Value) (x y : Co) (w : World) (hv : repCo.V 0 w cs x) (hv' : repCo.V 0 w cs' y) :
    Calls Try.prog 12 #[.agg cs.toArray, .agg cs'.toArray] w fun e w' => e = .returned (.bool (eqCo x y)) ∧ Below w.heap.size w w' := by
  obtain ⟨A, n, c, B1, m1, d1, rfl, hr0, hm0, hr1, hm1⟩ := repCo_cells hv
  obtain ⟨B, m, d, B1q, m1q, d1q, rfl, hr0q, hm0q, hr1q, hm1q⟩ := repCo_cells hv'
  have hbx := below_box2 w (.cells #[.slice A n c, .slice B1 m1 d1] 26) (.cells #[.slice B m d, .slice B1q m1q d1q] 26)
  have k0 := hr0.next hbx
  have k0q := hr0q.next hbx
  have k1 := hr1.next hbx
  have k1q := hr1q.next hbx
  have y0 : Blk ((w.alloc (.cells #[.slice A n c, .slice B1 m1 d1] 26)).alloc (.cells #[.slice B m d, .slice B1q m1q d1q] 26)) w.heap.size 26 [.slice A n c, .slice B1 m1 d1] := (Blk.new w _ _).alloc _
  have y1 : Blk ((w.alloc (.cells #[.slice A n c, .slice B1 m1 d1] 26)).alloc (.cells #[.slice B m d, .slice B1q m1q d1q] 26)) (w.heap.size + 1) 26 [.slice B m d, .slice B1q m1q d1q] := by simpa using Blk.new (w.alloc (.cells #[.slice A n c, .slice B1 m1 d1] 26)) 26 [.slice B m d, .slice B1q m1q d1q]
  clear hv hv'
  unfold maxLen at hm0 hm0q
  go_enter Try.func12, Try.ntmps12
  go_wp2_with fail
  refine (sameInts_any B1 B1q m1 d1 m1q d1q x.ord y.ord _ k1.rints k1q.rints hm1 hm1q).mono ?_
  rintro e w0 ⟨rfl, hb0⟩
  have hz0 := hb0.size
  simp only [size_alloc] at hz0
  have z0 := y0.next hb0
  have z1 := y1.next hb0
  obtain ⟨z00, z01⟩ := z0.cells2
  obtain ⟨z10, z11⟩ := z1.cells2
  have hbb0 := below_ext hbx hb0
  have hx := k0.next hb0
  have hy := k0q.next hb0
  clear k0 k0q k1 k1q y0 y1
  cases ho : eqI x.ord y.ord
  · go_wp2_with fail
    go_ret
    exact ⟨ret_bool (by simp [eqCo, ho]), hbb0⟩
  · by_cases hnm : n = m
    · subst hnm
      have hEq := Lib.hid (show eqCo x y = eqL eqTx x.ts y.ts by simp [eqCo, ho])
      go_wp2_with fail
      clear z00 z01 z10 z11
      generalize hxs : x.ts = xs at *
      generalize hys : y.ts = ys at *
      go_loopw [5] (fun i wr => ∃ k : Nat, k ≤ n ∧ i = .int .i64 k ∧ Hid (eqL eqTx (xs.take k) (ys.take k) = true) ∧ Below w0.heap.size w0 wr) (fun i _ => n - (intOf i).toNat)
      case atStart => exact ⟨0, Nat.zero_le _, rfl, by show _ = _; simp [eqL], Below.refl _ _⟩
      case round =>
        obtain ⟨k, hk, rfl, hasc, hbr⟩ := hrel
        have u0 := z0.next hbr
        have u1 := z1.next hbr
        obtain ⟨u00, u01⟩ := u0.cells2
        obtain ⟨u10, u11⟩ := u1.cells2
        by_cases hlt : k < n
        · obtain ⟨b, off, x, cs, rfl, hb, hxk, hcx, hvx⟩ := (hx.next hbr).at_ hlt
          obtain ⟨b', off', y, cs', rfl, hb', hyk, hcy, hvy⟩ := (hy.next hbr).at_ hlt
          have HT := Lib.hid (eqL_take (f := eqTx) xs ys k x y hxk hyk)
          have HF := Lib.hid (fun hh => eqL_of_take (f := eqTx) xs ys (k+1) hh)
          clear hxk hyk
          obtain ⟨P0, p0, q0, V0, v0, s0, rfl, hp0, hp1, hp2, hp3⟩ := repTx_cells hvx
          obtain ⟨P0q, p0q, q0q, V0q, v0q, s0q, rfl, hp0q, hp1q, hp2q, hp3q⟩ := repTx_cells hvy
          have hcall1 := fun W (q : Below wr.heap.size wr W) => sameInts_any V0 V0q v0 s0 v0q s0q x.vs y.vs W (hp2.next q).plain.rints (hp2q.next q).plain.rints hp3 hp3q
          have hcall2 := fun W (q : Below wr.heap.size wr W) => sameParts_any P0 P0q p0 q0 p0q q0q x.ps y.ps W (hp0.next q) (hp0q.next q) hp1 hp1q
          have c0 : wr.cell? ⟨b, off + k * 3, none⟩ = some (.slice P0 p0 q0) := hcx 0 _ rfl
          have c1 : wr.cell? ⟨b, off + k * 3 + 1, none⟩ = some (.slice V0 v0 s0) := hcx 1 _ rfl
          have c2 : wr.cell? ⟨b, off + k * 3 + 1 + 1, none⟩ = some (.int .i64 x.dec) := hcx 2 _ rfl
          have e0 : wr.cell? ⟨b', off' + k * 3, none⟩ = some (.slice P0q p0q q0q) := hcy 0 _ rfl
          have e1 : wr.cell? ⟨b', off' + k * 3 + 1, none⟩ = some (.slice V0q v0q s0q) := hcy 1 _ rfl
          have e2 : wr.cell? ⟨b', off' + k * 3 + 1 + 1, none⟩ = some (.int .i64 y.dec) := hcy 2 _ rfl
          clear hcx hcy hvx hvy
          cases hk0 : (x.dec != y.dec)
          · have hj0 : (x.dec == y.dec) = true := by simpa using hk0
            cases hk1 : eqI x.vs y.vs
            · rw [hk1] at hcall1
              go_wp2
              have g0 := cell_regrown c0
              have j0 := cell_regrown e0
              have g1 := cell_regrown c1
              have j1 := cell_regrown e1
              have g2 := cell_regrown c2
              have j2 := cell_regrown e2
              have tu00 := cell_regrown u00
              have tu01 := cell_regrown u01
              have tu10 := cell_regrown u10
              have tu11 := cell_regrown u11
              clear c0 c1 c2 e0 e1 e2 u00 u01 u10 u11
              refine wp_region_ext (by kernel_rfl) (by kernel_rfl) ?_
              repeat (go_big_quiet_step ((first | (go_at_call 24; exact rg_below (hcall1 _ (below_regrown _ _ _))) | (go_at_call 36; exact rg_below (hcall2 _ (below_regrown _ _ _))))))
              refine wpQuiet_nil ?_
              intro w1 hb1
              go_wp2
              go_ret
              exact ⟨ret_bool (by
                rw [hEq.out]
                cases hh : eqL eqTx xs ys
                · rfl
                · have h1 := HF.out hh
                  rw [HT.out, (by simp [eqTx, hk1] : eqTx x y = false)] at h1
                  simp at h1), below_ext hbb0 (below_ext hbr hb1)⟩
            · rw [hk1] at hcall1
              cases hk2 : eqL eqPt x.ps y.ps
              · rw [hk2] at hcall2
                go_wp2
                have g0 := cell_regrown c0
                have j0 := cell_regrown e0
                have g1 := cell_regrown c1
                have j1 := cell_regrown e1
                have g2 := cell_regrown c2
                have j2 := cell_regrown e2
                have tu00 := cell_regrown u00
                have tu01 := cell_regrown u01
                have tu10 := cell_regrown u10
                have tu11 := cell_regrown u11
                clear c0 c1 c2 e0 e1 e2 u00 u01 u10 u11
                refine wp_region_ext (by kernel_rfl) (by kernel_rfl) ?_
                repeat (go_big_quiet_step ((first | (go_at_call 24; exact rg_below (hcall1 _ (below_regrown _ _ _))) | (go_at_call 36; exact rg_below (hcall2 _ (below_regrown _ _ _))))))
                refine wpQuiet_nil ?_
                intro w1 hb1
                go_wp2
                go_ret
                exact ⟨ret_bool (by
                  rw [hEq.out]
                  cases hh : eqL eqTx xs ys
                  · rfl
                  · have h1 := HF.out hh
                    rw [HT.out, (by simp [eqTx, hk2] : eqTx x y = false)] at h1
                    simp at h1), below_ext hbb0 (below_ext hbr hb1)⟩
              · rw [hk2] at hcall2
                go_wp2
                have g0 := cell_regrown c0
                have j0 := cell_regrown e0
                have g1 := cell_regrown c1
                have j1 := cell_regrown e1
                have g2 := cell_regrown c2
                have j2 := cell_regrown e2
                have tu00 := cell_regrown u00
                have tu01 := cell_regrown u01
                have tu10 := cell_regrown u10
                have tu11 := cell_regrown u11
                clear c0 c1 c2 e0 e1 e2 u00 u01 u10 u11
                refine wp_region_ext (by kernel_rfl) (by kernel_rfl) ?_
                repeat (go_big_quiet_step ((first | (go_at_call 24; exact rg_below (hcall1 _ (below_regrown _ _ _))) | (go_at_call 36; exact rg_below (hcall2 _ (below_regrown _ _ _))))))
                refine wpQuiet_nil ?_
                intro w1 hb1
                go_wp2
                go_roundw
                case rel => exact ⟨k + 1, by omega, by go_num, by show _ = _; rw [HT.out, hasc.out]; exact by simp [eqTx, hj0, hk1, hk2], below_ext hbr hb1⟩
                case measure => simp [intOf]; omega
          · have hj0 : (x.dec == y.dec) = false := by simpa using hk0
            go_wp2
            have g0 := cell_regrown c0
            have j0 := cell_regrown e0
            have g1 := cell_regrown c1
            have j1 := cell_regrown e1
            have g2 := cell_regrown c2
            have j2 := cell_regrown e2
            have tu00 := cell_regrown u00
            have tu01 := cell_regrown u01
            have tu10 := cell_regrown u10
            have tu11 := cell_regrown u11
            clear c0 c1 c2 e0 e1 e2 u00 u01 u10 u11
            refine wp_region_ext (by kernel_rfl) (by kernel_rfl) ?_
            repeat (go_big_quiet_step ((first | (go_at_call 24; exact rg_below (hcall1 _ (below_regrown _ _ _))) | (go_at_call 36; exact rg_below (hcall2 _ (below_regrown _ _ _))))))
            refine wpQuiet_nil ?_
            intro w1 hb1
            go_wp2
            go_ret
            exact ⟨ret_bool (by
              rw [hEq.out]
              cases hh : eqL eqTx xs ys
              · rfl
              · have h1 := HF.out hh
                rw [HT.out, (by simp [eqTx, hj0] : eqTx x y = false)] at h1
                simp at h1), below_ext hbb0 (below_ext hbr hb1)⟩
        · obtain rfl : k = n := by omega
          rw [List.take_of_length_le (by rw [hx.1]; exact Nat.le_refl _), List.take_of_length_le (by rw [hy.1]; exact Nat.le_refl _)] at hasc
          go_wp2
          go_ret
          exact ⟨ret_bool (by rw [hEq.out, hasc.out]), below_ext hbb0 hbr⟩
    · have hne : ((n : Int) != (m : Int)) = true := by simp; omega
      have : eqCo x y = false := by
        cases hh : eqL eqTx x.ts y.ts
        · simp [eqCo, hh]
        · exact absurd (eqL_len _ _ hh) (by rw [hr0.1, hr0q.1]; exact hnm)
      go_wp2_with fail
      go_ret
      exact ⟨ret_bool this.symm, hbb0⟩
end Go.Proofs.Ytlmcejpjhdaanaa
