/- Walks: the laws' eqPackEntryS on equal data. -/
import Derived.Test.YtkekcgamhhmjnaaPkMakeI
import Derived.Test.YtkekcgamhhmjnaaLaw
import Derived.BigQuiet
namespace Go.Proofs.Ytkekcgamhhmjnaa
open Go.RowKit Go.Sort

theorem eqI_same (xs : List Int) : eqI xs xs = true := by simp [eqI]
set_option maxHeartbeats 1600000 in
theorem eqOp_same (x : Dp) (w : World) :
    Calls Try.prog 70 #[.agg #[.int .i64 x.at_, .int .i64 x.sz, .string x.tx], .agg #[.int .i64 x.at_, .int .i64 x.sz, .string x.tx]] w fun e w' => e = .returned (.bool true) ∧ Below w.heap.size w w' := by
  have hbx := below_box2 w (.cells #[.int .i64 x.at_, .int .i64 x.sz, .string x.tx] 62) (.cells #[.int .i64 x.at_, .int .i64 x.sz, .string x.tx] 62)
  have z0 : (x.at_ != x.at_) = false := by simp
  have z1 : (x.sz != x.sz) = false := by simp
  go_enter Try.func70, Try.ntmps70
  go_wp2_with fail
  go_ret
  exact ⟨rfl, hbx⟩
set_option maxHeartbeats 1600000 in
theorem eqOpS_same (A B : Option Addr) (n c m d : Nat) (ops : List Dp) (w : World) (hx : RSl repDp 0 w A n ops) (hy : RSl repDp 0 w B m ops) (hn : n ≤ maxLen) :
    Calls Try.prog 63 #[.slice A n c, .slice B m d] w fun e w' => e = .returned (.bool true) ∧ Below w.heap.size w w' := by
  have hnm : n = m := hx.1.symm.trans hy.1
  subst hnm
  unfold maxLen at hn
  go_enter Try.func63, Try.ntmps63
  go_wp2_with fail
  go_loopw [5] (fun i wr => ∃ k : Nat, k ≤ n ∧ i = .int .i64 k ∧ Below w.heap.size w wr) (fun i _ => n - (intOf i).toNat)
  case atStart => exact ⟨0, Nat.zero_le _, rfl, Below.refl _ _⟩
  case round =>
    obtain ⟨k, hk, rfl, hbr⟩ := hrel
    by_cases hlt : k < n
    · obtain ⟨b, off, x, cs, rfl, hb, hxk, hcx, hvx⟩ := (hx.next hbr).at_ hlt
      obtain ⟨b', off', y, cs', rfl, hb', hyk, hcy, hvy⟩ := (hy.next hbr).at_ hlt
      obtain rfl : x = y := by rw [hxk] at hyk; injection hyk
      obtain ⟨rfl, ht⟩ := repDp_cells hvx
      obtain ⟨rfl, _⟩ := repDp_cells hvy
      have g0 := cell_regrown (show wr.cell? ⟨b, off + k * 3, none⟩ = some (.int .i64 x.at_) from hcx 0 _ rfl)
      have g1 := cell_regrown (show wr.cell? ⟨b, off + k * 3 + 1, none⟩ = some (.int .i64 x.sz) from hcx 1 _ rfl)
      have g2 := cell_regrown (show wr.cell? ⟨b, off + k * 3 + 1 + 1, none⟩ = some (.string x.tx) from hcx 2 _ rfl)
      have j0 := cell_regrown (show wr.cell? ⟨b', off' + k * 3, none⟩ = some (.int .i64 x.at_) from hcy 0 _ rfl)
      have j1 := cell_regrown (show wr.cell? ⟨b', off' + k * 3 + 1, none⟩ = some (.int .i64 x.sz) from hcy 1 _ rfl)
      have j2 := cell_regrown (show wr.cell? ⟨b', off' + k * 3 + 1 + 1, none⟩ = some (.string x.tx) from hcy 2 _ rfl)
      clear hxk hyk hcx hcy hvx hvy
      go_wp2_with fail
      refine wp_region_ext (by kernel_rfl) (by kernel_rfl) ?_
      repeat (go_big_quiet_step ((go_at_call 70; exact rg_below (eqOp_same x _))))
      refine wpQuiet_nil ?_
      intro w1 hb1
      go_wp2_with fail
      go_roundw
      case rel => exact ⟨k + 1, by omega, by go_num, below_ext hbr hb1⟩
      case measure => simp [intOf]; omega
    · obtain rfl : k = n := by omega
      go_wp2_with fail
      go_ret
      exact ⟨rfl, hbr⟩
set_option maxHeartbeats 1600000 in
theorem eqPackEntry_same (x : Pe) (B1 D1 B3 D3 : Option Addr) (m1 d1 m3 d3 p1 f1 p3 f3 : Nat) (w : World) (hr1 : RSl repInt 0 w B1 m1 x.xs) (hm1 : m1 ≤ maxLen) (hr3 : RSl repDp 0 w B3 m3 x.ops) (hm3 : m3 ≤ maxLen) (hs1 : RSl repInt 0 w D1 p1 x.xs) (hp1 : p1 ≤ maxLen) (hs3 : RSl repDp 0 w D3 p3 x.ops) :
    Calls Try.prog 43 #[.agg #[.int .i64 x.k, .slice B1 m1 d1, .int .i64 x.b, .slice B3 m3 d3], .agg #[.int .i64 x.k, .slice D1 p1 f1, .int .i64 x.b, .slice D3 p3 f3]] w fun e w' => e = .returned (.bool true) ∧ Below w.heap.size w w' := by
  have hbx := below_box2 w (.cells #[.int .i64 x.k, .slice B1 m1 d1, .int .i64 x.b, .slice B3 m3 d3] 32) (.cells #[.int .i64 x.k, .slice D1 p1 f1, .int .i64 x.b, .slice D3 p3 f3] 32)
  have bo := (Blk.new w 32 [.int .i64 x.k, .slice B1 m1 d1, .int .i64 x.b, .slice B3 m3 d3]).alloc (.cells #[.int .i64 x.k, .slice D1 p1 f1, .int .i64 x.b, .slice D3 p3 f3] 32)
  have bp : Blk ((w.alloc (.cells #[.int .i64 x.k, .slice B1 m1 d1, .int .i64 x.b, .slice B3 m3 d3] 32)).alloc (.cells #[.int .i64 x.k, .slice D1 p1 f1, .int .i64 x.b, .slice D3 p3 f3] 32)) (w.heap.size + 1) 32 [.int .i64 x.k, .slice D1 p1 f1, .int .i64 x.b, .slice D3 p3 f3] := by
    have := Blk.new (w.alloc (.cells #[.int .i64 x.k, .slice B1 m1 d1, .int .i64 x.b, .slice B3 m3 d3] 32)) 32 [.int .i64 x.k, .slice D1 p1 f1, .int .i64 x.b, .slice D3 p3 f3]
    rwa [show (w.alloc (.cells #[.int .i64 x.k, .slice B1 m1 d1, .int .i64 x.b, .slice B3 m3 d3] 32)).heap.size = w.heap.size + 1 from by simp] at this
  have k1 := hr1.next hbx
  have k3 := hr3.next hbx
  have l1 := hs1.next hbx
  have l3 := hs3.next hbx
  have z0 : (x.k != x.k) = false := by simp
  have z1 : (x.b != x.b) = false := by simp
  go_enter Try.func43, Try.ntmps43
  go_wp2_with fail
  refine (eqIntS_any B1 D1 m1 d1 p1 f1 x.xs x.xs _ k1.rints l1.rints hm1 hp1).mono ?_
  rw [eqI_same]
  rintro e w1 ⟨rfl, hb1⟩
  obtain ⟨u0, u1, u2, u3⟩ := (bo.next hb1).cells4
  obtain ⟨v0, v1, v2, v3⟩ := (bp.next hb1).cells4
  have b1 := below_ext hbx hb1
  go_wp2_with fail
  refine (eqOpS_same B3 D3 m3 d3 p3 f3 x.ops _ (k3.next hb1) (l3.next hb1) hm3).mono ?_
  rintro e w2 ⟨rfl, hb2⟩
  go_wp2_with fail
  go_ret
  exact ⟨rfl, below_ext b1 hb2⟩
set_option maxHeartbeats 1600000 in
theorem eqPackEntryS_same (A B : Option Addr) (n c m d : Nat) (ps : List Pe) (w : World) (hx : RSl repPe 0 w A n ps) (hy : RSl repPe 0 w B m ps) (hn : n ≤ maxLen) :
    Calls Try.prog 21 #[.slice A n c, .slice B m d] w fun e w' => e = .returned (.bool true) ∧ Below w.heap.size w w' := by
  have hnm : n = m := hx.1.symm.trans hy.1
  subst hnm
  unfold maxLen at hn
  go_enter Try.func21, Try.ntmps21
  go_wp2_with fail
  go_loopw [5] (fun i wr => ∃ k : Nat, k ≤ n ∧ i = .int .i64 k ∧ Below w.heap.size w wr) (fun i _ => n - (intOf i).toNat)
  case atStart => exact ⟨0, Nat.zero_le _, rfl, Below.refl _ _⟩
  case round =>
    obtain ⟨k, hk, rfl, hbr⟩ := hrel
    by_cases hlt : k < n
    · obtain ⟨b, off, x, cs, rfl, hb, hxk, hcx, hvx⟩ := (hx.next hbr).at_ hlt
      obtain ⟨b', off', y, cs', rfl, hb', hyk, hcy, hvy⟩ := (hy.next hbr).at_ hlt
      obtain rfl : x = y := by rw [hxk] at hyk; injection hyk
      obtain ⟨B1, m1, d1, B3, m3, d3, rfl, hr1, hm1, hr3, hm3⟩ := repPe_cells hvx
      obtain ⟨D1, p1, f1, D3, p3, f3, rfl, hs1, hq1, hs3, hq3⟩ := repPe_cells hvy
      have g0 := cell_regrown (show wr.cell? ⟨b, off + k * 4, none⟩ = some (.int .i64 x.k) from hcx 0 _ rfl)
      have g1 := cell_regrown (show wr.cell? ⟨b, off + k * 4 + 1, none⟩ = some (.slice B1 m1 d1) from hcx 1 _ rfl)
      have g2 := cell_regrown (show wr.cell? ⟨b, off + k * 4 + 1 + 1, none⟩ = some (.int .i64 x.b) from hcx 2 _ rfl)
      have g3 := cell_regrown (show wr.cell? ⟨b, off + k * 4 + 1 + 1 + 1, none⟩ = some (.slice B3 m3 d3) from hcx 3 _ rfl)
      have j0 := cell_regrown (show wr.cell? ⟨b', off' + k * 4, none⟩ = some (.int .i64 x.k) from hcy 0 _ rfl)
      have j1 := cell_regrown (show wr.cell? ⟨b', off' + k * 4 + 1, none⟩ = some (.slice D1 p1 f1) from hcy 1 _ rfl)
      have j2 := cell_regrown (show wr.cell? ⟨b', off' + k * 4 + 1 + 1, none⟩ = some (.int .i64 x.b) from hcy 2 _ rfl)
      have j3 := cell_regrown (show wr.cell? ⟨b', off' + k * 4 + 1 + 1 + 1, none⟩ = some (.slice D3 p3 f3) from hcy 3 _ rfl)
      have hc1 : ∀ (dd : Nat) (oo : Array Obj), Calls Try.prog 43 #[.agg #[.int .i64 x.k, .slice B1 m1 d1, .int .i64 x.b, .slice B3 m3 d3], .agg #[.int .i64 x.k, .slice D1 p1 f1, .int .i64 x.b, .slice D3 p3 f3]] (grow (redrawn wr dd) oo) fun e w' => e = .returned (.bool true) ∧ Below (grow (redrawn wr dd) oo).heap.size (grow (redrawn wr dd) oo) w' := fun dd oo =>
        eqPackEntry_same x B1 D1 B3 D3 m1 d1 m3 d3 p1 f1 p3 f3 (grow (redrawn wr dd) oo) (hr1.next (below_regrown _ _ _)) hm1 (hr3.next (below_regrown _ _ _)) hm3 (hs1.next (below_regrown _ _ _)) hq1 (hs3.next (below_regrown _ _ _))
      clear hxk hyk hcx hcy hvx hvy
      go_wp2_with fail
      refine wp_region_ext (by kernel_rfl) (by kernel_rfl) ?_
      repeat (go_big_quiet_step ((go_at_call 43; exact rg_below (hc1 _ _))))
      refine wpQuiet_nil ?_
      intro w1 hb1
      go_wp2_with fail
      go_roundw
      case rel => exact ⟨k + 1, by omega, by go_num, below_ext hbr hb1⟩
      case measure => simp [intOf]; omega
    · obtain rfl : k = n := by omega
      go_wp2_with fail
      go_ret
      exact ⟨rfl, hbr⟩
end Go.Proofs.Ytkekcgamhhmjnaa
