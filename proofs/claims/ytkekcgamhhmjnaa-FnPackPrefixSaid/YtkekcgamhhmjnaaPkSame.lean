/- Walks: the laws' sameOps, samePack on equal data. -/
import Derived.Test.YtkekcgamhhmjnaaPkData
import Derived.Test.YtkekcgamhhmjnaaSame
import Derived.BigQuiet
namespace Go.Proofs.Ytkekcgamhhmjnaa
open Go.RowKit Go.Sort

theorem eqI_self (xs : List Int) : eqI xs xs = true := by simp [eqI]
set_option maxHeartbeats 1600000 in
theorem sameOps_same (A B : Option Addr) (n c m d : Nat) (ops : List Dp) (w : World) (hx : RSl repDp 0 w A n ops) (hy : RSl repDp 0 w B m ops) (hn : n ≤ maxLen) :
    Calls Try.prog 36 #[.slice A n c, .slice B m d] w fun e w' => e = .returned (.bool true) ∧ Below w.heap.size w w' := by
  have hnm : n = m := hx.1.symm.trans hy.1
  subst hnm
  unfold maxLen at hn
  go_enter Try.func36, Try.ntmps36
  go_wp2_with fail
  go_loopw [5] (fun i wr => ∃ k : Nat, k ≤ n ∧ i = .int .i64 k ∧ Below w.heap.size w wr) (fun i _ => n - (intOf i).toNat)
  case atStart => exact ⟨0, Nat.zero_le _, rfl, Below.refl _ _⟩
  case round =>
    obtain ⟨k, hk, rfl, hbr⟩ := hrel
    by_cases hlt : k < n
    · obtain ⟨b, off, x, cs, rfl, hb, hxk, hcx, hvx⟩ := (hx.next hbr).at_ hlt
      obtain ⟨b', off', y, cs', rfl, hb', hyk, hcy, hvy⟩ := (hy.next hbr).at_ hlt
      obtain rfl : x = y := by rw [hxk] at hyk; injection hyk
      obtain ⟨rfl, ht⟩ := repDp_cells hvx
      obtain ⟨rfl, _⟩ := repDp_cells hvy
      have g0 := cell_regrown (show wr.cell? ⟨b, off + k * 3, none⟩ = some (.int .i64 x.at_) from hcx 0 _ rfl)
      have g1 := cell_regrown (show wr.cell? ⟨b, off + k * 3 + 1, none⟩ = some (.int .i64 x.sz) from hcx 1 _ rfl)
      have g2 := cell_regrown (show wr.cell? ⟨b, off + k * 3 + 1 + 1, none⟩ = some (.string x.tx) from hcx 2 _ rfl)
      have j0 := cell_regrown (show wr.cell? ⟨b', off' + k * 3, none⟩ = some (.int .i64 x.at_) from hcy 0 _ rfl)
      have j1 := cell_regrown (show wr.cell? ⟨b', off' + k * 3 + 1, none⟩ = some (.int .i64 x.sz) from hcy 1 _ rfl)
      have j2 := cell_regrown (show wr.cell? ⟨b', off' + k * 3 + 1 + 1, none⟩ = some (.string x.tx) from hcy 2 _ rfl)
      clear hxk hyk hcx hcy hvx hvy
      go_wp2_with fail
      refine wp_region_ext (by kernel_rfl) (by kernel_rfl) ?_
      repeat (go_big_quiet_step (fail))
      refine wpQuiet_nil ?_
      intro w1 hb1
      go_wp2_with fail
      go_roundw
      case rel => exact ⟨k + 1, by omega, by go_num, below_ext hbr hb1⟩
      case measure => simp [intOf]; omega
    · obtain rfl : k = n := by omega
      go_wp2_with fail
      go_ret
      exact ⟨rfl, hbr⟩
set_option maxRecDepth 100000 in
set_option maxHeartbeats 1600000 in
theorem samePack_same (A B : Option Addr) (n c m d : Nat) (ps : List Pe) (w : World) (hx : RSl repPe 0 w A n ps) (hy : RSl repPe 0 w B m ps) (hn : n ≤ maxLen) :
    Calls Try.prog 13 #[.slice A n c, .slice B m d] w fun e w' => e = .returned (.bool true) ∧ Below w.heap.size w w' := by
  have hnm : n = m := hx.1.symm.trans hy.1
  subst hnm
  unfold maxLen at hn
  go_enter Try.func13, Try.ntmps13
  go_wp2_with fail
  go_loopw [5] (fun i wr => ∃ k : Nat, k ≤ n ∧ i = .int .i64 k ∧ Below w.heap.size w wr) (fun i _ => n - (intOf i).toNat)
  case atStart => exact ⟨0, Nat.zero_le _, rfl, Below.refl _ _⟩
  case round =>
    obtain ⟨k, hk, rfl, hbr⟩ := hrel
    by_cases hlt : k < n
    · obtain ⟨b, off, x, cs, rfl, hb, hxk, hcx, hvx⟩ := (hx.next hbr).at_ hlt
      obtain ⟨b', off', y, cs', rfl, hb', hyk, hcy, hvy⟩ := (hy.next hbr).at_ hlt
      obtain rfl : x = y := by rw [hxk] at hyk; injection hyk
      obtain ⟨B1, m1, d1, B3, m3, d3, rfl, hr1, hm1, hr3, hm3⟩ := repPe_cells hvx
      obtain ⟨D1, p1, f1, D3, p3, f3, rfl, hs1, hq1, hs3, hq3⟩ := repPe_cells hvy
      have g0 := cell_regrown (show wr.cell? ⟨b, off + k * 4, none⟩ = some (.int .i64 x.k) from hcx 0 _ rfl)
      have g1 := cell_regrown (show wr.cell? ⟨b, off + k * 4 + 1, none⟩ = some (.slice B1 m1 d1) from hcx 1 _ rfl)
      have g2 := cell_regrown (show wr.cell? ⟨b, off + k * 4 + 2, none⟩ = some (.int .i64 x.b) from hcx 2 _ rfl)
      have g3 := cell_regrown (show wr.cell? ⟨b, off + k * 4 + 3, none⟩ = some (.slice B3 m3 d3) from hcx 3 _ rfl)
      have j0 := cell_regrown (show wr.cell? ⟨b', off' + k * 4, none⟩ = some (.int .i64 x.k) from hcy 0 _ rfl)
      have j1 := cell_regrown (show wr.cell? ⟨b', off' + k * 4 + 1, none⟩ = some (.slice D1 p1 f1) from hcy 1 _ rfl)
      have j2 := cell_regrown (show wr.cell? ⟨b', off' + k * 4 + 2, none⟩ = some (.int .i64 x.b) from hcy 2 _ rfl)
      have j3 := cell_regrown (show wr.cell? ⟨b', off' + k * 4 + 3, none⟩ = some (.slice D3 p3 f3) from hcy 3 _ rfl)
      have hc1 : ∀ (dd : Nat) (oo : Array Obj), Calls Try.prog 14 #[.slice B1 m1 d1, .slice D1 p1 f1] (grow (redrawn wr dd) oo) fun e w' => e = .returned (.bool true) ∧ Below (grow (redrawn wr dd) oo).heap.size (grow (redrawn wr dd) oo) w' := fun dd oo => by
        have := sameInts_any B1 D1 m1 d1 p1 f1 x.xs x.xs (grow (redrawn wr dd) oo) (hr1.next (below_regrown _ _ _)).rints (hs1.next (below_regrown _ _ _)).rints hm1 hq1
        rwa [eqI_self] at this
      have hc3 : ∀ (dd : Nat) (oo : Array Obj), Calls Try.prog 36 #[.slice B3 m3 d3, .slice D3 p3 f3] (grow (redrawn wr dd) oo) fun e w' => e = .returned (.bool true) ∧ Below (grow (redrawn wr dd) oo).heap.size (grow (redrawn wr dd) oo) w' := fun dd oo =>
        sameOps_same B3 D3 m3 d3 p3 f3 x.ops (grow (redrawn wr dd) oo) (hr3.next (below_regrown _ _ _)) (hs3.next (below_regrown _ _ _)) hm3
      have z0 : (x.k != x.k) = false := by simp
      have z1 : (x.b != x.b) = false := by simp
      clear hxk hyk hcx hcy hvx hvy
      go_wp2_with fail
      refine wp_region_ext (by kernel_rfl) (by kernel_rfl) ?_
      repeat (go_big_quiet_step ((first
        | (go_at_call 14; with_reducible exact rg_below (hc1 _ _))
        | (go_at_call 36; with_reducible exact rg_below (hc3 _ _)))))
      refine wpQuiet_nil ?_
      intro w1 hb1
      go_wp2_with fail
      go_roundw
      case rel => exact ⟨k + 1, by omega, by go_num, below_ext hbr hb1⟩
      case measure => simp [intOf]; omega
    · obtain rfl : k = n := by omega
      go_wp2_with fail
      go_ret
      exact ⟨rfl, hbr⟩
end Go.Proofs.Ytkekcgamhhmjnaa
