/- Walk: sameQuarantine of two that hold the same. -/
import Derived.Test.YtjofgbbofagoiaaQuDisc
import Derived.Test.YtjofgbbofagoiaaSame
import Derived.Deep.RegionHeld3
namespace Go.Proofs.Ytjofgbbofagoiaa
open Go.RowKit Go.Sort

set_option maxRecDepth 100000 in
set_option maxHeartbeats 3200000 in
theorem sameQuarantine_same (cs cs' : List Value) (q : Qu) (w : World) (hv : repQu.V 0 w cs q) (hv' : repQu.V 0 w cs' q) :
    Calls Try.prog 26 #[.agg cs.toArray, .agg cs'.toArray] w fun e w' => e = .returned (.bool true) ∧ Below w.heap.size w w' := by
  obtain ⟨B0, m0, d0, B1, m1, d1, rfl, hr0, hm0, hr1, hm1⟩ := repQu_cells hv
  obtain ⟨D0, k0, e0, D1, k1, e1, rfl, hs0, hn0, hs1, hn1⟩ := repQu_cells hv'
  have hm00 := hm0
  have hm11 := hm1
  unfold maxLen at hm00 hm11
  obtain rfl : k1 = m1 := by have := hr1.1; have := hs1.1; omega
  obtain rfl : k0 = m0 := by have := hr0.1; have := hs0.1; omega
  have b0 := below_box2 w (.cells #[.slice B0 k0 d0, .slice B1 k1 d1] 26) (.cells #[.slice D0 k0 e0, .slice D1 k1 e1] 26)
  have x0 := (Blk.new w 26 [.slice B0 k0 d0, .slice B1 k1 d1]).alloc (.cells #[.slice D0 k0 e0, .slice D1 k1 e1] 26)
  have x1 : Blk ((w.alloc (.cells #[.slice B0 k0 d0, .slice B1 k1 d1] 26)).alloc (.cells #[.slice D0 k0 e0, .slice D1 k1 e1] 26)) (w.heap.size + 1) 26 [.slice D0 k0 e0, .slice D1 k1 e1] := by simpa using Blk.new (w.alloc (.cells #[.slice B0 k0 d0, .slice B1 k1 d1] 26)) 26 [.slice D0 k0 e0, .slice D1 k1 e1]
  obtain ⟨y0, y1⟩ := x0.cells2
  obtain ⟨y2, y3⟩ := x1.cells2
  have hne0 : ((k1 : Int) != (k1 : Int)) = false := by simp
  have HL := Lib.hid hr1.1
  go_enter Try.func26, Try.ntmps26
  go_wp2_with fail
  refine (sameObjects_any B0 D0 k0 d0 k0 e0 q.main q.main _ (hr0.next b0).robjs (hs0.next b0).robjs hm0 hm0).mono ?_
  rw [eqOs_refl]
  rintro e w1 ⟨rfl, hb1⟩
  have bb1 := below_ext b0 hb1
  have x01 := x0.next hb1
  have x11 := x1.next hb1
  obtain ⟨z0, z1⟩ := x01.cells2
  obtain ⟨z2, z3⟩ := x11.cells2
  clear y0 y1 y2 y3 x0 x1 b0 hb1
  go_wp2_with fail
  go_loopw [5] (fun i wr => ∃ k : Nat, k ≤ k1 ∧ i = .int .i64 k ∧ Blk wr w.heap.size 26 [.slice B0 k0 d0, .slice B1 k1 d1] ∧ Blk wr (w.heap.size + 1) 26 [.slice D0 k0 e0, .slice D1 k1 e1] ∧ Below w.heap.size w wr) (fun i _ => k1 - (intOf i).toNat)
  case atStart => exact ⟨0, Nat.zero_le _, rfl, x01, x11, bb1⟩
  case round =>
    obtain ⟨k, hk, rfl, hX, hY, hbr⟩ := hrel
    obtain ⟨u0, u1⟩ := hX.cells2
    obtain ⟨u2, u3⟩ := hY.cells2
    by_cases hlt : k < k1
    · obtain ⟨b, off, x, c1, rfl, hb, hx, hc, hvx⟩ := (hr1.next hbr).at_ hlt
      obtain ⟨b', off', x', c2, rfl, hb', hx', hc', hvx'⟩ := (hs1.next hbr).at_ hlt
      obtain rfl : x = x' := by rw [hx] at hx'; injection hx'
      obtain ⟨L, ml, dl, rfl, hl, hml⟩ := repAr_cells hvx
      obtain ⟨M, mm, dm, rfl, hl', hmm⟩ := repAr_cells hvx'
      have a0 : wr.cell? ⟨b, off + k * 2, none⟩ = some (.int .i64 x.t) := hc 0 _ rfl
      have a1 : wr.cell? ⟨b, off + k * 2 + 1, none⟩ = some (.slice L ml dl) := hc 1 _ rfl
      have a2 : wr.cell? ⟨b', off' + k * 2, none⟩ = some (.int .i64 x.t) := hc' 0 _ rfl
      have a3 : wr.cell? ⟨b', off' + k * 2 + 1, none⟩ = some (.slice M mm dm) := hc' 1 _ rfl
      have hne : (x.t != x.t) = false := by simp
      have hki : (k : Int) < (k1 : Int) := by omega
      have hbd : Below wr.heap.size wr wr.drew := (Below.refl _ _).drew
      clear hc hc' hvx hvx' hx hx'
      go_wp2_with fail
      go_region_held3 (fun w' => w'.cell? ⟨w.heap.size, 1, none⟩ = some (.slice (some ⟨b, off, none⟩) k1 d1) ∧ w'.cell? ⟨w.heap.size + 1, 1, none⟩ = some (.slice (some ⟨b', off', none⟩) k1 e1) ∧ w'.cell? ⟨b, off + k * 2, none⟩ = some (.int .i64 x.t) ∧ w'.cell? ⟨b, off + k * 2 + 1, none⟩ = some (.slice L ml dl) ∧ w'.cell? ⟨b', off' + k * 2, none⟩ = some (.int .i64 x.t) ∧ w'.cell? ⟨b', off' + k * 2 + 1, none⟩ = some (.slice M mm dm))
        (first
          | exact ⟨u1, u3, a0, a1, a2, a3⟩
          | exact ⟨(hX.next bz).cells2.2, (hY.next bz).cells2.2, (bz.cell (p := ⟨b, off + k * 2, none⟩) hb).trans a0, (bz.cell (p := ⟨b, off + k * 2 + 1, none⟩) hb).trans a1, (bz.cell (p := ⟨b', off' + k * 2, none⟩) hb').trans a2, (bz.cell (p := ⟨b', off' + k * 2 + 1, none⟩) hb').trans a3⟩)
        (first
          | (go_simp; go_at_call 36; refine (sameObjects_any L M ml dl mm dm x.os x.os _ (hl.next hbd).robjs (hl'.next hbd).robjs hml hmm).mono ?_
             rw [eqOs_refl]
             rintro e w2 ⟨rfl, hb2⟩
             have bz := below_ext hbd hb2))
      go_wp2_with fail
      go_roundw
      case rel => exact ⟨k + 1, by omega, by go_num, hX.next bz, hY.next bz, below_ext hbr bz⟩
      case measure => simp [intOf]; omega
    · obtain rfl : k = k1 := by omega
      go_wp2_with fail
      go_ret
      exact ⟨rfl, hbr⟩
end Go.Proofs.Ytjofgbbofagoiaa
