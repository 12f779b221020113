/- Walks: the place of a shard's part; slices.Contains at ints. -/
import Derived.Test.YtlmcejpjhdaanaaCoM
import Derived.Test.YtlmcejpjhdaanaaShardS
import Derived.Test.YtlmcejpjhdaanaaCoI
namespace Go.Proofs.Ytlmcejpjhdaanaa
open Go.RowKit Go.Sort

theorem cell_lt {w : World} {g i : Nat} {v : Value} (h : w.cell? ⟨g, i, none⟩ = some v) : g < w.heap.size := by
  rcases Nat.lt_or_ge g w.heap.size with hlt | hge
  · exact hlt
  · simp [World.cell?, Array.getElem?_eq_none hge] at h
set_option maxHeartbeats 800000 in
theorem atShard_any (s : Int) (p : Pt) (U : Option Addr) (m d g : Nat) (w : World) (hc : w.cell? ⟨g, 0, none⟩ = some (.int .i64 s)) :
    Calls Try.prog 102 #[.agg #[.int .i64 p.shard, .slice U m d], .pointer (some ⟨g, 0, none⟩)] w fun e w' => e = .returned (.bool (p.shard == s)) ∧ Below w.heap.size w w' := by
  have hg := cell_lt hc
  have bo := Blk.new w 51 [.int .i64 p.shard, .slice U m d]
  have hb := below_box w (.cells #[.int .i64 p.shard, .slice U m d] 51)
  have hc1 := (hb.cell (p := ⟨g, 0, none⟩) hg).trans hc
  obtain ⟨c0, c1⟩ := bo.cells2
  go_enter Try.func102, Try.ntmps102
  go_wp2
  go_ret
  exact ⟨rfl, hb⟩
set_option maxHeartbeats 1600000 in
theorem idxPart_any (A : Option Addr) (n c : Nat) (ps : List Pt) (w : World) (h : RSl repPt 0 w A n ps) (hn : n ≤ maxLen) (s : Int) (g : Nat) (hcell : w.cell? ⟨g, 0, none⟩ = some (.int .i64 s)) :
    Calls Try.prog 101 #[.slice A n c, .func (.func 102) #[] #[.pointer (some ⟨g, 0, none⟩)]] w fun e w' => e = .returned (.int .i64 (idxI (shAt ps s))) ∧ Below w.heap.size w w' := by
  unfold maxLen at hn
  go_enter Try.func101, Try.ntmps101
  go_wp2
  go_loopw [8] (fun i wr => ∃ k : Nat, k ≤ n ∧ i = .int .i64 k ∧ Hid (∀ (j : Nat) (p : Pt), ps[j]? = some p → j < k → p.shard ≠ s) ∧ Below w.heap.size w wr) (fun i _ => n - (intOf i).toNat)
  case atStart => exact ⟨0, Nat.zero_le _, rfl, fun _ _ _ h => absurd h (by omega), Below.refl _ _⟩
  case round =>
    obtain ⟨k, hk, rfl, hall, hbr⟩ := hrel
    by_cases hlt : k < n
    · obtain ⟨b, off, p, cs, rfl, hb, hx, hcx, hvx⟩ := (h.next hbr).at_ hlt
      obtain ⟨U, m, d, rfl, -, -⟩ := repPt_cells hvx
      have c0 : wr.cell? ⟨b, off + k * 2, none⟩ = some (.int .i64 p.shard) := hcx 0 _ rfl
      have c1 : wr.cell? ⟨b, off + k * 2 + 1, none⟩ = some (.slice U m d) := hcx 1 _ rfl
      have HX := Lib.hid hx
      clear hcx hvx hx
      have hcl := atShard_any s p U m d g _ ((hbr.cell (p := ⟨g, 0, none⟩) (cell_lt hcell)).trans hcell)
      cases hx1 : (p.shard == s)
      · rw [hx1] at hcl
        go_wp2_with (refine hcl.mono ?_; rintro e w2 ⟨rfl, hb2⟩)
        go_roundw
        case rel => exact ⟨k + 1, by omega, by go_num, fun j y hy hj => by
          by_cases hjk : j = k
          · subst hjk
            rw [HX.out] at hy
            injection hy with hy
            subst hy
            simpa using hx1
          · exact hall.out j y hy (by omega), below_ext hbr hb2⟩
        case measure => simp [intOf]; omega
      · rw [hx1] at hcl
        go_wp2_with (refine hcl.mono ?_; rintro e w2 ⟨rfl, hb2⟩)
        go_ret
        refine ⟨?_, below_ext hbr hb2⟩
        rw [shAt_some hall.out HX.out (by simpa using hx1)]
        rfl
    · obtain rfl : k = n := by omega
      go_wp2
      go_ret
      refine ⟨?_, hbr⟩
      rw [shAt_none fun j p hp => hall.out j p hp (by have := (List.getElem?_eq_some_iff.1 hp).1; have := h.1; omega)]
      rfl
set_option maxHeartbeats 1600000 in
theorem partAt_any (P : Option Addr) (p d : Nat) (v1 v2 : Value) (ps : List Pt) (s : Int) (w : World) (h : RSl repPt 0 w P p ps) (hn : p ≤ maxLen) (h1 : v1.oneCell' = true) (h2 : v2.oneCell' = true) :
    Calls Try.prog 73 #[.agg #[.slice P p d, v1, v2], .int .i64 s] w fun e w' => e = .returned (.int .i64 (idxI (shAt ps s))) ∧ Below w.heap.size w w' := by
  have e1 : v1.cells = #[v1] := by revert h1; cases v1 <;> simp [Value.oneCell', Value.cells]
  have e2 : v2.cells = #[v2] := by revert h2; cases v2 <;> simp [Value.oneCell', Value.cells]
  have b0 := below_box w (.cells #[.slice P p d, v1, v2] 35)
  have b1 := below_ext b0 (below_box (w.alloc (.cells #[.slice P p d, v1, v2] 35)) (.cells #[.int .i64 s] 3))
  have x0 := (Blk.new w 35 [.slice P p d, v1, v2]).alloc (.cells #[.int .i64 s] 3)
  have x1 : Blk ((w.alloc (.cells #[.slice P p d, v1, v2] 35)).alloc (.cells #[.int .i64 s] 3)) (w.heap.size + 1) 3 [.int .i64 s] := by simpa using Blk.new (w.alloc (.cells #[.slice P p d, v1, v2] 35)) 3 [.int .i64 s]
  have y0 := x0.cell 0
  have y1 := x1.cell 0
  simp only [List.getElem?_cons_zero] at y0 y1
  have h3 := h.next b1
  go_enter Try.func73, Try.ntmps73
  go_wp2_with fail
  refine (idxPart_any P p d ps _ h3 hn s (w.heap.size + 1) y1).mono ?_
  rintro e w2 ⟨rfl, hb2⟩
  go_wp2_with fail
  go_ret
  exact ⟨rfl, below_ext b1 hb2⟩
end Go.Proofs.Ytlmcejpjhdaanaa
