/- Walks: the place of a shard's part; slices.Contains at ints. -/
import Derived.Test.YtbgjidamhheekaaCoM
import Derived.Test.YtbgjidamhheekaaShardS
import Derived.Test.YtbgjidamhheekaaCoI
namespace Go.Proofs.Ytbgjidamhheekaa
open Go.RowKit Go.Sort

theorem cell_lt {w : World} {g i : Nat} {v : Value} (h : w.cell? ⟨g, i, none⟩ = some v) : g < w.heap.size := by
  rcases Nat.lt_or_ge g w.heap.size with hlt | hge
  · exact hlt
  · simp [World.cell?, Array.getElem?_eq_none hge] at h
set_option maxHeartbeats 800000 in
theorem atShard_any (s : Int) (p : Pt) (U : Option Addr) (m d g : Nat) (w : World) (hc : w.cell? ⟨g, 0, none⟩ = some (.int .i64 s)) :
    Calls Try.prog 59 #[.agg #[.int .i64 p.shard, .slice U m d], .pointer (some ⟨g, 0, none⟩)] w fun e w' => e = .returned (.bool (p.shard == s)) ∧ Below w.heap.size w w' := by
  have hg := cell_lt hc
  have bo := Blk.new w 71 [.int .i64 p.shard, .slice U m d]
  have hb := below_box w (.cells #[.int .i64 p.shard, .slice U m d] 71)
  have hc1 := (hb.cell (p := ⟨g, 0, none⟩) hg).trans hc
  obtain ⟨c0, c1⟩ := bo.cells2
  go_enter Try.func59, Try.ntmps59
  go_wp2
  go_ret
  exact ⟨rfl, hb⟩
set_option maxHeartbeats 1600000 in
theorem idxPart_any (A : Option Addr) (n c : Nat) (ps : List Pt) (w : World) (h : RSl repPt 0 w A n ps) (hn : n ≤ maxLen) (s : Int) (g : Nat) (hcell : w.cell? ⟨g, 0, none⟩ = some (.int .i64 s)) :
    Calls Try.prog 58 #[.slice A n c, .func (.func 59) #[] #[.pointer (some ⟨g, 0, none⟩)]] w fun e w' => e = .returned (.int .i64 (idxI (shAt ps s))) ∧ Below w.heap.size w w' := by
  unfold maxLen at hn
  go_enter Try.func58, Try.ntmps58
  go_wp2
  go_loopw [8] (fun i wr => ∃ k : Nat, k ≤ n ∧ i = .int .i64 k ∧ Hid (∀ (j : Nat) (p : Pt), ps[j]? = some p → j < k → p.shard ≠ s) ∧ Below w.heap.size w wr) (fun i _ => n - (intOf i).toNat)
  case atStart => exact ⟨0, Nat.zero_le _, rfl, fun _ _ _ h => absurd h (by omega), Below.refl _ _⟩
  case round =>
    obtain ⟨k, hk, rfl, hall, hbr⟩ := hrel
    by_cases hlt : k < n
    · obtain ⟨b, off, p, cs, rfl, hb, hx, hcx, hvx⟩ := (h.next hbr).at_ hlt
      obtain ⟨U, m, d, rfl, -, -⟩ := repPt_cells hvx
      have c0 : wr.cell? ⟨b, off + k * 2, none⟩ = some (.int .i64 p.shard) := hcx 0 _ rfl
      have c1 : wr.cell? ⟨b, off + k * 2 + 1, none⟩ = some (.slice U m d) := hcx 1 _ rfl
      have HX := Lib.hid hx
      clear hcx hvx hx
      have hcl := atShard_any s p U m d g _ ((hbr.cell (p := ⟨g, 0, none⟩) (cell_lt hcell)).trans hcell)
      cases hx1 : (p.shard == s)
      · rw [hx1] at hcl
        go_wp2_with (refine hcl.mono ?_; rintro e w2 ⟨rfl, hb2⟩)
        go_roundw
        case rel => exact ⟨k + 1, by omega, by go_num, fun j y hy hj => by
          by_cases hjk : j = k
          · subst hjk
            rw [HX.out] at hy
            injection hy with hy
            subst hy
            simpa using hx1
          · exact hall.out j y hy (by omega), below_ext hbr hb2⟩
        case measure => simp [intOf]; omega
      · rw [hx1] at hcl
        go_wp2_with (refine hcl.mono ?_; rintro e w2 ⟨rfl, hb2⟩)
        go_ret
        refine ⟨?_, below_ext hbr hb2⟩
        rw [shAt_some hall.out HX.out (by simpa using hx1)]
        rfl
    · obtain rfl : k = n := by omega
      go_wp2
      go_ret
      refine ⟨?_, hbr⟩
      rw [shAt_none fun j p hp => hall.out j p hp (by have := (List.getElem?_eq_some_iff.1 hp).1; have := h.1; omega)]
      rfl
set_option maxHeartbeats 1600000 in
theorem partAt_any (P : Option Addr) (p d : Nat) (v1 v2 : Value) (ps : List Pt) (s : Int) (w : World) (h : RSl repPt 0 w P p ps) (hn : p ≤ maxLen) (h1 : v1.oneCell' = true) (h2 : v2.oneCell' = true) :
    Calls Try.prog 34 #[.agg #[.slice P p d, v1, v2], .int .i64 s] w fun e w' => e = .returned (.int .i64 (idxI (shAt ps s))) ∧ Below w.heap.size w w' := by
  have e1 : v1.cells = #[v1] := by revert h1; cases v1 <;> simp [Value.oneCell', Value.cells]
  have e2 : v2.cells = #[v2] := by revert h2; cases v2 <;> simp [Value.oneCell', Value.cells]
  have b0 := below_box w (.cells #[.slice P p d, v1, v2] 41)
  have b1 := below_ext b0 (below_box (w.alloc (.cells #[.slice P p d, v1, v2] 41)) (.cells #[.int .i64 s] 3))
  have x0 := (Blk.new w 41 [.slice P p d, v1, v2]).alloc (.cells #[.int .i64 s] 3)
  have x1 : Blk ((w.alloc (.cells #[.slice P p d, v1, v2] 41)).alloc (.cells #[.int .i64 s] 3)) (w.heap.size + 1) 3 [.int .i64 s] := by simpa using Blk.new (w.alloc (.cells #[.slice P p d, v1, v2] 41)) 3 [.int .i64 s]
  have y0 := x0.cell 0
  have y1 := x1.cell 0
  simp only [List.getElem?_cons_zero] at y0 y1
  have h3 := h.next b1
  go_enter Try.func34, Try.ntmps34
  go_wp2_with fail
  refine (idxPart_any P p d ps _ h3 hn s (w.heap.size + 1) y1).mono ?_
  rintro e w2 ⟨rfl, hb2⟩
  go_wp2_with fail
  go_ret
  exact ⟨rfl, below_ext b1 hb2⟩
theorem index_any (A : Option Addr) (n c : Nat) (xs : List Int) (z : Int) (w : World) (h : RInts w A n xs) (hn : n ≤ maxLen) :
    Calls Try.prog 60 #[.slice A n c, .int .i64 z] w fun e w' => (∃ r : Int, e = .returned (.int .i64 r) ∧ decide (r ≥ 0) = hasI xs z) ∧ w = w' := by
  unfold maxLen at hn
  go_enter Try.func60, Try.ntmps60
  go_wp2
  go_loop [8] (fun i => ∃ k : Nat, k ≤ n ∧ i = .int .i64 k ∧ Hid (¬ z ∈ xs.take k)) (fun i => n - (intOf i).toNat)
  case atStart => exact ⟨0, Nat.zero_le _, rfl, by show ¬ _; simp⟩
  case round =>
    obtain ⟨k, hk, rfl, hno⟩ := hrel
    by_cases hlt : k < n
    · obtain ⟨ad, x, rfl, hb, hx, hc⟩ := h.at_ hlt
      have HT := Lib.hid (mem_take_succ xs k x z hx)
      have HM := Lib.hid (List.mem_of_getElem? hx)
      clear hx
      cases he : (z == x)
      · have hne : x ≠ z := by have : z ≠ x := by simpa using he
                               exact fun e => this e.symm
        go_wp2
        go_round
        case rel => exact ⟨k + 1, by omega, by go_num, fun hh => by rcases HT.out.1 hh with h1 | h1; (· exact hno.out h1); exact hne h1⟩
        case measure => simp [intOf]; omega
      · have heq : z = x := by simpa using he
        go_wp2
        go_ret
        refine ⟨⟨_, rfl, ?_⟩, rfl⟩
        have hh : hasI xs x = true := by simpa [hasI] using HM.out
        rw [hh]
        exact decide_eq_true (by omega)
    · obtain rfl : k = n := by omega
      rw [List.take_of_length_le (by rw [h.1]; exact Nat.le_refl _)] at hno
      go_wp2
      go_ret
      exact ⟨⟨-1, rfl, by simp [hasI, hno.out]⟩, rfl⟩
theorem contains_any (A : Option Addr) (n c : Nat) (xs : List Int) (z : Int) (w : World) (h : RInts w A n xs) (hn : n ≤ maxLen) :
    Calls Try.prog 35 #[.slice A n c, .int .i64 z] w fun e w' => e = .returned (.bool (hasI xs z)) ∧ w = w' := by
  go_enter Try.func35, Try.ntmps35
  go_wp2_with fail
  refine (index_any A n c xs z w h hn).mono ?_
  rintro e w' ⟨⟨r, rfl, hr⟩, rfl⟩
  go_wp2_with fail
  go_ret
  exact ⟨ret_bool (by rw [← hr]), rfl⟩
end Go.Proofs.Ytbgjidamhheekaa
