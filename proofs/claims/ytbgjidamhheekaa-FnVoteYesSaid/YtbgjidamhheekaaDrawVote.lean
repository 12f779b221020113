/- Walks: the drawn coordinator, transaction, shard and vote. -/
import Derived.Test.YtbgjidamhheekaaDrawCo3
namespace Go.Proofs.Ytbgjidamhheekaa
open Go.RowKit Go.Sort

def DrewVote (w : World) (e : Ending) (w' : World) : Prop := ∃ cs q z z2 y, e = .returned (.tuple #[.agg cs.toArray, .int .i64 z, .int .i64 z2, .bool y]) ∧ CoAt w.heap.size w' cs q ∧ Below w.heap.size w w'
set_option maxRecDepth 100000 in
set_option maxHeartbeats 3200000 in
theorem DrawCoordinatorVote_any (A : Option Addr) (n c : Nat) (w : World) (h : RBytes w w.heap.size A n) (hn : n ≤ maxLen) (hc : n ≤ c) :
    Calls Try.prog 17 #[.slice A n c] w (DrewVote w) := by
  have hR := Blk.new w 29 [.slice none 0 0, .slice none 0 0]
  have b0 := below_box w (.cells #[.slice none 0 0, .slice none 0 0] 29)
  go_enter Try.func17, Try.ntmps17
  go_wp2_with fail
  refine (l6Open_any _ _ _ _ (rbytes_next h b0) hn hc).mono ?_
  rintro e w1 ⟨rfl, hrd0, hb1⟩
  have hrd : Rd w1 (w.heap.size + 1) 0 := by simpa using hrd0
  rw [show (w.alloc (.cells #[.slice none 0 0, .slice none 0 0] 29)).heap.size = w.heap.size + 1 by simp]
  have hR1 := hR.next hb1
  have b1 : Below w.heap.size w w1 := below_ext b0 hb1
  go_wp2_with fail
  refine (l92Coordinator_any (w.heap.size + 1) 0 _ hrd (by omega)).mono ?_
  rintro e w2 ⟨v, p2, rfl, ⟨cs, q, S, rfl, hS, hq, ht⟩, hp2, hrd2, hg2⟩
  have hz1 := hrd.lt
  have hQ : CoAt w1.heap.size w2 cs q := ⟨S, hS, hq, ht⟩
  obtain ⟨A2, n2, c2, C2, m2, d2, rfl⟩ := hQ.two
  clear hS hq ht
  have hR2 := hR1.grown hg2 (by simp)
  have eb := below_box w2 (.cells #[.slice A2 n2 c2, .slice C2 m2 d2] 29)
  have x2 := Blk.new w2 29 [.slice A2 n2 c2, .slice C2 m2 d2]
  have hQ2 := hQ.next eb
  have hrd3 := hrd2.keep eb
  have hR3 := hR2.next eb
  have b2 := below_ext (grown_toB b1 hg2 (by omega) (by omega)) eb
  have hz2 := hg2.size
  obtain ⟨y0, y1⟩ := x2.cells2
  have HY : w.heap.size + 1 < w2.heap.size := by omega
  go_wp2_with fail
  generalize (w2.alloc (.cells #[.slice A2 n2 c2, .slice C2 m2 d2] 29)) = w3 at *
  generalize w2.heap.size = g2 at *
  refine (l92Of_any (w.heap.size + 1) p2 w1.heap.size _ q _ hrd3 (by omega) hQ2 (by omega)).mono ?_
  rintro e w4 ⟨z, rfl, z0', z1', hQ4, hrd4, hg4⟩
  have hR4 := hR3.grown hg4 (by simp)
  have x4 := x2.grown hg4 (by intro e; injection e with e; omega)
  have hz3 : w.heap.size ≤ w3.heap.size := by have := x2.lt; omega
  have b4 := grown_toB b2 hg4 (by omega) hz3
  have hz4 := hg4.size
  clear y0 y1
  obtain ⟨y0, y1⟩ := x4.cells2
  go_upto_region 4 with fail
  have hQ4d := hQ4.next (Below.refl _ _).drew
  have x4d := x4.next (Below.refl _ _).drew
  have hR4d := hR4.next (Below.refl _ _).drew
  have hrd4d := hrd4.keep (Below.refl _ _).drew
  have b4d := b4.drew
  have HZ4 := Lib.hid (show w.heap.size ≤ w4.drew.heap.size by have h9 : w4.drew.heap.size = w4.heap.size := rfl; omega)
  obtain ⟨y0d, y1d⟩ := x4d.cells2
  go_region_held3 (fun w' => w'.cell? ⟨g2, 0, none⟩ = some (.slice A2 n2 c2) ∧ w'.cell? ⟨g2, 1, none⟩ = some (.slice C2 m2 d2)) (first
    | exact ⟨y0, y1⟩
    | exact ⟨z10, z11⟩
    | exact ⟨z20, z21⟩
    | exact ⟨z30, z31⟩
    | exact zst _ _) (first
    | (go_simp; go_at_call 45; refine (pick_any (w.heap.size + 1) _ 4 _ i2r (by omega) (by omega) (by omega)).mono ?_
       rintro e w7 ⟨v3, rfl, i30, i31, i3r, i3g⟩
       have x7 := x6.grown i3g (by intro e; injection e with e; omega)
       have hR7 := hR6.grown i3g (by simp)
       have hQ7 := hQ6.grown i3g (by omega)
       obtain ⟨z30, z31⟩ := x7.cells2
       obtain ⟨s0, s1⟩ := hR7.cells2
       have f0 := hR7.frozen 0
       have f1 := hR7.frozen 1
       have zst := fun u v => ((x7.far (p := ⟨w.heap.size, 0, none⟩) (by dsimp only; omega) u).far (p := ⟨w.heap.size, 1, none⟩) (by dsimp only; omega) v).cells2)
    | (go_simp; go_at_call 45; refine (pick_any (w.heap.size + 1) _ 20 _ i1r (by omega) (by omega) (by omega)).mono ?_
       rintro e w6 ⟨v2, rfl, i20, i21, i2r, i2g⟩
       have x6 := x5.grown i2g (by intro e; injection e with e; omega)
       have hR6 := hR5.grown i2g (by simp)
       have hQ6 := hQ5.grown i2g (by omega)
       have k1 : IntKind.i64.wrap (v2.tdiv 19) = v2.tdiv 19 := by rw [IntKind.wrap_i64, Int.tdiv_eq_ediv_of_nonneg i20]; omega
       obtain ⟨z20, z21⟩ := x6.cells2)
    | (go_simp; go_at_call 45; refine (pick_any (w.heap.size + 1) _ 3 _ hrd4d (by omega) (by omega) (by omega)).mono ?_
       rintro e w5 ⟨v1, rfl, i10, i11, i1r, i1g⟩
       have x5 := x4d.grown i1g (by intro e; injection e with e; omega)
       have hR5 := hR4d.grown i1g (by simp)
       have hQ5 := hQ4d.grown i1g (by omega)
       obtain ⟨z10, z11⟩ := x5.cells2))
  have hR8 := (hR7.set_ 0 (.slice A2 n2 c2)).set_ 1 (.slice C2 m2 d2)
  simp only [List.set_cons_zero, List.set_cons_succ] at hR8
  obtain ⟨t0, t1⟩ := hR8.cells2
  have hg7 := grown_trans (grown_trans i1g i2g) i3g
  go_wp2_with fail
  refine bodyPost_ret (v := .tuple #[.agg #[.slice A2 n2 c2, .slice C2 m2 d2], .int .i64 z, .int .i64 (IntKind.i64.wrap (v1 + v2.tdiv 19)), .bool (decide (v3 > 0))]) (by simp [results, Try.results17, go_sem, t0, t1]) rfl ?_
  exact ⟨_, q, z, _, _, rfl, ((hQ7.store (by omega) _).store (by omega) _).down (by omega), belowSet (belowSet (grown_toB b4d hg7 (by omega) HZ4.out) (Nat.le_refl _) _) (Nat.le_refl _) _⟩
end Go.Proofs.Ytbgjidamhheekaa
