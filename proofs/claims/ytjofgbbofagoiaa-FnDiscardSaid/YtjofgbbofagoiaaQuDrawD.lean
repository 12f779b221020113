/- Walks: DrawQuarantinePromote, DrawQuarantineDiscard. -/
import Derived.Test.YtjofgbbofagoiaaQuArea
namespace Go.Proofs.Ytjofgbbofagoiaa
open Go.RowKit Go.Sort

def DrewQT (w : World) (e : Ending) (w' : World) : Prop := ∃ cs q z, e = .returned (.tuple #[.agg cs.toArray, .int .i64 z]) ∧ OwnQ w' w.heap.size cs q ∧ tinyQ q ∧ Below w.heap.size w w'
set_option maxRecDepth 100000 in
set_option maxHeartbeats 3200000 in
theorem DrawQuarantinePromote_any (A : Option Addr) (n c : Nat) (w : World) (h : RBytes w w.heap.size A n) (hn : n ≤ maxLen) (hc : n ≤ c) :
    Calls Try.prog 75 #[.slice A n c] w (DrewQT w) := by
  have b0 := below_box w (.cells #[.slice none 0 0, .slice none 0 0] 26)
  have x0 := Blk.new w 26 [.slice none 0 0, .slice none 0 0]
  go_enter Try.func75, Try.ntmps75
  go_wp2_with fail
  refine (l6Open_any _ _ _ _ (rbytes_next h b0) hn hc).mono ?_
  rintro e w1 ⟨rfl, hrd, hb1⟩
  have hrd1 : Rd w1 (w.heap.size + 1) 0 := by simpa using hrd
  have x01 := x0.next hb1
  have bb1 := below_ext b0 hb1
  rw [show (w.alloc (.cells #[.slice none 0 0, .slice none 0 0] 26)).heap.size = w.heap.size + 1 by simp]
  clear x0 b0 hb1 hrd
  have hz := bb1.size
  have hz1 : w.heap.size + 1 < w1.heap.size := hrd1.lt
  go_wp2_with fail
  refine (l92Quarantine_any (w.heap.size + 1) 0 _ hrd1 (by omega)).mono ?_
  rintro e w2 ⟨_, p2, rfl, ⟨cs, q, rfl, hQ, hT⟩, hp2, hr2, hg2⟩
  have x02 := x01.grown hg2 (fun e => by injection e with e; omega)
  obtain ⟨RA, rn, rc, RC, rm, rd, rfl, hqa, hqb⟩ := id hQ
  clear hqa hqb x01
  have bb2 : Below w.heap.size w w2 := below_grown bb1 hg2 (Nat.le_succ _) hz
  have eb := below_box w2 (.cells #[.slice RA rn rc, .slice RC rm rd] 26)
  have xq := Blk.new w2 26 [.slice RA rn rc, .slice RC rm rd]
  have hQ3 := hQ.next eb
  have hr3 := hr2.keep eb
  have x03 := x02.next eb
  have bb3 := below_ext bb2 eb
  have hgq : w.heap.size + 1 < w2.heap.size := Nat.lt_of_lt_of_le hz1 hg2.size
  clear hQ hr2 x02 bb2 eb hg2
  go_upto_region 3 with fail
  generalize w2.alloc (.cells #[.slice RA rn rc, .slice RC rm rd] 26) = w3 at *
  generalize w2.heap.size = gq at *
  have hbd : Below w3.heap.size w3 w3.drew := (Below.refl _ _).drew
  obtain ⟨y0, y1⟩ := xq.cells2
  have hr3d := hr3.keep hbd
  have hQ3d := hQ3.next hbd
  have HT := Lib.hid hT
  have HB : Hid (w.heap.size ≤ w1.heap.size) := Lib.hid hz
  go_region_held3 (fun w' => w'.cell? ⟨gq, 0, none⟩ = some (.slice RA rn rc) ∧ w'.cell? ⟨gq, 1, none⟩ = some (.slice RC rm rd))
    (first
      | exact ⟨y0, y1⟩
      | exact ⟨y40, y41⟩
      | exact ⟨y50, y51⟩)
    (first
      | (go_simp; go_at_call 39; refine (l92Area_any (w.heap.size + 1) _ w1.heap.size _ q _ hr3d (by omega) hQ3d hz1 HT.out).mono ?_
         rintro e w4 ⟨_, p4, rfl, ⟨z, rfl⟩, hp4, hr4, hg4⟩
         have xq4 := (xq.next hbd).grown hg4 (fun e => by injection e with e; omega)
         have x04 := (x03.next hbd).grown hg4 (fun e => by injection e with e; omega)
         have hQ4 := hQ3d.grown hg4 hz1
         obtain ⟨y40, y41⟩ := xq4.cells2
         obtain ⟨r0, r1⟩ := x04.cells2
         have fr0 := x04.frozen 0
         have fr1 := x04.frozen 1
         have xq5 := (xq4.far (p := ⟨w.heap.size, 0, none⟩) (by dsimp only; omega) (.slice RA rn rc)).far (p := ⟨w.heap.size, 1, none⟩) (by dsimp only; omega) (.slice RC rm rd)
         obtain ⟨y50, y51⟩ := xq5.cells2))
  have hRR := (x04.set_ 0 (.slice RA rn rc)).set_ 1 (.slice RC rm rd)
  simp only [List.set_cons_zero, List.set_cons_succ] at hRR
  obtain ⟨t0, t1⟩ := hRR.cells2
  have bb4 : Below w.heap.size w w4 := below_grown (below_ext bb3 hbd) hg4 (Nat.le_succ _) (below_ext bb3 hbd).size
  go_wp2_with fail
  refine bodyPost_ret (v := .tuple #[.agg #[.slice RA rn rc, .slice RC rm rd], .int .i64 z]) (by simp [results, Try.results75, go_sem, t0, t1]) rfl ?_
  exact ⟨_, q, z, rfl, (hQ4.base HB.out).res x04, HT.out, (bb4.setCell (p := ⟨w.heap.size, 0, none⟩) (Nat.le_refl _) _).setCell (p := ⟨w.heap.size, 1, none⟩) (Nat.le_refl _) _⟩
set_option maxRecDepth 100000 in
set_option maxHeartbeats 1600000 in
theorem DrawQuarantineDiscard_any (A : Option Addr) (n c : Nat) (w : World) (h : RBytes w w.heap.size A n) (hn : n ≤ maxLen) (hc : n ≤ c) :
    Calls Try.prog 35 #[.slice A n c] w (DrewQT w) := by
  have b0 := below_box w (.cells #[.slice none 0 0, .slice none 0 0] 26)
  have x0 := Blk.new w 26 [.slice none 0 0, .slice none 0 0]
  go_enter Try.func35, Try.ntmps35
  go_wp2_with fail
  refine (DrawQuarantinePromote_any _ _ _ _ (rbytes_next h b0) hn hc).mono ?_
  rintro e w2 ⟨cs, q, z, rfl, hQ, hT, hb2⟩
  have x02 := x0.next hb2
  have bb2 := below_ext b0 hb2
  obtain ⟨RA, rn, rc, RC, rm, rd, rfl, hqa, hqb⟩ := id hQ
  clear hqa hqb
  obtain ⟨r0, r1⟩ := x02.cells2
  have fr0 := x02.frozen 0
  have fr1 := x02.frozen 1
  have hRR := (x02.set_ 0 (.slice RA rn rc)).set_ 1 (.slice RC rm rd)
  simp only [List.set_cons_zero, List.set_cons_succ] at hRR
  obtain ⟨t0, t1⟩ := hRR.cells2
  go_wp2_with fail
  refine bodyPost_ret (v := .tuple #[.agg #[.slice RA rn rc, .slice RC rm rd], .int .i64 z]) (by simp [results, Try.results35, go_sem, t0, t1]) rfl ?_
  exact ⟨_, q, z, rfl, (hQ.base b0.size).res x02, hT, (bb2.setCell (p := ⟨w.heap.size, 0, none⟩) (Nat.le_refl _) _).setCell (p := ⟨w.heap.size, 1, none⟩) (Nat.le_refl _) _⟩
end Go.Proofs.Ytjofgbbofagoiaa
