/- Walks: DrawObjectValid, DrawObjectId. -/
import Derived.Test.YtdcfljkofjobiaaDrawObj
namespace Go.Proofs.Ytdcfljkofjobiaa
open Go.RowKit Go.Sort

def DrewObj (w : World) (e : Ending) (w' : World) : Prop := ∃ v, e = .returned v ∧ IsObj w.heap.size v w' ∧ Below w.heap.size w w'
theorem grown_to_below {w0 w w' : World} {g B : Nat} (h : Below B w0 w) (hg : w.grownBy w' (some g)) (hgB : B ≤ g) (hB : B ≤ w.heap.size) : Below B w0 w' :=
  h.trans ⟨hg.os, hg.tape, hg.output, hg.size, fun k hk => hg.block k (by omega) (by intro e; injection e with e; omega)⟩

set_option maxHeartbeats 800000 in
theorem DrawObjectValid_any (A : Option Addr) (n c : Nat) (w : World) (h : RBytes w w.heap.size A n) (hn : n ≤ maxLen) (hc : n ≤ c) :
    Calls Try.prog 17 #[.slice A n c] w (DrewObj w) := by
  have hR := Blk.new w 27 [.int .i64 0, .slice none 0 0, .string ⟨#[]⟩]
  go_enter Try.func17, Try.ntmps17
  go_wp2_with fail
  refine (l6Open_any _ _ _ _ (fun hn => by obtain ⟨ad, e, hb, hcs⟩ := h hn; exact ⟨ad, e, by simp; omega, fun j hj => by obtain ⟨b, h0, h1, h2⟩ := hcs j hj; exact ⟨b, h0, h1, by rw [World.cell?_alloc_lt w _ _ (by rw [block_of_add]; exact hb)]; exact h2⟩⟩) hn hc).mono ?_
  rintro e w1 ⟨rfl, hrd0, hb1⟩
  have hrd : Rd w1 (w.heap.size + 1) 0 := by simpa using hrd0
  have hR1 := hR.next hb1
  have b1 : Below w.heap.size w w1 := below_ext (below_box _ _) hb1
  go_wp2_with fail
  have hl : Blk (w1.alloc (.cells #[.int .i64 3, .int .i64 70, .int .i64 500, .int .i64 501, .int .i64 800] 3)) w1.heap.size 3 (ints [3, 70, 500, 501, 800]) := Blk.new w1 3 (ints [3, 70, 500, 501, 800])
  have hx := RInts.of_blk (n := 5) hl rfl
  have hrd1 := hrd.lt
  refine (l91Object_any (w.heap.size + 1) 0 _ 5 5 [3, 70, 500, 501, 800] _ (hrd.keep (below_box _ _)) (by omega) hx (by omega) (fun ad e => by injection e with e; subst e; show w1.heap.size ≠ _; omega)).mono ?_
  rintro e w2 ⟨v, p2, rfl, hobj, -, hrd2, hg2⟩
  obtain ⟨k, A2, n2, c2, xs, t, rfl, hown, hobj0⟩ := hobj
  have hobj := Lib.hid hobj0
  clear hobj0
  have hR2 := (hR1.next (below_box _ _)).grown hg2 (by simp)
  obtain ⟨s0, s1, s2⟩ := hR2.cells3
  have f0 := hR2.frozen 0
  have f1 := hR2.frozen 1
  have f2 := hR2.frozen 2
  go_wp2_with fail
  refine bodyPost_ret (v := .agg #[.int .i64 k, .slice A2 n2 c2, .string t]) (by simp [results, Try.results17, go_sem, s0, s1, s2]) rfl ?_
  have hne := own_ne_blk hown hR2 (by decide)
  have hgr := grown_setCell (i := 2) (grown_setCell (i := 1) (grown_setCell (i := 0) (World.grownBy.refl w2 (some w.heap.size)) (.int .i64 k)) (.slice A2 n2 c2)) (.string t)
  have hz := b1.size
  refine ⟨_, rfl, ⟨_, _, _, _, _, _, rfl, own_base (hown.kept hgr (Or.inr hne)) (Nat.le_trans hz (by simp)), hobj.out⟩, ?_⟩
  have b2 := grown_to_below (B := w.heap.size) (b1.alloc hz _) hg2 (by simp) (Nat.le_trans hz (by simp))
  exact grown_to_below b2 hgr (Nat.le_refl _) b2.size

set_option maxHeartbeats 800000 in
theorem DrawObjectId_any (A : Option Addr) (n c : Nat) (w : World) (h : RBytes w w.heap.size A n) (hn : n ≤ maxLen) (hc : n ≤ c) :
    Calls Try.prog 20 #[.slice A n c] w (DrewObj w) := by
  have hR := Blk.new w 27 [.int .i64 0, .slice none 0 0, .string ⟨#[]⟩]
  go_enter Try.func20, Try.ntmps20
  go_wp2_with fail
  refine (DrawObjectValid_any _ _ _ _ (fun hn => by obtain ⟨ad, e, hb, hcs⟩ := h hn; exact ⟨ad, e, by simp; omega, fun j hj => by obtain ⟨b, h0, h1, h2⟩ := hcs j hj; exact ⟨b, h0, h1, by rw [World.cell?_alloc_lt w _ _ (by rw [block_of_add]; exact hb)]; exact h2⟩⟩) hn hc).mono ?_
  rintro e w2 ⟨v, rfl, hobj, hb2⟩
  obtain ⟨k, A2, n2, c2, xs, t, rfl, hown, hobj0⟩ := hobj
  have hobj := Lib.hid hobj0
  clear hobj0
  have b2 : Below w.heap.size w w2 := below_ext (below_box _ _) hb2
  have hR2 := hR.next hb2
  obtain ⟨s0, s1, s2⟩ := hR2.cells3
  have f0 := hR2.frozen 0
  have f1 := hR2.frozen 1
  have f2 := hR2.frozen 2
  go_wp2_with fail
  refine bodyPost_ret (v := .agg #[.int .i64 k, .slice A2 n2 c2, .string t]) (by simp [results, Try.results20, go_sem, s0, s1, s2]) rfl ?_
  have hne := own_ne_blk hown hR2 (by decide)
  have hgr := grown_setCell (i := 2) (grown_setCell (i := 1) (grown_setCell (i := 0) (World.grownBy.refl w2 (some w.heap.size)) (.int .i64 k)) (.slice A2 n2 c2)) (.string t)
  refine ⟨_, rfl, ⟨_, _, _, _, _, _, rfl, own_base (hown.kept hgr (Or.inr hne)) (by simp), hobj.out⟩, ?_⟩
  exact grown_to_below b2 hgr (Nat.le_refl _) b2.size
end Go.Proofs.Ytdcfljkofjobiaa
