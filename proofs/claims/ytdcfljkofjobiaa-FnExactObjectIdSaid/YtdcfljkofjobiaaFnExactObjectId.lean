/- The law FnExactObjectId, walked: for every object it answers true. -/
import Derived.Test.YtdcfljkofjobiaaId
import Derived.Test.YtdcfljkofjobiaaLaw
import Derived.Deep.RegionHeld3
namespace Go.Proofs.Ytdcfljkofjobiaa
open Go.RowKit Go.Sort

set_option maxHeartbeats 1600000 in
theorem FnExactObjectId_walk (k : Int) (A : Option Addr) (n c : Nat) (xs : List Int) (t : ByteArray) (w : World) (h : RInts w A n xs) (hn : n ≤ maxLen) (ht : t.size ≤ maxLen) :
    Calls Try.prog 5 #[.agg #[.int .i64 k, .slice A n c, .string t]] w fun e w' => e = .returned (.bool true) ∧ Below w.heap.size w w' := by
  have h1 := fun (o : Obj) => h.below (below_box w o) (Nat.le_refl _)
  by_cases hs : szO 1048576 n t.size < 0
  · go_enter Try.func5, Try.ntmps5
    go_wp2_with (go_at_call 12; refine (szObject_any _ _ _ _ _ _ _ (by omega) (by omega) hn ht).mono ?_; rintro e w1 ⟨rfl, hb1⟩; obtain ⟨hc1, hf1⟩ := bcell hb1)
    go_ret
    exact ⟨rfl, below_ext (below_box _ _) hb1⟩
  · have hn' : n ≤ 1048576 := by unfold szO szI at hs; split at hs <;> omega
    have bx := Blk.new w 24 [.int .i64 k, .slice A n c, .string t]
    go_enter Try.func5, Try.ntmps5
    go_wp2_with fail
    refine (szObject_any _ _ _ _ _ _ _ (by omega) (by omega) hn ht).mono ?_
    rintro e w1 ⟨rfl, hb1⟩
    have hr1 := (h1 _).next hb1
    have bx1 := bx.next hb1
    obtain ⟨c10, c11, c12⟩ := bx1.cells3
    go_wp2_with fail
    refine (toObject_any _ _ _ _ xs _ _ hr1 (by omega)).mono ?_
    rintro e w2 ⟨b2, rfl, -, hblk2, hb2⟩
    go_wp2_with fail
    refine (specId_any _ _ _ _ xs _ _ (RInts.of_blk hblk2 h.1.symm) hn).mono ?_
    rintro e w3 ⟨rfl, hb3⟩
    have hr3 := (hr1.next hb2).next hb3
    have bx3 := (bx1.next hb2).next hb3
    obtain ⟨c30, c31, c32⟩ := bx3.cells3
    go_wp2_with fail
    refine (toObject_any _ _ _ _ xs _ _ hr3 (by omega)).mono ?_
    rintro e w4 ⟨b4, rfl, -, hblk4, hb4⟩
    go_wp2_with fail
    have ho := Blk.new w4 27 [.int .i64 k, .slice (some ⟨b4, 0, none⟩) n n, .string t]
    have hblk4' := hblk4.next (below_box w4 (.cells #[.int .i64 k, .slice (some ⟨b4, 0, none⟩) n n, .string t] 27))
    refine (implId_any _ _ _ _ xs _ _ (RInts.of_blk hblk4' h.1.symm) hn).mono ?_
    rintro e w5 ⟨rfl, hb5⟩
    have ho5 := ho.next hb5
    have hblk5 := hblk4'.next hb5
    have hr5 := ((hr3.next hb4).next (below_box _ _)).next hb5
    have bx5 := ((bx3.next hb4).next (below_box _ _)).next hb5
    obtain ⟨c50, c51, c52⟩ := bx5.cells3
    obtain ⟨d50, d51, d52⟩ := ho5.cells3
    next =>
      go_wp2_with fail
      go_region_held3 (fun w' => w'.cell? ⟨w.heap.size, 0, none⟩ = some (.int .i64 k) ∧ w'.cell? ⟨w.heap.size, 1, none⟩ = some (.slice A n c) ∧ w'.cell? ⟨w.heap.size, 2, none⟩ = some (.string t) ∧
          w'.cell? ⟨w4.heap.size, 0, none⟩ = some (.int .i64 k) ∧ w'.cell? ⟨w4.heap.size, 1, none⟩ = some (.slice (some ⟨b4, 0, none⟩) n n) ∧ w'.cell? ⟨w4.heap.size, 2, none⟩ = some (.string t))
        (first
          | exact ⟨c50, c51, c52, d50, d51, d52⟩
          | exact ⟨c60, c61, c62, d60, d61, d62⟩
          | exact ⟨c70, c71, c72, d70, d71, d72⟩)
        (first
          | (go_at_call 14; refine (toObject_any _ _ _ _ xs _ _ (hr5.below (Below.refl _ _).drew (Nat.le_refl _)) (by omega)).mono ?_
             rintro e w6 ⟨b6, rfl, -, hblk6, hb6⟩
             obtain ⟨c60, c61, c62⟩ := (bx5.drew.next hb6).cells3
             obtain ⟨d60, d61, d62⟩ := (ho5.drew.next hb6).cells3)
          | (go_at_call 16; refine (eqObject_same _ _ _ _ _ _ _ xs _ _ (RInts.of_blk (hblk5.drew.next hb6) h.1.symm) (RInts.of_blk hblk6 h.1.symm) (by omega) (by omega)).mono ?_
             rintro e w7 ⟨rfl, hb7⟩
             obtain ⟨c70, c71, c72⟩ := ((bx5.drew.next hb6).next hb7).cells3
             obtain ⟨d70, d71, d72⟩ := ((ho5.drew.next hb6).next hb7).cells3))
      go_wp2
      go_ret
      exact ⟨rfl, below_ext (below_ext (below_ext (below_ext (below_ext (below_ext (below_ext (below_ext (below_box _ _) hb1) hb2) hb3) hb4) (below_box _ _)) hb5).drew hb6) hb7⟩
end Go.Proofs.Ytdcfljkofjobiaa
