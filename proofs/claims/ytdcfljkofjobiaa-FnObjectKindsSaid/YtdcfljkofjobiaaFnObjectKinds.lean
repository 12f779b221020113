/- The law FnObjectKinds, walked: for every code it answers true. -/
import Derived.Test.YtdcfljkofjobiaaId
import Derived.Test.YtdcfljkofjobiaaDrawTop
namespace Go.Proofs.Ytdcfljkofjobiaa
open Go.RowKit Go.Sort

set_option maxHeartbeats 1600000 in
theorem FnObjectKinds_walk (A : Option Addr) (n c : Nat) (w : World) (h : RBytes w w.heap.size A n ∧ n ≤ c) (hn : n ≤ maxLen) :
    Calls Try.prog 4 #[.slice A n c] w fun e w' => e = .returned (.bool true) ∧ Below w.heap.size w w' := by
  have hn0 := hn
  unfold maxLen at hn0
  by_cases hs : 1048576 < n
  · go_enter Try.func4, Try.ntmps4
    go_wp2
    go_ret
    exact ⟨rfl, Below.refl _ _⟩
  · go_enter Try.func4, Try.ntmps4
    go_wp2_with fail
    refine (DrawObjectValid_any _ _ _ _ h.1 hn h.2).mono ?_
    rintro e w1 ⟨_, rfl, ⟨k, B, m, d, xs, t, rfl, hown, hm, hm1, ht, hk0, hk4⟩, b1⟩
    have HM := Lib.hid hm
    clear hm
    have hm2 : m ≤ maxLen := by simp only [maxLen]; omega
    have hr1 := RInts.of_own hown
    have bo := Blk.new w1 27 [.int .i64 k, .slice B m d, .string t]
    have hr1b := hr1.next (below_box w1 (.cells #[.int .i64 k, .slice B m d, .string t] 27))
    have b1b := below_ext b1 (below_box w1 (.cells #[.int .i64 k, .slice B m d, .string t] 27))
    have hownb := own_below hown (below_box w1 (.cells #[.int .i64 k, .slice B m d, .string t] 27))
    go_wp2_with fail
    generalize hgW : w1.alloc (.cells #[.int .i64 k, .slice B m d, .string t] 27) = w1b at *
    have HgW := Lib.hid hgW
    clear hgW
    obtain ⟨p0, p1, p2⟩ := bo.cells3
    refine (implValid_any _ _ _ _ xs _ _ hr1b hm2).mono ?_
    rintro e w2 ⟨rfl, b2⟩
    have bo2 := bo.next b2
    have hr2 := hr1b.next b2
    obtain ⟨c20, c21, c22⟩ := bo2.cells3
    go_wp2_with fail
    refine (specValid_any _ _ _ _ xs _ _ hr2 hm2).mono ?_
    rintro e w3 ⟨rfl, b3⟩
    have bo3 := bo2.next b3
    have hr3 := hr2.next b3
    have b13 := below_ext (below_ext b1b b2) b3
    obtain ⟨c30, c31, c32⟩ := bo3.cells3
    cases hv : objOkB k xs t
    · go_wp2_with fail
      go_ret
      exact ⟨rfl, b13⟩
    · have hid : idsOkB xs = true := by
        simp only [objOkB, Bool.and_eq_true] at hv; exact hv.1.1
      have htx : decide (8 < (t.size : Int)) = false := by
        simp only [objOkB, Bool.and_eq_true, Bool.not_eq_true'] at hv; exact hv.1.2
      have e1 : objOkB 1 xs t = ((m : Int) == 0) := by simp only [objOkB, hid, htx, HM.out]; simp
      have e2 : objOkB 2 xs t = t.toList.isEmpty := by simp only [objOkB, hid, htx]; simp
      have e3 : objOkB 3 xs t = decide (0 < m) := by simp only [objOkB, hid, htx, HM.out]; simp
      have hlt3 := bo3.lt
      have f4 := below_box3 w3 (.cells #[.int .i64 1, .slice B m d, .string t] 27) (.cells #[.int .i64 2, .slice B m d, .string t] 27) (.cells #[.int .i64 3, .slice B m d, .string t] 27)
      have q1 := ((Blk.new w3 27 [.int .i64 1, .slice B m d, .string t]).alloc (.cells #[.int .i64 2, .slice B m d, .string t] 27)).alloc (.cells #[.int .i64 3, .slice B m d, .string t] 27)
      have q2 := (Blk.new (w3.alloc (.cells #[.int .i64 1, .slice B m d, .string t] 27)) 27 [.int .i64 2, .slice B m d, .string t]).alloc (.cells #[.int .i64 3, .slice B m d, .string t] 27)
      have q3 := Blk.new ((w3.alloc (.cells #[.int .i64 1, .slice B m d, .string t] 27)).alloc (.cells #[.int .i64 2, .slice B m d, .string t] 27)) 27 [.int .i64 3, .slice B m d, .string t]
      simp only [World.size_alloc] at q2 q3
      have bo4 := bo3.next f4
      have hr4 := hr3.next f4
      have b14 := below_ext b13 f4
      go_wp2_with fail
      generalize hW4 : ((w3.alloc (.cells #[.int .i64 1, .slice B m d, .string t] 27)).alloc (.cells #[.int .i64 2, .slice B m d, .string t] 27)).alloc (.cells #[.int .i64 3, .slice B m d, .string t] 27) = w4 at *
      have HW4 := Lib.hid hW4
      clear hW4
      obtain ⟨x0, x1, x2⟩ := bo4.cells3
      obtain ⟨y0, y1, y2⟩ := q1.cells3
      obtain ⟨z0, z1, z2⟩ := q2.cells3
      obtain ⟨u0, u1, u2⟩ := q3.cells3
      have x1g := cell_regrown x1
      have x2g := cell_regrown x2
      have y0g := cell_regrown y0
      have y1g := cell_regrown y1
      have y2g := cell_regrown y2
      have z0g := cell_regrown z0
      have z1g := cell_regrown z1
      have z2g := cell_regrown z2
      have u0g := cell_regrown u0
      have u1g := cell_regrown u1
      have u2g := cell_regrown u2
      clear x0 x1 x2 y0 y1 y2 z0 z1 z2 u0 u1 u2 c30 c31 c32 c20 c21 c22 p0 p1 p2
      refine wp_region_ext (by kernel_rfl) (by kernel_rfl) ?_
      repeat (go_big_quiet_step ((go_at_call 15; exact rg_below (implValid_any _ _ _ _ xs _ _ (hr4.regrown _ _) hm2))))
      refine wpQuiet_nil ?_
      intro w5 hb5
      go_wp2_with fail
      go_ret
      exact ⟨ret_bool (by simp), below_ext b14 hb5⟩
end Go.Proofs.Ytdcfljkofjobiaa
