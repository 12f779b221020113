/- The law FnObjectValid, walked: for every code it answers true. -/
import Derived.Test.YtdcfljkofjobiaaId
import Derived.Test.YtdcfljkofjobiaaDrawTop
namespace Go.Proofs.Ytdcfljkofjobiaa
open Go.RowKit Go.Sort

set_option maxHeartbeats 1600000 in
theorem FnObjectValid_walk (A : Option Addr) (n c : Nat) (w : World) (h : RBytes w w.heap.size A n ∧ n ≤ c) (hn : n ≤ maxLen) :
    Calls Try.prog 6 #[.slice A n c] w fun e w' => e = .returned (.bool true) ∧ Below w.heap.size w w' := by
  have hn0 := hn
  unfold maxLen at hn0
  by_cases hs : 1048576 < n
  · go_enter Try.func6, Try.ntmps6
    go_wp2
    go_ret
    exact ⟨rfl, Below.refl _ _⟩
  · go_enter Try.func6, Try.ntmps6
    go_wp2_with fail
    refine (DrawObjectValid_any _ _ _ _ h.1 hn h.2).mono ?_
    rintro e w1 ⟨_, rfl, ⟨k, B, m, d, xs, t, rfl, hown, hm, hm1, ht, hk0, hk4⟩, b1⟩
    have HM := Lib.hid hm
    clear hm
    have hm2 : m ≤ maxLen := by simp only [maxLen]; omega
    have hr1 := RInts.of_own hown
    have bo := Blk.new w1 27 [.int .i64 k, .slice B m d, .string t]
    have hr1b := hr1.next (below_box w1 (.cells #[.int .i64 k, .slice B m d, .string t] 27))
    have b1b := below_ext b1 (below_box w1 (.cells #[.int .i64 k, .slice B m d, .string t] 27))
    have hownb := own_below hown (below_box w1 (.cells #[.int .i64 k, .slice B m d, .string t] 27))
    go_wp2_with fail
    generalize hgW : w1.alloc (.cells #[.int .i64 k, .slice B m d, .string t] 27) = w1b at *
    have HgW := Lib.hid hgW
    clear hgW
    obtain ⟨p0, p1, p2⟩ := bo.cells3
    refine (implValid_any _ _ _ _ xs _ _ hr1b hm2).mono ?_
    rintro e w2 ⟨rfl, b2⟩
    obtain ⟨c20, c21, c22⟩ := (bo.next b2).cells3
    go_wp2_with fail
    refine (specValid_any _ _ _ _ xs _ _ (hr1b.next b2) hm2).mono ?_
    rintro e w3 ⟨rfl, b3⟩
    obtain ⟨c30, c31, c32⟩ := ((bo.next b2).next b3).cells3
    go_wp2_with fail
    refine (implId_any _ _ _ _ xs _ _ ((hr1b.next b2).next b3) hm2).mono ?_
    rintro e w4 ⟨rfl, b4⟩
    have hsame : decide (0 ≤ idR k xs t) = objOkB k xs t := by
      cases hv : objOkB k xs t
      · simp [idR, hv]
      · have := (idV_bd (ObjOk.of hv)).1
        simp [idR, hv, this]
    go_wp2_with fail
    go_ret
    exact ⟨ret_bool (by simp), below_ext (below_ext (below_ext b1b b2) b3) b4⟩
end Go.Proofs.Ytdcfljkofjobiaa
