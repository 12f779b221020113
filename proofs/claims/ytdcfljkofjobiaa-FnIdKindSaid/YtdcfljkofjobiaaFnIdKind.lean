/- The law FnIdKind, walked: for every code it answers true. -/
import Derived.Test.YtdcfljkofjobiaaId
import Derived.Test.YtdcfljkofjobiaaDrawTop
namespace Go.Proofs.Ytdcfljkofjobiaa
open Go.RowKit Go.Sort

set_option maxHeartbeats 1600000 in
theorem FnIdKind_walk (A : Option Addr) (n c : Nat) (w : World) (h : RBytes w w.heap.size A n ∧ n ≤ c) (hn : n ≤ maxLen) :
    Calls Try.prog 7 #[.slice A n c] w fun e w' => e = .returned (.bool true) ∧ Below w.heap.size w w' := by
  have hn0 := hn
  unfold maxLen at hn0
  by_cases hs : 1048576 < n
  · go_enter Try.func7, Try.ntmps7
    go_wp2
    go_ret
    exact ⟨rfl, Below.refl _ _⟩
  · go_enter Try.func7, Try.ntmps7
    go_wp2_with fail
    refine (DrawObjectId_any _ _ _ _ h.1 hn h.2).mono ?_
    rintro e w1 ⟨_, rfl, ⟨k, B, m, d, xs, t, rfl, hown, hm, hm1, ht, hk0, hk4⟩, b1⟩
    have HM := Lib.hid hm
    clear hm
    have hm2 : m ≤ maxLen := by simp only [maxLen]; omega
    have hr1 := RInts.of_own hown
    have bo := Blk.new w1 27 [.int .i64 k, .slice B m d, .string t]
    have hr1b := hr1.next (below_box w1 (.cells #[.int .i64 k, .slice B m d, .string t] 27))
    have b1b := below_ext b1 (below_box w1 (.cells #[.int .i64 k, .slice B m d, .string t] 27))
    have hownb := own_below hown (below_box w1 (.cells #[.int .i64 k, .slice B m d, .string t] 27))
    go_wp2_with fail
    generalize hgW : w1.alloc (.cells #[.int .i64 k, .slice B m d, .string t] 27) = w1b at *
    have HgW := Lib.hid hgW
    clear hgW
    obtain ⟨p0, p1, p2⟩ := bo.cells3
    refine (implId_any _ _ _ _ xs _ _ hr1b hm2).mono ?_
    rintro e w2 ⟨rfl, b2⟩
    have bo2 := bo.next b2
    have hr2 := hr1b.next b2
    obtain ⟨c20, c21, c22⟩ := bo2.cells3
    go_wp2_with fail
    refine (specId_any _ _ _ _ xs _ _ hr2 hm2).mono ?_
    rintro e w3 ⟨rfl, b3⟩
    have bo3 := bo2.next b3
    have hr3 := hr2.next b3
    have b13 := below_ext (below_ext b1b b2) b3
    obtain ⟨c30, c31, c32⟩ := bo3.cells3
    cases hv : objOkB k xs t
    · have hneg : idR k xs t < 0 := by simp [idR, hv]
      go_wp2_with fail
      go_ret
      exact ⟨ret_bool (by simp), b13⟩
    · have hge : 0 ≤ idR k xs t := by have := (idV_bd (ObjOk.of hv)).1; simp [idR, hv, this]
      by_cases hk : k = 2
      · subst hk
        by_cases hm0 : m = 0
        · subst hm0
          go_wp2_with fail
          go_ret
          exact ⟨ret_bool (by simp), b13⟩
        · have hm0' : ((m : Int) == 0) = false := by simp; omega
          have hne : (idR 3 xs t != idR 2 xs t) = true := by
            have := idR_kind (k' := 3) hv (by have := HM.out; have := (ObjOk.of hv).len; omega)
            simpa using this
          have hv3 : objOkB 3 xs t = true := by
            have hid : idsOkB xs = true := by
              simp only [objOkB, Bool.and_eq_true] at hv; exact hv.1.1
            have htx : decide (8 < (t.size : Int)) = false := by
              simp only [objOkB, Bool.and_eq_true, Bool.not_eq_true'] at hv; exact hv.1.2
            have : 0 < xs.length := by have := HM.out; omega
            simp [objOkB, hid, this]
            have := (ObjOk.of hv).txt
            omega
          have hge3 : decide (0 ≤ idR 3 xs t) = true := by have := (idV_bd (ObjOk.of hv3)).1; simp [idR, hv3, this]
          have hlt3 := bo3.lt
          have q4 := Blk.new w3 27 [.int .i64 3, .slice B m d, .string t]
          have hr4 := hr3.next (below_box w3 (.cells #[.int .i64 3, .slice B m d, .string t] 27))
          go_wp2_with fail
          refine (implId_any _ _ _ _ xs _ _ hr4 hm2).mono ?_
          rintro e w5 ⟨rfl, b5⟩
          obtain ⟨c50, c51, c52⟩ := (q4.next b5).cells3
          go_wp2_with fail
          refine (implId_any _ _ _ _ xs _ _ (hr4.next b5) hm2).mono ?_
          rintro e w6 ⟨rfl, b6⟩
          go_wp2_with fail
          go_ret
          exact ⟨ret_bool (by simp), below_ext (below_ext (below_ext b13 (below_box _ _)) b5) b6⟩
      · have hk' : (k != 2) = true := by simp; omega
        go_wp2_with fail
        go_ret
        exact ⟨ret_bool (by simp), b13⟩
end Go.Proofs.Ytdcfljkofjobiaa
