/- The law FnStoreTwice, walked: for every code it answers true. -/
import Derived.Test.YtchidnhegbmajaaDrawPut
import Derived.Test.YtchidnhegbmajaaPutPlain
import Derived.Test.YtchidnhegbmajaaSame
namespace Go.Proofs.Ytchidnhegbmajaa
open Go.RowKit Go.Sort

theorem putR_len (os : List Ob) (o : Ob) : (putR os o).1.length ≤ os.length + 1 := by
  unfold putR
  split
  · exact putO_len os o
  · exact Nat.zero_le _

set_option maxHeartbeats 3200000 in
theorem FnStoreTwice_walk (A : Option Addr) (n c : Nat) (w : World) (h : RBytes w w.heap.size A n ∧ n ≤ c) (hn : n ≤ maxLen) :
    Calls Try.prog 7 #[.slice A n c] w fun e w' => e = .returned (.bool true) ∧ Below w.heap.size w w' := by
  have hn0 := hn
  unfold maxLen at hn0
  by_cases hs : 1048576 < n
  · go_enter Try.func7, Try.ntmps7
    go_wp2_with fail
    go_ret
    exact ⟨rfl, Below.refl _ _⟩
  · go_enter Try.func7, Try.ntmps7
    go_wp2_with fail
    refine (DrawStorePut_any A n c w h.1 hn h.2).mono ?_
    rintro e w1 ⟨v, k, B, m0, d0, xs, t, rfl, ⟨m, os, hO, hm, hoks⟩, hlk, hm0, ht0, hb1⟩
    obtain ⟨o, hk, hx, ht⟩ : ∃ o : Ob, o.k = k ∧ o.xs = xs ∧ o.t = t := ⟨⟨k, xs, t⟩, rfl, rfl, rfl⟩
    subst hk hx ht
    obtain ⟨L, d, rfl, hmd⟩ := hO.form
    have hl : os.length = m := OwnR.len hO
    have bo1 := Blk.new w1 26 [.int .i64 o.k, .slice B m0 d0, .string o.t]
    have be1 := below_box w1 (.cells #[.int .i64 o.k, .slice B m0 d0, .string o.t] 26)
    have hO1 := hO.next be1
    have hlk1 := hlk.next be1
    have b1 := below_ext hb1 be1
    obtain ⟨c0, c1, c2⟩ := bo1.cells3
    go_wp2_with fail
    generalize hW1 : w1.alloc (.cells #[.int .i64 o.k, .slice B m0 d0, .string o.t] 26) = w1b at *
    have HW1 := Lib.hid hW1
    clear hW1
    refine (implStorePut_any L m d os o B m0 d0 _ hO1.reads (by simp only [maxLen]; omega) hlk1.1 (by simp only [maxLen]; omega)).mono ?_
    rintro e w2 ⟨v2, rfl, hO2, hb2⟩
    have hpl := putR_len os o
    generalize hP : putR os o = P at *
    have HP := Lib.hid hP
    clear hP
    obtain ⟨ps, b⟩ := P
    simp only at hO2 hpl
    generalize hM : ps.length = mp at *
    have HM := Lib.hid hM
    clear hM
    obtain ⟨L2, d2, rfl, hmd2⟩ := hO2.form
    have hO12 := hO1.next hb2
    have hlk2 := hlk1.next hb2
    have bo2 := bo1.next hb2
    have b2 := below_ext b1 hb2
    have hO2 := hO2.base (Nat.le_refl _)
    obtain ⟨c20, c21, c22⟩ := bo2.cells3
    go_wp2_with fail
    refine (specStorePut_any L m d os o B m0 d0 _ hO12.reads (by simp only [maxLen]; omega) hmd hlk2.1 (by simp only [maxLen]; omega)).mono ?_
    unfold PutR
    rw [HP.out]
    rintro e w3 ⟨v3, rfl, hO3, hb3⟩
    simp only at hO3
    rw [HM.out] at hO3
    obtain ⟨L3, d3, rfl, hmd3⟩ := hO3.form
    have hO13 := hO12.next hb3
    have hO23 := hO2.next hb3
    have hlk3 := hlk2.next hb3
    have bo3 := bo2.next hb3
    have b3 := below_ext b2 hb3
    go_wp2_with fail
    refine (sameObjects_any L2 L3 mp d2 mp d3 ps ps _ hO23.reads hO3.reads (by simp only [maxLen]; omega) (by simp only [maxLen]; omega)).mono ?_
    rintro e w4 ⟨rfl, hb4⟩
    rw [eqOs_refl ps]
    have hO14 := hO13.next hb4
    have hO24 := hO23.next hb4
    have hO34 := hO3.next hb4
    have hlk4 := hlk3.next hb4
    have bo4 := bo3.next hb4
    have b4 := below_ext b3 hb4
    obtain ⟨c40, c41, c42⟩ := bo4.cells3
    cases b
    · go_wp2_with fail
      refine (sameObjects_any L2 L3 mp d2 mp d3 ps ps _ hO24.reads hO34.reads (by simp only [maxLen]; omega) (by simp only [maxLen]; omega)).mono ?_
      rintro e w5 ⟨rfl, hb5⟩
      rw [eqOs_refl ps]
      go_wp2_with fail
      go_ret
      exact ⟨rfl, below_ext b4 hb5⟩
    · have hag := putR_again (os := os) (o := o) (by rw [HP.out])
      rw [HP.out] at hag
      have HA := Lib.hid hag
      clear hag
      go_wp2_with fail
      refine (implStorePut_any L2 mp d2 ps o B m0 d0 _ hO24.reads (by simp only [maxLen]; omega) hlk4.1 (by simp only [maxLen]; omega)).mono ?_
      unfold PutR
      rw [HA.out]
      rintro e w5 ⟨v5, rfl, hO5, hb5⟩
      simp only at hO5
      rw [HM.out] at hO5
      obtain ⟨L5, d5, rfl, hmd5⟩ := hO5.form
      go_wp2_with fail
      refine (sameObjects_any L5 L2 mp d5 mp d2 ps ps _ hO5.reads (hO24.next hb5).reads (by simp only [maxLen]; omega) (by simp only [maxLen]; omega)).mono ?_
      rintro e w6 ⟨rfl, hb6⟩
      rw [eqOs_refl ps]
      go_wp2_with fail
      go_ret
      exact ⟨rfl, below_ext (below_ext b4 hb5) hb6⟩
end Go.Proofs.Ytchidnhegbmajaa
