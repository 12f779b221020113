/- The law FnStoreRefused, walked: for every code it answers true. -/
import Derived.Test.YtchidnhegbmajaaDrawPut
import Derived.Test.YtchidnhegbmajaaPutPlain
import Derived.Test.YtchidnhegbmajaaSame
import Derived.Test.YtchidnhegbmajaaGet
namespace Go.Proofs.Ytchidnhegbmajaa
open Go.RowKit Go.Sort

theorem putR_len (os : List Ob) (o : Ob) : (putR os o).1.length ≤ os.length + 1 := by
  unfold putR
  split
  · exact putO_len os o
  · exact Nat.zero_le _

set_option maxHeartbeats 3200000 in
theorem FnStoreRefused_walk (A : Option Addr) (n c : Nat) (w : World) (h : RBytes w w.heap.size A n ∧ n ≤ c) (hn : n ≤ maxLen) :
    Calls Try.prog 9 #[.slice A n c] w fun e w' => e = .returned (.bool true) ∧ Below w.heap.size w w' := by
  have hn0 := hn
  unfold maxLen at hn0
  by_cases hs : 1048576 < n
  · go_enter Try.func9, Try.ntmps9
    go_wp2_with fail
    go_ret
    exact ⟨rfl, Below.refl _ _⟩
  · go_enter Try.func9, Try.ntmps9
    go_wp2_with fail
    refine (DrawStorePut_any A n c w h.1 hn h.2).mono ?_
    rintro e w1 ⟨v, k, B, m0, d0, xs, t, rfl, ⟨m, os, hO, hm, hoks⟩, hlk, hm0, ht0, hb1⟩
    obtain ⟨o, hk, hx, ht⟩ : ∃ o : Ob, o.k = k ∧ o.xs = xs ∧ o.t = t := ⟨⟨k, xs, t⟩, rfl, rfl, rfl⟩
    subst hk hx ht
    obtain ⟨L, d, rfl, hmd⟩ := hO.form
    have hl : os.length = m := OwnR.len hO
    have bo1 := Blk.new w1 26 [.int .i64 o.k, .slice B m0 d0, .string o.t]
    have be1 := below_box w1 (.cells #[.int .i64 o.k, .slice B m0 d0, .string o.t] 26)
    have hO1 := hO.next be1
    have hlk1 := hlk.next be1
    have b1 := below_ext hb1 be1
    obtain ⟨c0, c1, c2⟩ := bo1.cells3
    go_wp2_with fail
    generalize hW1 : w1.alloc (.cells #[.int .i64 o.k, .slice B m0 d0, .string o.t] 26) = w1b at *
    have HW1 := Lib.hid hW1
    clear hW1
    refine (implStorePut_any L m d os o B m0 d0 _ hO1.reads (by simp only [maxLen]; omega) hlk1.1 (by simp only [maxLen]; omega)).mono ?_
    rintro e w2 ⟨v2, rfl, hO2, hb2⟩
    have hpl := putR_len os o
    generalize hP : putR os o = P at *
    have HP := Lib.hid hP
    clear hP
    obtain ⟨ps, b⟩ := P
    simp only at hO2 hpl
    generalize hM : ps.length = mp at *
    have HM := Lib.hid hM
    clear hM
    obtain ⟨L2, d2, rfl, hmd2⟩ := hO2.form
    have hO12 := hO1.next hb2
    have hlk2 := hlk1.next hb2
    have bo2 := bo1.next hb2
    have b2 := below_ext b1 hb2
    have hO2 := hO2.base (Nat.le_refl _)
    obtain ⟨c20, c21, c22⟩ := bo2.cells3
    go_wp2_with fail
    refine (specStorePut_any L m d os o B m0 d0 _ hO12.reads (by simp only [maxLen]; omega) hmd hlk2.1 (by simp only [maxLen]; omega)).mono ?_
    unfold PutR
    rw [HP.out]
    rintro e w3 ⟨v3, rfl, hO3, hb3⟩
    simp only at hO3
    rw [HM.out] at hO3
    obtain ⟨L3, d3, rfl, hmd3⟩ := hO3.form
    have hO13 := hO12.next hb3
    have hO23 := hO2.next hb3
    have hlk3 := hlk2.next hb3
    have bo3 := bo2.next hb3
    have b3 := below_ext b2 hb3
    go_wp2_with fail
    refine (sameObjects_any L2 L3 mp d2 mp d3 ps ps _ hO23.reads hO3.reads (by simp only [maxLen]; omega) (by simp only [maxLen]; omega)).mono ?_
    rintro e w4 ⟨rfl, hb4⟩
    rw [eqOs_refl ps]
    have hO14 := hO13.next hb4
    have hO24 := hO23.next hb4
    have hO34 := hO3.next hb4
    have hlk4 := hlk3.next hb4
    have bo4 := bo3.next hb4
    have b4 := below_ext b3 hb4
    obtain ⟨c40, c41, c42⟩ := bo4.cells3
    cases b
    · go_wp2_with fail
      refine (specStoreValid_any L m d os _ hO14.reads (by simp only [maxLen]; omega)).mono ?_
      rintro e w5 ⟨rfl, hb5⟩
      have b5 := below_ext b4 hb5
      have bo5 := bo4.next hb5
      have hlk5 := hlk4.next hb5
      obtain ⟨c50, c51, c52⟩ := bo5.cells3
      cases hv : storeB os
      · go_wp2_with fail
        refine (sameObjects_any L2 L3 mp d2 mp d3 ps ps _ (hO24.next hb5).reads (hO34.next hb5).reads (by simp only [maxLen]; omega) (by simp only [maxLen]; omega)).mono ?_
        rintro e w6 ⟨rfl, hb6⟩
        rw [eqOs_refl ps]
        go_wp2_with fail
        go_ret
        exact ⟨rfl, below_ext b5 hb6⟩
      · go_wp2_with fail
        refine (specValid_any o.k B m0 d0 o.xs o.t _ hlk5.1 (by simp only [maxLen]; omega)).mono ?_
        rintro e w6 ⟨rfl, hb6⟩
        have b6 := below_ext b5 hb6
        have bo6 := bo5.next hb6
        have hlk6 := hlk5.next hb6
        have hO16 := (hO14.next hb5).next hb6
        have hO26 := (hO24.next hb5).next hb6
        obtain ⟨c60, c61, c62⟩ := bo6.cells3
        cases hok : objOkB o.k o.xs o.t
        · go_wp2_with fail
          refine (sameObjects_any L2 L3 mp d2 mp d3 ps ps _ hO26.reads ((hO34.next hb5).next hb6).reads (by simp only [maxLen]; omega) (by simp only [maxLen]; omega)).mono ?_
          rintro e w7 ⟨rfl, hb7⟩
          rw [eqOs_refl ps]
          go_wp2_with fail
          go_ret
          exact ⟨rfl, below_ext b6 hb7⟩
        · have hno := putR_no (os := os) (o := o) hv hok (by rw [HP.out])
          rw [HP.out] at hno
          simp only at hno
          obtain ⟨hpe, hor⟩ := hno
          have hidr : idR o.k o.xs o.t = o.id := by unfold idR; rw [if_pos hok]; rfl
          go_wp2_with fail
          refine (implId_any o.k B m0 d0 o.xs o.t _ hlk6.1 (by simp only [maxLen]; omega)).mono ?_
          rintro e w7 ⟨rfl, hb7⟩
          rw [hidr]
          have b7 := below_ext b6 hb7
          have bo7 := bo6.next hb7
          have hlk7 := hlk6.next hb7
          have hO17 := hO16.next hb7
          have hO27 := hO26.next hb7
          go_wp2_with fail
          refine (implStoreGet_any L m d os o.id _ hO17.reads (by simp only [maxLen]; omega) hmd).mono ?_
          unfold GetTo
          have hfact : ((getR os o.id).isSome = true ∧ eqO ((getR os o.id).getD zeroO) o = false) ∨ m = 16 := by
            rcases hor with ⟨x, hx, hxe⟩ | h16
            · left; rw [hx]; exact ⟨rfl, hxe⟩
            · right; omega
          generalize hX : (getR os o.id).getD zeroO = x at *
          generalize hB : (getR os o.id).isSome = bb at *
          have HX := Lib.hid hX
          have HB := Lib.hid hB
          clear hX hB hor hidr
          have HF := Lib.hid hfact
          clear hfact
          rintro e w8 ⟨A8, m8, c8, rfl, hl8, hm8, ht8, hb8⟩
          have be8 := below_box w8 (.cells #[.int .i64 x.k, .slice A8 m8 c8, .string x.t] 26)
          have b8 := below_ext (below_ext b7 hb8) be8
          have bo8 := (bo7.next hb8).next be8
          have bx8 := Blk.new w8 26 [.int .i64 x.k, .slice A8 m8 c8, .string x.t]
          have hlk8 := (hlk7.next hb8).next be8
          have hl9 := hl8.next be8
          have hO18 := (hO17.next hb8).next be8
          have hO28 := (hO27.next hb8).next be8
          go_wp2_with fail
          generalize hW8 : w8.alloc (.cells #[.int .i64 x.k, .slice A8 m8 c8, .string x.t] 26) = w8b at *
          have HW8 := Lib.hid hW8
          clear hW8
          subst hpe
          refine (sameObjects_any L2 L mp d2 m d ps ps _ hO28.reads hO18.reads (by simp only [maxLen]; omega) (by simp only [maxLen]; omega)).mono ?_
          rintro e w9 ⟨rfl, hb9⟩
          rw [eqOs_refl ps]
          have b9 := below_ext b8 hb9
          have bo9 := bo8.next hb9
          have bx9 := bx8.next hb9
          obtain ⟨c90, c91, c92⟩ := bo9.cells3
          obtain ⟨x90, x91, x92⟩ := bx9.cells3
          cases bb
          · have h16 : m = 16 := by
              rcases HF.out with ⟨h1, _⟩ | h1
              · cases h1
              · exact h1
            subst h16
            go_wp2_with fail
            go_ret
            exact ⟨rfl, b9⟩
          · go_wp2_with fail
            refine (sameObject_any x.k o.k A8 B m8 c8 m0 d0 x.xs o.xs x.t o.t _ (hl9.next hb9).1 (hlk8.next hb9).1 hm8 (by simp only [maxLen]; omega)).mono ?_
            rintro e w10 ⟨rfl, hb10⟩
            have hq : ((x.k == o.k) && eqI x.xs o.xs && (x.t.toList == o.t.toList)) = eqO x o := rfl
            rw [hq]
            clear hq
            cases hqq : eqO x o
            · go_wp2_with fail
              go_ret
              exact ⟨rfl, below_ext b9 hb10⟩
            · have h16 : m = 16 := by
                rcases HF.out with ⟨_, h1⟩ | h1
                · rw [hqq] at h1; cases h1
                · exact h1
              subst h16
              go_wp2_with fail
              go_ret
              exact ⟨rfl, below_ext b9 hb10⟩
    · go_wp2_with fail
      refine (sameObjects_any L2 L3 mp d2 mp d3 ps ps _ hO24.reads hO34.reads (by simp only [maxLen]; omega) (by simp only [maxLen]; omega)).mono ?_
      rintro e w5 ⟨rfl, hb5⟩
      rw [eqOs_refl ps]
      go_wp2_with fail
      go_ret
      exact ⟨rfl, below_ext b4 hb5⟩
end Go.Proofs.Ytchidnhegbmajaa
