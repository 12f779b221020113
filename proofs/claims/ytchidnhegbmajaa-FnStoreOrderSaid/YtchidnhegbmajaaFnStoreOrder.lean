/- The law FnStoreOrder, walked: for every code it answers true. -/
import Derived.Test.YtchidnhegbmajaaDrawPut
import Derived.Test.YtchidnhegbmajaaPutPlain
import Derived.Test.YtchidnhegbmajaaSame
namespace Go.Proofs.Ytchidnhegbmajaa
open Go.RowKit Go.Sort

theorem putR_len (os : List Ob) (o : Ob) : (putR os o).1.length ≤ os.length + 1 := by
  unfold putR
  split
  · exact putO_len os o
  · exact Nat.zero_le _

set_option maxHeartbeats 1000000 in
theorem FnStoreOrder_walk (A : Option Addr) (n c : Nat) (AA : Option Addr) (n2 cc : Nat) (w : World) (h : RBytes w w.heap.size A n ∧ n ≤ c) (hn : n ≤ maxLen) (h2 : RBytes w w.heap.size AA n2 ∧ n2 ≤ cc) (hn2 : n2 ≤ maxLen) :
    Calls Try.prog 6 #[.slice A n c, .slice AA n2 cc] w fun e w' => e = .returned (.bool true) ∧ Below w.heap.size w w' := by
  have hn0 := hn
  unfold maxLen at hn0
  have hn20 := hn2
  unfold maxLen at hn20
  by_cases hs : 1048576 < n
  · go_enter Try.func6, Try.ntmps6
    go_wp2_with fail
    go_ret
    exact ⟨rfl, Below.refl _ _⟩
  · by_cases hs2 : 1048576 < n2
    · go_enter Try.func6, Try.ntmps6
      go_wp2_with fail
      go_ret
      exact ⟨rfl, Below.refl _ _⟩
    go_enter Try.func6, Try.ntmps6
    go_wp2_with fail
    refine (DrawStorePut_any A n c w h.1 hn h.2).mono ?_
    rintro e w1 ⟨v, k, B, m0, d0, xs, t, rfl, ⟨m, os, hO, hm, hoks⟩, hlk, hm0, ht0, hb1⟩
    obtain ⟨o, hk, hx, ht⟩ : ∃ o : Ob, o.k = k ∧ o.xs = xs ∧ o.t = t := ⟨⟨k, xs, t⟩, rfl, rfl, rfl⟩
    subst hk hx ht
    obtain ⟨L, d, rfl, hmd⟩ := hO.form
    have hl : os.length = m := OwnR.len hO
    have bo1 := Blk.new w1 26 [.int .i64 o.k, .slice B m0 d0, .string o.t]
    have be1 := below_box w1 (.cells #[.int .i64 o.k, .slice B m0 d0, .string o.t] 26)
    have hO1 := hO.next be1
    have hlk1 := hlk.next be1
    have b1 := below_ext hb1 be1
    obtain ⟨c0, c1, c2⟩ := bo1.cells3
    go_wp2_with fail
    generalize hW1 : w1.alloc (.cells #[.int .i64 o.k, .slice B m0 d0, .string o.t] 26) = w1b at *
    have HW1 := Lib.hid hW1
    clear hW1
    refine (implStorePut_any L m d os o B m0 d0 _ hO1.reads (by simp only [maxLen]; omega) hlk1.1 (by simp only [maxLen]; omega)).mono ?_
    rintro e w2 ⟨v2, rfl, hO2, hb2⟩
    have hpl := putR_len os o
    generalize hP : putR os o = P at *
    have HP := Lib.hid hP
    clear hP
    obtain ⟨ps, b⟩ := P
    simp only at hO2 hpl
    generalize hM : ps.length = mp at *
    have HM := Lib.hid hM
    clear hM
    obtain ⟨L2, d2, rfl, hmd2⟩ := hO2.form
    have hO12 := hO1.next hb2
    have hlk2 := hlk1.next hb2
    have bo2 := bo1.next hb2
    have b2 := below_ext b1 hb2
    have hO2 := hO2.base (Nat.le_refl _)
    obtain ⟨c20, c21, c22⟩ := bo2.cells3
    go_wp2_with fail
    refine (specStorePut_any L m d os o B m0 d0 _ hO12.reads (by simp only [maxLen]; omega) hmd hlk2.1 (by simp only [maxLen]; omega)).mono ?_
    unfold PutR
    rw [HP.out]
    rintro e w3 ⟨v3, rfl, hO3, hb3⟩
    simp only at hO3
    rw [HM.out] at hO3
    obtain ⟨L3, d3, rfl, hmd3⟩ := hO3.form
    have hO13 := hO12.next hb3
    have hO23 := hO2.next hb3
    have hlk3 := hlk2.next hb3
    have bo3 := bo2.next hb3
    have b3 := below_ext b2 hb3
    go_wp2_with fail
    refine (sameObjects_any L2 L3 mp d2 mp d3 ps ps _ hO23.reads hO3.reads (by simp only [maxLen]; omega) (by simp only [maxLen]; omega)).mono ?_
    rintro e w4 ⟨rfl, hb4⟩
    rw [eqOs_refl ps]
    have hO14 := hO13.next hb4
    have hO24 := hO23.next hb4
    have hO34 := hO3.next hb4
    have hlk4 := hlk3.next hb4
    have bo4 := bo3.next hb4
    have b4 := below_ext b3 hb4
    obtain ⟨c40, c41, c42⟩ := bo4.cells3
    cases b
    · go_wp2_with fail
      refine (sameObjects_any L2 L3 mp d2 mp d3 ps ps _ hO24.reads hO34.reads (by simp only [maxLen]; omega) (by simp only [maxLen]; omega)).mono ?_
      rintro e w5 ⟨rfl, hb5⟩
      rw [eqOs_refl ps]
      go_wp2_with fail
      go_ret
      exact ⟨rfl, below_ext b4 hb5⟩
    · go_wp2_with fail
      have h24 : RBytes w4 w4.heap.size AA n2 := fun hn => by
        obtain ⟨ad, e, hb, hcs⟩ := h2.1 hn
        exact ⟨ad, e, Nat.lt_of_lt_of_le hb b4.size, fun j hj => by
          obtain ⟨u, u0, u1, u2⟩ := hcs j hj
          exact ⟨u, u0, u1, (b4.cell (p := ad.add j) (by rw [block_of_add]; exact hb)).trans u2⟩⟩
      refine (DrawStorePut_any AA n2 cc w4 h24 hn2 h2.2).mono ?_
      rintro e w5 ⟨v5, k5, B5, m5, d5, xs5, t5, rfl, ⟨m6, os6, hO6, hm6, hoks6⟩, hlk5, hm5, ht5, hb5⟩
      obtain ⟨p, hk5, hx5, htt5⟩ : ∃ p : Ob, p.k = k5 ∧ p.xs = xs5 ∧ p.t = t5 := ⟨⟨k5, xs5, t5⟩, rfl, rfl, rfl⟩
      subst hk5 hx5 htt5
      clear hO6
      have b5 := below_ext b4 hb5
      have bo5 := Blk.new w5 26 [.int .i64 p.k, .slice B5 m5 d5, .string p.t]
      have be5 := below_box w5 (.cells #[.int .i64 p.k, .slice B5 m5 d5, .string p.t] 26)
      have hO15 := (hO14.next hb5).next be5
      have hO25 := (hO24.next hb5).next be5
      have hp5 := hlk5.next be5
      have hlk6 := (hlk4.next hb5).next be5
      have bo6 := (bo4.next hb5).next be5
      have b6 := below_ext b5 be5
      obtain ⟨c50, c51, c52⟩ := bo5.cells3
      go_wp2_with fail
      generalize hW5 : w5.alloc (.cells #[.int .i64 p.k, .slice B5 m5 d5, .string p.t] 26) = w5b at *
      have HW5 := Lib.hid hW5
      clear hW5
      refine (implStorePut_any L2 mp d2 ps p B5 m5 d5 _ hO25.reads (by simp only [maxLen]; omega) hp5.1 (by simp only [maxLen]; omega)).mono ?_
      rintro e w7 ⟨v7, rfl, hO7, hb7⟩
      have hpl7 := putR_len ps p
      generalize hP7 : putR ps p = P7 at *
      have HP7 := Lib.hid hP7
      clear hP7
      obtain ⟨qs, b7⟩ := P7
      simp only at hO7 hpl7
      generalize hM7 : qs.length = ma at *
      have HM7 := Lib.hid hM7
      clear hM7
      obtain ⟨L7, d7, rfl, hmd7⟩ := hO7.form
      have bb7 := below_ext b6 hb7
      have hp7 := hp5.next hb7
      have hO17 := hO15.next hb7
      obtain ⟨c70, c71, c72⟩ := (bo5.next hb7).cells3
      have hpsl := HM.out
      go_wp2_with fail
      refine (implStorePut_any L m d os p B5 m5 d5 _ hO17.reads (by simp only [maxLen]; omega) hp7.1 (by simp only [maxLen]; omega)).mono ?_
      rintro e w8 ⟨v8, rfl, hO8, hb8⟩
      have hpl8 := putR_len os p
      generalize hP8 : putR os p = P8 at *
      have HP8 := Lib.hid hP8
      clear hP8
      obtain ⟨bs, b8⟩ := P8
      simp only at hO8 hpl8
      generalize hM8 : bs.length = mb at *
      have HM8 := Lib.hid hM8
      clear hM8
      obtain ⟨L8, d8, rfl, hmd8⟩ := hO8.form
      have bb8 := below_ext bb7 hb8
      obtain ⟨c80, c81, c82⟩ := ((bo6.next hb7).next hb8).cells3
      have hlk8 := (hlk6.next hb7).next hb8
      have hO78 := hO7.next hb8
      cases b7
      · go_wp2_with fail
        go_ret
        exact ⟨rfl, bb8⟩
      · cases b8
        · go_wp2_with fail
          go_ret
          exact ⟨rfl, bb8⟩
        · have hord := putR_order (os := os) (o := o) (p := p) (by rw [HP.out]) (by rw [HP.out]; show (putR ps p).2 = true; rw [HP7.out]) (by rw [HP8.out])
          rw [HP.out, HP8.out] at hord
          simp only at hord
          rw [HP7.out] at hord
          simp only at hord
          have HO := Lib.hid hord
          clear hord
          go_wp2_with fail
          refine (implStorePut_any L8 mb d8 bs o B m0 d0 _ hO8.reads (by simp only [maxLen]; omega) hlk8.1 (by simp only [maxLen]; omega)).mono ?_
          unfold PutR
          rw [HO.out]
          rintro e w9 ⟨v9, rfl, hO9, hb9⟩
          simp only at hO9
          rw [HM7.out] at hO9
          obtain ⟨L9, d9, rfl, hmd9⟩ := hO9.form
          go_wp2_with fail
          refine (sameObjects_any L9 L7 ma d9 ma d7 qs qs _ hO9.reads (hO78.next hb9).reads (by simp only [maxLen]; omega) (by simp only [maxLen]; omega)).mono ?_
          rintro e w10 ⟨rfl, hb10⟩
          rw [eqOs_refl qs]
          go_wp2_with fail
          go_ret
          exact ⟨rfl, below_ext (below_ext bb8 hb9) hb10⟩
end Go.Proofs.Ytchidnhegbmajaa
