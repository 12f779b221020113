/- The law FnStorePut, walked: for every code it answers true. -/
import Derived.Test.YtchidnhegbmajaaDrawPut
import Derived.Test.YtchidnhegbmajaaPutPlain
import Derived.Test.YtchidnhegbmajaaSame
import Derived.Test.YtchidnhegbmajaaGet
namespace Go.Proofs.Ytchidnhegbmajaa
open Go.RowKit Go.Sort

theorem putR_len (os : List Ob) (o : Ob) : (putR os o).1.length ≤ os.length + 1 := by
  unfold putR
  split
  · exact putO_len os o
  · exact Nat.zero_le _

set_option maxHeartbeats 3200000 in
theorem FnStorePut_walk (A : Option Addr) (n c : Nat) (w : World) (h : RBytes w w.heap.size A n ∧ n ≤ c) (hn : n ≤ maxLen) :
    Calls Try.prog 8 #[.slice A n c] w fun e w' => e = .returned (.bool true) ∧ Below w.heap.size w w' := by
  have hn0 := hn
  unfold maxLen at hn0
  by_cases hs : 1048576 < n
  · go_enter Try.func8, Try.ntmps8
    go_wp2_with fail
    go_ret
    exact ⟨rfl, Below.refl _ _⟩
  · go_enter Try.func8, Try.ntmps8
    go_wp2_with fail
    refine (DrawStorePut_any A n c w h.1 hn h.2).mono ?_
    rintro e w1 ⟨v, k, B, m0, d0, xs, t, rfl, ⟨m, os, hO, hm, hoks⟩, hlk, hm0, ht0, hb1⟩
    obtain ⟨o, hk, hx, ht⟩ : ∃ o : Ob, o.k = k ∧ o.xs = xs ∧ o.t = t := ⟨⟨k, xs, t⟩, rfl, rfl, rfl⟩
    subst hk hx ht
    obtain ⟨L, d, rfl, hmd⟩ := hO.form
    have hl : os.length = m := OwnR.len hO
    have bo1 := Blk.new w1 26 [.int .i64 o.k, .slice B m0 d0, .string o.t]
    have be1 := below_box w1 (.cells #[.int .i64 o.k, .slice B m0 d0, .string o.t] 26)
    have hO1 := hO.next be1
    have hlk1 := hlk.next be1
    have b1 := below_ext hb1 be1
    obtain ⟨c0, c1, c2⟩ := bo1.cells3
    go_wp2_with fail
    generalize hW1 : w1.alloc (.cells #[.int .i64 o.k, .slice B m0 d0, .string o.t] 26) = w1b at *
    have HW1 := Lib.hid hW1
    clear hW1
    refine (implStorePut_any L m d os o B m0 d0 _ hO1.reads (by simp only [maxLen]; omega) hlk1.1 (by simp only [maxLen]; omega)).mono ?_
    rintro e w2 ⟨v2, rfl, hO2, hb2⟩
    have hpl := putR_len os o
    generalize hP : putR os o = P at *
    have HP := Lib.hid hP
    clear hP
    obtain ⟨ps, b⟩ := P
    simp only at hO2 hpl
    generalize hM : ps.length = mp at *
    have HM := Lib.hid hM
    clear hM
    obtain ⟨L2, d2, rfl, hmd2⟩ := hO2.form
    have hO12 := hO1.next hb2
    have hlk2 := hlk1.next hb2
    have bo2 := bo1.next hb2
    have b2 := below_ext b1 hb2
    have hO2 := hO2.base (Nat.le_refl _)
    obtain ⟨c20, c21, c22⟩ := bo2.cells3
    go_wp2_with fail
    refine (specStorePut_any L m d os o B m0 d0 _ hO12.reads (by simp only [maxLen]; omega) hmd hlk2.1 (by simp only [maxLen]; omega)).mono ?_
    unfold PutR
    rw [HP.out]
    rintro e w3 ⟨v3, rfl, hO3, hb3⟩
    simp only at hO3
    rw [HM.out] at hO3
    obtain ⟨L3, d3, rfl, hmd3⟩ := hO3.form
    have hO13 := hO12.next hb3
    have hO23 := hO2.next hb3
    have hlk3 := hlk2.next hb3
    have bo3 := bo2.next hb3
    have b3 := below_ext b2 hb3
    go_wp2_with fail
    refine (sameObjects_any L2 L3 mp d2 mp d3 ps ps _ hO23.reads hO3.reads (by simp only [maxLen]; omega) (by simp only [maxLen]; omega)).mono ?_
    rintro e w4 ⟨rfl, hb4⟩
    rw [eqOs_refl ps]
    have hO14 := hO13.next hb4
    have hO24 := hO23.next hb4
    have hO34 := hO3.next hb4
    have hlk4 := hlk3.next hb4
    have bo4 := bo3.next hb4
    have b4 := below_ext b3 hb4
    obtain ⟨c40, c41, c42⟩ := bo4.cells3
    cases b
    · go_wp2_with fail
      refine (sameObjects_any L2 L3 mp d2 mp d3 ps ps _ hO24.reads hO34.reads (by simp only [maxLen]; omega) (by simp only [maxLen]; omega)).mono ?_
      rintro e w5 ⟨rfl, hb5⟩
      rw [eqOs_refl ps]
      go_wp2_with fail
      go_ret
      exact ⟨rfl, below_ext b4 hb5⟩
    · obtain ⟨hps, hmem, hall, -⟩ := putR_store (os := os) (o := o) (by rw [HP.out])
      rw [HP.out] at hps hmem hall
      simp only at hps hmem hall
      have hook : o.ok = true := storeB_ok hps o hmem
      have hgo := getR_mem hps hmem
      have hidr : idR o.k o.xs o.t = o.id := by unfold idR; rw [if_pos (show objOkB o.k o.xs o.t = true from hook)]; rfl
      have HALL := Lib.hid (fun x (hx : x ∈ os) => getR_mem hps (hall x hx))
      have HPS := Lib.hid hps
      have HGO := Lib.hid hgo
      clear hall hmem hgo hps
      go_wp2_with fail
      refine (implId_any o.k B m0 d0 o.xs o.t _ hlk4.1 (by simp only [maxLen]; omega)).mono ?_
      rintro e w5 ⟨rfl, hb5⟩
      rw [hidr]
      clear hidr
      have b5 := below_ext b4 hb5
      go_wp2_with fail
      refine (implStoreGet_any L2 mp d2 ps o.id _ (hO24.next hb5).reads (by simp only [maxLen]; omega) hmd2).mono ?_
      unfold GetTo
      rw [HGO.out]
      rintro e w6 ⟨A6, m6, c6, rfl, hl6, hm6, ht6, hb6⟩
      simp only [Option.getD_some, Option.isSome_some] at hl6 hm6 ht6 ⊢
      have be6 := below_box w6 (.cells #[.int .i64 o.k, .slice A6 m6 c6, .string o.t] 26)
      have b6 := below_ext (below_ext b5 hb6) be6
      have bo6 := ((bo4.next hb5).next hb6).next be6
      have bx6 := Blk.new w6 26 [.int .i64 o.k, .slice A6 m6 c6, .string o.t]
      have hlk6 := ((hlk4.next hb5).next hb6).next be6
      have hlx6 := hl6.next be6
      have hO16 := ((hO14.next hb5).next hb6).next be6
      have hO26 := ((hO24.next hb5).next hb6).next be6
      go_wp2_with fail
      generalize hW6 : w6.alloc (.cells #[.int .i64 o.k, .slice A6 m6 c6, .string o.t] 26) = w6b at *
      have HW6 := Lib.hid hW6
      clear hW6
      go_loopw [11] (fun i wr => ∃ j : Nat, j ≤ m ∧ i = .int .i64 j ∧ Below w6b.heap.size w6b wr) (fun i _ => m - (intOf i).toNat)
      case atStart => exact ⟨0, Nat.zero_le _, rfl, Below.refl _ _⟩
      case round =>
        obtain ⟨j, hj, rfl, hbr⟩ := hrel
        by_cases hlt : j < m
        · obtain ⟨b, off, y, rfl, hb, hy, hob⟩ := (hO16.next hbr).reads.at_ (k := j) hlt
          obtain ⟨B', m', d', y0, y1, y2, hri, hm', ht'⟩ := hob
          have hyok : objOkB y.k y.xs y.t = true := hoks y (List.mem_of_getElem? hy)
          have HGY := Lib.hid (HALL.out y (List.mem_of_getElem? hy))
          have hidy : idR y.k y.xs y.t = y.id := by unfold idR; rw [if_pos hyok]; rfl
          clear hy
          go_wp2_with fail
          refine (implId_any y.k B' m' d' y.xs y.t _ hri hm').mono ?_
          rintro e w7 ⟨rfl, hb7⟩
          rw [hidy]
          clear hidy
          go_wp2_with fail
          refine (implStoreGet_any L2 mp d2 ps y.id _ ((hO26.next hbr).next hb7).reads (by simp only [maxLen]; omega) hmd2).mono ?_
          unfold GetTo
          rw [HGY.out]
          rintro e w8 ⟨A8, m8, c8, rfl, hl8, hm8, ht8, hb8⟩
          simp only [Option.getD_some, Option.isSome_some] at hl8 hm8 ht8 ⊢
          have be8 := below_box w8 (.cells #[.int .i64 y.k, .slice A8 m8 c8, .string y.t] 26)
          have bb8 := below_ext (below_ext (below_ext hbr hb7) hb8) be8
          have by8 := Blk.new w8 26 [.int .i64 y.k, .slice A8 m8 c8, .string y.t]
          have hly8 := hl8.next be8
          obtain ⟨z0, z1, z2⟩ := by8.cells3
          have hri8 := ((hri.next hb7).next hb8).next be8
          have bq : Below wr.heap.size wr (w8.alloc (.cells #[.int .i64 y.k, .slice A8 m8 c8, .string y.t] 26)) := below_ext (below_ext hb7 hb8) be8
          have q0 := (bq.cell (p := ⟨b, off + j * 3, none⟩) hb).trans y0
          have q1 := (bq.cell (p := ⟨b, off + j * 3 + 1, none⟩) hb).trans y1
          have q2 := (bq.cell (p := ⟨b, off + j * 3 + 1 + 1, none⟩) hb).trans y2
          clear y0 y1 y2
          go_wp2_with fail
          generalize hW8 : w8.alloc (.cells #[.int .i64 y.k, .slice A8 m8 c8, .string y.t] 26) = w8b at *
          have HW8 := Lib.hid hW8
          clear hW8
          have hsame : ∀ W, RInts W A8 m8 y.xs → RInts W B' m' y.xs → Calls Try.prog 20 #[.agg #[.int .i64 y.k, .slice A8 m8 c8, .string y.t], .agg #[.int .i64 y.k, .slice B' m' d', .string y.t]] W fun e w' => e = .returned (.bool true) ∧ Below W.heap.size W w' := fun W r1 r2 =>
            (sameObject_any y.k y.k A8 B' m8 c8 m' d' y.xs y.xs y.t y.t W r1 r2 hm8 hm').mono fun _ _ ⟨he, hb⟩ => ⟨by rw [he, eqV_refl y], hb⟩
          have g0 := cell_regrown q0
          have g1 := cell_regrown q1
          have g2 := cell_regrown q2
          have k0 := cell_regrown z0
          have k1 := cell_regrown z1
          have k2 := cell_regrown z2
          clear q0 q1 q2 z0 z1 z2
          refine wp_region_ext (by kernel_rfl) (by kernel_rfl) ?_
          repeat (go_big_quiet_step ((go_at_call 20; exact rg_below (hsame _ (hly8.1.regrown _ _) (hri8.regrown _ _)))))
          refine wpQuiet_nil ?_
          intro w9 hb9
          go_wp2
          go_roundw
          case rel => exact ⟨j + 1, by omega, by go_num, below_ext bb8 hb9⟩
          case measure => simp [intOf]; omega
        · obtain rfl : j = m := by omega
          obtain ⟨x0, x1, x2⟩ := (bx6.next hbr).cells3
          obtain ⟨p0, p1, p2⟩ := (bo6.next hbr).cells3
          have b7 := below_ext b6 hbr
          go_wp2_with fail
          refine (sameObject_any o.k o.k A6 B m6 c6 m0 d0 o.xs o.xs o.t o.t _ (hlx6.next hbr).1 (hlk6.next hbr).1 hm6 (by simp only [maxLen]; omega)).mono ?_
          rintro e w7 ⟨rfl, hb7⟩
          rw [eqV_refl o]
          go_wp2_with fail
          refine (implStoreValid_any L2 mp d2 ps _ ((hO26.next hbr).next hb7).reads (by simp only [maxLen]; omega)).mono ?_
          rw [HPS.out]
          rintro e w8 ⟨rfl, hb8⟩
          have hle : (mp : Int) ≤ (j : Int) + 1 := by omega
          have hwj : IntKind.i64.wrap ((j : Int) + 1) = (j : Int) + 1 := by rw [IntKind.wrap_i64]; omega
          go_wp2_with fail
          go_ret
          exact ⟨rfl, below_ext (below_ext b7 hb7) hb8⟩
end Go.Proofs.Ytchidnhegbmajaa
