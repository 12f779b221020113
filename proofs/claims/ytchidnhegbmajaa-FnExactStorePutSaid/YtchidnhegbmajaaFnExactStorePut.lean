/- The law FnExactStorePut, walked: for every slice of objects and every object it answers true. -/
import Derived.Test.YtchidnhegbmajaaImplPut
import Derived.Test.YtchidnhegbmajaaMarkV
import Derived.Deep.RegionHeld3
import Derived.Deep.CutRange
namespace Go.Proofs.Ytchidnhegbmajaa
open Go.RowKit Go.Sort

theorem putR_mem {os : List Ob} {o x : Ob} (h : x ∈ (putR os o).1) : x ∈ os ∨ x = o := by
  have h1 : x ∈ os.take (posO os o.id) ++ [o] ++ os.drop (posO os o.id) → x ∈ os ∨ x = o := fun h => by
    rcases List.mem_append.1 h with h | h
    · rcases List.mem_append.1 h with h | h
      · exact Or.inl (List.mem_of_mem_take h)
      · exact Or.inr (List.mem_singleton.1 h)
    · exact Or.inl (List.mem_of_mem_drop h)
  unfold putR at h
  split at h
  · unfold putO at h
    split at h
    · split at h
      · exact Or.inl h
      · split at h
        · exact Or.inl h
        · exact h1 h
    · split at h
      · exact Or.inl h
      · exact h1 h
  · simp at h
theorem putR_len' (os : List Ob) (o : Ob) : (putR os o).1.length ≤ os.length + 1 := by
  unfold putR
  split
  · exact putO_len os o
  · exact Nat.zero_le _

set_option maxRecDepth 100000 in
set_option maxHeartbeats 1600000 in
theorem FnExactStorePut_walk (A : Option Addr) (n c : Nat) (os : List Ob) (k : Int) (B : Option Addr) (m d : Nat) (xs : List Int) (t : ByteArray) (w : World) (h : RObjs w A n os) (hn : n ≤ maxLen) (hr : RInts w B m xs) (hm : m ≤ maxLen) (ht : t.size ≤ maxLen) :
    Calls Try.prog 5 #[.slice A n c, .agg #[.int .i64 k, .slice B m d, .string t]] w fun e w' => e = .returned (.bool true) ∧ Below w.heap.size w w' := by
  obtain ⟨o, hk, hx, htt⟩ : ∃ o : Ob, o.k = k ∧ o.xs = xs ∧ o.t = t := ⟨⟨k, xs, t⟩, rfl, rfl, rfl⟩
  subst hk hx htt
  have hl := h.1
  have bx := Blk.new w 42 [.int .i64 o.k, .slice B m d, .string o.t]
  have b0 := below_box w (.cells #[.int .i64 o.k, .slice B m d, .string o.t] 42)
  go_enter Try.func5, Try.ntmps5
  go_wp2_with fail
  refine (szObjectS_any _ _ _ os _ _ (h.next b0) hn (by omega) (by omega)).mono ?_
  rintro e w1 ⟨⟨v, rfl, r, rfl, hs⟩, hb1⟩
  have b1 := below_ext b0 hb1
  have bx1 := bx.next hb1
  obtain ⟨c10, c11, c12⟩ := bx1.cells3
  rcases hs with hs | ⟨hs0, hsl, hsm⟩
  · go_wp2_with fail
    go_ret
    exact ⟨rfl, b1⟩
  · have hn20 : n ≤ 1048576 := by have := hsm.1; omega
    have hs0b : decide (r < 0) = false := decide_eq_false (by omega)
    go_wp2_with fail
    refine (szObject_any o.k B m d o.t r _ hs0 (by omega) hm ht).mono ?_
    rintro e w2 ⟨rfl, hb2⟩
    have b2 := below_ext b1 hb2
    have bx2 := bx1.next hb2
    by_cases hsz : szO r m o.t.size < 0
    · go_wp2_with fail
      go_ret
      exact ⟨rfl, b2⟩
    · have hm20 : m ≤ 1048576 := by unfold szO szI at hsz; split at hsz <;> omega
      have HSZ := Lib.hid hsz
      clear hsz
      have h2 := h.next b2
      have hr2 := hr.next b2
      obtain ⟨ps, bb, HP⟩ : ∃ ps bb, Hid (putR os o = (ps, bb)) := ⟨_, _, Lib.hid rfl⟩
      obtain ⟨mp, HM⟩ : ∃ mp, Hid (ps.length = mp) := ⟨_, Lib.hid rfl⟩
      have HK := Lib.hid (fun (w' : World) (hb' : Below w2.heap.size w2 w') => (⟨(bx2.next hb').cells3, hb'⟩ : (w'.cell? ⟨w.heap.size, 0, none⟩ = some (.int .i64 o.k) ∧ w'.cell? ⟨w.heap.size, 1, none⟩ = some (.slice B m d) ∧ w'.cell? ⟨w.heap.size, 2, none⟩ = some (.string o.t)) ∧ Below w2.heap.size w2 w'))
      have hneg : decide (szO r m o.t.size < 0) = false := decide_eq_false HSZ.out
      obtain ⟨c20, c21, c22⟩ := bx2.cells3
      go_upto_region 8 with fail
      go_cut [6, 7] from 8 (fun v q wx => ∃ L d3, v = .slice L mp d3 ∧ q = .bool bb ∧ OwnO wx w2.heap.size (.slice L mp d3) mp ps ∧ Below w2.heap.size w2 wx)
      case first =>
        go_region_held3 (fun w' => (w'.cell? ⟨w.heap.size, 0, none⟩ = some (.int .i64 o.k) ∧ w'.cell? ⟨w.heap.size, 1, none⟩ = some (.slice B m d) ∧ w'.cell? ⟨w.heap.size, 2, none⟩ = some (.string o.t)) ∧ Below w2.heap.size w2 w')
          (first
            | exact HK.out _ (Below.refl _ _).drew
            | exact HK.out _ (below_ext (And.right (by assumption)) hb3)
            | exact HK.out _ (below_ext (And.right (by assumption)) hb4)
            | exact HK.out _ (below_ext (And.right (by assumption)) hb5)
            | exact And.intro (And.left (by assumption)) (And.right (by assumption)))
          (first
            | (go_at_call 12; refine (toObjectS_any _ _ _ os _ (h2.next (And.right (by assumption))) hsm).mono ?_
               rintro e w3 ⟨bs3, rfl, ho3, hb3⟩)
            | (go_at_call 25; refine (toObject_any _ _ _ _ o.xs _ _ (hr2.next (And.right (by assumption))) (by omega)).mono ?_
               rintro e w4 ⟨b4, rfl, -, hblk4, hb4⟩)
            | (go_at_call 24; refine (specStorePut_any _ n n os o _ m m _ (by first | exact (ho3.next hb4).reads h.1.symm hsm | exact ho3.reads h.1.symm hsm) hn (Nat.le_refl _) (by first | exact RInts.of_blk (hblk4.next hb3) hr.1.symm | exact RInts.of_blk hblk4 hr.1.symm) (by omega)).mono ?_
               unfold PutR
               rw [HP.out]
               rintro e w5 ⟨v5, rfl, hO5, hb5⟩
               simp only at hO5
               rw [HM.out] at hO5))
        all_goals
          have h3s := hb3.size
          have h4s := hb4.size
          try simp only [World.drew] at h3s
          try simp only [World.drew] at h4s
          obtain ⟨L5, d5, rfl, -⟩ := hO5.form
          have hend : Below w2.heap.size w2 w5 := below_ext (And.right (by assumption)) (Below.refl _ _)
          go_wp2
          go_meet
          case rel => exact ⟨L5, d5, rfl, rfl, hO5.base (by omega), hend⟩
      obtain ⟨L5, d5, rfl, rfl, hO5, hb5⟩ := hcut
      have b5 := below_ext b2 hb5
      have hps : ∀ x ∈ ps, x.xs.length ≤ 2000000 := fun x hx => by
        have hx' : x ∈ (putR os o).1 := by rw [HP.out]; exact hx
        rcases putR_mem hx' with h1 | rfl
        · have := (hsm.2 x h1).1; omega
        · have := hr.1; omega
      have hmp : mp ≤ 1048577 := by
        have h1 := putR_len' os o
        rw [HP.out] at h1
        have h1' : ps.length ≤ os.length + 1 := h1
        have := HM.out
        omega
      have bx5 := (bx2.next hb5)
      go_wp2_with fail
      refine (toObjectS_any _ _ _ os _ (h.next b5) hsm).mono ?_
      rintro e w6 ⟨bs6, rfl, ho6, hb6⟩
      have hmk6 := ho6.mk h.1.symm hsm
      have BB6 := hb6
      have bx6 := bx5.next hb6
      obtain ⟨c60, c61, c62⟩ := bx6.cells3
      go_wp2_with fail
      refine (toObject_any o.k B m d o.xs o.t _ (hr.next (below_ext b5 hb6)) (by omega)).mono ?_
      rintro e w7 ⟨b7, rfl, hb7lo, hblk7, hb7⟩
      have be7 := below_box w7 (.cells #[.int .i64 o.k, .slice (some ⟨b7, 0, none⟩) m m, .string o.t] 26)
      have BB7 := below_ext (below_ext BB6 hb7) be7
      have bt7 := Blk.new w7 26 [.int .i64 o.k, .slice (some ⟨b7, 0, none⟩) m m, .string o.t]
      have hblk7b := hblk7.next be7
      have ho7 := (ho6.next hb7).next be7
      have hmk7 := (hmk6.next hb7).next be7
      obtain ⟨t70, t71, t72⟩ := bt7.cells3
      have hw7z := be7.size
      have hb7hi := hblk7.lt
      go_wp2_with fail
      generalize hW7 : w7.alloc (.cells #[.int .i64 o.k, .slice (some ⟨b7, 0, none⟩) m m, .string o.t] 26) = w7b at *
      have HW7 := Lib.hid hW7
      clear hW7
      refine (implStorePutS_any _ n n os o (some ⟨b7, 0, none⟩) m m w7b (ho7.reads h.1.symm hsm) hn (RInts.of_blk hblk7b hr.1.symm) (by omega)).mono ?_
      unfold PutS
      rw [HP.out]
      rintro e w8 ⟨v8, rfl, hO8, hb8⟩
      simp only at hO8
      rw [HM.out] at hO8
      obtain ⟨L8, d8, rfl, -⟩ := hO8.form
      have BB8 := below_ext BB7 hb8
      have bq : (bb != bb) = false := by cases bb <;> rfl
      go_wp2_with fail
      refine (eqObjectS_any _ _ _ _ _ _ ps ps _ hO8.own.reads (hO5.next BB8).reads (by simp only [maxLen]; omega) (by simp only [maxLen]; omega)).mono ?_
      rintro e w9 ⟨rfl, hb9⟩
      rw [eqOs_refl ps]
      have BB9 := below_ext BB8 hb9
      go_wp2_with fail
      refine (toObjectS_any _ _ _ os _ (h.next (below_ext b5 BB9)) hsm).mono ?_
      rintro e w10 ⟨bs10, rfl, ho10, hb10⟩
      have BB10 := below_ext BB9 hb10
      have ho7x := ((ho7.next hb8).next hb9).next hb10
      go_wp2_with fail
      refine (eqObjectS_any _ _ _ _ _ _ os os _ (ho7x.reads h.1.symm hsm) (ho10.reads h.1.symm hsm) hn hn).mono ?_
      rintro e w11 ⟨rfl, hb11⟩
      rw [eqOs_refl os]
      have BB11 := below_ext BB10 hb11
      have b811 := below_ext (below_ext (below_ext hb8 hb9) hb10) hb11
      have bt11 := bt7.next b811
      have bx11 := bx5.next BB11
      have hblk11 := hblk7b.next b811
      obtain ⟨t110, t111, t112⟩ := bt11.cells3
      obtain ⟨c110, c111, c112⟩ := bx11.cells3
      have HK2 := Lib.hid (fun (w' : World) (hb' : Below w11.heap.size w11 w') => (⟨⟨(bx11.next hb').cells3.1, (bx11.next hb').cells3.2.1, (bx11.next hb').cells3.2.2, (bt11.next hb').cells3⟩, hb'⟩ :
        (w'.cell? ⟨w.heap.size, 0, none⟩ = some (.int .i64 o.k) ∧ w'.cell? ⟨w.heap.size, 1, none⟩ = some (.slice B m d) ∧ w'.cell? ⟨w.heap.size, 2, none⟩ = some (.string o.t) ∧
          w'.cell? ⟨w7.heap.size, 0, none⟩ = some (.int .i64 o.k) ∧ w'.cell? ⟨w7.heap.size, 1, none⟩ = some (.slice (some ⟨b7, 0, none⟩) m m) ∧ w'.cell? ⟨w7.heap.size, 2, none⟩ = some (.string o.t)) ∧ Below w11.heap.size w11 w'))
      have hr11 := hr.next (below_ext b5 BB11)
      go_wp2_with fail
      go_region_held3 (fun w' => (w'.cell? ⟨w.heap.size, 0, none⟩ = some (.int .i64 o.k) ∧ w'.cell? ⟨w.heap.size, 1, none⟩ = some (.slice B m d) ∧ w'.cell? ⟨w.heap.size, 2, none⟩ = some (.string o.t) ∧
          w'.cell? ⟨w7.heap.size, 0, none⟩ = some (.int .i64 o.k) ∧ w'.cell? ⟨w7.heap.size, 1, none⟩ = some (.slice (some ⟨b7, 0, none⟩) m m) ∧ w'.cell? ⟨w7.heap.size, 2, none⟩ = some (.string o.t)) ∧ Below w11.heap.size w11 w')
        (first
          | exact HK2.out _ (Below.refl _ _).drew
          | exact HK2.out _ (below_ext (And.right (by assumption)) hb12)
          | exact HK2.out _ (below_ext (And.right (by assumption)) hb13)
          | exact And.intro (And.left (by assumption)) (And.right (by assumption)))
        (first
          | (go_at_call 25; refine (toObject_any o.k B m d o.xs o.t _ (hr11.next (And.right (by assumption))) (by omega)).mono ?_
             rintro e w12 ⟨b12, rfl, -, hblk12, hb12⟩)
          | (go_at_call 14; refine (eqObject_same _ _ _ _ _ _ _ o.xs _ _ ((RInts.of_blk hblk11 hr.1.symm).next (And.right (by assumption))) (RInts.of_blk hblk12 hr.1.symm) (by simp only [maxLen]; omega) (by simp only [maxLen]; omega)).mono ?_
             rintro e w13 ⟨rfl, hb13⟩))
      have BB13 : Below wc.heap.size wc w13 := below_ext BB11 (And.right (by assumption))
      have b1113 : Below w11.heap.size w11 w13 := And.right (by assumption)
      have hmk13 := (hmk7.next b811).next b1113
      have bt13 := bt11.next b1113
      have hblk13 := hblk11.next b1113
      have hO13 := (((hO8.next hb9).next hb10).next hb11).next b1113
      go_wp2_with fail
      refine (markObjectS_any wc.heap.size w6.heap.size _ n n 1 w13 hmk13 (by omega) (by omega)).mono ?_
      rintro e w14 ⟨r14, rfl, hr140, hr141, -, hmid14⟩
      have BB14 := BB13.trans (hmid14.below BB13.size)
      have bt14 := hmid14.blk bt13 (Or.inr hb7.size)
      have hblk14 := hmid14.blk hblk13 (Or.inr hb7lo.out)
      have hw67 : w6.heap.size ≤ w7b.heap.size := Nat.le_trans hb7.size hw7z
      have hO14 := hO13.mid hmid14 hw67
      obtain ⟨t140, t141, t142⟩ := bt14.cells3
      have hr14m : r14 ≤ 10000000000000 := by
        have : n * 2000002 ≤ 1048576 * 2000002 := Nat.mul_le_mul hn20 (Nat.le_refl _)
        omega
      have hwi14 : WI w6.heap.size w7b.heap.size w14 (some ⟨b7, 0, none⟩) m := fun _ => ⟨b7, _, rfl, hb7lo.out, by omega, hblk14, by rw [length_ints]; have := hr.1; omega⟩
      go_wp2_with fail
      refine (markObjectM_any w6.heap.size w7b.heap.size o.k (some ⟨b7, 0, none⟩) m m o.t r14 w14 hwi14 (by omega) (by omega)).mono ?_
      rintro e w15 ⟨rfl, hmid15, -⟩
      have hlo15 : w6.heap.size ≤ w14.heap.size := by have := hmid14.size; have := b1113.size; have := b811.size; omega
      have hb15 := hmid15.below hlo15
      have BB15 : Below wc.heap.size wc w15 := BB14.trans ⟨hb15.os, hb15.tape, hb15.output, hb15.size, fun i hi => hb15.block i (by have := hb6.size; omega)⟩
      have hO15 := hO14.mid hmid15 (Nat.le_refl _)
      have hpos15 : decide ((r14 : Int) + (m : Int) < 0) = false := decide_eq_false (by omega)
      go_wp2_with fail
      refine (eqObjectS_any _ _ _ _ _ _ ps ps _ hO15.own.reads (hO5.next BB15).reads (by simp only [maxLen]; omega) (by simp only [maxLen]; omega)).mono ?_
      rintro e w16 ⟨rfl, hb16⟩
      rw [eqOs_refl ps]
      have BB16 := below_ext BB15 hb16
      have hO16 := hO15.next hb16
      have hlo16 : w7b.heap.size ≤ w16.heap.size := by have := b811.size; have := b1113.size; have := hmid14.size; have := hmid15.size; have := hb16.size; omega
      go_wp2_with fail
      refine (markObjectSV_any w7b.heap.size w16.heap.size L8 mp d8 1 ps w16 hO16.mst HM.out (by omega) hps (by omega) hlo16).mono ?_
      rintro e w17 ⟨rfl, hM17, hb17⟩
      have BB17 : Below wc.heap.size wc w17 := BB16.trans ⟨hb17.os, hb17.tape, hb17.output, hb17.size, fun i hi => hb17.block i (by have := hb6.size; omega)⟩
      generalize hK : startK 1 ps mp = K at *
      have HKK := Lib.hid hK
      clear hK
      have hKpos : decide ((K : Int) < 0) = false := decide_eq_false (by omega)
      have hKne : ((K : Int) != (K : Int)) = false := by simp
      go_wp2_with fail
      refine (heldObjectS_any w7b.heap.size w16.heap.size L8 mp d8 1 ps w17 hM17 HM.out (by omega) hps (by omega)).mono ?_
      rw [HKK.out]
      rintro e w18 ⟨rfl, hb18⟩
      have BB18 := below_ext BB17 hb18
      have hM18 := hM17.next hb18
      have bx18 := bx5.below BB18 bx5.lt
      have hr18 := hr.next (below_ext b5 BB18)
      have h18 := h.next (below_ext b5 BB18)
      have HK3 := Lib.hid (fun (w' : World) (hb' : Below w18.heap.size w18 w') => (⟨(bx18.next hb').cells3, hb'⟩ : (w'.cell? ⟨w.heap.size, 0, none⟩ = some (.int .i64 o.k) ∧ w'.cell? ⟨w.heap.size, 1, none⟩ = some (.slice B m d) ∧ w'.cell? ⟨w.heap.size, 2, none⟩ = some (.string o.t)) ∧ Below w18.heap.size w18 w'))
      obtain ⟨c180, c181, c182⟩ := bx18.cells3
      generalize hwcz : wc = w5 at *
      go_upto_region 31 with fail
      go_cut [15, 16] from 17 (fun v q wx => ∃ L d3, v = .slice L mp d3 ∧ q = .bool bb ∧ OwnO wx w18.heap.size (.slice L mp d3) mp ps ∧ Below w18.heap.size w18 wx)
      case first =>
        go_region_held3 (fun w' => (w'.cell? ⟨w.heap.size, 0, none⟩ = some (.int .i64 o.k) ∧ w'.cell? ⟨w.heap.size, 1, none⟩ = some (.slice B m d) ∧ w'.cell? ⟨w.heap.size, 2, none⟩ = some (.string o.t)) ∧ Below w18.heap.size w18 w')
          (first
            | exact HK3.out _ (Below.refl _ _).drew
            | exact HK3.out _ (below_ext (And.right (by assumption)) hb19)
            | exact HK3.out _ (below_ext (And.right (by assumption)) hb20)
            | exact HK3.out _ (below_ext (And.right (by assumption)) hb21)
            | exact And.intro (And.left (by assumption)) (And.right (by assumption)))
          (first
            | (go_at_call 12; refine (toObjectS_any _ _ _ os _ (h18.next (And.right (by assumption))) hsm).mono ?_
               rintro e w19 ⟨bs19, rfl, ho19, hb19⟩)
            | (go_at_call 25; refine (toObject_any _ _ _ _ o.xs _ _ (hr18.next (And.right (by assumption))) (by omega)).mono ?_
               rintro e w20 ⟨b20, rfl, -, hblk20, hb20⟩)
            | (go_at_call 26; refine (implStorePut_any _ n n os o _ m m _ (by first | exact (ho19.next hb20).reads h.1.symm hsm | exact ho19.reads h.1.symm hsm) hn (by first | exact RInts.of_blk (hblk20.next hb19) hr.1.symm | exact RInts.of_blk hblk20 hr.1.symm) (by omega)).mono ?_
               unfold PutR
               rw [HP.out]
               rintro e w21 ⟨v21, rfl, hO21, hb21⟩
               simp only at hO21
               rw [HM.out] at hO21))
        all_goals
          have h3s := hb19.size
          have h4s := hb20.size
          try simp only [World.drew] at h3s
          try simp only [World.drew] at h4s
          obtain ⟨L21, d21, rfl, -⟩ := hO21.form
          have hend : Below w18.heap.size w18 w21 := below_ext (And.right (by assumption)) (Below.refl _ _)
          go_wp2
          go_meet
          case rel => exact ⟨L21, d21, rfl, rfl, hO21.base (by omega), hend⟩
      obtain ⟨L22, d22, rfl, rfl, hO22, hb22⟩ := hcut
      have hM22 := hM18.next hb22
      have BB22 := below_ext BB18 hb22
      go_wp2_with fail
      refine (eqObjectS_any _ _ _ _ _ _ ps ps _ hO22.reads (hO5.next BB22).reads (by simp only [maxLen]; omega) (by simp only [maxLen]; omega)).mono ?_
      rintro e w23 ⟨rfl, hb23⟩
      rw [eqOs_refl ps]
      have BB23 := below_ext BB22 hb23
      go_wp2_with fail
      refine (heldObjectS_any w7b.heap.size w16.heap.size L8 mp d8 1 ps w23 (hM22.next hb23) HM.out (by omega) hps (by omega)).mono ?_
      rw [HKK.out]
      rintro e w24 ⟨rfl, hb24⟩
      go_wp2_with fail
      go_ret
      exact ⟨rfl, below_ext (below_ext b5 BB23) hb24⟩
end Go.Proofs.Ytchidnhegbmajaa
