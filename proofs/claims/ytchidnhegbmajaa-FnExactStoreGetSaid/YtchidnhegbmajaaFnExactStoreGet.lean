/- The law FnExactStoreGet, walked: for every slice of objects and every id it answers true. -/
import Derived.Test.YtchidnhegbmajaaGet
import Derived.Test.YtchidnhegbmajaaMarkO
namespace Go.Proofs.Ytchidnhegbmajaa
open Go.RowKit Go.Sort

theorem eqI_refl (xs : List Int) : eqI xs xs = true := by simp [eqI]
set_option maxHeartbeats 800000 in
theorem FnExactStoreGet_walk (A : Option Addr) (n c : Nat) (os : List Ob) (z : Int) (w : World) (h : RObjs w A n os) (hn : n ≤ maxLen) (_hz0 : -9223372036854775808 ≤ z) (_hz1 : z ≤ 9223372036854775807) :
    Calls Try.prog 3 #[.slice A n c, .int .i64 z] w fun e w' => e = .returned (.bool true) ∧ Below w.heap.size w w' := by
  have hl := h.1
  go_enter Try.func3, Try.ntmps3
  go_wp2_with fail
  refine (szObjectS_any _ _ _ os _ _ h hn (by omega) (by omega)).mono ?_
  rintro e w1 ⟨⟨v, rfl, r, rfl, hs⟩, hb1⟩
  rcases hs with hs | ⟨hs0, hsl, hsm⟩
  · go_wp2_with fail
    go_ret
    exact ⟨rfl, hb1⟩
  · have hn20 : n ≤ 1048576 := by have := hsm.1; omega
    go_wp2_with fail
    refine (toObjectS_any _ _ _ os _ (h.next hb1) hsm).mono ?_
    rintro e w2 ⟨bs2, rfl, ho2, hb2⟩
    have b2 := below_ext hb1 hb2
    go_wp2_with fail
    refine (specStoreGet_any _ n n os z _ (ho2.reads h.1.symm hsm) hn).mono ?_
    rintro e w3 ⟨A3, m3, c3, rfl, hl3, hm3, ht3, hb3⟩
    have b3 := below_ext b2 hb3
    generalize hG : getR os z = r at *
    have HG := Lib.hid hG
    clear hG
    generalize hX : r.getD zeroO = x at *
    have HX := Lib.hid hX
    clear hX
    generalize hB : r.isSome = b at *
    have HB := Lib.hid hB
    clear hB
    have hx4 : x.xs.length ≤ 4 := by
      have h2 := HX.out
      cases r with
      | none => have : zeroO = x := h2; subst this; exact Nat.zero_le _
      | some y => have : y = x := h2; subst this; exact (ObjOk.of (getR_data HG.out).1).len
    have be3 := below_box w3 (.cells #[.int .i64 x.k, .slice A3 m3 c3, .string x.t] 26)
    have b3b := below_ext b3 be3
    have bw3 := Blk.new w3 26 [.int .i64 x.k, .slice A3 m3 c3, .string x.t]
    have hl3b := hl3.next be3
    have hzb : (w3.alloc (.cells #[.int .i64 x.k, .slice A3 m3 c3, .string x.t] 26)).heap.size = w3.heap.size + 1 := by simp
    have HZB := Lib.hid hzb
    clear hzb
    go_wp2_with fail
    generalize hW3 : w3.alloc (.cells #[.int .i64 x.k, .slice A3 m3 c3, .string x.t] 26) = w3b at *
    have HW3 := Lib.hid hW3
    clear hW3
    refine (toObjectS_any _ _ _ os _ (h.next b3b) hsm).mono ?_
    rintro e w4 ⟨bs4, rfl, ho4, hb4⟩
    have hmk4 := ho4.mk h.1.symm hsm
    have b4 := below_ext b3b hb4
    go_wp2_with fail
    refine (implStoreGet_any _ n n os z _ (ho4.reads h.1.symm hsm) hn (Nat.le_refl _)).mono ?_
    rw [HG.out]
    rintro e w5 ⟨A5, m5, c5, rfl, hl5, hm5, ht5, hb5⟩
    rw [HX.out] at hl5 ht5 ⊢
    rw [HB.out]
    have be5 := below_box w5 (.cells #[.int .i64 x.k, .slice A5 m5 c5, .string x.t] 26)
    have BB5 := below_ext (below_ext hb4 hb5) be5
    have bg5 := Blk.new w5 26 [.int .i64 x.k, .slice A5 m5 c5, .string x.t]
    have hl5b := hl5.next be5
    have ho5 := (ho4.next hb5).next be5
    have hmk5 := (hmk4.next hb5).next be5
    have hz45 := hb5.size
    have bw5 := bw3.below BB5 bw3.lt
    obtain ⟨s50, s51, s52⟩ := bw5.cells3
    obtain ⟨t50, t51, t52⟩ := bg5.cells3
    go_wp2_with fail
    generalize hW5 : w5.alloc (.cells #[.int .i64 x.k, .slice A5 m5 c5, .string x.t] 26) = w5b at *
    have HW5 := Lib.hid hW5
    clear hW5
    refine (eqObject_any x.k x.k A5 A3 m5 c5 m3 c3 x.xs x.xs x.t x.t _ hl5b.1 (hl3b.1.below BB5 (Nat.le_refl _)) hm5 hm3).mono ?_
    rintro e w6 ⟨rfl, hb6⟩
    rw [eqV_refl x]
    have BB6 := below_ext BB5 hb6
    cases b
    all_goals
      go_wp2_with fail
      refine (toObjectS_any _ _ _ os _ (h.next (below_ext b3b BB6)) hsm).mono ?_
      rintro e w7 ⟨bs7, rfl, ho7, hb7⟩
      have BB7 := below_ext BB6 hb7
      have ho57 := (ho5.next hb6).next hb7
      go_wp2_with fail
      refine (eqObjectS_any _ _ _ _ _ _ os os _ (ho57.reads h.1.symm hsm) (ho7.reads h.1.symm hsm) hn hn).mono ?_
      rintro e w8 ⟨rfl, hb8⟩
      rw [eqOs_refl os]
      have BB8 := below_ext BB7 hb8
      have hmk8 := ((hmk5.next hb6).next hb7).next hb8
      have bg8 := ((bg5.next hb6).next hb7).next hb8
      have hl8 := ((hl5b.next hb6).next hb7).next hb8
      go_wp2_with fail
      refine (markObjectS_any w3b.heap.size w4.heap.size _ n n 1 w8 hmk8 (by omega) (by omega)).mono ?_
      rintro e w9 ⟨r9, rfl, hr90, hr91, -, hmid9⟩
      have BB9 := BB8.trans (hmid9.below BB8.size)
      have bg9 := hmid9.blk bg8 (Or.inr hz45)
      have hl9 := hl8.mid hmid9 (Nat.le_refl _)
      have bw9 := bw3.below BB9 bw3.lt
      obtain ⟨s90, s91, s92⟩ := bw9.cells3
      obtain ⟨t90, t91, t92⟩ := bg9.cells3
      have hr9b : decide ((r9 : Int) < 0) = false := decide_eq_false (by omega)
      go_wp2_with fail
      refine (eqObject_any x.k x.k A5 A3 m5 c5 m3 c3 x.xs x.xs x.t x.t _ hl9.1 (hl3b.1.below BB9 (Nat.le_refl _)) hm5 hm3).mono ?_
      rintro e w10 ⟨rfl, hb10⟩
      rw [eqV_refl x]
      have BB10 := below_ext BB9 hb10
      have bg10 := bg9.next hb10
      have hl10 := hl9.next hb10
      obtain ⟨t100, t101, t102⟩ := bg10.cells3
      have hm54 : m5 ≤ 4 := by have := hl10.1.1; omega
      go_wp2_with fail
      refine (markObject_any w4.heap.size x.k A5 m5 c5 x.xs x.t 1 w10 hl10 (by have := BB10.size; have := hb6.size; have := hb7.size; have := hb8.size; have := hmid9.size; have := hb10.size; have := be5.size; omega) (by omega) (by omega)).mono ?_
      rintro e w11 ⟨rfl, hl11, hb11, hkeep11⟩
      have BB11 := BB10.trans (Below.trans (Below.refl _ _) ⟨hb11.os, hb11.tape, hb11.output, hb11.size, fun i hi => hb11.block i (by have := hb4.size; omega)⟩)
      have bg11 := hkeep11 _ _ bg10
      obtain ⟨t110, t111, t112⟩ := bg11.cells3
      go_wp2_with fail
      refine (heldObject_any x.k A5 m5 c5 x.t 1 w11 hl11.1 (by omega) (by omega)).mono ?_
      rintro e w12 ⟨rfl, hb12⟩
      have BB12 := below_ext BB11 hb12
      have hl12 := hl11.next hb12
      have bg12 := bg11.next hb12
      have hpos : decide (1 + (m5 : Int) < 0) = false := by simp; omega
      have heq : ((1 + (m5 : Int)) != (1 + (m5 : Int))) = false := by simp
      go_wp2_with fail
      refine (toObjectS_any _ _ _ os _ (h.next (below_ext b3b BB12)) hsm).mono ?_
      rintro e w13 ⟨bs13, rfl, ho13, hb13⟩
      have BB13 := below_ext BB12 hb13
      have hl13 := hl12.next hb13
      have bg13 := bg12.next hb13
      go_wp2_with fail
      refine (implStoreGet_any _ n n os z _ (ho13.reads h.1.symm hsm) hn (Nat.le_refl _)).mono ?_
      rw [HG.out]
      rintro e w14 ⟨A14, m14, c14, rfl, hl14, hm14, ht14, hb14⟩
      rw [HX.out] at hl14 ht14 ⊢
      rw [HB.out]
      have be14 := below_box w14 (.cells #[.int .i64 x.k, .slice A14 m14 c14, .string x.t] 26)
      have BB14 := below_ext (below_ext BB13 hb14) be14
      have bh14 := Blk.new w14 26 [.int .i64 x.k, .slice A14 m14 c14, .string x.t]
      have hlh := hl14.next be14
      have bg14 := (bg13.next hb14).next be14
      have hlg := (hl13.next hb14).next be14
      have bw14 := bw3.below BB14 bw3.lt
      obtain ⟨s140, s141, s142⟩ := bw14.cells3
      obtain ⟨t140, t141, t142⟩ := bg14.cells3
      obtain ⟨u140, u141, u142⟩ := bh14.cells3
      go_wp2_with fail
      generalize hW14 : w14.alloc (.cells #[.int .i64 x.k, .slice A14 m14 c14, .string x.t] 26) = w14b at *
      have HW14 := Lib.hid hW14
      clear hW14
      refine (eqObject_any x.k x.k A14 A3 m14 c14 m3 c3 x.xs x.xs x.t x.t _ hlh.1 (hl3b.1.below BB14 (Nat.le_refl _)) hm14 hm3).mono ?_
      rintro e w15 ⟨rfl, hb15⟩
      rw [eqV_refl x]
      have BB15 := below_ext BB14 hb15
      obtain ⟨t150, t151, t152⟩ := (bg14.next hb15).cells3
      go_wp2_with fail
      refine (heldObject_any x.k A5 m5 c5 x.t 1 w15 (hlg.next hb15).1 (by omega) (by omega)).mono ?_
      rintro e w16 ⟨rfl, hb16⟩
      go_wp2_with fail
      go_ret
      exact ⟨rfl, below_ext b3b (below_ext BB15 hb16)⟩
end Go.Proofs.Ytchidnhegbmajaa
