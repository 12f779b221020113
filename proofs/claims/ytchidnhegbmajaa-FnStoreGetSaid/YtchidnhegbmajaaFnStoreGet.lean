/- The law FnStoreGet, walked: for every code it answers true. -/
import Derived.Test.YtchidnhegbmajaaStoreTop
import Derived.Test.YtchidnhegbmajaaGet
import Derived.Test.YtchidnhegbmajaaSame
namespace Go.Proofs.Ytchidnhegbmajaa
open Go.RowKit Go.Sort

theorem eqV_refl (o : Ob) : ((o.k == o.k) && eqI o.xs o.xs && (o.t.toList == o.t.toList)) = true := by simp [eqI]
theorem getR_data {os : List Ob} {z : Int} {x : Ob} (h : getR os z = some x) : x.ok = true ∧ x.id = z := by
  unfold getR at h
  split at h
  · rename_i hc
    rw [Bool.and_eq_true] at hc
    obtain ⟨y, hy, he⟩ := hasO_at hc.2
    rw [hy] at h; injection h with h; subst h
    exact ⟨storeB_ok hc.1 _ (List.mem_of_getElem? hy), he⟩
  · cases h

set_option maxHeartbeats 3200000 in
theorem FnStoreGet_walk (A : Option Addr) (n c : Nat) (w : World) (h : RBytes w w.heap.size A n ∧ n ≤ c) (hn : n ≤ maxLen) :
    Calls Try.prog 4 #[.slice A n c] w fun e w' => e = .returned (.bool true) ∧ Below w.heap.size w w' := by
  have hn0 := hn
  unfold maxLen at hn0
  by_cases hs : 1048576 < n
  · go_enter Try.func4, Try.ntmps4
    go_wp2_with fail
    go_ret
    exact ⟨rfl, Below.refl _ _⟩
  · go_enter Try.func4, Try.ntmps4
    go_wp2_with fail
    refine (DrawStoreGet_any A n c w h.1 hn h.2).mono ?_
    rintro e w1 ⟨v, z, rfl, ⟨m, os, hO, hm, hok⟩, hz0, hz1, hb1⟩
    obtain ⟨L, d, rfl, hmd⟩ := hO.form
    go_wp2_with fail
    refine (implStoreGet_any L m d os z _ hO.reads (by simp only [maxLen]; omega) hmd).mono ?_
    rintro e w2 ⟨A2, m2, c2, rfl, hl2, hm2, ht2, hb2⟩
    have hO2 := hO.next hb2
    generalize hG : getR os z = r at *
    have HG := Lib.hid hG
    clear hG
    generalize hX : r.getD zeroO = x at *
    have HX := Lib.hid hX
    clear hX
    have bo2 := Blk.new w2 26 [.int .i64 x.k, .slice A2 m2 c2, .string x.t]
    have be2 := below_box w2 (.cells #[.int .i64 x.k, .slice A2 m2 c2, .string x.t] 26)
    go_wp2_with fail
    refine (specStoreGet_any L m d os z _ (hO2.next be2).reads (by simp only [maxLen]; omega)).mono ?_
    rw [HG.out]
    rintro e w3 ⟨A3, m3, c3, rfl, hl3, hm3, ht3, hb3⟩
    rw [HX.out] at hl3 ht3 ⊢
    generalize hB : r.isSome = b at *
    have HB := Lib.hid hB
    clear hB
    have bo3 := (bo2.next hb3).next (below_box w3 (.cells #[.int .i64 x.k, .slice A3 m3 c3, .string x.t] 26))
    have bp3 := Blk.new w3 26 [.int .i64 x.k, .slice A3 m3 c3, .string x.t]
    have l2 := ((hl2.next be2).next hb3).next (below_box w3 (.cells #[.int .i64 x.k, .slice A3 m3 c3, .string x.t] 26))
    have l3 := hl3.next (below_box w3 (.cells #[.int .i64 x.k, .slice A3 m3 c3, .string x.t] 26))
    have b3 := below_ext (below_ext (below_ext (below_ext hb1 hb2) be2) hb3) (below_box w3 (.cells #[.int .i64 x.k, .slice A3 m3 c3, .string x.t] 26))
    obtain ⟨c0, c1', c2'⟩ := bo3.cells3
    obtain ⟨d0, d1, d2⟩ := bp3.cells3
    go_wp2_with fail
    refine (sameObject_any x.k x.k A2 A3 m2 c2 m3 c3 x.xs x.xs x.t x.t _ l2.1 l3.1 hm2 hm3).mono ?_
    rintro e w4 ⟨rfl, hb4⟩
    rw [eqV_refl x]
    have b4 := below_ext b3 hb4
    have bo4 := bo3.next hb4
    have bp4 := bp3.next hb4
    have l4 := l2.next hb4
    have l5 := l3.next hb4
    obtain ⟨c40, c41, c42⟩ := bo4.cells3
    obtain ⟨d40, d41, d42⟩ := bp4.cells3
    cases b
    · go_wp2_with fail
      refine (sameObject_any x.k x.k A2 A3 m2 c2 m3 c3 x.xs x.xs x.t x.t _ l4.1 l5.1 hm2 hm3).mono ?_
      rintro e w5 ⟨rfl, hb5⟩
      rw [eqV_refl x]
      go_wp2_with fail
      go_ret
      exact ⟨rfl, below_ext b4 hb5⟩
    · obtain ⟨hv, hi⟩ : x.ok = true ∧ x.id = z := by
        have h1 := HB.out
        have h2 := HX.out
        cases r with
        | none => cases h1
        | some y => have : y = x := h2; subst this; exact getR_data HG.out
      have HV := Lib.hid hv
      have hid : idR x.k x.xs x.t = z := by unfold idR; rw [if_pos (show objOkB x.k x.xs x.t = true from hv)]; exact hi
      clear hv hi
      go_wp2_with fail
      refine (implId_any x.k A2 m2 c2 x.xs x.t _ l4.1 hm2).mono ?_
      rintro e w5 ⟨rfl, hb5⟩
      rw [hid]
      have bo5 := bo4.next hb5
      obtain ⟨c50, c51, c52⟩ := bo5.cells3
      have hzz : (z == z) = true := by simp
      clear hid
      go_wp2_with fail
      refine (implValid_any x.k A2 m2 c2 x.xs x.t _ (l4.next hb5).1 hm2).mono ?_
      rintro e w6 ⟨rfl, hb6⟩
      rw [show objOkB x.k x.xs x.t = true from HV.out]
      go_wp2_with fail
      go_ret
      exact ⟨rfl, below_ext (below_ext b4 hb5) hb6⟩
end Go.Proofs.Ytchidnhegbmajaa
