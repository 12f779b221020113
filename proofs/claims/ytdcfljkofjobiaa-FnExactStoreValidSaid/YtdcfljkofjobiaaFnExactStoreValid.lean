/- The law FnExactStoreValid, walked: for every slice of objects it answers true. -/
import Derived.Test.YtdcfljkofjobiaaObjLaw
import Derived.Deep.RegionHeld3
namespace Go.Proofs.Ytdcfljkofjobiaa
open Go.RowKit Go.Sort

set_option maxHeartbeats 1600000 in
theorem FnExactStoreValid_walk (A : Option Addr) (n c : Nat) (os : List Ob) (w : World) (h : RObjs w A n os) (hn : n ≤ maxLen) :
    Calls Try.prog 10 #[.slice A n c] w fun e w' => e = .returned (.bool true) ∧ Below w.heap.size w w' := by
  go_enter Try.func10, Try.ntmps10
  go_wp2_with fail
  refine (szObjectS_any _ _ _ os _ _ h hn (by omega) (by omega)).mono ?_
  rintro e w1 ⟨⟨v, rfl, r, rfl, hs⟩, hb1⟩
  rcases hs with hs | ⟨hs0, hsl, hsm⟩
  · go_wp2_with fail
    go_ret
    exact ⟨rfl, hb1⟩
  · have hr1 := h.next hb1
    go_wp2_with fail
    refine (toObjectS_any _ _ _ os _ hr1 hsm).mono ?_
    rintro e w2 ⟨bs2, rfl, ho2, hb2⟩
    go_wp2_with fail
    refine (specStoreValid_any _ _ _ os _ (ho2.reads h.1.symm hsm) hn).mono ?_
    rintro e w3 ⟨rfl, hb3⟩
    have hr3 := (hr1.next hb2).next hb3
    go_wp2_with fail
    refine (toObjectS_any _ _ _ os _ hr3 hsm).mono ?_
    rintro e w4 ⟨bs4, rfl, ho4, hb4⟩
    go_wp2_with fail
    refine (implStoreValid_any _ _ _ os _ (ho4.reads h.1.symm hsm) hn).mono ?_
    rintro e w5 ⟨rfl, hb5⟩
    have hr5 := (hr3.next hb4).next hb5
    have ho5 := ho4.next hb5
    cases hv : storeB os
    all_goals
      go_wp2_with fail
      refine (toObjectS_any _ _ _ os _ hr5 hsm).mono ?_
      rintro e w6 ⟨bs6, rfl, ho6, hb6⟩
      have ho65 := ho5.next hb6
      go_wp2_with fail
      refine (eqObjectS_any _ _ _ _ _ _ os os _ (ho65.reads h.1.symm hsm) (ho6.reads h.1.symm hsm) (by omega) (by omega)).mono ?_
      rintro e w7 ⟨rfl, hb7⟩
      rw [eqOs_refl os]
      go_wp2
      go_ret
      exact ⟨rfl, below_ext (below_ext (below_ext (below_ext (below_ext (below_ext hb1 hb2) hb3) hb4) hb5) hb6) hb7⟩
end Go.Proofs.Ytdcfljkofjobiaa
