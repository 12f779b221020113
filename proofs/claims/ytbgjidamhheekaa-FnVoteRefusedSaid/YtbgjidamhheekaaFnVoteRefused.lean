/- The law FnVoteRefused, walked: for every code it answers true. -/
import Derived.Test.YtbgjidamhheekaaCoLaw
import Derived.Test.YtbgjidamhheekaaDrawVote
import Derived.Test.YtbgjidamhheekaaVotePlain
import Derived.Test.YtbgjidamhheekaaVoteLaw
import Derived.Test.YtbgjidamhheekaaVoteI
import Derived.Test.YtbgjidamhheekaaVote2S
import Derived.Test.YtbgjidamhheekaaSameC
import Derived.Test.YtbgjidamhheekaaWaits
namespace Go.Proofs.Ytbgjidamhheekaa
open Go.RowKit Go.Sort

set_option maxRecDepth 100000 in
set_option maxHeartbeats 3200000 in
theorem FnVoteRefused_walk (A : Option Addr) (n c : Nat) (w : World) (h : RBytes w w.heap.size A n ∧ n ≤ c) (hn : n ≤ maxLen) :
    Calls Try.prog 8 #[.slice A n c] w fun e w' => e = .returned (.bool true) ∧ Below w.heap.size w w' := by
  have hn0 := hn
  unfold maxLen at hn0
  by_cases hs : 1048576 < n
  · go_enter Try.func8, Try.ntmps8
    go_wp2_with fail
    go_ret
    exact ⟨rfl, Below.refl _ _⟩
  · go_enter Try.func8, Try.ntmps8
    go_wp2_with fail
    refine (DrawCoordinatorVote_any A n c w h.1 hn h.2).mono ?_
    rintro e w1 ⟨cs, q, t, z2, yes, rfl, hQ, hb1⟩
    obtain ⟨A2, n2, c2, C2, m2, d2, rfl⟩ := hQ.two
    have htn := hQ.tiny
    have htn1 := htn.1
    have htn2 := htn.2.1
    have hRc_1 := hQ.rep0
    obtain ⟨_, _, _, _, _, _, e9, hl2, hl2m⟩ := repCo_two hQ.rep0
    obtain ⟨⟨rfl, rfl, rfl⟩, rfl, rfl, rfl⟩ : (_ ∧ _ ∧ _) ∧ _ ∧ _ ∧ _ := by simpa using e9
    clear e9 hQ
    have ebbc := below_box w1 (.cells #[.slice A2 n2 c2, .slice C2 m2 d2] 29)
    have hRc_2 := repCo.next hRc_1 ebbc
    have bt_3 := below_ext hb1 ebbc
    have bc_4 := Blk.new w1 29 [.slice A2 n2 c2, .slice C2 m2 d2]
    obtain ⟨ybc_4_0, ybc_4_1⟩ := bc_4.cells2
    clear hRc_1 ebbc
    obtain ⟨qo, bo, HR⟩ : ∃ qo bo, Hid (voteQ q t z2 yes = (qo, bo)) := ⟨_, _, Lib.hid rfl⟩
    go_wp2_with fail
    generalize hWW : w1.alloc (.cells #[.slice A2 n2 c2, .slice C2 m2 d2] 29) = w2 at *
    clear hWW
    generalize w1.heap.size = gbc at *
    refine (implVote_any _ q t z2 yes _ hRc_2 (by omega) (by omega)).mono ?_
    unfold CoTo2
    rw [HR.out]
    rintro e w3 ⟨csO, rfl, hSO, hbO⟩
    clear ybc_4_0 ybc_4_1
    have hRc_5 := repCo.next hRc_2 hbO
    have bc_6 := bc_4.next hbO
    have bt_7 := below_ext bt_3 hbO
    obtain ⟨ybc_6_0, ybc_6_1⟩ := bc_6.cells2
    clear hRc_2 bc_4 bt_3 hbO
    have hRo0 := repCo.down (sepCo.reads hSO) (Nat.zero_le _)
    obtain ⟨A3, n3, c3, C3, m3, d3, rfl, hn3, hm3, hcap3, hmax3⟩ := sepCo_two hSO
    have hRo_8 := hRo0
    clear hSO hRo0
    clear ybc_6_0 ybc_6_1
    have ebbo := below_box w3 (.cells #[.slice A3 n3 c3, .slice C3 m3 d3] 29)
    have hRc_9 := repCo.next hRc_5 ebbo
    have bc_10 := bc_6.next ebbo
    have hRo_11 := repCo.next hRo_8 ebbo
    have bt_12 := below_ext bt_7 ebbo
    have bo_13 := Blk.new w3 29 [.slice A3 n3 c3, .slice C3 m3 d3]
    obtain ⟨ybc_10_0, ybc_10_1⟩ := bc_10.cells2
    obtain ⟨ybo_13_0, ybo_13_1⟩ := bo_13.cells2
    clear hRc_5 bc_6 hRo_8 bt_7 ebbo
    go_wp2_with fail
    generalize hWW : w3.alloc (.cells #[.slice A3 n3 c3, .slice C3 m3 d3] 29) = w4 at *
    clear hWW
    generalize w3.heap.size = gbo at *
    refine (specVote_any _ q t z2 yes _ hRc_9).mono ?_
    unfold CoTo2
    rw [HR.out]
    rintro e w5 ⟨csW, rfl, hSW, hbW⟩
    clear ybc_10_0 ybc_10_1 ybo_13_0 ybo_13_1
    have hRc_14 := repCo.next hRc_9 hbW
    have bc_15 := bc_10.next hbW
    have hRo_16 := repCo.next hRo_11 hbW
    have bo_17 := bo_13.next hbW
    have bt_18 := below_ext bt_12 hbW
    obtain ⟨ybc_15_0, ybc_15_1⟩ := bc_15.cells2
    obtain ⟨ybo_17_0, ybo_17_1⟩ := bo_17.cells2
    clear hRc_9 bc_10 hRo_11 bo_13 bt_12 hbW
    have hRw0 := repCo.down (sepCo.reads hSW) (Nat.zero_le _)
    obtain ⟨A4, n4, c4, C4, m4, d4, rfl, hn4, hm4⟩ := repCo_two hRw0
    have hRw_19 := hRw0
    clear hSW hRw0
    clear ybc_15_0 ybc_15_1 ybo_17_0 ybo_17_1
    have ebbw := below_box w5 (.cells #[.slice A4 n4 c4, .slice C4 m4 d4] 29)
    have hRc_20 := repCo.next hRc_14 ebbw
    have bc_21 := bc_15.next ebbw
    have hRo_22 := repCo.next hRo_16 ebbw
    have bo_23 := bo_17.next ebbw
    have hRw_24 := repCo.next hRw_19 ebbw
    have bt_25 := below_ext bt_18 ebbw
    have bw_26 := Blk.new w5 29 [.slice A4 n4 c4, .slice C4 m4 d4]
    obtain ⟨ybc_21_0, ybc_21_1⟩ := bc_21.cells2
    obtain ⟨ybo_23_0, ybo_23_1⟩ := bo_23.cells2
    obtain ⟨ybw_26_0, ybw_26_1⟩ := bw_26.cells2
    clear hRc_14 bc_15 hRo_16 bo_17 hRw_19 bt_18 ebbw
    have hbne : (bo != bo) = false := by simp
    have hbeq : (bo == bo) = true := by simp
    go_wp2_with fail
    generalize hWW : w5.alloc (.cells #[.slice A4 n4 c4, .slice C4 m4 d4] 29) = w6 at *
    clear hWW
    generalize w5.heap.size = gbw at *
    refine (sameCoordinator_any _ _ _ _ _ hRo_22 hRw_24).mono ?_
    rw [eqCo_refl]
    rintro e w7 ⟨rfl, hbS⟩
    clear ybc_21_0 ybc_21_1 ybo_23_0 ybo_23_1 ybw_26_0 ybw_26_1
    have hRc_27 := repCo.next hRc_20 hbS
    have bc_28 := bc_21.next hbS
    have hRo_29 := repCo.next hRo_22 hbS
    have bo_30 := bo_23.next hbS
    have hRw_31 := repCo.next hRw_24 hbS
    have bw_32 := bw_26.next hbS
    have bt_33 := below_ext bt_25 hbS
    obtain ⟨ybc_28_0, ybc_28_1⟩ := bc_28.cells2
    obtain ⟨ybo_30_0, ybo_30_1⟩ := bo_30.cells2
    obtain ⟨ybw_32_0, ybw_32_1⟩ := bw_32.cells2
    clear hRc_20 bc_21 hRo_22 bo_23 hRw_24 bw_26 bt_25 hbS
    have hsz := vote_tiny HR.out htn1 htn2
    have hqo1 : qo.ts.length ≤ 100000000 := by omega
    have hqo2 : qo.ord.length ≤ 100000000 := by omega
    go_wp2_with fail
    refine (specCoordinatorValid_any _ q _ hRc_27).mono ?_
    rintro e w8 ⟨rfl, hbV⟩
    clear ybc_28_0 ybc_28_1 ybo_30_0 ybo_30_1 ybw_32_0 ybw_32_1
    have hRc_34 := repCo.next hRc_27 hbV
    have bc_35 := bc_28.next hbV
    have hRo_36 := repCo.next hRo_29 hbV
    have bo_37 := bo_30.next hbV
    have hRw_38 := repCo.next hRw_31 hbV
    have bw_39 := bw_32.next hbV
    have bt_40 := below_ext bt_33 hbV
    obtain ⟨ybc_35_0, ybc_35_1⟩ := bc_35.cells2
    obtain ⟨ybo_37_0, ybo_37_1⟩ := bo_37.cells2
    obtain ⟨ybw_39_0, ybw_39_1⟩ := bw_39.cells2
    clear hRc_27 bc_28 hRo_29 bo_30 hRw_31 bw_32 bt_33 hbV
    cases hv : coB q
    · skip
      go_wp2_with fail
      refine (sameCoordinator_any _ _ _ _ _ hRo_36 hRw_38).mono ?_
      rw [eqCo_refl]
      rintro e w9 ⟨rfl, hbS⟩
      clear ybc_35_0 ybc_35_1 ybo_37_0 ybo_37_1 ybw_39_0 ybw_39_1
      have hRc_41 := repCo.next hRc_34 hbS
      have bc_42 := bc_35.next hbS
      have hRo_43 := repCo.next hRo_36 hbS
      have bo_44 := bo_37.next hbS
      have hRw_45 := repCo.next hRw_38 hbS
      have bw_46 := bw_39.next hbS
      have bt_47 := below_ext bt_40 hbS
      obtain ⟨ybc_42_0, ybc_42_1⟩ := bc_42.cells2
      obtain ⟨ybo_44_0, ybo_44_1⟩ := bo_44.cells2
      obtain ⟨ybw_46_0, ybw_46_1⟩ := bw_46.cells2
      clear hRc_34 bc_35 hRo_36 bo_37 hRw_38 bw_39 bt_40 hbS
      go_wp2_with fail
      go_ret
      exact ⟨rfl, bt_47⟩
    · have HAW := Lib.hid (vote_awaited (t := t) (s := z2) (y := yes) hv)
      rw [HR.out] at HAW
      obtain ⟨ws, HW⟩ : ∃ ws, Hid (waitsQ q t = ws) := ⟨_, Lib.hid rfl⟩
      have hws : ws.length ≤ 3 := by rw [← HW.out]; exact waits_short q t
      rw [HW.out] at HAW
      go_wp2_with fail
      refine (implWaits_any _ q t _ hRc_34 (by omega) (by omega)).mono ?_
      unfold WaitsTo
      rw [HW.out]
      rintro e w9 ⟨B8, m8, d8, rfl, hown8, hb8⟩
      clear ybc_35_0 ybc_35_1 ybo_37_0 ybo_37_1 ybw_39_0 ybw_39_1
      have hRc_41 := repCo.next hRc_34 hb8
      have bc_42 := bc_35.next hb8
      have hRo_43 := repCo.next hRo_36 hb8
      have bo_44 := bo_37.next hb8
      have hRw_45 := repCo.next hRw_38 hb8
      have bw_46 := bw_39.next hb8
      have bt_47 := below_ext bt_40 hb8
      obtain ⟨ybc_42_0, ybc_42_1⟩ := bc_42.cells2
      obtain ⟨ybo_44_0, ybo_44_1⟩ := bo_44.cells2
      obtain ⟨ybw_46_0, ybw_46_1⟩ := bw_46.cells2
      clear hRc_34 bc_35 hRo_36 bo_37 hRw_38 bw_39 bt_40 hb8
      have hr8 := RInts.of_ownL hown8
      have hm8 : m8 ≤ 3 := by have := hr8.1; omega
      go_wp2_with fail
      refine (hasInt_any B8 m8 d8 ws z2 _ hr8 (by simp only [maxLen]; omega)).mono ?_
      rintro e w9z ⟨rfl, rfl⟩
      have HAX : hasI ws z2 = bo := HAW.out.symm
      rw [HAX]
      clear HAX
      cases bo
      · obtain rfl := vote_same hv HR.out
        go_wp2_with fail
        refine (sameCoordinator_any _ _ _ _ _ hRo_43 hRc_41).mono ?_
        rw [eqCo_refl]
        rintro e w10 ⟨rfl, hbS⟩
        clear ybc_42_0 ybc_42_1 ybo_44_0 ybo_44_1 ybw_46_0 ybw_46_1
        have hRc_48 := repCo.next hRc_41 hbS
        have bc_49 := bc_42.next hbS
        have hRo_50 := repCo.next hRo_43 hbS
        have bo_51 := bo_44.next hbS
        have hRw_52 := repCo.next hRw_45 hbS
        have bw_53 := bw_46.next hbS
        have bt_54 := below_ext bt_47 hbS
        obtain ⟨ybc_49_0, ybc_49_1⟩ := bc_49.cells2
        obtain ⟨ybo_51_0, ybo_51_1⟩ := bo_51.cells2
        obtain ⟨ybw_53_0, ybw_53_1⟩ := bw_53.cells2
        clear hRc_41 bc_42 hRo_43 bo_44 hRw_45 bw_46 bt_47 hbS
        go_wp2_with fail
        go_ret
        exact ⟨rfl, bt_54⟩
      · skip
        go_wp2_with fail
        go_ret
        exact ⟨rfl, bt_47⟩
end Go.Proofs.Ytbgjidamhheekaa
