/- The law FnVoteTwice, walked: for every code it answers true. -/
import Derived.Test.YtbgjidamhheekaaCoLaw
import Derived.Test.YtbgjidamhheekaaDrawVote
import Derived.Test.YtbgjidamhheekaaVotePlain
import Derived.Test.YtbgjidamhheekaaVoteLaw
import Derived.Test.YtbgjidamhheekaaVoteI
import Derived.Test.YtbgjidamhheekaaVote2S
import Derived.Test.YtbgjidamhheekaaSameC
namespace Go.Proofs.Ytbgjidamhheekaa
open Go.RowKit Go.Sort

set_option maxRecDepth 100000 in
set_option maxHeartbeats 3200000 in
theorem FnVoteTwice_walk (A : Option Addr) (n c : Nat) (w : World) (h : RBytes w w.heap.size A n ∧ n ≤ c) (hn : n ≤ maxLen) :
    Calls Try.prog 7 #[.slice A n c] w fun e w' => e = .returned (.bool true) ∧ Below w.heap.size w w' := by
  have hn0 := hn
  unfold maxLen at hn0
  by_cases hs : 1048576 < n
  · go_enter Try.func7, Try.ntmps7
    go_wp2_with fail
    go_ret
    exact ⟨rfl, Below.refl _ _⟩
  · go_enter Try.func7, Try.ntmps7
    go_wp2_with fail
    refine (DrawCoordinatorVote_any A n c w h.1 hn h.2).mono ?_
    rintro e w1 ⟨cs, q, t, z2, yes, rfl, hQ, hb1⟩
    obtain ⟨A2, n2, c2, C2, m2, d2, rfl⟩ := hQ.two
    have htn := hQ.tiny
    have htn1 := htn.1
    have htn2 := htn.2.1
    have hRc_1 := hQ.rep0
    obtain ⟨_, _, _, _, _, _, e9, hl2, hl2m⟩ := repCo_two hQ.rep0
    obtain ⟨⟨rfl, rfl, rfl⟩, rfl, rfl, rfl⟩ : (_ ∧ _ ∧ _) ∧ _ ∧ _ ∧ _ := by simpa using e9
    clear e9 hQ
    have ebbc := below_box w1 (.cells #[.slice A2 n2 c2, .slice C2 m2 d2] 29)
    have hRc_2 := repCo.next hRc_1 ebbc
    have bt_3 := below_ext hb1 ebbc
    have bc_4 := Blk.new w1 29 [.slice A2 n2 c2, .slice C2 m2 d2]
    obtain ⟨ybc_4_0, ybc_4_1⟩ := bc_4.cells2
    clear hRc_1 ebbc
    obtain ⟨qo, bo, HR⟩ : ∃ qo bo, Hid (voteQ q t z2 yes = (qo, bo)) := ⟨_, _, Lib.hid rfl⟩
    go_wp2_with fail
    generalize hWW : w1.alloc (.cells #[.slice A2 n2 c2, .slice C2 m2 d2] 29) = w2 at *
    clear hWW
    generalize w1.heap.size = gbc at *
    refine (implVote_any _ q t z2 yes _ hRc_2 (by omega) (by omega)).mono ?_
    unfold CoTo2
    rw [HR.out]
    rintro e w3 ⟨csO, rfl, hSO, hbO⟩
    clear ybc_4_0 ybc_4_1
    have hRc_5 := repCo.next hRc_2 hbO
    have bc_6 := bc_4.next hbO
    have bt_7 := below_ext bt_3 hbO
    obtain ⟨ybc_6_0, ybc_6_1⟩ := bc_6.cells2
    clear hRc_2 bc_4 bt_3 hbO
    have hRo0 := repCo.down (sepCo.reads hSO) (Nat.zero_le _)
    obtain ⟨A3, n3, c3, C3, m3, d3, rfl, hn3, hm3, hcap3, hmax3⟩ := sepCo_two hSO
    have hRo_8 := hRo0
    clear hSO hRo0
    clear ybc_6_0 ybc_6_1
    have ebbo := below_box w3 (.cells #[.slice A3 n3 c3, .slice C3 m3 d3] 29)
    have hRc_9 := repCo.next hRc_5 ebbo
    have bc_10 := bc_6.next ebbo
    have hRo_11 := repCo.next hRo_8 ebbo
    have bt_12 := below_ext bt_7 ebbo
    have bo_13 := Blk.new w3 29 [.slice A3 n3 c3, .slice C3 m3 d3]
    obtain ⟨ybc_10_0, ybc_10_1⟩ := bc_10.cells2
    obtain ⟨ybo_13_0, ybo_13_1⟩ := bo_13.cells2
    clear hRc_5 bc_6 hRo_8 bt_7 ebbo
    go_wp2_with fail
    generalize hWW : w3.alloc (.cells #[.slice A3 n3 c3, .slice C3 m3 d3] 29) = w4 at *
    clear hWW
    generalize w3.heap.size = gbo at *
    refine (specVote_any _ q t z2 yes _ hRc_9).mono ?_
    unfold CoTo2
    rw [HR.out]
    rintro e w5 ⟨csW, rfl, hSW, hbW⟩
    clear ybc_10_0 ybc_10_1 ybo_13_0 ybo_13_1
    have hRc_14 := repCo.next hRc_9 hbW
    have bc_15 := bc_10.next hbW
    have hRo_16 := repCo.next hRo_11 hbW
    have bo_17 := bo_13.next hbW
    have bt_18 := below_ext bt_12 hbW
    obtain ⟨ybc_15_0, ybc_15_1⟩ := bc_15.cells2
    obtain ⟨ybo_17_0, ybo_17_1⟩ := bo_17.cells2
    clear hRc_9 bc_10 hRo_11 bo_13 bt_12 hbW
    have hRw0 := repCo.down (sepCo.reads hSW) (Nat.zero_le _)
    obtain ⟨A4, n4, c4, C4, m4, d4, rfl, hn4, hm4⟩ := repCo_two hRw0
    have hRw_19 := hRw0
    clear hSW hRw0
    clear ybc_15_0 ybc_15_1 ybo_17_0 ybo_17_1
    have ebbw := below_box w5 (.cells #[.slice A4 n4 c4, .slice C4 m4 d4] 29)
    have hRc_20 := repCo.next hRc_14 ebbw
    have bc_21 := bc_15.next ebbw
    have hRo_22 := repCo.next hRo_16 ebbw
    have bo_23 := bo_17.next ebbw
    have hRw_24 := repCo.next hRw_19 ebbw
    have bt_25 := below_ext bt_18 ebbw
    have bw_26 := Blk.new w5 29 [.slice A4 n4 c4, .slice C4 m4 d4]
    obtain ⟨ybc_21_0, ybc_21_1⟩ := bc_21.cells2
    obtain ⟨ybo_23_0, ybo_23_1⟩ := bo_23.cells2
    obtain ⟨ybw_26_0, ybw_26_1⟩ := bw_26.cells2
    clear hRc_14 bc_15 hRo_16 bo_17 hRw_19 bt_18 ebbw
    have hbne : (bo != bo) = false := by simp
    have hbeq : (bo == bo) = true := by simp
    go_wp2_with fail
    generalize hWW : w5.alloc (.cells #[.slice A4 n4 c4, .slice C4 m4 d4] 29) = w6 at *
    clear hWW
    generalize w5.heap.size = gbw at *
    refine (sameCoordinator_any _ _ _ _ _ hRo_22 hRw_24).mono ?_
    rw [eqCo_refl]
    rintro e w7 ⟨rfl, hbS⟩
    clear ybc_21_0 ybc_21_1 ybo_23_0 ybo_23_1 ybw_26_0 ybw_26_1
    have hRc_27 := repCo.next hRc_20 hbS
    have bc_28 := bc_21.next hbS
    have hRo_29 := repCo.next hRo_22 hbS
    have bo_30 := bo_23.next hbS
    have hRw_31 := repCo.next hRw_24 hbS
    have bw_32 := bw_26.next hbS
    have bt_33 := below_ext bt_25 hbS
    obtain ⟨ybc_28_0, ybc_28_1⟩ := bc_28.cells2
    obtain ⟨ybo_30_0, ybo_30_1⟩ := bo_30.cells2
    obtain ⟨ybw_32_0, ybw_32_1⟩ := bw_32.cells2
    clear hRc_20 bc_21 hRo_22 bo_23 hRw_24 bw_26 bt_25 hbS
    have hsz := vote_tiny HR.out htn1 htn2
    have hqo1 : qo.ts.length ≤ 100000000 := by omega
    have hqo2 : qo.ord.length ≤ 100000000 := by omega
    cases bo
    · skip
      go_wp2_with fail
      refine (sameCoordinator_any _ _ _ _ _ hRo_29 hRw_31).mono ?_
      rw [eqCo_refl]
      rintro e w8 ⟨rfl, hbS⟩
      clear ybc_28_0 ybc_28_1 ybo_30_0 ybo_30_1 ybw_32_0 ybw_32_1
      have hRc_34 := repCo.next hRc_27 hbS
      have bc_35 := bc_28.next hbS
      have hRo_36 := repCo.next hRo_29 hbS
      have bo_37 := bo_30.next hbS
      have hRw_38 := repCo.next hRw_31 hbS
      have bw_39 := bw_32.next hbS
      have bt_40 := below_ext bt_33 hbS
      obtain ⟨ybc_35_0, ybc_35_1⟩ := bc_35.cells2
      obtain ⟨ybo_37_0, ybo_37_1⟩ := bo_37.cells2
      obtain ⟨ybw_39_0, ybw_39_1⟩ := bw_39.cells2
      clear hRc_27 bc_28 hRo_29 bo_30 hRw_31 bw_32 bt_33 hbS
      go_wp2_with fail
      go_ret
      exact ⟨rfl, bt_40⟩
    · skip
      obtain ⟨hv, tn, k, x, rfl, hx, hd, hs0, hvk, hqo⟩ := vote_done HR.out
      have HA1 := Lib.hid (vote_again (y := yes) (z := yes) hv hx hd hs0 hvk)
      have HA2 := Lib.hid (vote_again (y := yes) (z := !yes) hv hx hd hs0 hvk)
      rw [← hqo] at HA1 HA2
      clear hqo hx hd hs0 hvk
      go_wp2_with fail
      refine (implVote_any _ qo (tn : Int) z2 yes _ hRo_29 hqo2 hqo1).mono ?_
      unfold CoTo2
      rw [HA1.out]
      rintro e w8 ⟨csX, rfl, hSX, hbX⟩
      clear ybc_28_0 ybc_28_1 ybo_30_0 ybo_30_1 ybw_32_0 ybw_32_1
      simp only at hSX
      have hRc_34 := repCo.next hRc_27 hbX
      have bc_35 := bc_28.next hbX
      have hRo_36 := repCo.next hRo_29 hbX
      have bo_37 := bo_30.next hbX
      have hRw_38 := repCo.next hRw_31 hbX
      have bw_39 := bw_32.next hbX
      have bt_40 := below_ext bt_33 hbX
      obtain ⟨ybc_35_0, ybc_35_1⟩ := bc_35.cells2
      obtain ⟨ybo_37_0, ybo_37_1⟩ := bo_37.cells2
      obtain ⟨ybw_39_0, ybw_39_1⟩ := bw_39.cells2
      clear hRc_27 bc_28 hRo_29 bo_30 hRw_31 bw_32 bt_33 hbX
      have hRX0 := repCo.down (sepCo.reads hSX) (Nat.zero_le _)
      obtain ⟨A5, n5, c5, C5, m5, d5, rfl, hn5, hm5⟩ := repCo_two hRX0
      have hRX_41 := hRX0
      clear hSX hRX0
      clear ybc_35_0 ybc_35_1 ybo_37_0 ybo_37_1 ybw_39_0 ybw_39_1
      have ebbx := below_box w8 (.cells #[.slice A5 n5 c5, .slice C5 m5 d5] 29)
      have hRc_42 := repCo.next hRc_34 ebbx
      have bc_43 := bc_35.next ebbx
      have hRo_44 := repCo.next hRo_36 ebbx
      have bo_45 := bo_37.next ebbx
      have hRw_46 := repCo.next hRw_38 ebbx
      have bw_47 := bw_39.next ebbx
      have hRX_48 := repCo.next hRX_41 ebbx
      have bt_49 := below_ext bt_40 ebbx
      have bx_50 := Blk.new w8 29 [.slice A5 n5 c5, .slice C5 m5 d5]
      obtain ⟨ybc_43_0, ybc_43_1⟩ := bc_43.cells2
      obtain ⟨ybo_45_0, ybo_45_1⟩ := bo_45.cells2
      obtain ⟨ybw_47_0, ybw_47_1⟩ := bw_47.cells2
      obtain ⟨ybx_50_0, ybx_50_1⟩ := bx_50.cells2
      clear hRc_34 bc_35 hRo_36 bo_37 hRw_38 bw_39 hRX_41 bt_40 ebbx
      go_wp2_with fail
      generalize hWW : w8.alloc (.cells #[.slice A5 n5 c5, .slice C5 m5 d5] 29) = w9 at *
      clear hWW
      generalize w8.heap.size = gbx at *
      refine (implVote_any _ qo (tn : Int) z2 (!yes) _ hRo_44 hqo2 hqo1).mono ?_
      unfold CoTo2
      rw [HA2.out]
      rintro e w10 ⟨csY, rfl, hSY, hbY⟩
      clear ybc_43_0 ybc_43_1 ybo_45_0 ybo_45_1 ybw_47_0 ybw_47_1 ybx_50_0 ybx_50_1
      simp only at hSY
      have hRc_51 := repCo.next hRc_42 hbY
      have bc_52 := bc_43.next hbY
      have hRo_53 := repCo.next hRo_44 hbY
      have bo_54 := bo_45.next hbY
      have hRw_55 := repCo.next hRw_46 hbY
      have bw_56 := bw_47.next hbY
      have hRX_57 := repCo.next hRX_48 hbY
      have bx_58 := bx_50.next hbY
      have bt_59 := below_ext bt_49 hbY
      obtain ⟨ybc_52_0, ybc_52_1⟩ := bc_52.cells2
      obtain ⟨ybo_54_0, ybo_54_1⟩ := bo_54.cells2
      obtain ⟨ybw_56_0, ybw_56_1⟩ := bw_56.cells2
      obtain ⟨ybx_58_0, ybx_58_1⟩ := bx_58.cells2
      clear hRc_42 bc_43 hRo_44 bo_45 hRw_46 bw_47 hRX_48 bx_50 bt_49 hbY
      have hRY0 := repCo.down (sepCo.reads hSY) (Nat.zero_le _)
      obtain ⟨A6, n6, c6, C6, m6, d6, rfl, hn6, hm6⟩ := repCo_two hRY0
      have hRY_60 := hRY0
      clear hSY hRY0
      clear ybc_52_0 ybc_52_1 ybo_54_0 ybo_54_1 ybw_56_0 ybw_56_1 ybx_58_0 ybx_58_1
      have ebby := below_box w10 (.cells #[.slice A6 n6 c6, .slice C6 m6 d6] 29)
      have hRc_61 := repCo.next hRc_51 ebby
      have bc_62 := bc_52.next ebby
      have hRo_63 := repCo.next hRo_53 ebby
      have bo_64 := bo_54.next ebby
      have hRw_65 := repCo.next hRw_55 ebby
      have bw_66 := bw_56.next ebby
      have hRX_67 := repCo.next hRX_57 ebby
      have bx_68 := bx_58.next ebby
      have hRY_69 := repCo.next hRY_60 ebby
      have bt_70 := below_ext bt_59 ebby
      have by_71 := Blk.new w10 29 [.slice A6 n6 c6, .slice C6 m6 d6]
      obtain ⟨ybc_62_0, ybc_62_1⟩ := bc_62.cells2
      obtain ⟨ybo_64_0, ybo_64_1⟩ := bo_64.cells2
      obtain ⟨ybw_66_0, ybw_66_1⟩ := bw_66.cells2
      obtain ⟨ybx_68_0, ybx_68_1⟩ := bx_68.cells2
      obtain ⟨yby_71_0, yby_71_1⟩ := by_71.cells2
      clear hRc_51 bc_52 hRo_53 bo_54 hRw_55 bw_56 hRX_57 bx_58 hRY_60 bt_59 ebby
      go_wp2_with fail
      generalize hWW : w10.alloc (.cells #[.slice A6 n6 c6, .slice C6 m6 d6] 29) = w11 at *
      clear hWW
      generalize w10.heap.size = gby at *
      refine (sameCoordinator_any _ _ _ _ _ hRX_67 hRo_63).mono ?_
      rw [eqCo_refl]
      rintro e w12 ⟨rfl, hbS⟩
      clear ybc_62_0 ybc_62_1 ybo_64_0 ybo_64_1 ybw_66_0 ybw_66_1 ybx_68_0 ybx_68_1 yby_71_0 yby_71_1
      have hRc_72 := repCo.next hRc_61 hbS
      have bc_73 := bc_62.next hbS
      have hRo_74 := repCo.next hRo_63 hbS
      have bo_75 := bo_64.next hbS
      have hRw_76 := repCo.next hRw_65 hbS
      have bw_77 := bw_66.next hbS
      have hRX_78 := repCo.next hRX_67 hbS
      have bx_79 := bx_68.next hbS
      have hRY_80 := repCo.next hRY_69 hbS
      have by_81 := by_71.next hbS
      have bt_82 := below_ext bt_70 hbS
      obtain ⟨ybc_73_0, ybc_73_1⟩ := bc_73.cells2
      obtain ⟨ybo_75_0, ybo_75_1⟩ := bo_75.cells2
      obtain ⟨ybw_77_0, ybw_77_1⟩ := bw_77.cells2
      obtain ⟨ybx_79_0, ybx_79_1⟩ := bx_79.cells2
      obtain ⟨yby_81_0, yby_81_1⟩ := by_81.cells2
      clear hRc_61 bc_62 hRo_63 bo_64 hRw_65 bw_66 hRX_67 bx_68 hRY_69 by_71 bt_70 hbS
      go_wp2_with fail
      refine (sameCoordinator_any _ _ _ _ _ hRY_80 hRo_74).mono ?_
      rw [eqCo_refl]
      rintro e w13 ⟨rfl, hbS⟩
      clear ybc_73_0 ybc_73_1 ybo_75_0 ybo_75_1 ybw_77_0 ybw_77_1 ybx_79_0 ybx_79_1 yby_81_0 yby_81_1
      have hRc_83 := repCo.next hRc_72 hbS
      have bc_84 := bc_73.next hbS
      have hRo_85 := repCo.next hRo_74 hbS
      have bo_86 := bo_75.next hbS
      have hRw_87 := repCo.next hRw_76 hbS
      have bw_88 := bw_77.next hbS
      have hRX_89 := repCo.next hRX_78 hbS
      have bx_90 := bx_79.next hbS
      have hRY_91 := repCo.next hRY_80 hbS
      have by_92 := by_81.next hbS
      have bt_93 := below_ext bt_82 hbS
      obtain ⟨ybc_84_0, ybc_84_1⟩ := bc_84.cells2
      obtain ⟨ybo_86_0, ybo_86_1⟩ := bo_86.cells2
      obtain ⟨ybw_88_0, ybw_88_1⟩ := bw_88.cells2
      obtain ⟨ybx_90_0, ybx_90_1⟩ := bx_90.cells2
      obtain ⟨yby_92_0, yby_92_1⟩ := by_92.cells2
      clear hRc_72 bc_73 hRo_74 bo_75 hRw_76 bw_77 hRX_78 bx_79 hRY_80 by_81 bt_82 hbS
      go_wp2_with fail
      go_ret
      exact ⟨rfl, bt_93⟩
end Go.Proofs.Ytbgjidamhheekaa
