/- The law FnVoteOrder, walked: for every code it answers true. -/
import Derived.Test.YtbgjidamhheekaaCoLaw
import Derived.Test.YtbgjidamhheekaaDrawVote
import Derived.Test.YtbgjidamhheekaaVotePlain
import Derived.Test.YtbgjidamhheekaaVoteLaw
import Derived.Test.YtbgjidamhheekaaVoteI
import Derived.Test.YtbgjidamhheekaaVote2S
import Derived.Test.YtbgjidamhheekaaSameC
namespace Go.Proofs.Ytbgjidamhheekaa
open Go.RowKit Go.Sort

set_option maxRecDepth 100000 in
set_option maxHeartbeats 3200000 in
theorem FnVoteOrder_walk (A : Option Addr) (n c : Nat) (Am : Option Addr) (nm cm : Nat) (w : World) (h : RBytes w w.heap.size A n ∧ n ≤ c) (hn : n ≤ maxLen) (_h2 : RBytes w w.heap.size Am nm ∧ nm ≤ cm) (hnm : nm ≤ maxLen) :
    Calls Try.prog 5 #[.slice A n c, .slice Am nm cm] w fun e w' => e = .returned (.bool true) ∧ Below w.heap.size w w' := by
  have hn0 := hn
  unfold maxLen at hn0
  have hnm0 := hnm
  unfold maxLen at hnm0
  by_cases hs : 1048576 < n
  · go_enter Try.func5, Try.ntmps5
    go_wp2_with fail
    go_ret
    exact ⟨rfl, Below.refl _ _⟩
  · by_cases hs2 : 1048576 < nm
    · go_enter Try.func5, Try.ntmps5
      go_wp2_with fail
      go_ret
      exact ⟨rfl, Below.refl _ _⟩
    · go_enter Try.func5, Try.ntmps5
      go_wp2_with fail
      refine (DrawCoordinatorVote_any A n c w h.1 hn h.2).mono ?_
      rintro e w1 ⟨cs, q, t, z2, yes, rfl, hQ, hb1⟩
      obtain ⟨A2, n2, c2, C2, m2, d2, rfl⟩ := hQ.two
      have htn := hQ.tiny
      have htn1 := htn.1
      have htn2 := htn.2.1
      have hRc_1 := hQ.rep0
      obtain ⟨_, _, _, _, _, _, e9, hl2, hl2m⟩ := repCo_two hQ.rep0
      obtain ⟨⟨rfl, rfl, rfl⟩, rfl, rfl, rfl⟩ : (_ ∧ _ ∧ _) ∧ _ ∧ _ ∧ _ := by simpa using e9
      clear e9 hQ
      have ebbc := below_box w1 (.cells #[.slice A2 n2 c2, .slice C2 m2 d2] 29)
      have hRc_2 := repCo.next hRc_1 ebbc
      have bt_3 := below_ext hb1 ebbc
      have bc_4 := Blk.new w1 29 [.slice A2 n2 c2, .slice C2 m2 d2]
      obtain ⟨ybc_4_0, ybc_4_1⟩ := bc_4.cells2
      clear hRc_1 ebbc
      obtain ⟨qo, bo, HR⟩ : ∃ qo bo, Hid (voteQ q t z2 yes = (qo, bo)) := ⟨_, _, Lib.hid rfl⟩
      go_wp2_with fail
      generalize hWW : w1.alloc (.cells #[.slice A2 n2 c2, .slice C2 m2 d2] 29) = w2 at *
      clear hWW
      generalize w1.heap.size = gbc at *
      refine (implVote_any _ q t z2 yes _ hRc_2 (by omega) (by omega)).mono ?_
      unfold CoTo2
      rw [HR.out]
      rintro e w3 ⟨csO, rfl, hSO, hbO⟩
      clear ybc_4_0 ybc_4_1
      have hRc_5 := repCo.next hRc_2 hbO
      have bc_6 := bc_4.next hbO
      have bt_7 := below_ext bt_3 hbO
      obtain ⟨ybc_6_0, ybc_6_1⟩ := bc_6.cells2
      clear hRc_2 bc_4 bt_3 hbO
      have hRo0 := repCo.down (sepCo.reads hSO) (Nat.zero_le _)
      obtain ⟨A3, n3, c3, C3, m3, d3, rfl, hn3, hm3, hcap3, hmax3⟩ := sepCo_two hSO
      have hRo_8 := hRo0
      clear hSO hRo0
      clear ybc_6_0 ybc_6_1
      have ebbo := below_box w3 (.cells #[.slice A3 n3 c3, .slice C3 m3 d3] 29)
      have hRc_9 := repCo.next hRc_5 ebbo
      have bc_10 := bc_6.next ebbo
      have hRo_11 := repCo.next hRo_8 ebbo
      have bt_12 := below_ext bt_7 ebbo
      have bo_13 := Blk.new w3 29 [.slice A3 n3 c3, .slice C3 m3 d3]
      obtain ⟨ybc_10_0, ybc_10_1⟩ := bc_10.cells2
      obtain ⟨ybo_13_0, ybo_13_1⟩ := bo_13.cells2
      clear hRc_5 bc_6 hRo_8 bt_7 ebbo
      go_wp2_with fail
      generalize hWW : w3.alloc (.cells #[.slice A3 n3 c3, .slice C3 m3 d3] 29) = w4 at *
      clear hWW
      generalize w3.heap.size = gbo at *
      refine (specVote_any _ q t z2 yes _ hRc_9).mono ?_
      unfold CoTo2
      rw [HR.out]
      rintro e w5 ⟨csW, rfl, hSW, hbW⟩
      clear ybc_10_0 ybc_10_1 ybo_13_0 ybo_13_1
      have hRc_14 := repCo.next hRc_9 hbW
      have bc_15 := bc_10.next hbW
      have hRo_16 := repCo.next hRo_11 hbW
      have bo_17 := bo_13.next hbW
      have bt_18 := below_ext bt_12 hbW
      obtain ⟨ybc_15_0, ybc_15_1⟩ := bc_15.cells2
      obtain ⟨ybo_17_0, ybo_17_1⟩ := bo_17.cells2
      clear hRc_9 bc_10 hRo_11 bo_13 bt_12 hbW
      have hRw0 := repCo.down (sepCo.reads hSW) (Nat.zero_le _)
      obtain ⟨A4, n4, c4, C4, m4, d4, rfl, hn4, hm4⟩ := repCo_two hRw0
      have hRw_19 := hRw0
      clear hSW hRw0
      clear ybc_15_0 ybc_15_1 ybo_17_0 ybo_17_1
      have ebbw := below_box w5 (.cells #[.slice A4 n4 c4, .slice C4 m4 d4] 29)
      have hRc_20 := repCo.next hRc_14 ebbw
      have bc_21 := bc_15.next ebbw
      have hRo_22 := repCo.next hRo_16 ebbw
      have bo_23 := bo_17.next ebbw
      have hRw_24 := repCo.next hRw_19 ebbw
      have bt_25 := below_ext bt_18 ebbw
      have bw_26 := Blk.new w5 29 [.slice A4 n4 c4, .slice C4 m4 d4]
      obtain ⟨ybc_21_0, ybc_21_1⟩ := bc_21.cells2
      obtain ⟨ybo_23_0, ybo_23_1⟩ := bo_23.cells2
      obtain ⟨ybw_26_0, ybw_26_1⟩ := bw_26.cells2
      clear hRc_14 bc_15 hRo_16 bo_17 hRw_19 bt_18 ebbw
      have hbne : (bo != bo) = false := by simp
      have hbeq : (bo == bo) = true := by simp
      go_wp2_with fail
      generalize hWW : w5.alloc (.cells #[.slice A4 n4 c4, .slice C4 m4 d4] 29) = w6 at *
      clear hWW
      generalize w5.heap.size = gbw at *
      refine (sameCoordinator_any _ _ _ _ _ hRo_22 hRw_24).mono ?_
      rw [eqCo_refl]
      rintro e w7 ⟨rfl, hbS⟩
      clear ybc_21_0 ybc_21_1 ybo_23_0 ybo_23_1 ybw_26_0 ybw_26_1
      have hRc_27 := repCo.next hRc_20 hbS
      have bc_28 := bc_21.next hbS
      have hRo_29 := repCo.next hRo_22 hbS
      have bo_30 := bo_23.next hbS
      have hRw_31 := repCo.next hRw_24 hbS
      have bw_32 := bw_26.next hbS
      have bt_33 := below_ext bt_25 hbS
      obtain ⟨ybc_28_0, ybc_28_1⟩ := bc_28.cells2
      obtain ⟨ybo_30_0, ybo_30_1⟩ := bo_30.cells2
      obtain ⟨ybw_32_0, ybw_32_1⟩ := bw_32.cells2
      clear hRc_20 bc_21 hRo_22 bo_23 hRw_24 bw_26 bt_25 hbS
      have hsz := vote_tiny HR.out htn1 htn2
      have hqo1 : qo.ts.length ≤ 100000000 := by omega
      have hqo2 : qo.ord.length ≤ 100000000 := by omega
      cases bo
      · skip
        go_wp2_with fail
        refine (sameCoordinator_any _ _ _ _ _ hRo_29 hRw_31).mono ?_
        rw [eqCo_refl]
        rintro e w8 ⟨rfl, hbS⟩
        clear ybc_28_0 ybc_28_1 ybo_30_0 ybo_30_1 ybw_32_0 ybw_32_1
        have hRc_34 := repCo.next hRc_27 hbS
        have bc_35 := bc_28.next hbS
        have hRo_36 := repCo.next hRo_29 hbS
        have bo_37 := bo_30.next hbS
        have hRw_38 := repCo.next hRw_31 hbS
        have bw_39 := bw_32.next hbS
        have bt_40 := below_ext bt_33 hbS
        obtain ⟨ybc_35_0, ybc_35_1⟩ := bc_35.cells2
        obtain ⟨ybo_37_0, ybo_37_1⟩ := bo_37.cells2
        obtain ⟨ybw_39_0, ybw_39_1⟩ := bw_39.cells2
        clear hRc_27 bc_28 hRo_29 bo_30 hRw_31 bw_32 bt_33 hbS
        go_wp2_with fail
        go_ret
        exact ⟨rfl, bt_40⟩
      · cases yes
        · skip
          go_wp2_with fail
          refine (sameCoordinator_any _ _ _ _ _ hRo_29 hRw_31).mono ?_
          rw [eqCo_refl]
          rintro e w8 ⟨rfl, hbS⟩
          clear ybc_28_0 ybc_28_1 ybo_30_0 ybo_30_1 ybw_32_0 ybw_32_1
          have hRc_34 := repCo.next hRc_27 hbS
          have bc_35 := bc_28.next hbS
          have hRo_36 := repCo.next hRo_29 hbS
          have bo_37 := bo_30.next hbS
          have hRw_38 := repCo.next hRw_31 hbS
          have bw_39 := bw_32.next hbS
          have bt_40 := below_ext bt_33 hbS
          obtain ⟨ybc_35_0, ybc_35_1⟩ := bc_35.cells2
          obtain ⟨ybo_37_0, ybo_37_1⟩ := bo_37.cells2
          obtain ⟨ybw_39_0, ybw_39_1⟩ := bw_39.cells2
          clear hRc_27 bc_28 hRo_29 bo_30 hRw_31 bw_32 bt_33 hbS
          go_wp2_with fail
          go_ret
          exact ⟨rfl, bt_40⟩
        · skip
          obtain ⟨o, HO⟩ : ∃ o : Int, Hid ((nm : Int).tmod 3 = o) := ⟨_, Lib.hid rfl⟩
          have hmod : IntKind.i64.wrap ((nm : Int).tmod 3) = o := by have := HO.out; rw [IntKind.wrap_i64]; rw [Int.tmod_eq_emod_of_nonneg (by omega)] at *; omega
          obtain ⟨qa, ba, HA⟩ : ∃ qa ba, Hid (voteQ qo t o true = (qa, ba)) := ⟨_, _, Lib.hid rfl⟩
          obtain ⟨qb, bb, HB⟩ : ∃ qb bb, Hid (voteQ q t o true = (qb, bb)) := ⟨_, _, Lib.hid rfl⟩
          have hsb := vote_tiny HB.out htn1 htn2
          have hqb1 : qb.ts.length ≤ 100000000 := by omega
          have hqb2 : qb.ord.length ≤ 100000000 := by omega
          have hrm := HO.out
          rw [Int.tmod_eq_emod_of_nonneg (by omega)] at hrm
          have hrm2 : (nm : Int) % 3 = o := hrm
          go_wp2_with fail
          refine (implVote_any _ qo t o true _ hRo_29 hqo2 hqo1).mono ?_
          unfold CoTo2
          rw [HA.out]
          rintro e w8 ⟨csA, rfl, hSA, hbA⟩
          clear ybc_28_0 ybc_28_1 ybo_30_0 ybo_30_1 ybw_32_0 ybw_32_1
          simp only at hSA
          have hRc_34 := repCo.next hRc_27 hbA
          have bc_35 := bc_28.next hbA
          have hRo_36 := repCo.next hRo_29 hbA
          have bo_37 := bo_30.next hbA
          have hRw_38 := repCo.next hRw_31 hbA
          have bw_39 := bw_32.next hbA
          have bt_40 := below_ext bt_33 hbA
          obtain ⟨ybc_35_0, ybc_35_1⟩ := bc_35.cells2
          obtain ⟨ybo_37_0, ybo_37_1⟩ := bo_37.cells2
          obtain ⟨ybw_39_0, ybw_39_1⟩ := bw_39.cells2
          clear hRc_27 bc_28 hRo_29 bo_30 hRw_31 bw_32 bt_33 hbA
          have hRA0 := repCo.down (sepCo.reads hSA) (Nat.zero_le _)
          obtain ⟨A5, n5, c5, C5, m5, d5, rfl, hn5, hm5⟩ := repCo_two hRA0
          have hRA_41 := hRA0
          clear hSA hRA0
          clear ybc_35_0 ybc_35_1 ybo_37_0 ybo_37_1 ybw_39_0 ybw_39_1
          have ebbx := below_box w8 (.cells #[.slice A5 n5 c5, .slice C5 m5 d5] 29)
          have hRc_42 := repCo.next hRc_34 ebbx
          have bc_43 := bc_35.next ebbx
          have hRo_44 := repCo.next hRo_36 ebbx
          have bo_45 := bo_37.next ebbx
          have hRw_46 := repCo.next hRw_38 ebbx
          have bw_47 := bw_39.next ebbx
          have hRA_48 := repCo.next hRA_41 ebbx
          have bt_49 := below_ext bt_40 ebbx
          have bx_50 := Blk.new w8 29 [.slice A5 n5 c5, .slice C5 m5 d5]
          obtain ⟨ybc_43_0, ybc_43_1⟩ := bc_43.cells2
          obtain ⟨ybo_45_0, ybo_45_1⟩ := bo_45.cells2
          obtain ⟨ybw_47_0, ybw_47_1⟩ := bw_47.cells2
          obtain ⟨ybx_50_0, ybx_50_1⟩ := bx_50.cells2
          clear hRc_34 bc_35 hRo_36 bo_37 hRw_38 bw_39 hRA_41 bt_40 ebbx
          go_wp2_with fail
          generalize hWW : w8.alloc (.cells #[.slice A5 n5 c5, .slice C5 m5 d5] 29) = w9 at *
          clear hWW
          generalize w8.heap.size = gbx at *
          refine (implVote_any _ q t o true _ hRc_42 (by omega) (by omega)).mono ?_
          unfold CoTo2
          rw [HB.out]
          rintro e w10 ⟨csB, rfl, hSB, hbB⟩
          clear ybc_43_0 ybc_43_1 ybo_45_0 ybo_45_1 ybw_47_0 ybw_47_1 ybx_50_0 ybx_50_1
          simp only at hSB
          have hRc_51 := repCo.next hRc_42 hbB
          have bc_52 := bc_43.next hbB
          have hRo_53 := repCo.next hRo_44 hbB
          have bo_54 := bo_45.next hbB
          have hRw_55 := repCo.next hRw_46 hbB
          have bw_56 := bw_47.next hbB
          have hRA_57 := repCo.next hRA_48 hbB
          have bx_58 := bx_50.next hbB
          have bt_59 := below_ext bt_49 hbB
          obtain ⟨ybc_52_0, ybc_52_1⟩ := bc_52.cells2
          obtain ⟨ybo_54_0, ybo_54_1⟩ := bo_54.cells2
          obtain ⟨ybw_56_0, ybw_56_1⟩ := bw_56.cells2
          obtain ⟨ybx_58_0, ybx_58_1⟩ := bx_58.cells2
          clear hRc_42 bc_43 hRo_44 bo_45 hRw_46 bw_47 hRA_48 bx_50 bt_49 hbB
          have hRB0 := repCo.down (sepCo.reads hSB) (Nat.zero_le _)
          obtain ⟨A6, n6, c6, C6, m6, d6, rfl, hn6, hm6⟩ := repCo_two hRB0
          have hRB_60 := hRB0
          clear hSB hRB0
          clear ybc_52_0 ybc_52_1 ybo_54_0 ybo_54_1 ybw_56_0 ybw_56_1 ybx_58_0 ybx_58_1
          have ebby := below_box w10 (.cells #[.slice A6 n6 c6, .slice C6 m6 d6] 29)
          have hRc_61 := repCo.next hRc_51 ebby
          have bc_62 := bc_52.next ebby
          have hRo_63 := repCo.next hRo_53 ebby
          have bo_64 := bo_54.next ebby
          have hRw_65 := repCo.next hRw_55 ebby
          have bw_66 := bw_56.next ebby
          have hRA_67 := repCo.next hRA_57 ebby
          have bx_68 := bx_58.next ebby
          have hRB_69 := repCo.next hRB_60 ebby
          have bt_70 := below_ext bt_59 ebby
          have by_71 := Blk.new w10 29 [.slice A6 n6 c6, .slice C6 m6 d6]
          obtain ⟨ybc_62_0, ybc_62_1⟩ := bc_62.cells2
          obtain ⟨ybo_64_0, ybo_64_1⟩ := bo_64.cells2
          obtain ⟨ybw_66_0, ybw_66_1⟩ := bw_66.cells2
          obtain ⟨ybx_68_0, ybx_68_1⟩ := bx_68.cells2
          obtain ⟨yby_71_0, yby_71_1⟩ := by_71.cells2
          clear hRc_51 bc_52 hRo_53 bo_54 hRw_55 bw_56 hRA_57 bx_58 hRB_60 bt_59 ebby
          cases ba
          · skip
            go_wp2_with fail
            generalize hWW : w10.alloc (.cells #[.slice A6 n6 c6, .slice C6 m6 d6] 29) = w11 at *
            clear hWW
            generalize w10.heap.size = gby at *
            go_ret
            exact ⟨rfl, bt_70⟩
          · cases bb
            · skip
              go_wp2_with fail
              generalize hWW : w10.alloc (.cells #[.slice A6 n6 c6, .slice C6 m6 d6] 29) = w11 at *
              clear hWW
              generalize w10.heap.size = gby at *
              go_ret
              exact ⟨rfl, bt_70⟩
            · have HC := Lib.hid (vote_swap HR.out HA.out HB.out)
              go_wp2_with fail
              generalize hWW : w10.alloc (.cells #[.slice A6 n6 c6, .slice C6 m6 d6] 29) = w11 at *
              clear hWW
              generalize w10.heap.size = gby at *
              refine (implVote_any _ qb t z2 true _ hRB_69 hqb2 hqb1).mono ?_
              unfold CoTo2
              rw [HC.out]
              rintro e w12 ⟨csC, rfl, hSC, hbC⟩
              clear ybc_62_0 ybc_62_1 ybo_64_0 ybo_64_1 ybw_66_0 ybw_66_1 ybx_68_0 ybx_68_1 yby_71_0 yby_71_1
              simp only at hSC
              have hRc_72 := repCo.next hRc_61 hbC
              have bc_73 := bc_62.next hbC
              have hRo_74 := repCo.next hRo_63 hbC
              have bo_75 := bo_64.next hbC
              have hRw_76 := repCo.next hRw_65 hbC
              have bw_77 := bw_66.next hbC
              have hRA_78 := repCo.next hRA_67 hbC
              have bx_79 := bx_68.next hbC
              have hRB_80 := repCo.next hRB_69 hbC
              have by_81 := by_71.next hbC
              have bt_82 := below_ext bt_70 hbC
              obtain ⟨ybc_73_0, ybc_73_1⟩ := bc_73.cells2
              obtain ⟨ybo_75_0, ybo_75_1⟩ := bo_75.cells2
              obtain ⟨ybw_77_0, ybw_77_1⟩ := bw_77.cells2
              obtain ⟨ybx_79_0, ybx_79_1⟩ := bx_79.cells2
              obtain ⟨yby_81_0, yby_81_1⟩ := by_81.cells2
              clear hRc_61 bc_62 hRo_63 bo_64 hRw_65 bw_66 hRA_67 bx_68 hRB_69 by_71 bt_70 hbC
              have hRC0 := repCo.down (sepCo.reads hSC) (Nat.zero_le _)
              obtain ⟨A7, n7, c7, C7, m7, d7, rfl, hn7, hm7⟩ := repCo_two hRC0
              have hRC_83 := hRC0
              clear hSC hRC0
              clear ybc_73_0 ybc_73_1 ybo_75_0 ybo_75_1 ybw_77_0 ybw_77_1 ybx_79_0 ybx_79_1 yby_81_0 yby_81_1
              have ebbz := below_box w12 (.cells #[.slice A7 n7 c7, .slice C7 m7 d7] 29)
              have hRc_84 := repCo.next hRc_72 ebbz
              have bc_85 := bc_73.next ebbz
              have hRo_86 := repCo.next hRo_74 ebbz
              have bo_87 := bo_75.next ebbz
              have hRw_88 := repCo.next hRw_76 ebbz
              have bw_89 := bw_77.next ebbz
              have hRA_90 := repCo.next hRA_78 ebbz
              have bx_91 := bx_79.next ebbz
              have hRB_92 := repCo.next hRB_80 ebbz
              have by_93 := by_81.next ebbz
              have hRC_94 := repCo.next hRC_83 ebbz
              have bt_95 := below_ext bt_82 ebbz
              have bz_96 := Blk.new w12 29 [.slice A7 n7 c7, .slice C7 m7 d7]
              obtain ⟨ybc_85_0, ybc_85_1⟩ := bc_85.cells2
              obtain ⟨ybo_87_0, ybo_87_1⟩ := bo_87.cells2
              obtain ⟨ybw_89_0, ybw_89_1⟩ := bw_89.cells2
              obtain ⟨ybx_91_0, ybx_91_1⟩ := bx_91.cells2
              obtain ⟨yby_93_0, yby_93_1⟩ := by_93.cells2
              obtain ⟨ybz_96_0, ybz_96_1⟩ := bz_96.cells2
              clear hRc_72 bc_73 hRo_74 bo_75 hRw_76 bw_77 hRA_78 bx_79 hRB_80 by_81 hRC_83 bt_82 ebbz
              go_wp2_with fail
              generalize hWW : w12.alloc (.cells #[.slice A7 n7 c7, .slice C7 m7 d7] 29) = w13 at *
              clear hWW
              generalize w12.heap.size = gbz at *
              refine (sameCoordinator_any _ _ _ _ _ hRC_94 hRA_90).mono ?_
              rw [eqCo_refl]
              rintro e w14 ⟨rfl, hbS⟩
              clear ybc_85_0 ybc_85_1 ybo_87_0 ybo_87_1 ybw_89_0 ybw_89_1 ybx_91_0 ybx_91_1 yby_93_0 yby_93_1 ybz_96_0 ybz_96_1
              have hRc_97 := repCo.next hRc_84 hbS
              have bc_98 := bc_85.next hbS
              have hRo_99 := repCo.next hRo_86 hbS
              have bo_100 := bo_87.next hbS
              have hRw_101 := repCo.next hRw_88 hbS
              have bw_102 := bw_89.next hbS
              have hRA_103 := repCo.next hRA_90 hbS
              have bx_104 := bx_91.next hbS
              have hRB_105 := repCo.next hRB_92 hbS
              have by_106 := by_93.next hbS
              have hRC_107 := repCo.next hRC_94 hbS
              have bz_108 := bz_96.next hbS
              have bt_109 := below_ext bt_95 hbS
              obtain ⟨ybc_98_0, ybc_98_1⟩ := bc_98.cells2
              obtain ⟨ybo_100_0, ybo_100_1⟩ := bo_100.cells2
              obtain ⟨ybw_102_0, ybw_102_1⟩ := bw_102.cells2
              obtain ⟨ybx_104_0, ybx_104_1⟩ := bx_104.cells2
              obtain ⟨yby_106_0, yby_106_1⟩ := by_106.cells2
              obtain ⟨ybz_108_0, ybz_108_1⟩ := bz_108.cells2
              clear hRc_84 bc_85 hRo_86 bo_87 hRw_88 bw_89 hRA_90 bx_91 hRB_92 by_93 hRC_94 bz_96 bt_95 hbS
              go_wp2_with fail
              go_ret
              exact ⟨rfl, bt_109⟩
end Go.Proofs.Ytbgjidamhheekaa
