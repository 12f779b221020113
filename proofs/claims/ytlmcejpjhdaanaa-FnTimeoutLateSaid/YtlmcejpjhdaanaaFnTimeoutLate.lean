/- The law FnTimeoutLate, walked: for every code it answers true. -/
import Derived.Test.YtlmcejpjhdaanaaCoLaw
import Derived.Test.YtlmcejpjhdaanaaVotePlain
import Derived.Test.YtlmcejpjhdaanaaTimeI
import Derived.Test.YtlmcejpjhdaanaaTimeS
import Derived.Test.YtlmcejpjhdaanaaSameC
namespace Go.Proofs.Ytlmcejpjhdaanaa
open Go.RowKit Go.Sort

set_option maxRecDepth 100000 in
set_option maxHeartbeats 3200000 in
theorem FnTimeoutLate_walk (A : Option Addr) (n c : Nat) (w : World) (h : RBytes w w.heap.size A n ∧ n ≤ c) (hn : n ≤ maxLen) :
    Calls Try.prog 3 #[.slice A n c] w fun e w' => e = .returned (.bool true) ∧ Below w.heap.size w w' := by
  have hn0 := hn
  unfold maxLen at hn0
  by_cases hs : 1048576 < n
  · go_enter Try.func3, Try.ntmps3
    go_wp2_with fail
    go_ret
    exact ⟨rfl, Below.refl _ _⟩
  · go_enter Try.func3, Try.ntmps3
    go_wp2_with fail
    refine (DrawCoordinatorTimeout_any A n c w h.1 hn h.2).mono ?_
    rintro e w1 ⟨cs, q, t, rfl, ht0, ht1, hQ, hb1⟩
    obtain ⟨A2, n2, c2, C2, m2, d2, rfl⟩ := hQ.two
    have htn := hQ.tiny
    have htn1 := htn.1
    have htn2 := htn.2.1
    have hRc_1 := hQ.rep0
    obtain ⟨_, _, _, _, _, _, e9, hl2, hl2m⟩ := repCo_two hQ.rep0
    obtain ⟨⟨rfl, rfl, rfl⟩, rfl, rfl, rfl⟩ : (_ ∧ _ ∧ _) ∧ _ ∧ _ ∧ _ := by simpa using e9
    clear e9 hQ
    have ebbc := below_box w1 (.cells #[.slice A2 n2 c2, .slice C2 m2 d2] 26)
    have hRc_2 := repCo.next hRc_1 ebbc
    have bt_3 := below_ext hb1 ebbc
    have bc_4 := Blk.new w1 26 [.slice A2 n2 c2, .slice C2 m2 d2]
    obtain ⟨ybc_4_0, ybc_4_1⟩ := bc_4.cells2
    clear hRc_1 ebbc
    obtain ⟨qo, bo, HR⟩ : ∃ qo bo, Hid (timeoutQ q t = (qo, bo)) := ⟨_, _, Lib.hid rfl⟩
    go_wp2_with fail
    generalize hWW : w1.alloc (.cells #[.slice A2 n2 c2, .slice C2 m2 d2] 26) = w2 at *
    clear hWW
    generalize w1.heap.size = gbc at *
    refine (implTimeout_any _ q t _ hRc_2 (by omega) (by omega)).mono ?_
    unfold CoTo2
    rw [HR.out]
    rintro e w3 ⟨csO, rfl, hSO, hbO⟩
    clear ybc_4_0 ybc_4_1
    have hRc_5 := repCo.next hRc_2 hbO
    have bc_6 := bc_4.next hbO
    have bt_7 := below_ext bt_3 hbO
    obtain ⟨ybc_6_0, ybc_6_1⟩ := bc_6.cells2
    clear hRc_2 bc_4 bt_3 hbO
    have hRo0 := repCo.down (sepCo.reads hSO) (Nat.zero_le _)
    obtain ⟨A3, n3, c3, C3, m3, d3, rfl, hn3, hm3, hcap3, hmax3⟩ := sepCo_two hSO
    have hRo_8 := hRo0
    clear hSO hRo0
    clear ybc_6_0 ybc_6_1
    have ebbo := below_box w3 (.cells #[.slice A3 n3 c3, .slice C3 m3 d3] 26)
    have hRc_9 := repCo.next hRc_5 ebbo
    have bc_10 := bc_6.next ebbo
    have hRo_11 := repCo.next hRo_8 ebbo
    have bt_12 := below_ext bt_7 ebbo
    have bo_13 := Blk.new w3 26 [.slice A3 n3 c3, .slice C3 m3 d3]
    obtain ⟨ybc_10_0, ybc_10_1⟩ := bc_10.cells2
    obtain ⟨ybo_13_0, ybo_13_1⟩ := bo_13.cells2
    clear hRc_5 bc_6 hRo_8 bt_7 ebbo
    go_wp2_with fail
    generalize hWW : w3.alloc (.cells #[.slice A3 n3 c3, .slice C3 m3 d3] 26) = w4 at *
    clear hWW
    generalize w3.heap.size = gbo at *
    refine (specTimeout_any _ q t _ hRc_9).mono ?_
    unfold CoTo2
    rw [HR.out]
    rintro e w5 ⟨csW, rfl, hSW, hbW⟩
    clear ybc_10_0 ybc_10_1 ybo_13_0 ybo_13_1
    have hRc_14 := repCo.next hRc_9 hbW
    have bc_15 := bc_10.next hbW
    have hRo_16 := repCo.next hRo_11 hbW
    have bo_17 := bo_13.next hbW
    have bt_18 := below_ext bt_12 hbW
    obtain ⟨ybc_15_0, ybc_15_1⟩ := bc_15.cells2
    obtain ⟨ybo_17_0, ybo_17_1⟩ := bo_17.cells2
    clear hRc_9 bc_10 hRo_11 bo_13 bt_12 hbW
    have hRw0 := repCo.down (sepCo.reads hSW) (Nat.zero_le _)
    obtain ⟨A4, n4, c4, C4, m4, d4, rfl, hn4, hm4⟩ := repCo_two hRw0
    have hRw_19 := hRw0
    clear hSW hRw0
    clear ybc_15_0 ybc_15_1 ybo_17_0 ybo_17_1
    have ebbw := below_box w5 (.cells #[.slice A4 n4 c4, .slice C4 m4 d4] 26)
    have hRc_20 := repCo.next hRc_14 ebbw
    have bc_21 := bc_15.next ebbw
    have hRo_22 := repCo.next hRo_16 ebbw
    have bo_23 := bo_17.next ebbw
    have hRw_24 := repCo.next hRw_19 ebbw
    have bt_25 := below_ext bt_18 ebbw
    have bw_26 := Blk.new w5 26 [.slice A4 n4 c4, .slice C4 m4 d4]
    obtain ⟨ybc_21_0, ybc_21_1⟩ := bc_21.cells2
    obtain ⟨ybo_23_0, ybo_23_1⟩ := bo_23.cells2
    obtain ⟨ybw_26_0, ybw_26_1⟩ := bw_26.cells2
    clear hRc_14 bc_15 hRo_16 bo_17 hRw_19 bt_18 ebbw
    have hbne : (bo != bo) = false := by simp
    have hbeq : (bo == bo) = true := by simp
    go_wp2_with fail
    generalize hWW : w5.alloc (.cells #[.slice A4 n4 c4, .slice C4 m4 d4] 26) = w6 at *
    clear hWW
    generalize w5.heap.size = gbw at *
    refine (sameCoordinator_any _ _ _ _ _ hRo_22 hRw_24).mono ?_
    rw [eqCo_refl]
    rintro e w7 ⟨rfl, hbS⟩
    clear ybc_21_0 ybc_21_1 ybo_23_0 ybo_23_1 ybw_26_0 ybw_26_1
    have hRc_27 := repCo.next hRc_20 hbS
    have bc_28 := bc_21.next hbS
    have hRo_29 := repCo.next hRo_22 hbS
    have bo_30 := bo_23.next hbS
    have hRw_31 := repCo.next hRw_24 hbS
    have bw_32 := bw_26.next hbS
    have bt_33 := below_ext bt_25 hbS
    obtain ⟨ybc_28_0, ybc_28_1⟩ := bc_28.cells2
    obtain ⟨ybo_30_0, ybo_30_1⟩ := bo_30.cells2
    obtain ⟨ybw_32_0, ybw_32_1⟩ := bw_32.cells2
    clear hRc_20 bc_21 hRo_22 bo_23 hRw_24 bw_26 bt_25 hbS
    go_wp2_with fail
    refine (specCoordinatorValid_any _ q _ hRc_27).mono ?_
    rintro e w8 ⟨rfl, hbV⟩
    clear ybc_28_0 ybc_28_1 ybo_30_0 ybo_30_1 ybw_32_0 ybw_32_1
    have hRc_34 := repCo.next hRc_27 hbV
    have bc_35 := bc_28.next hbV
    have hRo_36 := repCo.next hRo_29 hbV
    have bo_37 := bo_30.next hbV
    have hRw_38 := repCo.next hRw_31 hbV
    have bw_39 := bw_32.next hbV
    have bt_40 := below_ext bt_33 hbV
    obtain ⟨ybc_35_0, ybc_35_1⟩ := bc_35.cells2
    obtain ⟨ybo_37_0, ybo_37_1⟩ := bo_37.cells2
    obtain ⟨ybw_39_0, ybw_39_1⟩ := bw_39.cells2
    clear hRc_27 bc_28 hRo_29 bo_30 hRw_31 bw_32 bt_33 hbV
    cases hv : coB q
    · skip
      go_wp2_with fail
      refine (sameCoordinator_any _ _ _ _ _ hRo_36 hRw_38).mono ?_
      rw [eqCo_refl]
      rintro e w9 ⟨rfl, hbS⟩
      clear ybc_35_0 ybc_35_1 ybo_37_0 ybo_37_1 ybw_39_0 ybw_39_1
      have hRc_41 := repCo.next hRc_34 hbS
      have bc_42 := bc_35.next hbS
      have hRo_43 := repCo.next hRo_36 hbS
      have bo_44 := bo_37.next hbS
      have hRw_45 := repCo.next hRw_38 hbS
      have bw_46 := bw_39.next hbS
      have bt_47 := below_ext bt_40 hbS
      obtain ⟨ybc_42_0, ybc_42_1⟩ := bc_42.cells2
      obtain ⟨ybo_44_0, ybo_44_1⟩ := bo_44.cells2
      obtain ⟨ybw_46_0, ybw_46_1⟩ := bw_46.cells2
      clear hRc_34 bc_35 hRo_36 bo_37 hRw_38 bw_39 bt_40 hbS
      go_wp2_with fail
      go_ret
      exact ⟨rfl, bt_47⟩
    · by_cases hin : 0 ≤ t ∧ t ≤ (q.ts.length : Int) - 1
      · obtain ⟨tn, rfl⟩ : ∃ tn : Nat, t = (tn : Int) := ⟨t.toNat, by omega⟩
        have hlt : tn < n2 := by have := hl2.out; omega
        obtain ⟨_, _, _, _, _, _, e9, hr0c, hm0c, hr1c, hm1c⟩ := repCo_cells hRc_34
        obtain ⟨⟨rfl, rfl, rfl⟩, rfl, rfl, rfl⟩ : (_ ∧ _ ∧ _) ∧ _ ∧ _ ∧ _ := by simpa using e9
        clear e9
        obtain ⟨b, off, x, cs', rfl, hb, hx, hcx, hvx⟩ := hr0c.at_ hlt
        obtain ⟨P0, q0, e0, P1, q1, e1, rfl, -, -, -, -⟩ := repTx_cells hvx
        have a2 : w8.cell? ⟨b, off + tn * 3 + 1 + 1, none⟩ = some (.int .i64 x.dec) := hcx 2 _ rfl
        clear hcx hvx hr0c hr1c hin
        by_cases hd : x.dec = 0
        · have hr := (timeout_some hv (openQ_mk hx hd)).symm.trans HR.out
          injection hr with hr1 hr2
          have HAG := Lib.hid (abort_again hv hx hd)
          rw [hr1] at HAG
          subst hr2
          have hqo1 : qo.ts.length ≤ 100000000 := by rw [← hr1]; simp; omega
          have hqo2 : qo.ord.length ≤ 100000000 := by rw [← hr1]; simp; omega
          rw [hd] at a2
          clear hr1 hx hd
          go_wp2_with fail
          refine (implTimeout_any _ qo (tn : Int) _ hRo_36 hqo2 hqo1).mono ?_
          unfold CoTo2
          rw [HAG.out]
          rintro e w9 ⟨csX, rfl, hSX, hbX⟩
          clear ybc_35_0 ybc_35_1 ybo_37_0 ybo_37_1 ybw_39_0 ybw_39_1
          have hRc_41 := repCo.next hRc_34 hbX
          have bc_42 := bc_35.next hbX
          have hRo_43 := repCo.next hRo_36 hbX
          have bo_44 := bo_37.next hbX
          have hRw_45 := repCo.next hRw_38 hbX
          have bw_46 := bw_39.next hbX
          have bt_47 := below_ext bt_40 hbX
          obtain ⟨ybc_42_0, ybc_42_1⟩ := bc_42.cells2
          obtain ⟨ybo_44_0, ybo_44_1⟩ := bo_44.cells2
          obtain ⟨ybw_46_0, ybw_46_1⟩ := bw_46.cells2
          clear hRc_34 bc_35 hRo_36 bo_37 hRw_38 bw_39 bt_40 hbX
          have hRx0 := repCo.down (sepCo.reads hSX) (Nat.zero_le _)
          obtain ⟨A5, n5, c5, C5, m5, d5, rfl, hn5, hm5⟩ := repCo_two hRx0
          have hRx_48 := hRx0
          clear hSX hRx0
          clear ybc_42_0 ybc_42_1 ybo_44_0 ybo_44_1 ybw_46_0 ybw_46_1
          have ebbx := below_box w9 (.cells #[.slice A5 n5 c5, .slice C5 m5 d5] 26)
          have hRc_49 := repCo.next hRc_41 ebbx
          have bc_50 := bc_42.next ebbx
          have hRo_51 := repCo.next hRo_43 ebbx
          have bo_52 := bo_44.next ebbx
          have hRw_53 := repCo.next hRw_45 ebbx
          have bw_54 := bw_46.next ebbx
          have hRx_55 := repCo.next hRx_48 ebbx
          have bt_56 := below_ext bt_47 ebbx
          have bx_57 := Blk.new w9 26 [.slice A5 n5 c5, .slice C5 m5 d5]
          obtain ⟨ybc_50_0, ybc_50_1⟩ := bc_50.cells2
          obtain ⟨ybo_52_0, ybo_52_1⟩ := bo_52.cells2
          obtain ⟨ybw_54_0, ybw_54_1⟩ := bw_54.cells2
          obtain ⟨ybx_57_0, ybx_57_1⟩ := bx_57.cells2
          clear hRc_41 bc_42 hRo_43 bo_44 hRw_45 bw_46 hRx_48 bt_47 ebbx
          go_wp2_with fail
          generalize hWW : w9.alloc (.cells #[.slice A5 n5 c5, .slice C5 m5 d5] 26) = w10 at *
          clear hWW
          generalize w9.heap.size = gbx at *
          refine (sameCoordinator_any _ _ _ _ _ hRx_55 hRo_51).mono ?_
          rw [eqCo_refl]
          rintro e w11 ⟨rfl, hbS⟩
          clear ybc_50_0 ybc_50_1 ybo_52_0 ybo_52_1 ybw_54_0 ybw_54_1 ybx_57_0 ybx_57_1
          have hRc_58 := repCo.next hRc_49 hbS
          have bc_59 := bc_50.next hbS
          have hRo_60 := repCo.next hRo_51 hbS
          have bo_61 := bo_52.next hbS
          have hRw_62 := repCo.next hRw_53 hbS
          have bw_63 := bw_54.next hbS
          have hRx_64 := repCo.next hRx_55 hbS
          have bx_65 := bx_57.next hbS
          have bt_66 := below_ext bt_56 hbS
          obtain ⟨ybc_59_0, ybc_59_1⟩ := bc_59.cells2
          obtain ⟨ybo_61_0, ybo_61_1⟩ := bo_61.cells2
          obtain ⟨ybw_63_0, ybw_63_1⟩ := bw_63.cells2
          obtain ⟨ybx_65_0, ybx_65_1⟩ := bx_65.cells2
          clear hRc_49 bc_50 hRo_51 bo_52 hRw_53 bw_54 hRx_55 bx_57 bt_56 hbS
          go_wp2_with fail
          go_ret
          exact ⟨rfl, bt_66⟩
        · have hr := (timeout_none hv (openQ_no hx hd)).symm.trans HR.out
          injection hr with hr1 hr2
          subst hr1 hr2
          have HAG := Lib.hid (timeout_none (t := (tn : Int)) hv (openQ_no hx hd))
          have hdb : (x.dec == 0) = false := by simpa using hd
          clear hx hd
          go_wp2_with fail
          refine (implTimeout_any _ q (tn : Int) _ hRo_36 (by omega) (by omega)).mono ?_
          unfold CoTo2
          rw [HAG.out]
          rintro e w9 ⟨csX, rfl, hSX, hbX⟩
          clear ybc_35_0 ybc_35_1 ybo_37_0 ybo_37_1 ybw_39_0 ybw_39_1
          have hRc_41 := repCo.next hRc_34 hbX
          have bc_42 := bc_35.next hbX
          have hRo_43 := repCo.next hRo_36 hbX
          have bo_44 := bo_37.next hbX
          have hRw_45 := repCo.next hRw_38 hbX
          have bw_46 := bw_39.next hbX
          have bt_47 := below_ext bt_40 hbX
          obtain ⟨ybc_42_0, ybc_42_1⟩ := bc_42.cells2
          obtain ⟨ybo_44_0, ybo_44_1⟩ := bo_44.cells2
          obtain ⟨ybw_46_0, ybw_46_1⟩ := bw_46.cells2
          clear hRc_34 bc_35 hRo_36 bo_37 hRw_38 bw_39 bt_40 hbX
          have hRx0 := repCo.down (sepCo.reads hSX) (Nat.zero_le _)
          obtain ⟨A5, n5, c5, C5, m5, d5, rfl, hn5, hm5⟩ := repCo_two hRx0
          have hRx_48 := hRx0
          clear hSX hRx0
          clear ybc_42_0 ybc_42_1 ybo_44_0 ybo_44_1 ybw_46_0 ybw_46_1
          have ebbx := below_box w9 (.cells #[.slice A5 n5 c5, .slice C5 m5 d5] 26)
          have hRc_49 := repCo.next hRc_41 ebbx
          have bc_50 := bc_42.next ebbx
          have hRo_51 := repCo.next hRo_43 ebbx
          have bo_52 := bo_44.next ebbx
          have hRw_53 := repCo.next hRw_45 ebbx
          have bw_54 := bw_46.next ebbx
          have hRx_55 := repCo.next hRx_48 ebbx
          have bt_56 := below_ext bt_47 ebbx
          have bx_57 := Blk.new w9 26 [.slice A5 n5 c5, .slice C5 m5 d5]
          obtain ⟨ybc_50_0, ybc_50_1⟩ := bc_50.cells2
          obtain ⟨ybo_52_0, ybo_52_1⟩ := bo_52.cells2
          obtain ⟨ybw_54_0, ybw_54_1⟩ := bw_54.cells2
          obtain ⟨ybx_57_0, ybx_57_1⟩ := bx_57.cells2
          clear hRc_41 bc_42 hRo_43 bo_44 hRw_45 bw_46 hRx_48 bt_47 ebbx
          go_wp2_with fail
          generalize hWW : w9.alloc (.cells #[.slice A5 n5 c5, .slice C5 m5 d5] 26) = w10 at *
          clear hWW
          generalize w9.heap.size = gbx at *
          refine (sameCoordinator_any _ _ _ _ _ hRx_55 hRo_51).mono ?_
          rw [eqCo_refl]
          rintro e w11 ⟨rfl, hbS⟩
          clear ybc_50_0 ybc_50_1 ybo_52_0 ybo_52_1 ybw_54_0 ybw_54_1 ybx_57_0 ybx_57_1
          have hRc_58 := repCo.next hRc_49 hbS
          have bc_59 := bc_50.next hbS
          have hRo_60 := repCo.next hRo_51 hbS
          have bo_61 := bo_52.next hbS
          have hRw_62 := repCo.next hRw_53 hbS
          have bw_63 := bw_54.next hbS
          have hRx_64 := repCo.next hRx_55 hbS
          have bx_65 := bx_57.next hbS
          have bt_66 := below_ext bt_56 hbS
          obtain ⟨ybc_59_0, ybc_59_1⟩ := bc_59.cells2
          obtain ⟨ybo_61_0, ybo_61_1⟩ := bo_61.cells2
          obtain ⟨ybw_63_0, ybw_63_1⟩ := bw_63.cells2
          obtain ⟨ybx_65_0, ybx_65_1⟩ := bx_65.cells2
          clear hRc_49 bc_50 hRo_51 bo_52 hRw_53 bw_54 hRx_55 bx_57 bt_56 hbS
          go_wp2_with fail
          go_ret
          exact ⟨rfl, bt_66⟩
      · have hr := (timeout_none hv (openQ_out hin)).symm.trans HR.out
        injection hr with hr1 hr2
        subst hr1 hr2
        have HAG := Lib.hid (timeout_none (t := t) hv (openQ_out hin))
        have HI : (t < 0 ∨ (0 ≤ t ∧ (n2 : Int) ≤ t)) := by have := hl2.out; omega
        clear hin
        rcases HI with hi | ⟨hi1, hi2⟩
        · skip
          have hi3 : decide (t ≥ 0) = false := by simp; omega
          have hi4 : decide (0 ≤ t) = false := by simp; omega
          go_wp2_with fail
          refine (implTimeout_any _ q t _ hRo_36 (by omega) (by omega)).mono ?_
          unfold CoTo2
          rw [HAG.out]
          rintro e w9 ⟨csX, rfl, hSX, hbX⟩
          clear ybc_35_0 ybc_35_1 ybo_37_0 ybo_37_1 ybw_39_0 ybw_39_1
          have hRc_41 := repCo.next hRc_34 hbX
          have bc_42 := bc_35.next hbX
          have hRo_43 := repCo.next hRo_36 hbX
          have bo_44 := bo_37.next hbX
          have hRw_45 := repCo.next hRw_38 hbX
          have bw_46 := bw_39.next hbX
          have bt_47 := below_ext bt_40 hbX
          obtain ⟨ybc_42_0, ybc_42_1⟩ := bc_42.cells2
          obtain ⟨ybo_44_0, ybo_44_1⟩ := bo_44.cells2
          obtain ⟨ybw_46_0, ybw_46_1⟩ := bw_46.cells2
          clear hRc_34 bc_35 hRo_36 bo_37 hRw_38 bw_39 bt_40 hbX
          have hRx0 := repCo.down (sepCo.reads hSX) (Nat.zero_le _)
          obtain ⟨A5, n5, c5, C5, m5, d5, rfl, hn5, hm5⟩ := repCo_two hRx0
          have hRx_48 := hRx0
          clear hSX hRx0
          clear ybc_42_0 ybc_42_1 ybo_44_0 ybo_44_1 ybw_46_0 ybw_46_1
          have ebbx := below_box w9 (.cells #[.slice A5 n5 c5, .slice C5 m5 d5] 26)
          have hRc_49 := repCo.next hRc_41 ebbx
          have bc_50 := bc_42.next ebbx
          have hRo_51 := repCo.next hRo_43 ebbx
          have bo_52 := bo_44.next ebbx
          have hRw_53 := repCo.next hRw_45 ebbx
          have bw_54 := bw_46.next ebbx
          have hRx_55 := repCo.next hRx_48 ebbx
          have bt_56 := below_ext bt_47 ebbx
          have bx_57 := Blk.new w9 26 [.slice A5 n5 c5, .slice C5 m5 d5]
          obtain ⟨ybc_50_0, ybc_50_1⟩ := bc_50.cells2
          obtain ⟨ybo_52_0, ybo_52_1⟩ := bo_52.cells2
          obtain ⟨ybw_54_0, ybw_54_1⟩ := bw_54.cells2
          obtain ⟨ybx_57_0, ybx_57_1⟩ := bx_57.cells2
          clear hRc_41 bc_42 hRo_43 bo_44 hRw_45 bw_46 hRx_48 bt_47 ebbx
          go_wp2_with fail
          generalize hWW : w9.alloc (.cells #[.slice A5 n5 c5, .slice C5 m5 d5] 26) = w10 at *
          clear hWW
          generalize w9.heap.size = gbx at *
          refine (sameCoordinator_any _ _ _ _ _ hRx_55 hRo_51).mono ?_
          rw [eqCo_refl]
          rintro e w11 ⟨rfl, hbS⟩
          clear ybc_50_0 ybc_50_1 ybo_52_0 ybo_52_1 ybw_54_0 ybw_54_1 ybx_57_0 ybx_57_1
          have hRc_58 := repCo.next hRc_49 hbS
          have bc_59 := bc_50.next hbS
          have hRo_60 := repCo.next hRo_51 hbS
          have bo_61 := bo_52.next hbS
          have hRw_62 := repCo.next hRw_53 hbS
          have bw_63 := bw_54.next hbS
          have hRx_64 := repCo.next hRx_55 hbS
          have bx_65 := bx_57.next hbS
          have bt_66 := below_ext bt_56 hbS
          obtain ⟨ybc_59_0, ybc_59_1⟩ := bc_59.cells2
          obtain ⟨ybo_61_0, ybo_61_1⟩ := bo_61.cells2
          obtain ⟨ybw_63_0, ybw_63_1⟩ := bw_63.cells2
          obtain ⟨ybx_65_0, ybx_65_1⟩ := bx_65.cells2
          clear hRc_49 bc_50 hRo_51 bo_52 hRw_53 bw_54 hRx_55 bx_57 bt_56 hbS
          go_wp2_with fail
          go_ret
          exact ⟨rfl, bt_66⟩
        · skip
          have hi3 : decide (t < (n2 : Int)) = false := by simp; omega
          have hi4 : decide (t ≥ 0) = true := by simp; omega
          go_wp2_with fail
          refine (implTimeout_any _ q t _ hRo_36 (by omega) (by omega)).mono ?_
          unfold CoTo2
          rw [HAG.out]
          rintro e w9 ⟨csX, rfl, hSX, hbX⟩
          clear ybc_35_0 ybc_35_1 ybo_37_0 ybo_37_1 ybw_39_0 ybw_39_1
          have hRc_41 := repCo.next hRc_34 hbX
          have bc_42 := bc_35.next hbX
          have hRo_43 := repCo.next hRo_36 hbX
          have bo_44 := bo_37.next hbX
          have hRw_45 := repCo.next hRw_38 hbX
          have bw_46 := bw_39.next hbX
          have bt_47 := below_ext bt_40 hbX
          obtain ⟨ybc_42_0, ybc_42_1⟩ := bc_42.cells2
          obtain ⟨ybo_44_0, ybo_44_1⟩ := bo_44.cells2
          obtain ⟨ybw_46_0, ybw_46_1⟩ := bw_46.cells2
          clear hRc_34 bc_35 hRo_36 bo_37 hRw_38 bw_39 bt_40 hbX
          have hRx0 := repCo.down (sepCo.reads hSX) (Nat.zero_le _)
          obtain ⟨A5, n5, c5, C5, m5, d5, rfl, hn5, hm5⟩ := repCo_two hRx0
          have hRx_48 := hRx0
          clear hSX hRx0
          clear ybc_42_0 ybc_42_1 ybo_44_0 ybo_44_1 ybw_46_0 ybw_46_1
          have ebbx := below_box w9 (.cells #[.slice A5 n5 c5, .slice C5 m5 d5] 26)
          have hRc_49 := repCo.next hRc_41 ebbx
          have bc_50 := bc_42.next ebbx
          have hRo_51 := repCo.next hRo_43 ebbx
          have bo_52 := bo_44.next ebbx
          have hRw_53 := repCo.next hRw_45 ebbx
          have bw_54 := bw_46.next ebbx
          have hRx_55 := repCo.next hRx_48 ebbx
          have bt_56 := below_ext bt_47 ebbx
          have bx_57 := Blk.new w9 26 [.slice A5 n5 c5, .slice C5 m5 d5]
          obtain ⟨ybc_50_0, ybc_50_1⟩ := bc_50.cells2
          obtain ⟨ybo_52_0, ybo_52_1⟩ := bo_52.cells2
          obtain ⟨ybw_54_0, ybw_54_1⟩ := bw_54.cells2
          obtain ⟨ybx_57_0, ybx_57_1⟩ := bx_57.cells2
          clear hRc_41 bc_42 hRo_43 bo_44 hRw_45 bw_46 hRx_48 bt_47 ebbx
          go_wp2_with fail
          generalize hWW : w9.alloc (.cells #[.slice A5 n5 c5, .slice C5 m5 d5] 26) = w10 at *
          clear hWW
          generalize w9.heap.size = gbx at *
          refine (sameCoordinator_any _ _ _ _ _ hRx_55 hRo_51).mono ?_
          rw [eqCo_refl]
          rintro e w11 ⟨rfl, hbS⟩
          clear ybc_50_0 ybc_50_1 ybo_52_0 ybo_52_1 ybw_54_0 ybw_54_1 ybx_57_0 ybx_57_1
          have hRc_58 := repCo.next hRc_49 hbS
          have bc_59 := bc_50.next hbS
          have hRo_60 := repCo.next hRo_51 hbS
          have bo_61 := bo_52.next hbS
          have hRw_62 := repCo.next hRw_53 hbS
          have bw_63 := bw_54.next hbS
          have hRx_64 := repCo.next hRx_55 hbS
          have bx_65 := bx_57.next hbS
          have bt_66 := below_ext bt_56 hbS
          obtain ⟨ybc_59_0, ybc_59_1⟩ := bc_59.cells2
          obtain ⟨ybo_61_0, ybo_61_1⟩ := bo_61.cells2
          obtain ⟨ybw_63_0, ybw_63_1⟩ := bw_63.cells2
          obtain ⟨ybx_65_0, ybx_65_1⟩ := bx_65.cells2
          clear hRc_49 bc_50 hRo_51 bo_52 hRw_53 bw_54 hRx_55 bx_57 bt_56 hbS
          go_wp2_with fail
          go_ret
          exact ⟨rfl, bt_66⟩
end Go.Proofs.Ytlmcejpjhdaanaa
