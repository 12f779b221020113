/- The law FnBeginNumber, walked: for every code it answers true. -/
import Derived.Test.YtfbdfigkodiboaaCoLaw
import Derived.Test.YtfbdfigkodiboaaBeginI
import Derived.Test.YtfbdfigkodiboaaBeginS
import Derived.Test.YtfbdfigkodiboaaSameC
namespace Go.Proofs.Ytfbdfigkodiboaa
open Go.RowKit Go.Sort

set_option maxRecDepth 100000 in
set_option maxHeartbeats 3200000 in
theorem FnBeginNumber_walk (A : Option Addr) (n c : Nat) (w : World) (h : RBytes w w.heap.size A n ∧ n ≤ c) (hn : n ≤ maxLen) :
    Calls Try.prog 9 #[.slice A n c] w fun e w' => e = .returned (.bool true) ∧ Below w.heap.size w w' := by
  have hn0 := hn
  unfold maxLen at hn0
  by_cases hs : 1048576 < n
  · go_enter Try.func9, Try.ntmps9
    go_wp2_with fail
    go_ret
    exact ⟨rfl, Below.refl _ _⟩
  · go_enter Try.func9, Try.ntmps9
    go_wp2_with fail
    refine (DrawCoordinatorBegin_any A n c w h.1 hn h.2).mono ?_
    rintro e w1 ⟨cs, q, PA, pn, pc, ps, rfl, hQ, hpn, hps, hpu, hb1⟩
    obtain ⟨A2, n2, c2, C2, m2, d2, rfl⟩ := hQ.two
    have htn := hQ.tiny
    have htn1 := htn.1
    have htn2 := htn.2.1
    have hRc_1 := hQ.rep0
    have hP_2 := hps.down (Nat.zero_le _)
    obtain ⟨_, _, _, _, _, _, e9, hl2, hl2m⟩ := repCo_two hQ.rep0
    obtain ⟨⟨rfl, rfl, rfl⟩, rfl, rfl, rfl⟩ : (_ ∧ _ ∧ _) ∧ _ ∧ _ ∧ _ := by simpa using e9
    clear e9 hQ hps
    have ebbc := below_box w1 (.cells #[.slice A2 n2 c2, .slice C2 m2 d2] 30)
    have hRc_3 := repCo.next hRc_1 ebbc
    have hP_4 := hP_2.next ebbc
    have bt_5 := below_ext hb1 ebbc
    have bc_6 := Blk.new w1 30 [.slice A2 n2 c2, .slice C2 m2 d2]
    obtain ⟨ybc_6_0, ybc_6_1⟩ := bc_6.cells2
    clear hRc_1 hP_2 ebbc
    obtain ⟨qo, bo, HR⟩ : ∃ qo bo, Hid (beginQ q ps = (qo, bo)) := ⟨_, _, Lib.hid rfl⟩
    go_wp2_with fail
    generalize hWW : w1.alloc (.cells #[.slice A2 n2 c2, .slice C2 m2 d2] 30) = w2 at *
    clear hWW
    generalize w1.heap.size = gbc at *
    refine (implBegin_any _ q PA pn pc ps _ hRc_3 hP_4 (by simp only [maxLen]; omega) (by omega) (by omega)).mono ?_
    unfold CoTo2
    rw [HR.out]
    rintro e w3 ⟨csO, rfl, hSO, hbO⟩
    clear ybc_6_0 ybc_6_1
    have hRc_7 := repCo.next hRc_3 hbO
    have hP_8 := hP_4.next hbO
    have bc_9 := bc_6.next hbO
    have bt_10 := below_ext bt_5 hbO
    obtain ⟨ybc_9_0, ybc_9_1⟩ := bc_9.cells2
    clear hRc_3 hP_4 bc_6 bt_5 hbO
    have hRo0 := repCo.down (sepCo.reads hSO) (Nat.zero_le _)
    obtain ⟨A3, n3, c3, C3, m3, d3, rfl, hn3, hm3⟩ := repCo_two hRo0
    have hRo_11 := hRo0
    clear hSO hRo0
    clear ybc_9_0 ybc_9_1
    have ebbo := below_box w3 (.cells #[.slice A3 n3 c3, .slice C3 m3 d3] 30)
    have hRc_12 := repCo.next hRc_7 ebbo
    have hP_13 := hP_8.next ebbo
    have bc_14 := bc_9.next ebbo
    have hRo_15 := repCo.next hRo_11 ebbo
    have bt_16 := below_ext bt_10 ebbo
    have bo_17 := Blk.new w3 30 [.slice A3 n3 c3, .slice C3 m3 d3]
    obtain ⟨ybc_14_0, ybc_14_1⟩ := bc_14.cells2
    obtain ⟨ybo_17_0, ybo_17_1⟩ := bo_17.cells2
    clear hRc_7 hP_8 bc_9 hRo_11 bt_10 ebbo
    go_wp2_with fail
    generalize hWW : w3.alloc (.cells #[.slice A3 n3 c3, .slice C3 m3 d3] 30) = w4 at *
    clear hWW
    generalize w3.heap.size = gbo at *
    refine (specBegin_any _ q PA pn pc ps _ hRc_12 hP_13 (by simp only [maxLen]; omega)).mono ?_
    unfold CoTo2
    rw [HR.out]
    rintro e w5 ⟨csW, rfl, hSW, hbW⟩
    clear ybc_14_0 ybc_14_1 ybo_17_0 ybo_17_1
    have hRc_18 := repCo.next hRc_12 hbW
    have hP_19 := hP_13.next hbW
    have bc_20 := bc_14.next hbW
    have hRo_21 := repCo.next hRo_15 hbW
    have bo_22 := bo_17.next hbW
    have bt_23 := below_ext bt_16 hbW
    obtain ⟨ybc_20_0, ybc_20_1⟩ := bc_20.cells2
    obtain ⟨ybo_22_0, ybo_22_1⟩ := bo_22.cells2
    clear hRc_12 hP_13 bc_14 hRo_15 bo_17 bt_16 hbW
    have hRw0 := repCo.down (sepCo.reads hSW) (Nat.zero_le _)
    obtain ⟨A4, n4, c4, C4, m4, d4, rfl, hn4, hm4⟩ := repCo_two hRw0
    have hRw_24 := hRw0
    clear hSW hRw0
    clear ybc_20_0 ybc_20_1 ybo_22_0 ybo_22_1
    have ebbw := below_box w5 (.cells #[.slice A4 n4 c4, .slice C4 m4 d4] 30)
    have hRc_25 := repCo.next hRc_18 ebbw
    have hP_26 := hP_19.next ebbw
    have bc_27 := bc_20.next ebbw
    have hRo_28 := repCo.next hRo_21 ebbw
    have bo_29 := bo_22.next ebbw
    have hRw_30 := repCo.next hRw_24 ebbw
    have bt_31 := below_ext bt_23 ebbw
    have bw_32 := Blk.new w5 30 [.slice A4 n4 c4, .slice C4 m4 d4]
    obtain ⟨ybc_27_0, ybc_27_1⟩ := bc_27.cells2
    obtain ⟨ybo_29_0, ybo_29_1⟩ := bo_29.cells2
    obtain ⟨ybw_32_0, ybw_32_1⟩ := bw_32.cells2
    clear hRc_18 hP_19 bc_20 hRo_21 bo_22 hRw_24 bt_23 ebbw
    have hbne : (bo != bo) = false := by simp
    have hbeq : (bo == bo) = true := by simp
    go_wp2_with fail
    generalize hWW : w5.alloc (.cells #[.slice A4 n4 c4, .slice C4 m4 d4] 30) = w6 at *
    clear hWW
    generalize w5.heap.size = gbw at *
    refine (sameCoordinator_any _ _ qo qo _ hRo_28 hRw_30).mono ?_
    rw [eqCo_refl]
    rintro e w7 ⟨rfl, hbS⟩
    clear ybc_27_0 ybc_27_1 ybo_29_0 ybo_29_1 ybw_32_0 ybw_32_1
    have hRc_33 := repCo.next hRc_25 hbS
    have hP_34 := hP_26.next hbS
    have bc_35 := bc_27.next hbS
    have hRo_36 := repCo.next hRo_28 hbS
    have bo_37 := bo_29.next hbS
    have hRw_38 := repCo.next hRw_30 hbS
    have bw_39 := bw_32.next hbS
    have bt_40 := below_ext bt_31 hbS
    obtain ⟨ybc_35_0, ybc_35_1⟩ := bc_35.cells2
    obtain ⟨ybo_37_0, ybo_37_1⟩ := bo_37.cells2
    obtain ⟨ybw_39_0, ybw_39_1⟩ := bw_39.cells2
    clear hRc_25 hP_26 bc_27 hRo_28 bo_29 hRw_30 bw_32 bt_31 hbS
    cases bo
    · skip
      go_wp2_with fail
      refine (sameCoordinator_any _ _ _ _ _ hRo_36 hRw_38).mono ?_
      rw [eqCo_refl]
      rintro e w8 ⟨rfl, hbS⟩
      clear ybc_35_0 ybc_35_1 ybo_37_0 ybo_37_1 ybw_39_0 ybw_39_1
      have hRc_41 := repCo.next hRc_33 hbS
      have hP_42 := hP_34.next hbS
      have bc_43 := bc_35.next hbS
      have hRo_44 := repCo.next hRo_36 hbS
      have bo_45 := bo_37.next hbS
      have hRw_46 := repCo.next hRw_38 hbS
      have bw_47 := bw_39.next hbS
      have bt_48 := below_ext bt_40 hbS
      obtain ⟨ybc_43_0, ybc_43_1⟩ := bc_43.cells2
      obtain ⟨ybo_45_0, ybo_45_1⟩ := bo_45.cells2
      obtain ⟨ybw_47_0, ybw_47_1⟩ := bw_47.cells2
      clear hRc_33 hP_34 bc_35 hRo_36 bo_37 hRw_38 bw_39 bt_40 hbS
      go_wp2_with fail
      go_ret
      exact ⟨rfl, bt_48⟩
    · obtain ⟨hv, hp, hlt, rfl⟩ := begin_done HR.out
      have hvo := begin_ok hv hp hlt
      have hn3s : n3 = n2 + 1 := by rw [hn3.out, hl2.out]; simp
      subst hn3s
      have hmo : q.ord.length ≤ 100000000 := by omega
      by_cases hl2t : q.ts.length + 1 < 12
      · have hr2 := begin_yes (q := ⟨q.ts ++ [newTx ps], q.ord⟩) hvo hp (by simp; omega)
        go_wp2_with fail
        refine (implBegin_any _ ⟨q.ts ++ [newTx ps], q.ord⟩ PA pn pc ps _ hRo_36 hP_34 (by simp only [maxLen]; omega) (by omega) (by simp; omega)).mono ?_
        unfold CoTo2
        rw [hr2]
        rintro e w8 ⟨csX, rfl, hSX, hbX⟩
        clear ybc_35_0 ybc_35_1 ybo_37_0 ybo_37_1 ybw_39_0 ybw_39_1
        have hRc_41 := repCo.next hRc_33 hbX
        have hP_42 := hP_34.next hbX
        have bc_43 := bc_35.next hbX
        have hRo_44 := repCo.next hRo_36 hbX
        have bo_45 := bo_37.next hbX
        have hRw_46 := repCo.next hRw_38 hbX
        have bw_47 := bw_39.next hbX
        have bt_48 := below_ext bt_40 hbX
        obtain ⟨ybc_43_0, ybc_43_1⟩ := bc_43.cells2
        obtain ⟨ybo_45_0, ybo_45_1⟩ := bo_45.cells2
        obtain ⟨ybw_47_0, ybw_47_1⟩ := bw_47.cells2
        clear hRc_33 hP_34 bc_35 hRo_36 bo_37 hRw_38 bw_39 bt_40 hbX
        have hRx0 := repCo.down (sepCo.reads hSX) (Nat.zero_le _)
        obtain ⟨A5, n5, c5, C5, m5, d5, rfl, hn5, hm5⟩ := repCo_two hRx0
        clear hSX hRx0
        clear ybc_43_0 ybc_43_1 ybo_45_0 ybo_45_1 ybw_47_0 ybw_47_1
        have ebbx := below_box w8 (.cells #[.slice A5 n5 c5, .slice C5 m5 d5] 30)
        have hRc_49 := repCo.next hRc_41 ebbx
        have hP_50 := hP_42.next ebbx
        have bc_51 := bc_43.next ebbx
        have hRo_52 := repCo.next hRo_44 ebbx
        have bo_53 := bo_45.next ebbx
        have hRw_54 := repCo.next hRw_46 ebbx
        have bw_55 := bw_47.next ebbx
        have bt_56 := below_ext bt_48 ebbx
        have bx_57 := Blk.new w8 30 [.slice A5 n5 c5, .slice C5 m5 d5]
        obtain ⟨ybc_51_0, ybc_51_1⟩ := bc_51.cells2
        obtain ⟨ybo_53_0, ybo_53_1⟩ := bo_53.cells2
        obtain ⟨ybw_55_0, ybw_55_1⟩ := bw_55.cells2
        obtain ⟨ybx_57_0, ybx_57_1⟩ := bx_57.cells2
        clear hRc_41 hP_42 bc_43 hRo_44 bo_45 hRw_46 bw_47 bt_48 ebbx
        have hn5s : n5 = n2 + 1 + 1 := by have := hl2.out; rw [hn5.out]; simp; omega
        subst hn5s
        clear hn5 hn3 hn4
        have hz1 : decide ((n2 : Int) + 1 < 12) = true := by have := hl2.out; simp; omega
        have hc1 : ((n2 + 1 : Nat) : Int) = (n2 : Int) + 1 := by omega
        have hc2 : ((n2 + 1 + 1 : Nat) : Int) = (n2 : Int) + 2 := by omega
        have hc3 : IntKind.i64.wrap ((n2 : Int) + 2) = (n2 : Int) + 2 := by have := hl2.out; rw [IntKind.wrap_i64]; omega
        go_wp2_with fail
        go_ret
        exact ⟨rfl, bt_56⟩
      · have hr2 := begin_full (q := ⟨q.ts ++ [newTx ps], q.ord⟩) hvo hp (by simp; omega)
        go_wp2_with fail
        refine (implBegin_any _ ⟨q.ts ++ [newTx ps], q.ord⟩ PA pn pc ps _ hRo_36 hP_34 (by simp only [maxLen]; omega) (by omega) (by simp; omega)).mono ?_
        unfold CoTo2
        rw [hr2]
        rintro e w8 ⟨csX, rfl, hSX, hbX⟩
        clear ybc_35_0 ybc_35_1 ybo_37_0 ybo_37_1 ybw_39_0 ybw_39_1
        have hRc_41 := repCo.next hRc_33 hbX
        have hP_42 := hP_34.next hbX
        have bc_43 := bc_35.next hbX
        have hRo_44 := repCo.next hRo_36 hbX
        have bo_45 := bo_37.next hbX
        have hRw_46 := repCo.next hRw_38 hbX
        have bw_47 := bw_39.next hbX
        have bt_48 := below_ext bt_40 hbX
        obtain ⟨ybc_43_0, ybc_43_1⟩ := bc_43.cells2
        obtain ⟨ybo_45_0, ybo_45_1⟩ := bo_45.cells2
        obtain ⟨ybw_47_0, ybw_47_1⟩ := bw_47.cells2
        clear hRc_33 hP_34 bc_35 hRo_36 bo_37 hRw_38 bw_39 bt_40 hbX
        have hRx0 := repCo.down (sepCo.reads hSX) (Nat.zero_le _)
        obtain ⟨A5, n5, c5, C5, m5, d5, rfl, hn5, hm5⟩ := repCo_two hRx0
        clear hSX hRx0
        clear ybc_43_0 ybc_43_1 ybo_45_0 ybo_45_1 ybw_47_0 ybw_47_1
        have ebbx := below_box w8 (.cells #[.slice A5 n5 c5, .slice C5 m5 d5] 30)
        have hRc_49 := repCo.next hRc_41 ebbx
        have hP_50 := hP_42.next ebbx
        have bc_51 := bc_43.next ebbx
        have hRo_52 := repCo.next hRo_44 ebbx
        have bo_53 := bo_45.next ebbx
        have hRw_54 := repCo.next hRw_46 ebbx
        have bw_55 := bw_47.next ebbx
        have bt_56 := below_ext bt_48 ebbx
        have bx_57 := Blk.new w8 30 [.slice A5 n5 c5, .slice C5 m5 d5]
        obtain ⟨ybc_51_0, ybc_51_1⟩ := bc_51.cells2
        obtain ⟨ybo_53_0, ybo_53_1⟩ := bo_53.cells2
        obtain ⟨ybw_55_0, ybw_55_1⟩ := bw_55.cells2
        obtain ⟨ybx_57_0, ybx_57_1⟩ := bx_57.cells2
        clear hRc_41 hP_42 bc_43 hRo_44 bo_45 hRw_46 bw_47 bt_48 ebbx
        have hn2s : n2 = 11 := by have := hl2.out; omega
        subst hn2s
        go_wp2_with fail
        go_ret
        exact ⟨rfl, bt_56⟩
end Go.Proofs.Ytfbdfigkodiboaa
