/- The law FnExactCoordinatorBegin, walked: for every argument it answers true. -/
import Derived.Test.YtfbdfigkodiboaaMarkP
import Derived.Test.YtfbdfigkodiboaaBeginI
import Derived.Test.YtfbdfigkodiboaaBeginS
import Derived.Test.YtfbdfigkodiboaaCoI
import Derived.Test.YtfbdfigkodiboaaCoLaw
import Derived.Deep.RegionHeld3
namespace Go.Proofs.Ytfbdfigkodiboaa
open Go.RowKit Go.Sort

set_option maxRecDepth 100000 in
set_option maxHeartbeats 6400000 in
theorem FnExactCoordinatorBegin_walk (cs : List Value) (q : Co) (A : Option Addr) (n c : Nat) (ps : List Pt) (w : World) (hv : repCo.V 0 w cs q) (hp : RSl repPt 0 w A n ps) (hn : n ≤ maxLen) :
    Calls Try.prog 11 #[.agg cs.toArray, .slice A n c] w fun e w' => e = .returned (.bool true) ∧ Below w.heap.size w w' := by
  have hV := hv
  obtain ⟨B0, m0, d0, B1, m1, d1, rfl, hr0, hm0, hr1, hm1⟩ := repCo_cells hv
  clear hr0 hr1
  have hm00 := hm0
  have hm10 := hm1
  unfold maxLen at hm00 hm10
  have b0 := below_box w (.cells #[.slice B0 m0 d0, .slice B1 m1 d1] 25)
  have hzb0 : w.heap.size < (w.alloc (.cells #[.slice B0 m0 d0, .slice B1 m1 d1] 25)).heap.size := by simp
  have ba_1 := Blk.new w 25 [.slice B0 m0 d0, .slice B1 m1 d1]
  obtain ⟨yba_1_0, yba_1_1⟩ := ba_1.cells2
  go_enter Try.func11, Try.ntmps11
  go_wp2_with fail
  refine (szCoordinator_g _ q _ _ (repCo.next hV b0) (by omega) (by omega)).mono ?_
  rintro e w1 ⟨⟨vz, rfl, r, rfl, hs⟩, hb1⟩
  clear yba_1_0 yba_1_1
  have hz_2 := hb1.size
  have ba_3 := ba_1.next hb1
  have bt_4 := below_ext b0 hb1
  obtain ⟨yba_3_0, yba_3_1⟩ := ba_3.cells2
  clear ba_1 hb1
  rcases hs with hs | ⟨hs0, hsl, hsm⟩
  · skip
    go_wp2_with fail
    go_ret
    exact ⟨rfl, bt_4⟩
  · have hs0b : decide (r < 0) = false := decide_eq_false (by omega)
    have hszq := szCo_small hsm
    have hq1 : q.ord.length ≤ 1048576 := by have := hsm.2; unfold smallI at this; omega
    have hq2 : q.ts.length ≤ 1048576 := hsm.1.1
    go_wp2_with fail
    refine (szPartS_g A n c ps r _ (hp.next bt_4) hn (by omega) (by omega)).mono ?_
    rintro e w2 ⟨⟨vz2, rfl, r2, rfl, hs2⟩, hb2⟩
    clear yba_3_0 yba_3_1
    have hz_5 := hb2.size
    have ba_6 := ba_3.next hb2
    have bt_7 := below_ext bt_4 hb2
    obtain ⟨yba_6_0, yba_6_1⟩ := ba_6.cells2
    clear ba_3 bt_4 hb2
    rcases hs2 with hs2 | ⟨hs20, hsl2, hsp⟩
    · skip
      go_wp2_with fail
      go_ret
      exact ⟨rfl, bt_7⟩
    · have hs2b : decide (r2 < 0) = false := decide_eq_false (by omega)
      have hszp := szPts_small hsp
      obtain ⟨qo, bo, HR⟩ : ∃ qo bo, Hid (beginQ q ps = (qo, bo)) := ⟨_, _, Lib.hid rfl⟩
      have hszo := szCo_begin HR.out hsm hsp
      go_wp2_with fail
      refine (toCoordinator_g _ q _ (repCo.next hV bt_7) hsm).mono ?_
      rintro e w3 ⟨cs2, rfl, hv2, hb3⟩
      clear yba_6_0 yba_6_1
      have hz_8 := hb3.size
      have ba_9 := ba_6.next hb3
      have bt_10 := below_ext bt_7 hb3
      obtain ⟨yba_9_0, yba_9_1⟩ := ba_9.cells2
      clear ba_6 bt_7 hb3
      have h2_11 := hv2
      go_wp2_with fail
      refine (toPartS_g A n c ps _ (hp.next bt_10) hsp).mono ?_
      rintro e w4 ⟨Pw, rfl, hp2, hb4⟩
      clear yba_9_0 yba_9_1
      have hz_12 := hb4.size
      have ba_13 := ba_9.next hb4
      have h2_14 := repCo.next h2_11 hb4
      have bt_15 := below_ext bt_10 hb4
      obtain ⟨yba_13_0, yba_13_1⟩ := ba_13.cells2
      clear ba_9 h2_11 bt_10 hb4
      go_wp2_with fail
      refine (specBegin_any _ q Pw n n ps _ (repCo.down h2_14 (Nat.zero_le _)) (hp2.down (Nat.zero_le _)) hn).mono ?_
      unfold CoTo2
      rw [HR.out]
      rintro e w5 ⟨csW, rfl, hSW, hb5⟩
      clear yba_13_0 yba_13_1
      simp only at hSW
      have hz_16 := hb5.size
      have ba_17 := ba_13.next hb5
      have h2_18 := repCo.next h2_14 hb5
      have bt_19 := below_ext bt_15 hb5
      obtain ⟨yba_17_0, yba_17_1⟩ := ba_17.cells2
      clear ba_13 h2_14 bt_15 hb5
      obtain ⟨A4, n4, c4, C4, m4, d4, rfl, hn4, hm4, hcap4, hmax4⟩ := sepCo_two hSW
      have hW_20 := hSW
      clear hSW hv2 hp2
      clear yba_17_0 yba_17_1
      have ebbw := below_box w5 (.cells #[.slice A4 n4 c4, .slice C4 m4 d4] 30)
      have hzb_21 : w5.heap.size < (w5.alloc (.cells #[.slice A4 n4 c4, .slice C4 m4 d4] 30)).heap.size := by simp
      have hz_22 := ebbw.size
      have ba_23 := ba_17.next ebbw
      have hW_24 := RepS.next sepCo hW_20 ebbw (fun c h => by have h1 := h.1; have h2 := h.2; omega)
      have bt_25 := below_ext bt_19 ebbw
      have bw_26 := Blk.new w5 30 [.slice A4 n4 c4, .slice C4 m4 d4]
      obtain ⟨yba_23_0, yba_23_1⟩ := ba_23.cells2
      obtain ⟨ybw_26_0, ybw_26_1⟩ := bw_26.cells2
      clear ba_17 hW_20 bt_19 ebbw
      go_wp2_with fail
      generalize hWW : w5.alloc (.cells #[.slice A4 n4 c4, .slice C4 m4 d4] 30) = w6 at *
      clear hWW
      generalize w5.heap.size = gbw at *
      refine (toCoordinator_s _ q _ (repCo.next hV bt_25) hsm).mono ?_
      rintro e w7 ⟨cs4, rfl, hv4, hb6⟩
      clear yba_23_0 yba_23_1 ybw_26_0 ybw_26_1
      have hz_27 := hb6.size
      have ba_28 := ba_23.next hb6
      have hW_29 := RepS.next sepCo hW_24 hb6 (fun c h => by have h1 := h.1; have h2 := h.2; omega)
      have bw_30 := bw_26.next hb6
      have bt_31 := below_ext bt_25 hb6
      obtain ⟨yba_28_0, yba_28_1⟩ := ba_28.cells2
      obtain ⟨ybw_30_0, ybw_30_1⟩ := bw_30.cells2
      clear ba_23 hW_24 bw_26 bt_25 hb6
      obtain ⟨A3, n3, c3, C3, m3, d3, rfl, hn3, hm3, hcap3, hmax3⟩ := sepCo_two hv4
      have hX_32 := hv4
      clear hv4
      clear yba_28_0 yba_28_1 ybw_30_0 ybw_30_1
      have ebbx := below_box w7 (.cells #[.slice A3 n3 c3, .slice C3 m3 d3] 30)
      have hzb_33 : w7.heap.size < (w7.alloc (.cells #[.slice A3 n3 c3, .slice C3 m3 d3] 30)).heap.size := by simp
      have hz_34 := ebbx.size
      have ba_35 := ba_28.next ebbx
      have hW_36 := RepS.next sepCo hW_29 ebbx (fun c h => by have h1 := h.1; have h2 := h.2; omega)
      have bw_37 := bw_30.next ebbx
      have hX_38 := RepS.next sepCo hX_32 ebbx (fun c h => by have h1 := h.1; have h2 := h.2; omega)
      have bt_39 := below_ext bt_31 ebbx
      have bx_40 := Blk.new w7 30 [.slice A3 n3 c3, .slice C3 m3 d3]
      obtain ⟨yba_35_0, yba_35_1⟩ := ba_35.cells2
      obtain ⟨ybw_37_0, ybw_37_1⟩ := bw_37.cells2
      obtain ⟨ybx_40_0, ybx_40_1⟩ := bx_40.cells2
      clear ba_28 hW_29 bw_30 hX_32 bt_31 ebbx
      go_wp2_with fail
      generalize hWW : w7.alloc (.cells #[.slice A3 n3 c3, .slice C3 m3 d3] 30) = w8 at *
      clear hWW
      generalize w7.heap.size = gbx at *
      refine (toPartS_s A n c ps _ (hp.next bt_39) hsp).mono ?_
      rintro e w9 ⟨Py, rfl, hv7, hb7⟩
      clear yba_35_0 yba_35_1 ybw_37_0 ybw_37_1 ybx_40_0 ybx_40_1
      have hz_41 := hb7.size
      have ba_42 := ba_35.next hb7
      have hW_43 := RepS.next sepCo hW_36 hb7 (fun c h => by have h1 := h.1; have h2 := h.2; omega)
      have bw_44 := bw_37.next hb7
      have hX_45 := RepS.next sepCo hX_38 hb7 (fun c h => by have h1 := h.1; have h2 := h.2; omega)
      have bx_46 := bx_40.next hb7
      have bt_47 := below_ext bt_39 hb7
      obtain ⟨yba_42_0, yba_42_1⟩ := ba_42.cells2
      obtain ⟨ybw_44_0, ybw_44_1⟩ := bw_44.cells2
      obtain ⟨ybx_46_0, ybx_46_1⟩ := bx_46.cells2
      clear ba_35 hW_36 bw_37 hX_38 bx_40 bt_39 hb7
      have hY_48 := hv7
      clear hv7
      go_wp2_with fail
      refine (implBegin_any _ q Py n n ps _ (repCo.down (sepCo.reads hX_45) (Nat.zero_le _)) (hY_48.reads.down (Nat.zero_le _)) hn (by omega) (by omega)).mono ?_
      unfold CoTo2
      rw [HR.out]
      rintro e w10 ⟨csG, rfl, hSG, hb8⟩
      clear yba_42_0 yba_42_1 ybw_44_0 ybw_44_1 ybx_46_0 ybx_46_1
      simp only at hSG
      have hz_49 := hb8.size
      have ba_50 := ba_42.next hb8
      have hW_51 := RepS.next sepCo hW_43 hb8 (fun c h => by have h1 := h.1; have h2 := h.2; omega)
      have bw_52 := bw_44.next hb8
      have hX_53 := RepS.next sepCo hX_45 hb8 (fun c h => by have h1 := h.1; have h2 := h.2; omega)
      have bx_54 := bx_46.next hb8
      have hY_55 := hY_48.next hb8 (fun c h => by have h1 := h.1; have h2 := h.2; omega)
      have bt_56 := below_ext bt_47 hb8
      obtain ⟨yba_50_0, yba_50_1⟩ := ba_50.cells2
      obtain ⟨ybw_52_0, ybw_52_1⟩ := bw_52.cells2
      obtain ⟨ybx_54_0, ybx_54_1⟩ := bx_54.cells2
      clear ba_42 hW_43 bw_44 hX_45 bx_46 hY_48 bt_47 hb8
      obtain ⟨A5, n5, c5, C5, m5, d5, rfl, hn5, hm5, hcap5, hmax5⟩ := sepCo_two hSG
      have hG_57 := hSG
      clear hSG
      clear yba_50_0 yba_50_1 ybw_52_0 ybw_52_1 ybx_54_0 ybx_54_1
      have ebbg := below_box w10 (.cells #[.slice A5 n5 c5, .slice C5 m5 d5] 30)
      have hzb_58 : w10.heap.size < (w10.alloc (.cells #[.slice A5 n5 c5, .slice C5 m5 d5] 30)).heap.size := by simp
      have hz_59 := ebbg.size
      have ba_60 := ba_50.next ebbg
      have hW_61 := RepS.next sepCo hW_51 ebbg (fun c h => by have h1 := h.1; have h2 := h.2; omega)
      have bw_62 := bw_52.next ebbg
      have hX_63 := RepS.next sepCo hX_53 ebbg (fun c h => by have h1 := h.1; have h2 := h.2; omega)
      have bx_64 := bx_54.next ebbg
      have hY_65 := hY_55.next ebbg (fun c h => by have h1 := h.1; have h2 := h.2; omega)
      have hG_66 := RepS.next sepCo hG_57 ebbg (fun c h => by have h1 := h.1; have h2 := h.2; omega)
      have bt_67 := below_ext bt_56 ebbg
      have bg_68 := Blk.new w10 30 [.slice A5 n5 c5, .slice C5 m5 d5]
      obtain ⟨yba_60_0, yba_60_1⟩ := ba_60.cells2
      obtain ⟨ybw_62_0, ybw_62_1⟩ := bw_62.cells2
      obtain ⟨ybx_64_0, ybx_64_1⟩ := bx_64.cells2
      obtain ⟨ybg_68_0, ybg_68_1⟩ := bg_68.cells2
      clear ba_50 hW_51 bw_52 hX_53 bx_54 hY_55 hG_57 bt_56 ebbg
      have hbne : (bo != bo) = false := by simp
      go_wp2_with fail
      generalize hWW : w10.alloc (.cells #[.slice A5 n5 c5, .slice C5 m5 d5] 30) = w11 at *
      clear hWW
      generalize w10.heap.size = gbg at *
      refine (eqCoordinator_g _ _ qo qo _ (repCo.down (sepCo.reads hG_66) (Nat.zero_le _)) (repCo.down (sepCo.reads hW_61) (Nat.zero_le _))).mono ?_
      rw [eqCo_refl]
      rintro e w12 ⟨rfl, hbq⟩
      clear yba_60_0 yba_60_1 ybw_62_0 ybw_62_1 ybx_64_0 ybx_64_1 ybg_68_0 ybg_68_1
      have hz_69 := hbq.size
      have ba_70 := ba_60.next hbq
      have hW_71 := RepS.next sepCo hW_61 hbq (fun c h => by have h1 := h.1; have h2 := h.2; omega)
      have bw_72 := bw_62.next hbq
      have hX_73 := RepS.next sepCo hX_63 hbq (fun c h => by have h1 := h.1; have h2 := h.2; omega)
      have bx_74 := bx_64.next hbq
      have hY_75 := hY_65.next hbq (fun c h => by have h1 := h.1; have h2 := h.2; omega)
      have hG_76 := RepS.next sepCo hG_66 hbq (fun c h => by have h1 := h.1; have h2 := h.2; omega)
      have bg_77 := bg_68.next hbq
      have bt_78 := below_ext bt_67 hbq
      obtain ⟨yba_70_0, yba_70_1⟩ := ba_70.cells2
      obtain ⟨ybw_72_0, ybw_72_1⟩ := bw_72.cells2
      obtain ⟨ybx_74_0, ybx_74_1⟩ := bx_74.cells2
      obtain ⟨ybg_77_0, ybg_77_1⟩ := bg_77.cells2
      clear ba_60 hW_61 bw_62 hX_63 bx_64 hY_65 hG_66 bg_68 bt_67 hbq
      go_wp2_with fail
      have HK1 := Lib.hid (fun (w' : World) (hb' : Below w12.heap.size w12 w') => (⟨⟨(ba_70.next hb').cells2.1, (ba_70.next hb').cells2.2, (bx_74.next hb').cells2.1, (bx_74.next hb').cells2.2⟩, hb'⟩ : (w'.cell? ⟨w.heap.size, 0, none⟩ = some (.slice B0 m0 d0) ∧ w'.cell? ⟨w.heap.size, 1, none⟩ = some (.slice B1 m1 d1) ∧ w'.cell? ⟨gbx, 0, none⟩ = some (.slice A3 n3 c3) ∧ w'.cell? ⟨gbx, 1, none⟩ = some (.slice C3 m3 d3)) ∧ Below w12.heap.size w12 w'))
      have HX1 := Lib.hid (show repCo.V 0 w12 _ q from repCo.down (sepCo.reads hX_73) (Nat.zero_le _))
      have HA1 := Lib.hid (repCo.next hV bt_78)
      clear yba_70_0 yba_70_1 ybw_72_0 ybw_72_1 ybx_74_0 ybx_74_1 ybg_77_0 ybg_77_1
      go_region_held3 (fun w' => (w'.cell? ⟨w.heap.size, 0, none⟩ = some (.slice B0 m0 d0) ∧ w'.cell? ⟨w.heap.size, 1, none⟩ = some (.slice B1 m1 d1) ∧ w'.cell? ⟨gbx, 0, none⟩ = some (.slice A3 n3 c3) ∧ w'.cell? ⟨gbx, 1, none⟩ = some (.slice C3 m3 d3)) ∧ Below w12.heap.size w12 w')
        (first
          | exact HK1.out _ (Below.refl _ _).drew
          | exact HK1.out _ (below_ext (And.right (by assumption)) hbr1)
          | exact HK1.out _ (below_ext (And.right (by assumption)) hbr2)
          | exact And.intro (And.left (by assumption)) (And.right (by assumption)))
        (first
          | (go_at_call 14; refine (toCoordinator_g _ q _ (repCo.next HA1.out (And.right (by assumption))) hsm).mono ?_
             rintro e wr1 ⟨csr1, rfl, hvr1, hbr1⟩)
          | (go_at_call 16; refine (eqCoordinator_g _ _ q q _ (repCo.next HX1.out (And.right (by assumption))) (repCo.down hvr1 (Nat.zero_le _))).mono ?_
             rw [eqCo_refl q]
             rintro e wr2 ⟨rfl, hbr2⟩))
      have hbR1 : Below w12.heap.size w12 wr2 := And.right (by assumption)
      clear hvr1 hbr1 hbr2
      have hz_79 := hbR1.size
      have ba_80 := ba_70.next hbR1
      have hW_81 := RepS.next sepCo hW_71 hbR1 (fun c h => by have h1 := h.1; have h2 := h.2; omega)
      have bw_82 := bw_72.next hbR1
      have hX_83 := RepS.next sepCo hX_73 hbR1 (fun c h => by have h1 := h.1; have h2 := h.2; omega)
      have bx_84 := bx_74.next hbR1
      have hY_85 := hY_75.next hbR1 (fun c h => by have h1 := h.1; have h2 := h.2; omega)
      have hG_86 := RepS.next sepCo hG_76 hbR1 (fun c h => by have h1 := h.1; have h2 := h.2; omega)
      have bg_87 := bg_77.next hbR1
      have bt_88 := below_ext bt_78 hbR1
      obtain ⟨yba_80_0, yba_80_1⟩ := ba_80.cells2
      obtain ⟨ybw_82_0, ybw_82_1⟩ := bw_82.cells2
      obtain ⟨ybx_84_0, ybx_84_1⟩ := bx_84.cells2
      obtain ⟨ybg_87_0, ybg_87_1⟩ := bg_87.cells2
      clear ba_70 hW_71 bw_72 hX_73 bx_74 hY_75 hG_76 bg_77 bt_78 hbR1
      go_wp2_with fail
      refine (toPartS_g A n c ps _ (hp.next bt_88) hsp).mono ?_
      rintro e w13 ⟨Pr, rfl, hpr, hb9⟩
      clear yba_80_0 yba_80_1 ybw_82_0 ybw_82_1 ybx_84_0 ybx_84_1 ybg_87_0 ybg_87_1
      have hz_89 := hb9.size
      have ba_90 := ba_80.next hb9
      have hW_91 := RepS.next sepCo hW_81 hb9 (fun c h => by have h1 := h.1; have h2 := h.2; omega)
      have bw_92 := bw_82.next hb9
      have hX_93 := RepS.next sepCo hX_83 hb9 (fun c h => by have h1 := h.1; have h2 := h.2; omega)
      have bx_94 := bx_84.next hb9
      have hY_95 := hY_85.next hb9 (fun c h => by have h1 := h.1; have h2 := h.2; omega)
      have hG_96 := RepS.next sepCo hG_86 hb9 (fun c h => by have h1 := h.1; have h2 := h.2; omega)
      have bg_97 := bg_87.next hb9
      have bt_98 := below_ext bt_88 hb9
      obtain ⟨yba_90_0, yba_90_1⟩ := ba_90.cells2
      obtain ⟨ybw_92_0, ybw_92_1⟩ := bw_92.cells2
      obtain ⟨ybx_94_0, ybx_94_1⟩ := bx_94.cells2
      obtain ⟨ybg_97_0, ybg_97_1⟩ := bg_97.cells2
      clear ba_80 hW_81 bw_82 hX_83 bx_84 hY_85 hG_86 bg_87 bt_88 hb9
      go_wp2_with fail
      refine (eqPartS_g _ _ _ _ _ _ ps ps _ (hY_95.reads.down (Nat.zero_le _)) (hpr.down (Nat.zero_le _)) hn hn).mono ?_
      rw [eqL_refl eqPt_refl]
      rintro e w14 ⟨rfl, hb10⟩
      clear yba_90_0 yba_90_1 ybw_92_0 ybw_92_1 ybx_94_0 ybx_94_1 ybg_97_0 ybg_97_1
      have hz_99 := hb10.size
      have ba_100 := ba_90.next hb10
      have hW_101 := RepS.next sepCo hW_91 hb10 (fun c h => by have h1 := h.1; have h2 := h.2; omega)
      have bw_102 := bw_92.next hb10
      have hX_103 := RepS.next sepCo hX_93 hb10 (fun c h => by have h1 := h.1; have h2 := h.2; omega)
      have bx_104 := bx_94.next hb10
      have hY_105 := hY_95.next hb10 (fun c h => by have h1 := h.1; have h2 := h.2; omega)
      have hG_106 := RepS.next sepCo hG_96 hb10 (fun c h => by have h1 := h.1; have h2 := h.2; omega)
      have bg_107 := bg_97.next hb10
      have bt_108 := below_ext bt_98 hb10
      obtain ⟨yba_100_0, yba_100_1⟩ := ba_100.cells2
      obtain ⟨ybw_102_0, ybw_102_1⟩ := bw_102.cells2
      obtain ⟨ybx_104_0, ybx_104_1⟩ := bx_104.cells2
      obtain ⟨ybg_107_0, ybg_107_1⟩ := bg_107.cells2
      clear ba_90 hW_91 bw_92 hX_93 bx_94 hY_95 hG_96 bg_97 bt_98 hb10
      clear hpr
      obtain ⟨ka, HKA⟩ : ∃ ka : Nat, Hid (ka = 1 + szCo q) := ⟨_, Lib.hid rfl⟩
      obtain ⟨kc, HKC⟩ : ∃ kc : Nat, Hid (kc = ka + szL szPt ps) := ⟨_, Lib.hid rfl⟩
      have hkan : decide ((kc : Int) < 0) = false := by simp
      go_wp2_with fail
      refine (markCoordinator_s _ _ _ q 1 _ hX_103 (fun c h => by have h1 := h.1; have h2 := h.2; omega) (by omega)).mono ?_
      rw [← HKA.out]
      rintro e w15 ⟨rfl, hX9, hO9⟩
      clear yba_100_0 yba_100_1 ybw_102_0 ybw_102_1 ybx_104_0 ybx_104_1 ybg_107_0 ybg_107_1
      have hz_109 := hO9.size
      have ba_110 := hO9.blk ba_100 (fun h => by have h1 := h.1; have h2 := h.2; omega)
      have hW_111 := RepS.only sepCo hW_101 hO9 (fun c h h' => by have h1 := h.1; have h2 := h.2; have h3 := h'.1; have h4 := h'.2; omega) (fun c h => by have h1 := h.1; have h2 := h.2; omega)
      have bw_112 := hO9.blk bw_102 (fun h => by have h1 := h.1; have h2 := h.2; omega)
      have bx_113 := hO9.blk bx_104 (fun h => by have h1 := h.1; have h2 := h.2; omega)
      have hY_114 := hY_105.only hO9 (fun c h h' => by have h1 := h.1; have h2 := h.2; have h3 := h'.1; have h4 := h'.2; omega) (fun c h => by have h1 := h.1; have h2 := h.2; omega)
      have hG_115 := RepS.only sepCo hG_106 hO9 (fun c h h' => by have h1 := h.1; have h2 := h.2; have h3 := h'.1; have h4 := h'.2; omega) (fun c h => by have h1 := h.1; have h2 := h.2; omega)
      have bg_116 := hO9.blk bg_107 (fun h => by have h1 := h.1; have h2 := h.2; omega)
      have bt_117 := bt_108.trans (hO9.below (fun c h => Nat.le_trans (by omega : w.heap.size ≤ w6.heap.size) h.1) bt_108.size)
      clear hX_103
      have hX_118 := hX9
      obtain ⟨yba_110_0, yba_110_1⟩ := ba_110.cells2
      obtain ⟨ybw_112_0, ybw_112_1⟩ := bw_112.cells2
      obtain ⟨ybx_113_0, ybx_113_1⟩ := bx_113.cells2
      obtain ⟨ybg_116_0, ybg_116_1⟩ := bg_116.cells2
      clear ba_100 hW_101 bw_102 bx_104 hY_105 hG_106 bg_107 bt_108 hO9 hX9
      go_wp2_with fail
      refine (markPartS_s _ _ _ _ _ ps ka _ hY_114 (fun c h => by have h1 := h.1; have h2 := h.2; omega) (by have := HKA.out; omega)).mono ?_
      rw [← HKC.out]
      rintro e w16 ⟨rfl, hY9, hQ9⟩
      clear yba_110_0 yba_110_1 ybw_112_0 ybw_112_1 ybx_113_0 ybx_113_1 ybg_116_0 ybg_116_1
      have hz_119 := hQ9.size
      have ba_120 := hQ9.blk ba_110 (fun h => by have h1 := h.1; have h2 := h.2; omega)
      have hW_121 := RepS.only sepCo hW_111 hQ9 (fun c h h' => by have h1 := h.1; have h2 := h.2; have h3 := h'.1; have h4 := h'.2; omega) (fun c h => by have h1 := h.1; have h2 := h.2; omega)
      have bw_122 := hQ9.blk bw_112 (fun h => by have h1 := h.1; have h2 := h.2; omega)
      have hX_123 := RepS.only sepCo hX_118 hQ9 (fun c h h' => by have h1 := h.1; have h2 := h.2; have h3 := h'.1; have h4 := h'.2; omega) (fun c h => by have h1 := h.1; have h2 := h.2; omega)
      have bx_124 := hQ9.blk bx_113 (fun h => by have h1 := h.1; have h2 := h.2; omega)
      have hG_125 := RepS.only sepCo hG_115 hQ9 (fun c h h' => by have h1 := h.1; have h2 := h.2; have h3 := h'.1; have h4 := h'.2; omega) (fun c h => by have h1 := h.1; have h2 := h.2; omega)
      have bg_126 := hQ9.blk bg_116 (fun h => by have h1 := h.1; have h2 := h.2; omega)
      have bt_127 := bt_117.trans (hQ9.below (fun c h => Nat.le_trans (by omega : w.heap.size ≤ w8.heap.size) h.1) bt_117.size)
      clear hY_114
      have hY_128 := hY9
      obtain ⟨yba_120_0, yba_120_1⟩ := ba_120.cells2
      obtain ⟨ybw_122_0, ybw_122_1⟩ := bw_122.cells2
      obtain ⟨ybx_124_0, ybx_124_1⟩ := bx_124.cells2
      obtain ⟨ybg_126_0, ybg_126_1⟩ := bg_126.cells2
      clear ba_110 hW_111 bw_112 hX_118 bx_113 hG_115 bg_116 bt_117 hQ9 hY9
      go_wp2_with fail
      refine (eqCoordinator_g _ _ qo qo _ (repCo.down (sepCo.reads hG_125) (Nat.zero_le _)) (repCo.down (sepCo.reads hW_121) (Nat.zero_le _))).mono ?_
      rw [eqCo_refl]
      rintro e w17 ⟨rfl, hbq⟩
      clear yba_120_0 yba_120_1 ybw_122_0 ybw_122_1 ybx_124_0 ybx_124_1 ybg_126_0 ybg_126_1
      have hz_129 := hbq.size
      have ba_130 := ba_120.next hbq
      have hW_131 := RepS.next sepCo hW_121 hbq (fun c h => by have h1 := h.1; have h2 := h.2; omega)
      have bw_132 := bw_122.next hbq
      have hX_133 := RepS.next sepCo hX_123 hbq (fun c h => by have h1 := h.1; have h2 := h.2; omega)
      have bx_134 := bx_124.next hbq
      have hY_135 := hY_128.next hbq (fun c h => by have h1 := h.1; have h2 := h.2; omega)
      have hG_136 := RepS.next sepCo hG_125 hbq (fun c h => by have h1 := h.1; have h2 := h.2; omega)
      have bg_137 := bg_126.next hbq
      have bt_138 := below_ext bt_127 hbq
      obtain ⟨yba_130_0, yba_130_1⟩ := ba_130.cells2
      obtain ⟨ybw_132_0, ybw_132_1⟩ := bw_132.cells2
      obtain ⟨ybx_134_0, ybx_134_1⟩ := bx_134.cells2
      obtain ⟨ybg_137_0, ybg_137_1⟩ := bg_137.cells2
      clear ba_120 hW_121 bw_122 hX_123 bx_124 hY_128 hG_125 bg_126 bt_127 hbq
      obtain ⟨kb, HKB⟩ : ∃ kb : Nat, Hid (kb = 1 + szCo qo) := ⟨_, Lib.hid rfl⟩
      have hkbn : decide ((kb : Int) < 0) = false := by simp
      have hkbe : ((kb : Int) != (kb : Int)) = false := by simp
      go_wp2_with fail
      refine (markCoordinator_s _ _ _ qo 1 _ hG_136 (fun c h => by have h1 := h.1; have h2 := h.2; omega) (by omega)).mono ?_
      rw [← HKB.out]
      rintro e w18 ⟨rfl, hG9, hP9⟩
      clear yba_130_0 yba_130_1 ybw_132_0 ybw_132_1 ybx_134_0 ybx_134_1 ybg_137_0 ybg_137_1
      have hz_139 := hP9.size
      have ba_140 := hP9.blk ba_130 (fun h => by have h1 := h.1; have h2 := h.2; omega)
      have hW_141 := RepS.only sepCo hW_131 hP9 (fun c h h' => by have h1 := h.1; have h2 := h.2; have h3 := h'.1; have h4 := h'.2; omega) (fun c h => by have h1 := h.1; have h2 := h.2; omega)
      have bw_142 := hP9.blk bw_132 (fun h => by have h1 := h.1; have h2 := h.2; omega)
      have hX_143 := RepS.only sepCo hX_133 hP9 (fun c h h' => by have h1 := h.1; have h2 := h.2; have h3 := h'.1; have h4 := h'.2; omega) (fun c h => by have h1 := h.1; have h2 := h.2; omega)
      have bx_144 := hP9.blk bx_134 (fun h => by have h1 := h.1; have h2 := h.2; omega)
      have hY_145 := hY_135.only hP9 (fun c h h' => by have h1 := h.1; have h2 := h.2; have h3 := h'.1; have h4 := h'.2; omega) (fun c h => by have h1 := h.1; have h2 := h.2; omega)
      have bg_146 := hP9.blk bg_137 (fun h => by have h1 := h.1; have h2 := h.2; omega)
      have bt_147 := bt_138.trans (hP9.below (fun c h => Nat.le_trans (by omega : w.heap.size ≤ w9.heap.size) h.1) bt_138.size)
      clear hG_136
      have hG_148 := hG9
      obtain ⟨yba_140_0, yba_140_1⟩ := ba_140.cells2
      obtain ⟨ybw_142_0, ybw_142_1⟩ := bw_142.cells2
      obtain ⟨ybx_144_0, ybx_144_1⟩ := bx_144.cells2
      obtain ⟨ybg_146_0, ybg_146_1⟩ := bg_146.cells2
      clear ba_130 hW_131 bw_132 hX_133 bx_134 hY_135 bg_137 bt_138 hP9 hG9
      go_wp2_with fail
      refine (heldCoordinator_s _ qo 1 _ (repCo.down (sepCo.reads hG_148) (Nat.zero_le _)) (by omega)).mono ?_
      rw [← HKB.out]
      rintro e w19 ⟨rfl, hbh⟩
      clear yba_140_0 yba_140_1 ybw_142_0 ybw_142_1 ybx_144_0 ybx_144_1 ybg_146_0 ybg_146_1
      have hz_149 := hbh.size
      have ba_150 := ba_140.next hbh
      have hW_151 := RepS.next sepCo hW_141 hbh (fun c h => by have h1 := h.1; have h2 := h.2; omega)
      have bw_152 := bw_142.next hbh
      have hX_153 := RepS.next sepCo hX_143 hbh (fun c h => by have h1 := h.1; have h2 := h.2; omega)
      have bx_154 := bx_144.next hbh
      have hY_155 := hY_145.next hbh (fun c h => by have h1 := h.1; have h2 := h.2; omega)
      have hG_156 := RepS.next sepCo hG_148 hbh (fun c h => by have h1 := h.1; have h2 := h.2; omega)
      have bg_157 := bg_146.next hbh
      have bt_158 := below_ext bt_147 hbh
      obtain ⟨yba_150_0, yba_150_1⟩ := ba_150.cells2
      obtain ⟨ybw_152_0, ybw_152_1⟩ := bw_152.cells2
      obtain ⟨ybx_154_0, ybx_154_1⟩ := bx_154.cells2
      obtain ⟨ybg_157_0, ybg_157_1⟩ := bg_157.cells2
      clear ba_140 hW_141 bw_142 hX_143 bx_144 hY_145 hG_148 bg_146 bt_147 hbh
      go_wp2_with fail
      refine (toCoordinator_g _ q _ (repCo.next hV bt_158) hsm).mono ?_
      rintro e w20 ⟨cs12, rfl, hv12, hb12⟩
      clear yba_150_0 yba_150_1 ybw_152_0 ybw_152_1 ybx_154_0 ybx_154_1 ybg_157_0 ybg_157_1
      have hz_159 := hb12.size
      have ba_160 := ba_150.next hb12
      have hW_161 := RepS.next sepCo hW_151 hb12 (fun c h => by have h1 := h.1; have h2 := h.2; omega)
      have bw_162 := bw_152.next hb12
      have hX_163 := RepS.next sepCo hX_153 hb12 (fun c h => by have h1 := h.1; have h2 := h.2; omega)
      have bx_164 := bx_154.next hb12
      have hY_165 := hY_155.next hb12 (fun c h => by have h1 := h.1; have h2 := h.2; omega)
      have hG_166 := RepS.next sepCo hG_156 hb12 (fun c h => by have h1 := h.1; have h2 := h.2; omega)
      have bg_167 := bg_157.next hb12
      have bt_168 := below_ext bt_158 hb12
      obtain ⟨yba_160_0, yba_160_1⟩ := ba_160.cells2
      obtain ⟨ybw_162_0, ybw_162_1⟩ := bw_162.cells2
      obtain ⟨ybx_164_0, ybx_164_1⟩ := bx_164.cells2
      obtain ⟨ybg_167_0, ybg_167_1⟩ := bg_167.cells2
      clear ba_150 hW_151 bw_152 hX_153 bx_154 hY_155 hG_156 bg_157 bt_158 hb12
      have h12_169 := hv12
      go_wp2_with fail
      refine (toPartS_g A n c ps _ (hp.next bt_168) hsp).mono ?_
      rintro e w21 ⟨Ph, rfl, hp12, hb13⟩
      clear yba_160_0 yba_160_1 ybw_162_0 ybw_162_1 ybx_164_0 ybx_164_1 ybg_167_0 ybg_167_1
      have hz_170 := hb13.size
      have ba_171 := ba_160.next hb13
      have hW_172 := RepS.next sepCo hW_161 hb13 (fun c h => by have h1 := h.1; have h2 := h.2; omega)
      have bw_173 := bw_162.next hb13
      have hX_174 := RepS.next sepCo hX_163 hb13 (fun c h => by have h1 := h.1; have h2 := h.2; omega)
      have bx_175 := bx_164.next hb13
      have hY_176 := hY_165.next hb13 (fun c h => by have h1 := h.1; have h2 := h.2; omega)
      have hG_177 := RepS.next sepCo hG_166 hb13 (fun c h => by have h1 := h.1; have h2 := h.2; omega)
      have bg_178 := bg_167.next hb13
      have h12_179 := repCo.next h12_169 hb13
      have bt_180 := below_ext bt_168 hb13
      obtain ⟨yba_171_0, yba_171_1⟩ := ba_171.cells2
      obtain ⟨ybw_173_0, ybw_173_1⟩ := bw_173.cells2
      obtain ⟨ybx_175_0, ybx_175_1⟩ := bx_175.cells2
      obtain ⟨ybg_178_0, ybg_178_1⟩ := bg_178.cells2
      clear ba_160 hW_161 bw_162 hX_163 bx_164 hY_165 hG_166 bg_167 h12_169 bt_168 hb13
      go_wp2_with fail
      refine (implBegin_any _ q Ph n n ps _ (repCo.down h12_179 (Nat.zero_le _)) (hp12.down (Nat.zero_le _)) hn (by omega) (by omega)).mono ?_
      unfold CoTo2
      rw [HR.out]
      rintro e w22 ⟨csH, rfl, hSH, hb14⟩
      clear yba_171_0 yba_171_1 ybw_173_0 ybw_173_1 ybx_175_0 ybx_175_1 ybg_178_0 ybg_178_1
      simp only at hSH
      have hz_181 := hb14.size
      have ba_182 := ba_171.next hb14
      have hW_183 := RepS.next sepCo hW_172 hb14 (fun c h => by have h1 := h.1; have h2 := h.2; omega)
      have bw_184 := bw_173.next hb14
      have hX_185 := RepS.next sepCo hX_174 hb14 (fun c h => by have h1 := h.1; have h2 := h.2; omega)
      have bx_186 := bx_175.next hb14
      have hY_187 := hY_176.next hb14 (fun c h => by have h1 := h.1; have h2 := h.2; omega)
      have hG_188 := RepS.next sepCo hG_177 hb14 (fun c h => by have h1 := h.1; have h2 := h.2; omega)
      have bg_189 := bg_178.next hb14
      have h12_190 := repCo.next h12_179 hb14
      have bt_191 := below_ext bt_180 hb14
      obtain ⟨yba_182_0, yba_182_1⟩ := ba_182.cells2
      obtain ⟨ybw_184_0, ybw_184_1⟩ := bw_184.cells2
      obtain ⟨ybx_186_0, ybx_186_1⟩ := bx_186.cells2
      obtain ⟨ybg_189_0, ybg_189_1⟩ := bg_189.cells2
      clear ba_171 hW_172 bw_173 hX_174 bx_175 hY_176 hG_177 bg_178 h12_179 bt_180 hb14
      obtain ⟨A6, n6, c6, C6, m6, d6, rfl, hn6, hm6, hcap6, hmax6⟩ := sepCo_two hSH
      have hH_192 := hSH
      clear hSH hv12 hp12
      clear yba_182_0 yba_182_1 ybw_184_0 ybw_184_1 ybx_186_0 ybx_186_1 ybg_189_0 ybg_189_1
      have ebbh := below_box w22 (.cells #[.slice A6 n6 c6, .slice C6 m6 d6] 30)
      have hzb_193 : w22.heap.size < (w22.alloc (.cells #[.slice A6 n6 c6, .slice C6 m6 d6] 30)).heap.size := by simp
      have hz_194 := ebbh.size
      have ba_195 := ba_182.next ebbh
      have hW_196 := RepS.next sepCo hW_183 ebbh (fun c h => by have h1 := h.1; have h2 := h.2; omega)
      have bw_197 := bw_184.next ebbh
      have hX_198 := RepS.next sepCo hX_185 ebbh (fun c h => by have h1 := h.1; have h2 := h.2; omega)
      have bx_199 := bx_186.next ebbh
      have hY_200 := hY_187.next ebbh (fun c h => by have h1 := h.1; have h2 := h.2; omega)
      have hG_201 := RepS.next sepCo hG_188 ebbh (fun c h => by have h1 := h.1; have h2 := h.2; omega)
      have bg_202 := bg_189.next ebbh
      have hH_203 := RepS.next sepCo hH_192 ebbh (fun c h => by have h1 := h.1; have h2 := h.2; omega)
      have bt_204 := below_ext bt_191 ebbh
      have bh_205 := Blk.new w22 30 [.slice A6 n6 c6, .slice C6 m6 d6]
      obtain ⟨yba_195_0, yba_195_1⟩ := ba_195.cells2
      obtain ⟨ybw_197_0, ybw_197_1⟩ := bw_197.cells2
      obtain ⟨ybx_199_0, ybx_199_1⟩ := bx_199.cells2
      obtain ⟨ybg_202_0, ybg_202_1⟩ := bg_202.cells2
      obtain ⟨ybh_205_0, ybh_205_1⟩ := bh_205.cells2
      clear ba_182 hW_183 bw_184 hX_185 bx_186 hY_187 hG_188 bg_189 hH_192 bt_191 ebbh
      go_wp2_with fail
      generalize hWW : w22.alloc (.cells #[.slice A6 n6 c6, .slice C6 m6 d6] 30) = w23 at *
      clear hWW
      generalize w22.heap.size = gbh at *
      refine (eqCoordinator_g _ _ qo qo _ (repCo.down (sepCo.reads hH_203) (Nat.zero_le _)) (repCo.down (sepCo.reads hW_196) (Nat.zero_le _))).mono ?_
      rw [eqCo_refl]
      rintro e w24 ⟨rfl, hbq⟩
      clear yba_195_0 yba_195_1 ybw_197_0 ybw_197_1 ybx_199_0 ybx_199_1 ybg_202_0 ybg_202_1 ybh_205_0 ybh_205_1
      have hz_206 := hbq.size
      have ba_207 := ba_195.next hbq
      have hW_208 := RepS.next sepCo hW_196 hbq (fun c h => by have h1 := h.1; have h2 := h.2; omega)
      have bw_209 := bw_197.next hbq
      have hX_210 := RepS.next sepCo hX_198 hbq (fun c h => by have h1 := h.1; have h2 := h.2; omega)
      have bx_211 := bx_199.next hbq
      have hY_212 := hY_200.next hbq (fun c h => by have h1 := h.1; have h2 := h.2; omega)
      have hG_213 := RepS.next sepCo hG_201 hbq (fun c h => by have h1 := h.1; have h2 := h.2; omega)
      have bg_214 := bg_202.next hbq
      have hH_215 := RepS.next sepCo hH_203 hbq (fun c h => by have h1 := h.1; have h2 := h.2; omega)
      have bh_216 := bh_205.next hbq
      have bt_217 := below_ext bt_204 hbq
      obtain ⟨yba_207_0, yba_207_1⟩ := ba_207.cells2
      obtain ⟨ybw_209_0, ybw_209_1⟩ := bw_209.cells2
      obtain ⟨ybx_211_0, ybx_211_1⟩ := bx_211.cells2
      obtain ⟨ybg_214_0, ybg_214_1⟩ := bg_214.cells2
      obtain ⟨ybh_216_0, ybh_216_1⟩ := bh_216.cells2
      clear ba_195 hW_196 bw_197 hX_198 bx_199 hY_200 hG_201 bg_202 hH_203 bh_205 bt_204 hbq
      go_wp2_with fail
      refine (heldCoordinator_s _ qo 1 _ (repCo.down (sepCo.reads hG_213) (Nat.zero_le _)) (by omega)).mono ?_
      rw [← HKB.out]
      rintro e w25 ⟨rfl, hbh⟩
      clear yba_207_0 yba_207_1 ybw_209_0 ybw_209_1 ybx_211_0 ybx_211_1 ybg_214_0 ybg_214_1 ybh_216_0 ybh_216_1
      have hz_218 := hbh.size
      have ba_219 := ba_207.next hbh
      have hW_220 := RepS.next sepCo hW_208 hbh (fun c h => by have h1 := h.1; have h2 := h.2; omega)
      have bw_221 := bw_209.next hbh
      have hX_222 := RepS.next sepCo hX_210 hbh (fun c h => by have h1 := h.1; have h2 := h.2; omega)
      have bx_223 := bx_211.next hbh
      have hY_224 := hY_212.next hbh (fun c h => by have h1 := h.1; have h2 := h.2; omega)
      have hG_225 := RepS.next sepCo hG_213 hbh (fun c h => by have h1 := h.1; have h2 := h.2; omega)
      have bg_226 := bg_214.next hbh
      have hH_227 := RepS.next sepCo hH_215 hbh (fun c h => by have h1 := h.1; have h2 := h.2; omega)
      have bh_228 := bh_216.next hbh
      have bt_229 := below_ext bt_217 hbh
      obtain ⟨yba_219_0, yba_219_1⟩ := ba_219.cells2
      obtain ⟨ybw_221_0, ybw_221_1⟩ := bw_221.cells2
      obtain ⟨ybx_223_0, ybx_223_1⟩ := bx_223.cells2
      obtain ⟨ybg_226_0, ybg_226_1⟩ := bg_226.cells2
      obtain ⟨ybh_228_0, ybh_228_1⟩ := bh_228.cells2
      clear ba_207 hW_208 bw_209 hX_210 bx_211 hY_212 hG_213 bg_214 hH_215 bh_216 bt_217 hbh
      go_wp2_with fail
      go_ret
      exact ⟨rfl, bt_229⟩
end Go.Proofs.Ytfbdfigkodiboaa
