/- The law FnExactCoordinatorRefs, walked: for every argument it answers true. -/
import Derived.Test.YtlmcejpjhdaanaaMarkP
import Derived.Test.YtlmcejpjhdaanaaRefsX
import Derived.Test.YtlmcejpjhdaanaaWaits
import Derived.Test.YtlmcejpjhdaanaaCoI
import Derived.Deep.RegionHeld3
namespace Go.Proofs.Ytlmcejpjhdaanaa
open Go.RowKit Go.Sort

set_option maxRecDepth 100000 in
set_option maxHeartbeats 6400000 in
theorem FnExactCoordinatorRefs_walk (cs : List Value) (q : Co) (s z : Int) (w : World) (hv : repCo.V 0 w cs q) (_hs0 : -9223372036854775808 ≤ s) (_hs1 : s ≤ 9223372036854775807) (_hz0 : -9223372036854775808 ≤ z) (_hz1 : z ≤ 9223372036854775807) :
    Calls Try.prog 8 #[.agg cs.toArray, .int .i64 s, .int .i64 z] w fun e w' => e = .returned (.bool true) ∧ Below w.heap.size w w' := by
  have hV := hv
  obtain ⟨B0, m0, d0, B1, m1, d1, rfl, hr0, hm0, hr1, hm1⟩ := repCo_cells hv
  clear hr0 hr1
  have hm00 := hm0
  have hm10 := hm1
  unfold maxLen at hm00 hm10
  have b0 := below_box w (.cells #[.slice B0 m0 d0, .slice B1 m1 d1] 40)
  have hzb0 : w.heap.size < (w.alloc (.cells #[.slice B0 m0 d0, .slice B1 m1 d1] 40)).heap.size := by simp
  have ba_1 := Blk.new w 40 [.slice B0 m0 d0, .slice B1 m1 d1]
  obtain ⟨yba_1_0, yba_1_1⟩ := ba_1.cells2
  go_enter Try.func8, Try.ntmps8
  go_wp2_with fail
  refine (szCoordinator_g _ q _ _ (repCo.next hV b0) (by omega) (by omega)).mono ?_
  rintro e w1 ⟨⟨vz, rfl, r, rfl, hs⟩, hb1⟩
  clear yba_1_0 yba_1_1
  have hz_2 := hb1.size
  have ba_3 := ba_1.next hb1
  have bt_4 := below_ext b0 hb1
  obtain ⟨yba_3_0, yba_3_1⟩ := ba_3.cells2
  clear ba_1 hb1
  rcases hs with hs | ⟨hs0, hsl, hsm⟩
  · skip
    go_wp2_with fail
    go_ret
    exact ⟨rfl, bt_4⟩
  · have hs0b : decide (r < 0) = false := decide_eq_false (by omega)
    have hszq := szCo_small hsm
    have hq1 : q.ord.length ≤ 1048576 := by have := hsm.2; unfold smallI at this; omega
    have hq2 : q.ts.length ≤ 1048576 := hsm.1.1
    go_wp2_with fail
    refine (toCoordinator_g _ q _ (repCo.next hV bt_4) hsm).mono ?_
    rintro e w2 ⟨cs2, rfl, hv2, hb2⟩
    clear yba_3_0 yba_3_1
    have hz_5 := hb2.size
    have ba_6 := ba_3.next hb2
    have bt_7 := below_ext bt_4 hb2
    obtain ⟨yba_6_0, yba_6_1⟩ := ba_6.cells2
    clear ba_3 bt_4 hb2
    go_wp2_with fail
    refine (specRefs_any _ q s z _ (repCo.down hv2 (Nat.zero_le _))).mono ?_
    unfold RefsTo
    obtain ⟨ws, HW⟩ : ∃ ws, Hid (refsOut q s z = ws) := ⟨_, Lib.hid rfl⟩
    rw [HW.out]
    rintro e w3 ⟨Bw, mw, dw, rfl, hown2, hb3⟩
    clear yba_6_0 yba_6_1
    have hS2 := own_ssl hown2
    have hlw : ws.length = mw := hS2.1
    have HLW := Lib.hid hlw
    clear hlw
    have hz_8 := hb3.size
    have ba_9 := ba_6.next hb3
    have bt_10 := below_ext bt_7 hb3
    obtain ⟨yba_9_0, yba_9_1⟩ := ba_9.cells2
    clear ba_6 bt_7 hb3
    have hws : mw ≤ 4 := by rw [← HLW.out, ← HW.out]; exact refsOut_len q s z
    have hW_11 := hS2
    clear hS2 hown2 hv2
    go_wp2_with fail
    refine (toCoordinator_s _ q _ (repCo.next hV bt_10) hsm).mono ?_
    rintro e w4 ⟨cs4, rfl, hv4, hb4⟩
    clear yba_9_0 yba_9_1
    have hz_12 := hb4.size
    have ba_13 := ba_9.next hb4
    have hW_14 := hW_11.next hb4 (fun c h => by have h1 := h.1; have h2 := h.2; omega)
    have bt_15 := below_ext bt_10 hb4
    obtain ⟨yba_13_0, yba_13_1⟩ := ba_13.cells2
    clear ba_9 hW_11 bt_10 hb4
    obtain ⟨A3, n3, c3, C3, m3, d3, rfl, hcap3, hnil3⟩ := sepCo_ord hv4
    have hX_16 := hv4
    clear hv4
    clear yba_13_0 yba_13_1
    have ebbx := below_box w4 (.cells #[.slice A3 n3 c3, .slice C3 m3 d3] 26)
    have hzb_17 : w4.heap.size < (w4.alloc (.cells #[.slice A3 n3 c3, .slice C3 m3 d3] 26)).heap.size := by simp
    have hz_18 := ebbx.size
    have ba_19 := ba_13.next ebbx
    have hW_20 := hW_14.next ebbx (fun c h => by have h1 := h.1; have h2 := h.2; omega)
    have hX_21 := RepS.next sepCo hX_16 ebbx (fun c h => by have h1 := h.1; have h2 := h.2; omega)
    have bt_22 := below_ext bt_15 ebbx
    have bx_23 := Blk.new w4 26 [.slice A3 n3 c3, .slice C3 m3 d3]
    obtain ⟨yba_19_0, yba_19_1⟩ := ba_19.cells2
    obtain ⟨ybx_23_0, ybx_23_1⟩ := bx_23.cells2
    clear ba_13 hW_14 hX_16 bt_15 ebbx
    go_wp2_with fail
    generalize hWW : w4.alloc (.cells #[.slice A3 n3 c3, .slice C3 m3 d3] 26) = w5 at *
    clear hWW
    generalize w4.heap.size = gbx at *
    refine (implRefs_any A3 n3 c3 C3 m3 d3 q s z _ (repCo.down (sepCo.reads hX_21) (Nat.zero_le _)) (by omega) (by omega) hcap3 hnil3).mono ?_
    unfold RefsTo
    rw [HW.out]
    rintro e w6 ⟨Bg, mg, dg, rfl, hown5, hb5⟩
    clear yba_19_0 yba_19_1 ybx_23_0 ybx_23_1
    have hS5 := own_sslT hown5
    obtain rfl : mg = mw := by have := hS5.1; have := HLW.out; omega
    have hz_24 := hb5.size
    have ba_25 := ba_19.next hb5
    have hW_26 := hW_20.next hb5 (fun c h => by have h1 := h.1; have h2 := h.2; omega)
    have hX_27 := RepS.next sepCo hX_21 hb5 (fun c h => by have h1 := h.1; have h2 := h.2; omega)
    have bx_28 := bx_23.next hb5
    have bt_29 := below_ext bt_22 hb5
    obtain ⟨yba_25_0, yba_25_1⟩ := ba_25.cells2
    obtain ⟨ybx_28_0, ybx_28_1⟩ := bx_28.cells2
    clear ba_19 hW_20 hX_21 bx_23 bt_22 hb5
    have hG_30 := hS5
    clear hS5 hown5
    go_wp2_with fail
    refine (eqIntS_g _ _ _ _ _ _ ws ws _ (hG_30.reads.down (Nat.zero_le _)) (hW_26.reads.down (Nat.zero_le _)) (by simp only [maxLen]; omega) (by simp only [maxLen]; omega)).mono ?_
    rw [eqI_self]
    rintro e w7 ⟨rfl, hbq⟩
    clear yba_25_0 yba_25_1 ybx_28_0 ybx_28_1
    have hz_31 := hbq.size
    have ba_32 := ba_25.next hbq
    have hW_33 := hW_26.next hbq (fun c h => by have h1 := h.1; have h2 := h.2; omega)
    have hX_34 := RepS.next sepCo hX_27 hbq (fun c h => by have h1 := h.1; have h2 := h.2; omega)
    have bx_35 := bx_28.next hbq
    have hG_36 := hG_30.next hbq (fun c h => by have h1 := h.1; have h2 := h.2; omega)
    have bt_37 := below_ext bt_29 hbq
    obtain ⟨yba_32_0, yba_32_1⟩ := ba_32.cells2
    obtain ⟨ybx_35_0, ybx_35_1⟩ := bx_35.cells2
    clear ba_25 hW_26 hX_27 bx_28 hG_30 bt_29 hbq
    go_wp2_with fail
    have HK1 := Lib.hid (fun (w' : World) (hb' : Below w7.heap.size w7 w') => (⟨⟨(ba_32.next hb').cells2.1, (ba_32.next hb').cells2.2, (bx_35.next hb').cells2.1, (bx_35.next hb').cells2.2⟩, hb'⟩ : (w'.cell? ⟨w.heap.size, 0, none⟩ = some (.slice B0 m0 d0) ∧ w'.cell? ⟨w.heap.size, 1, none⟩ = some (.slice B1 m1 d1) ∧ w'.cell? ⟨gbx, 0, none⟩ = some (.slice A3 n3 c3) ∧ w'.cell? ⟨gbx, 1, none⟩ = some (.slice C3 m3 d3)) ∧ Below w7.heap.size w7 w'))
    have HX1 := Lib.hid (show repCo.V 0 w7 _ q from repCo.down (sepCo.reads hX_34) (Nat.zero_le _))
    have HA1 := Lib.hid (repCo.next hV bt_37)
    clear yba_32_0 yba_32_1 ybx_35_0 ybx_35_1
    go_region_held3 (fun w' => (w'.cell? ⟨w.heap.size, 0, none⟩ = some (.slice B0 m0 d0) ∧ w'.cell? ⟨w.heap.size, 1, none⟩ = some (.slice B1 m1 d1) ∧ w'.cell? ⟨gbx, 0, none⟩ = some (.slice A3 n3 c3) ∧ w'.cell? ⟨gbx, 1, none⟩ = some (.slice C3 m3 d3)) ∧ Below w7.heap.size w7 w')
      (first
        | exact HK1.out _ (Below.refl _ _).drew
        | exact HK1.out _ (below_ext (And.right (by assumption)) hbr1)
        | exact HK1.out _ (below_ext (And.right (by assumption)) hbr2)
        | exact And.intro (And.left (by assumption)) (And.right (by assumption)))
      (first
        | (go_at_call 17; refine (toCoordinator_g _ q _ (repCo.next HA1.out (And.right (by assumption))) hsm).mono ?_
           rintro e wr1 ⟨csr1, rfl, hvr1, hbr1⟩)
        | (go_at_call 18; refine (eqCoordinator_g _ _ q q _ (repCo.next HX1.out (And.right (by assumption))) (repCo.down hvr1 (Nat.zero_le _))).mono ?_
           rw [eqCo_refl q]
           rintro e wr2 ⟨rfl, hbr2⟩))
    have hbR1 : Below w7.heap.size w7 wr2 := And.right (by assumption)
    clear hvr1 hbr1 hbr2
    have hz_38 := hbR1.size
    have ba_39 := ba_32.next hbR1
    have hW_40 := hW_33.next hbR1 (fun c h => by have h1 := h.1; have h2 := h.2; omega)
    have hX_41 := RepS.next sepCo hX_34 hbR1 (fun c h => by have h1 := h.1; have h2 := h.2; omega)
    have bx_42 := bx_35.next hbR1
    have hG_43 := hG_36.next hbR1 (fun c h => by have h1 := h.1; have h2 := h.2; omega)
    have bt_44 := below_ext bt_37 hbR1
    obtain ⟨yba_39_0, yba_39_1⟩ := ba_39.cells2
    obtain ⟨ybx_42_0, ybx_42_1⟩ := bx_42.cells2
    clear ba_32 hW_33 hX_34 bx_35 hG_36 bt_37 hbR1
    obtain ⟨ka, HKA⟩ : ∃ ka : Nat, Hid (ka = 1 + szCo q) := ⟨_, Lib.hid rfl⟩
    have hkan : decide ((ka : Int) < 0) = false := by simp
    go_wp2_with fail
    refine (markCoordinator_s _ _ _ q 1 _ hX_41 (fun c h => by have h1 := h.1; have h2 := h.2; omega) (by omega)).mono ?_
    rw [← HKA.out]
    rintro e w8 ⟨rfl, hX9, hO9⟩
    clear yba_39_0 yba_39_1 ybx_42_0 ybx_42_1
    have hz_45 := hO9.size
    have ba_46 := hO9.blk ba_39 (fun h => by have h1 := h.1; have h2 := h.2; omega)
    have hW_47 := hW_40.only hO9 (fun c h h' => by have h1 := h.1; have h2 := h.2; have h3 := h'.1; have h4 := h'.2; omega) (fun c h => by have h1 := h.1; have h2 := h.2; omega)
    have bx_48 := hO9.blk bx_42 (fun h => by have h1 := h.1; have h2 := h.2; omega)
    have hG_49 := hG_43.only hO9 (fun c h h' => by have h1 := h.1; have h2 := h.2; have h3 := h'.1; have h4 := h'.2; omega) (fun c h => by have h1 := h.1; have h2 := h.2; omega)
    have bt_50 := bt_44.trans (hO9.below (fun c h => Nat.le_trans (by omega : w.heap.size ≤ w3.heap.size) h.1) bt_44.size)
    clear hX_41
    have hX_51 := hX9
    obtain ⟨yba_46_0, yba_46_1⟩ := ba_46.cells2
    obtain ⟨ybx_48_0, ybx_48_1⟩ := bx_48.cells2
    clear ba_39 hW_40 bx_42 hG_43 bt_44 hO9 hX9
    go_wp2_with fail
    refine (eqIntS_g _ _ _ _ _ _ ws ws _ (hG_49.reads.down (Nat.zero_le _)) (hW_47.reads.down (Nat.zero_le _)) (by simp only [maxLen]; omega) (by simp only [maxLen]; omega)).mono ?_
    rw [eqI_self]
    rintro e w9 ⟨rfl, hbq⟩
    clear yba_46_0 yba_46_1 ybx_48_0 ybx_48_1
    have hz_52 := hbq.size
    have ba_53 := ba_46.next hbq
    have hW_54 := hW_47.next hbq (fun c h => by have h1 := h.1; have h2 := h.2; omega)
    have hX_55 := RepS.next sepCo hX_51 hbq (fun c h => by have h1 := h.1; have h2 := h.2; omega)
    have bx_56 := bx_48.next hbq
    have hG_57 := hG_49.next hbq (fun c h => by have h1 := h.1; have h2 := h.2; omega)
    have bt_58 := below_ext bt_50 hbq
    obtain ⟨yba_53_0, yba_53_1⟩ := ba_53.cells2
    obtain ⟨ybx_56_0, ybx_56_1⟩ := bx_56.cells2
    clear ba_46 hW_47 hX_51 bx_48 hG_49 bt_50 hbq
    have hlen := szL_I ws
    obtain ⟨kb, HKB⟩ : ∃ kb : Nat, Hid (kb = 1 + szL szI1 ws) := ⟨_, Lib.hid rfl⟩
    have hkbn : decide ((kb : Int) < 0) = false := by simp
    have hkbe : ((kb : Int) != (kb : Int)) = false := by simp
    have hlen2 : szL szI1 ws ≤ 4 := by have := HLW.out; omega
    clear hlen
    go_wp2_with fail
    refine (markIntS_t _ _ _ _ _ _ ws 1 _ hG_57 (fun c h => by have h1 := h.1; have h2 := h.2; omega) (by omega)).mono ?_
    rw [← HKB.out]
    rintro e w10 ⟨rfl, hG9, hP9⟩
    clear yba_53_0 yba_53_1 ybx_56_0 ybx_56_1
    have hz_59 := hP9.size
    have ba_60 := hP9.blk ba_53 (fun h => by have h1 := h.1; have h2 := h.2; omega)
    have hW_61 := hW_54.only hP9 (fun c h h' => by have h1 := h.1; have h2 := h.2; have h3 := h'.1; have h4 := h'.2; omega) (fun c h => by have h1 := h.1; have h2 := h.2; omega)
    have hX_62 := RepS.only sepCo hX_55 hP9 (fun c h h' => by have h1 := h.1; have h2 := h.2; have h3 := h'.1; have h4 := h'.2; omega) (fun c h => by have h1 := h.1; have h2 := h.2; omega)
    have bx_63 := hP9.blk bx_56 (fun h => by have h1 := h.1; have h2 := h.2; omega)
    have bt_64 := bt_58.trans (hP9.below (fun c h => Nat.le_trans (by omega : w.heap.size ≤ w5.heap.size) h.1) bt_58.size)
    clear hG_57
    have hG_65 := hG9
    obtain ⟨yba_60_0, yba_60_1⟩ := ba_60.cells2
    obtain ⟨ybx_63_0, ybx_63_1⟩ := bx_63.cells2
    clear ba_53 hW_54 hX_55 bx_56 bt_58 hP9 hG9
    go_wp2_with fail
    refine (heldIntS_s _ _ _ ws 1 _ (hG_65.reads.down (Nat.zero_le _)) (by simp only [maxLen]; omega) (by omega)).mono ?_
    rw [← HKB.out]
    rintro e w11 ⟨rfl, hbh⟩
    clear yba_60_0 yba_60_1 ybx_63_0 ybx_63_1
    have hz_66 := hbh.size
    have ba_67 := ba_60.next hbh
    have hW_68 := hW_61.next hbh (fun c h => by have h1 := h.1; have h2 := h.2; omega)
    have hX_69 := RepS.next sepCo hX_62 hbh (fun c h => by have h1 := h.1; have h2 := h.2; omega)
    have bx_70 := bx_63.next hbh
    have hG_71 := hG_65.next hbh (fun c h => by have h1 := h.1; have h2 := h.2; omega)
    have bt_72 := below_ext bt_64 hbh
    obtain ⟨yba_67_0, yba_67_1⟩ := ba_67.cells2
    obtain ⟨ybx_70_0, ybx_70_1⟩ := bx_70.cells2
    clear ba_60 hW_61 hX_62 bx_63 hG_65 bt_64 hbh
    go_wp2_with fail
    refine (toCoordinator_s _ q _ (repCo.next hV bt_72) hsm).mono ?_
    rintro e w12 ⟨cs12, rfl, hv12, hb12⟩
    clear yba_67_0 yba_67_1 ybx_70_0 ybx_70_1
    obtain ⟨A6, n6, c6, C6, m6, d6, rfl, hcap6, hnil6⟩ := sepCo_ord hv12
    have hz_73 := hb12.size
    have ba_74 := ba_67.next hb12
    have hW_75 := hW_68.next hb12 (fun c h => by have h1 := h.1; have h2 := h.2; omega)
    have hX_76 := RepS.next sepCo hX_69 hb12 (fun c h => by have h1 := h.1; have h2 := h.2; omega)
    have bx_77 := bx_70.next hb12
    have hG_78 := hG_71.next hb12 (fun c h => by have h1 := h.1; have h2 := h.2; omega)
    have bt_79 := below_ext bt_72 hb12
    obtain ⟨yba_74_0, yba_74_1⟩ := ba_74.cells2
    obtain ⟨ybx_77_0, ybx_77_1⟩ := bx_77.cells2
    clear ba_67 hW_68 hX_69 bx_70 hG_71 bt_72 hb12
    go_wp2_with fail
    refine (implRefs_any A6 n6 c6 C6 m6 d6 q s z _ (repCo.down (sepCo.reads hv12) (Nat.zero_le _)) (by omega) (by omega) hcap6 hnil6).mono ?_
    unfold RefsTo
    rw [HW.out]
    rintro e w13 ⟨Bh, mh, dh, rfl, hown13, hb13⟩
    clear yba_74_0 yba_74_1 ybx_77_0 ybx_77_1
    have hS13 := own_sslT hown13
    obtain rfl : mh = mg := by have := hS13.1; have := HLW.out; omega
    have hz_80 := hb13.size
    have ba_81 := ba_74.next hb13
    have hW_82 := hW_75.next hb13 (fun c h => by have h1 := h.1; have h2 := h.2; omega)
    have hX_83 := RepS.next sepCo hX_76 hb13 (fun c h => by have h1 := h.1; have h2 := h.2; omega)
    have bx_84 := bx_77.next hb13
    have hG_85 := hG_78.next hb13 (fun c h => by have h1 := h.1; have h2 := h.2; omega)
    have bt_86 := below_ext bt_79 hb13
    obtain ⟨yba_81_0, yba_81_1⟩ := ba_81.cells2
    obtain ⟨ybx_84_0, ybx_84_1⟩ := bx_84.cells2
    clear ba_74 hW_75 hX_76 bx_77 hG_78 bt_79 hb13
    have hH_87 := hS13
    clear hS13 hown13 hv12
    go_wp2_with fail
    refine (eqIntS_g _ _ _ _ _ _ ws ws _ (hH_87.reads.down (Nat.zero_le _)) (hW_82.reads.down (Nat.zero_le _)) (by simp only [maxLen]; omega) (by simp only [maxLen]; omega)).mono ?_
    rw [eqI_self]
    rintro e w14 ⟨rfl, hbq⟩
    clear yba_81_0 yba_81_1 ybx_84_0 ybx_84_1
    have hz_88 := hbq.size
    have ba_89 := ba_81.next hbq
    have hW_90 := hW_82.next hbq (fun c h => by have h1 := h.1; have h2 := h.2; omega)
    have hX_91 := RepS.next sepCo hX_83 hbq (fun c h => by have h1 := h.1; have h2 := h.2; omega)
    have bx_92 := bx_84.next hbq
    have hG_93 := hG_85.next hbq (fun c h => by have h1 := h.1; have h2 := h.2; omega)
    have hH_94 := hH_87.next hbq (fun c h => by have h1 := h.1; have h2 := h.2; omega)
    have bt_95 := below_ext bt_86 hbq
    obtain ⟨yba_89_0, yba_89_1⟩ := ba_89.cells2
    obtain ⟨ybx_92_0, ybx_92_1⟩ := bx_92.cells2
    clear ba_81 hW_82 hX_83 bx_84 hG_85 hH_87 bt_86 hbq
    go_wp2_with fail
    refine (heldIntS_s _ _ _ ws 1 _ (hG_93.reads.down (Nat.zero_le _)) (by simp only [maxLen]; omega) (by omega)).mono ?_
    rw [← HKB.out]
    rintro e w15 ⟨rfl, hbh⟩
    clear yba_89_0 yba_89_1 ybx_92_0 ybx_92_1
    have hz_96 := hbh.size
    have ba_97 := ba_89.next hbh
    have hW_98 := hW_90.next hbh (fun c h => by have h1 := h.1; have h2 := h.2; omega)
    have hX_99 := RepS.next sepCo hX_91 hbh (fun c h => by have h1 := h.1; have h2 := h.2; omega)
    have bx_100 := bx_92.next hbh
    have hG_101 := hG_93.next hbh (fun c h => by have h1 := h.1; have h2 := h.2; omega)
    have hH_102 := hH_94.next hbh (fun c h => by have h1 := h.1; have h2 := h.2; omega)
    have bt_103 := below_ext bt_95 hbh
    obtain ⟨yba_97_0, yba_97_1⟩ := ba_97.cells2
    obtain ⟨ybx_100_0, ybx_100_1⟩ := bx_100.cells2
    clear ba_89 hW_90 hX_91 bx_92 hG_93 hH_94 bt_95 hbh
    go_wp2_with fail
    go_ret
    exact ⟨rfl, bt_103⟩
end Go.Proofs.Ytlmcejpjhdaanaa
