/- The law FnExactQuarantineDiscard, walked: for every argument it answers true. -/
import Derived.Test.YtjofgbbofagoiaaToQ
import Derived.Test.YtjofgbbofagoiaaQuDiscI
import Derived.Deep.RegionHeld3
namespace Go.Proofs.Ytjofgbbofagoiaa
open Go.RowKit Go.Sort

theorem szObs_small {os : List Ob} (h : smallO os) : szL szOb os ≤ 1200000000000 := by
  have h1 := szL_le (sz := szOb) (xs := os) (M := 1048580) fun o ho => by
    have := (h.2 o ho).1
    have a := szL_I o.xs
    unfold szOb
    omega
  have h2 := h.1
  omega
theorem szQu_small {q : Qu} (h : smallQu q) : szQu q ≤ 8000000000000000000 := by
  obtain ⟨h1, h2, h3⟩ := h
  have h4 := szL_le (sz := szAr) (xs := q.ars) (M := 1200000000001) fun a ha => by
    have := szObs_small (h3 a ha)
    unfold szAr
    omega
  have h5 := szObs_small h1
  unfold szQu
  omega
theorem szL_drop (t : Int) : ∀ ars : List Ar, szL szAr (dropT ars t) ≤ szL szAr ars
  | [] => Nat.le_refl _
  | a :: l => by
    have ih := szL_drop t l
    unfold dropT at ih ⊢
    rw [List.filter_cons]
    split
    · simp only [szL]
      omega
    · simp only [szL]
      omega
theorem szQu_disc {q qo : Qu} {t : Int} {b : Bool} (h : qdiscQ q t = (qo, b)) (hq : smallQu q) : szQu qo ≤ 8500000000000000000 := by
  have h1 := szQu_small hq
  by_cases hqt : quarB q = true ∧ txnB t = true
  · rw [qdisc_eq hqt.1 hqt.2] at h
    injection h with e _
    subst e
    have := szL_drop t q.ars
    unfold szQu at h1 ⊢
    show szL szOb q.main + szL szAr (dropT q.ars t) ≤ _
    omega
  · unfold qdiscQ at h
    rw [if_neg (by simpa using hqt)] at h
    injection h with e _
    subst e
    simp [szQu, noQu, szL]
set_option maxRecDepth 100000 in
set_option maxHeartbeats 6400000 in
theorem FnExactQuarantineDiscard_walk (cs : List Value) (q : Qu) (z : Int) (w : World) (hv : repQu.V 0 w cs q) (_hz0 : -9223372036854775808 ≤ z) (_hz1 : z ≤ 9223372036854775807) :
    Calls Try.prog 8 #[.agg cs.toArray, .int .i64 z] w fun e w' => e = .returned (.bool true) ∧ Below w.heap.size w w' := by
  have hV := hv
  obtain ⟨B0, m0, d0, B1, m1, d1, rfl, hr0, hm0, hr1, hm1⟩ := repQu_cells hv
  clear hr0 hr1
  have hm00 := hm0
  have hm10 := hm1
  unfold maxLen at hm00 hm10
  have b0 := below_box w (.cells #[.slice B0 m0 d0, .slice B1 m1 d1] 42)
  have hzb0 : w.heap.size < (w.alloc (.cells #[.slice B0 m0 d0, .slice B1 m1 d1] 42)).heap.size := by simp
  have ba_1 := Blk.new w 42 [.slice B0 m0 d0, .slice B1 m1 d1]
  obtain ⟨yba_1_0, yba_1_1⟩ := ba_1.cells2
  go_enter Try.func8, Try.ntmps8
  go_wp2_with fail
  refine (szQuarantine_g _ q _ _ (repQu.next hV b0) (by omega) (by omega)).mono ?_
  rintro e w1 ⟨⟨vz, rfl, r, rfl, hs⟩, hb1⟩
  clear yba_1_0 yba_1_1
  have hz_2 := hb1.size
  have ba_3 := ba_1.next hb1
  have bt_4 := below_ext b0 hb1
  obtain ⟨yba_3_0, yba_3_1⟩ := ba_3.cells2
  clear ba_1 hb1
  rcases hs with hs | ⟨hs0, hsl, hsm⟩
  · skip
    go_wp2_with fail
    go_ret
    exact ⟨rfl, bt_4⟩
  · have hs0b : decide (r < 0) = false := decide_eq_false (by omega)
    have hszq := szQu_small hsm
    obtain ⟨qo, bo, HR⟩ : ∃ qo bo, Hid (qdiscQ q z = (qo, bo)) := ⟨_, _, Lib.hid rfl⟩
    have hszo := szQu_disc HR.out hsm
    go_wp2_with fail
    refine (toQuarantine_g _ q _ (repQu.next hV bt_4) hsm).mono ?_
    rintro e w2 ⟨cs2, rfl, hv2, hb3⟩
    clear yba_3_0 yba_3_1
    have hz_5 := hb3.size
    have ba_6 := ba_3.next hb3
    have bt_7 := below_ext bt_4 hb3
    obtain ⟨yba_6_0, yba_6_1⟩ := ba_6.cells2
    clear ba_3 bt_4 hb3
    go_wp2_with fail
    refine (specQuarantineDiscard_any _ q z _ (repQu.down hv2 (Nat.zero_le _))).mono ?_
    unfold QPutTo
    rw [HR.out]
    rintro e w3 ⟨csW, rfl, hSW, hb5⟩
    clear yba_6_0 yba_6_1
    simp only at hSW
    have hz_8 := hb5.size
    have ba_9 := ba_6.next hb5
    have bt_10 := below_ext bt_7 hb5
    obtain ⟨yba_9_0, yba_9_1⟩ := ba_9.cells2
    clear ba_6 bt_7 hb5
    obtain ⟨A4, n4, c4, C4, m4, d4, rfl, -, -⟩ := id hSW
    have HW0 := hSW
    clear hSW hv2
    clear yba_9_0 yba_9_1
    have ebbw := below_box w3 (.cells #[.slice A4 n4 c4, .slice C4 m4 d4] 26)
    have hzb_12 : w3.heap.size < (w3.alloc (.cells #[.slice A4 n4 c4, .slice C4 m4 d4] 26)).heap.size := by simp
    have hz_13 := ebbw.size
    have ba_14 := ba_9.next ebbw
    have HWD := (HW0.next ebbw).rep0
    have hW_15 := Below.refl (w3.alloc (.cells #[.slice A4 n4 c4, .slice C4 m4 d4] 26)).heap.size (w3.alloc (.cells #[.slice A4 n4 c4, .slice C4 m4 d4] 26))
    have bt_16 := below_ext bt_10 ebbw
    have bw_17 := Blk.new w3 26 [.slice A4 n4 c4, .slice C4 m4 d4]
    obtain ⟨yba_14_0, yba_14_1⟩ := ba_14.cells2
    obtain ⟨ybw_17_0, ybw_17_1⟩ := bw_17.cells2
    clear ba_9 HW0 bt_10 ebbw
    go_wp2_with fail
    generalize hWW : w3.alloc (.cells #[.slice A4 n4 c4, .slice C4 m4 d4] 26) = w4 at *
    clear hWW
    generalize w3.heap.size = gbw at *
    refine (toQuarantine_s _ q _ (repQu.next hV bt_16) hsm).mono ?_
    rintro e w5 ⟨cs4, rfl, hv4, hb6⟩
    clear yba_14_0 yba_14_1 ybw_17_0 ybw_17_1
    have hz_18 := hb6.size
    have ba_19 := ba_14.next hb6
    have hW_20 := below_ext hW_15 hb6
    have bw_21 := bw_17.next hb6
    have bt_22 := below_ext bt_16 hb6
    obtain ⟨yba_19_0, yba_19_1⟩ := ba_19.cells2
    obtain ⟨ybw_21_0, ybw_21_1⟩ := bw_21.cells2
    clear ba_14 hW_15 bw_17 bt_16 hb6
    obtain ⟨A3, n3, c3, C3, m3, d3, _, _, rfl, -⟩ := sepQu_cells hv4
    have hX_23 := hv4
    clear hv4
    clear yba_19_0 yba_19_1 ybw_21_0 ybw_21_1
    have ebbx := below_box w5 (.cells #[.slice A3 n3 c3, .slice C3 m3 d3] 26)
    have hzb_24 : w5.heap.size < (w5.alloc (.cells #[.slice A3 n3 c3, .slice C3 m3 d3] 26)).heap.size := by simp
    have hz_25 := ebbx.size
    have ba_26 := ba_19.next ebbx
    have hW_27 := below_ext hW_20 ebbx
    have bw_28 := bw_21.next ebbx
    have hX_29 := RepS.next sepQu hX_23 ebbx (fun c h => by have h1 := h.1; have h2 := h.2; omega)
    have bt_30 := below_ext bt_22 ebbx
    have bx_31 := Blk.new w5 26 [.slice A3 n3 c3, .slice C3 m3 d3]
    obtain ⟨yba_26_0, yba_26_1⟩ := ba_26.cells2
    obtain ⟨ybw_28_0, ybw_28_1⟩ := bw_28.cells2
    obtain ⟨ybx_31_0, ybx_31_1⟩ := bx_31.cells2
    clear ba_19 hW_20 bw_21 hX_23 bt_22 ebbx
    go_wp2_with fail
    generalize hWW : w5.alloc (.cells #[.slice A3 n3 c3, .slice C3 m3 d3] 26) = w6 at *
    clear hWW
    generalize w5.heap.size = gbx at *
    refine (implQuarantineDiscard_any _ q z _ (repQu.down (sepQu.reads hX_29) (Nat.zero_le _))).mono ?_
    unfold QSep
    rw [HR.out]
    rintro e w7 ⟨csG, rfl, hSG, hb8⟩
    clear yba_26_0 yba_26_1 ybw_28_0 ybw_28_1 ybx_31_0 ybx_31_1
    simp only at hSG
    have hz_32 := hb8.size
    have ba_33 := ba_26.next hb8
    have hW_34 := below_ext hW_27 hb8
    have bw_35 := bw_28.next hb8
    have hX_36 := RepS.next sepQu hX_29 hb8 (fun c h => by have h1 := h.1; have h2 := h.2; omega)
    have bx_37 := bx_31.next hb8
    have bt_38 := below_ext bt_30 hb8
    obtain ⟨yba_33_0, yba_33_1⟩ := ba_33.cells2
    obtain ⟨ybw_35_0, ybw_35_1⟩ := bw_35.cells2
    obtain ⟨ybx_37_0, ybx_37_1⟩ := bx_37.cells2
    clear ba_26 hW_27 bw_28 hX_29 bx_31 bt_30 hb8
    obtain ⟨A5, n5, c5, C5, m5, d5, _, _, rfl, -⟩ := sepQu_cells hSG
    have hG_39 := hSG
    clear hSG
    clear yba_33_0 yba_33_1 ybw_35_0 ybw_35_1 ybx_37_0 ybx_37_1
    have ebbg := below_box w7 (.cells #[.slice A5 n5 c5, .slice C5 m5 d5] 26)
    have hzb_40 : w7.heap.size < (w7.alloc (.cells #[.slice A5 n5 c5, .slice C5 m5 d5] 26)).heap.size := by simp
    have hz_41 := ebbg.size
    have ba_42 := ba_33.next ebbg
    have hW_43 := below_ext hW_34 ebbg
    have bw_44 := bw_35.next ebbg
    have hX_45 := RepS.next sepQu hX_36 ebbg (fun c h => by have h1 := h.1; have h2 := h.2; omega)
    have bx_46 := bx_37.next ebbg
    have hG_47 := RepS.next sepQu hG_39 ebbg (fun c h => by have h1 := h.1; have h2 := h.2; omega)
    have bt_48 := below_ext bt_38 ebbg
    have bg_49 := Blk.new w7 26 [.slice A5 n5 c5, .slice C5 m5 d5]
    obtain ⟨yba_42_0, yba_42_1⟩ := ba_42.cells2
    obtain ⟨ybw_44_0, ybw_44_1⟩ := bw_44.cells2
    obtain ⟨ybx_46_0, ybx_46_1⟩ := bx_46.cells2
    obtain ⟨ybg_49_0, ybg_49_1⟩ := bg_49.cells2
    clear ba_33 hW_34 bw_35 hX_36 bx_37 hG_39 bt_38 ebbg
    have hbne : (bo != bo) = false := by simp
    go_wp2_with fail
    generalize hWW : w7.alloc (.cells #[.slice A5 n5 c5, .slice C5 m5 d5] 26) = w8 at *
    clear hWW
    generalize w7.heap.size = gbg at *
    refine (eqQuarantine_g _ _ qo qo _ (repQu.down (sepQu.reads hG_47) (Nat.zero_le _)) (repQu.next HWD hW_43)).mono ?_
    rw [eqQu_refl]
    rintro e w9 ⟨rfl, hbq⟩
    clear yba_42_0 yba_42_1 ybw_44_0 ybw_44_1 ybx_46_0 ybx_46_1 ybg_49_0 ybg_49_1
    have hz_50 := hbq.size
    have ba_51 := ba_42.next hbq
    have hW_52 := below_ext hW_43 hbq
    have bw_53 := bw_44.next hbq
    have hX_54 := RepS.next sepQu hX_45 hbq (fun c h => by have h1 := h.1; have h2 := h.2; omega)
    have bx_55 := bx_46.next hbq
    have hG_56 := RepS.next sepQu hG_47 hbq (fun c h => by have h1 := h.1; have h2 := h.2; omega)
    have bg_57 := bg_49.next hbq
    have bt_58 := below_ext bt_48 hbq
    obtain ⟨yba_51_0, yba_51_1⟩ := ba_51.cells2
    obtain ⟨ybw_53_0, ybw_53_1⟩ := bw_53.cells2
    obtain ⟨ybx_55_0, ybx_55_1⟩ := bx_55.cells2
    obtain ⟨ybg_57_0, ybg_57_1⟩ := bg_57.cells2
    clear ba_42 hW_43 bw_44 hX_45 bx_46 hG_47 bg_49 bt_48 hbq
    go_wp2_with fail
    have HK1 := Lib.hid (fun (w' : World) (hb' : Below w9.heap.size w9 w') => (⟨⟨(ba_51.next hb').cells2.1, (ba_51.next hb').cells2.2, (bx_55.next hb').cells2.1, (bx_55.next hb').cells2.2⟩, hb'⟩ : (w'.cell? ⟨w.heap.size, 0, none⟩ = some (.slice B0 m0 d0) ∧ w'.cell? ⟨w.heap.size, 1, none⟩ = some (.slice B1 m1 d1) ∧ w'.cell? ⟨gbx, 0, none⟩ = some (.slice A3 n3 c3) ∧ w'.cell? ⟨gbx, 1, none⟩ = some (.slice C3 m3 d3)) ∧ Below w9.heap.size w9 w'))
    have HX1 := Lib.hid (show repQu.V 0 w9 _ q from repQu.down (sepQu.reads hX_54) (Nat.zero_le _))
    have HA1 := Lib.hid (repQu.next hV bt_58)
    clear yba_51_0 yba_51_1 ybw_53_0 ybw_53_1 ybx_55_0 ybx_55_1 ybg_57_0 ybg_57_1
    go_region_held3 (fun w' => (w'.cell? ⟨w.heap.size, 0, none⟩ = some (.slice B0 m0 d0) ∧ w'.cell? ⟨w.heap.size, 1, none⟩ = some (.slice B1 m1 d1) ∧ w'.cell? ⟨gbx, 0, none⟩ = some (.slice A3 n3 c3) ∧ w'.cell? ⟨gbx, 1, none⟩ = some (.slice C3 m3 d3)) ∧ Below w9.heap.size w9 w')
      (first
        | exact HK1.out _ (Below.refl _ _).drew
        | exact HK1.out _ (below_ext (And.right (by assumption)) hbr1)
        | exact HK1.out _ (below_ext (And.right (by assumption)) hbr2)
        | exact And.intro (And.left (by assumption)) (And.right (by assumption)))
      (first
        | (go_at_call 19; refine (toQuarantine_g _ q _ (repQu.next HA1.out (And.right (by assumption))) hsm).mono ?_
           rintro e wr1 ⟨csr1, rfl, hvr1, hbr1⟩)
        | (go_at_call 21; refine (eqQuarantine_g _ _ q q _ (repQu.next HX1.out (And.right (by assumption))) (repQu.down hvr1 (Nat.zero_le _))).mono ?_
           rw [eqQu_refl q]
           rintro e wr2 ⟨rfl, hbr2⟩))
    have hbR1 : Below w9.heap.size w9 wr2 := And.right (by assumption)
    clear hvr1 hbr1 hbr2
    have hz_59 := hbR1.size
    have ba_60 := ba_51.next hbR1
    have hW_61 := below_ext hW_52 hbR1
    have bw_62 := bw_53.next hbR1
    have hX_63 := RepS.next sepQu hX_54 hbR1 (fun c h => by have h1 := h.1; have h2 := h.2; omega)
    have bx_64 := bx_55.next hbR1
    have hG_65 := RepS.next sepQu hG_56 hbR1 (fun c h => by have h1 := h.1; have h2 := h.2; omega)
    have bg_66 := bg_57.next hbR1
    have bt_67 := below_ext bt_58 hbR1
    obtain ⟨yba_60_0, yba_60_1⟩ := ba_60.cells2
    obtain ⟨ybw_62_0, ybw_62_1⟩ := bw_62.cells2
    obtain ⟨ybx_64_0, ybx_64_1⟩ := bx_64.cells2
    obtain ⟨ybg_66_0, ybg_66_1⟩ := bg_66.cells2
    clear ba_51 hW_52 bw_53 hX_54 bx_55 hG_56 bg_57 bt_58 hbR1
    obtain ⟨ka, HKA⟩ : ∃ ka : Nat, Hid (ka = 1 + szQu q) := ⟨_, Lib.hid rfl⟩
    have hkan : decide ((ka : Int) < 0) = false := by simp
    go_wp2_with fail
    refine (markQuarantine_s _ _ _ q 1 _ hX_63 (fun c h => by have h1 := h.1; have h2 := h.2; omega) (by omega)).mono ?_
    rw [← HKA.out]
    rintro e w10 ⟨rfl, hX9, hO9⟩
    clear yba_60_0 yba_60_1 ybw_62_0 ybw_62_1 ybx_64_0 ybx_64_1 ybg_66_0 ybg_66_1
    have hz_68 := hO9.size
    have ba_69 := hO9.blk ba_60 (fun h => by have h1 := h.1; have h2 := h.2; omega)
    have hW_70 := hW_61.trans (hO9.below (fun c h => Nat.le_trans (by omega : w4.heap.size ≤ w4.heap.size) h.1) hW_61.size)
    have bw_71 := hO9.blk bw_62 (fun h => by have h1 := h.1; have h2 := h.2; omega)
    have bx_72 := hO9.blk bx_64 (fun h => by have h1 := h.1; have h2 := h.2; omega)
    have hG_73 := RepS.only sepQu hG_65 hO9 (fun c h h' => by have h1 := h.1; have h2 := h.2; have h3 := h'.1; have h4 := h'.2; omega) (fun c h => by have h1 := h.1; have h2 := h.2; omega)
    have bg_74 := hO9.blk bg_66 (fun h => by have h1 := h.1; have h2 := h.2; omega)
    have bt_75 := bt_67.trans (hO9.below (fun c h => Nat.le_trans (by omega : w.heap.size ≤ w4.heap.size) h.1) bt_67.size)
    clear hX_63
    have hX_76 := hX9
    obtain ⟨yba_69_0, yba_69_1⟩ := ba_69.cells2
    obtain ⟨ybw_71_0, ybw_71_1⟩ := bw_71.cells2
    obtain ⟨ybx_72_0, ybx_72_1⟩ := bx_72.cells2
    obtain ⟨ybg_74_0, ybg_74_1⟩ := bg_74.cells2
    clear ba_60 hW_61 bw_62 bx_64 hG_65 bg_66 bt_67 hO9 hX9
    go_wp2_with fail
    refine (eqQuarantine_g _ _ qo qo _ (repQu.down (sepQu.reads hG_73) (Nat.zero_le _)) (repQu.next HWD hW_70)).mono ?_
    rw [eqQu_refl]
    rintro e w11 ⟨rfl, hbq⟩
    clear yba_69_0 yba_69_1 ybw_71_0 ybw_71_1 ybx_72_0 ybx_72_1 ybg_74_0 ybg_74_1
    have hz_77 := hbq.size
    have ba_78 := ba_69.next hbq
    have hW_79 := below_ext hW_70 hbq
    have bw_80 := bw_71.next hbq
    have hX_81 := RepS.next sepQu hX_76 hbq (fun c h => by have h1 := h.1; have h2 := h.2; omega)
    have bx_82 := bx_72.next hbq
    have hG_83 := RepS.next sepQu hG_73 hbq (fun c h => by have h1 := h.1; have h2 := h.2; omega)
    have bg_84 := bg_74.next hbq
    have bt_85 := below_ext bt_75 hbq
    obtain ⟨yba_78_0, yba_78_1⟩ := ba_78.cells2
    obtain ⟨ybw_80_0, ybw_80_1⟩ := bw_80.cells2
    obtain ⟨ybx_82_0, ybx_82_1⟩ := bx_82.cells2
    obtain ⟨ybg_84_0, ybg_84_1⟩ := bg_84.cells2
    clear ba_69 hW_70 bw_71 hX_76 bx_72 hG_73 bg_74 bt_75 hbq
    obtain ⟨kb, HKB⟩ : ∃ kb : Nat, Hid (kb = 1 + szQu qo) := ⟨_, Lib.hid rfl⟩
    have hkbn : decide ((kb : Int) < 0) = false := by simp
    have hkbe : ((kb : Int) != (kb : Int)) = false := by simp
    go_wp2_with fail
    refine (markQuarantine_s _ _ _ qo 1 _ hG_83 (fun c h => by have h1 := h.1; have h2 := h.2; omega) (by omega)).mono ?_
    rw [← HKB.out]
    rintro e w12 ⟨rfl, hG9, hP9⟩
    clear yba_78_0 yba_78_1 ybw_80_0 ybw_80_1 ybx_82_0 ybx_82_1 ybg_84_0 ybg_84_1
    have hz_86 := hP9.size
    have ba_87 := hP9.blk ba_78 (fun h => by have h1 := h.1; have h2 := h.2; omega)
    have hW_88 := hW_79.trans (hP9.below (fun c h => Nat.le_trans (by omega : w4.heap.size ≤ w6.heap.size) h.1) hW_79.size)
    have bw_89 := hP9.blk bw_80 (fun h => by have h1 := h.1; have h2 := h.2; omega)
    have hX_90 := RepS.only sepQu hX_81 hP9 (fun c h h' => by have h1 := h.1; have h2 := h.2; have h3 := h'.1; have h4 := h'.2; omega) (fun c h => by have h1 := h.1; have h2 := h.2; omega)
    have bx_91 := hP9.blk bx_82 (fun h => by have h1 := h.1; have h2 := h.2; omega)
    have bg_92 := hP9.blk bg_84 (fun h => by have h1 := h.1; have h2 := h.2; omega)
    have bt_93 := bt_85.trans (hP9.below (fun c h => Nat.le_trans (by omega : w.heap.size ≤ w6.heap.size) h.1) bt_85.size)
    clear hG_83
    have hG_94 := hG9
    obtain ⟨yba_87_0, yba_87_1⟩ := ba_87.cells2
    obtain ⟨ybw_89_0, ybw_89_1⟩ := bw_89.cells2
    obtain ⟨ybx_91_0, ybx_91_1⟩ := bx_91.cells2
    obtain ⟨ybg_92_0, ybg_92_1⟩ := bg_92.cells2
    clear ba_78 hW_79 bw_80 hX_81 bx_82 bg_84 bt_85 hP9 hG9
    go_wp2_with fail
    refine (heldQuarantine_s _ qo 1 _ (repQu.down (sepQu.reads hG_94) (Nat.zero_le _)) (by omega)).mono ?_
    rw [← HKB.out]
    rintro e w13 ⟨rfl, hbh⟩
    clear yba_87_0 yba_87_1 ybw_89_0 ybw_89_1 ybx_91_0 ybx_91_1 ybg_92_0 ybg_92_1
    have hz_95 := hbh.size
    have ba_96 := ba_87.next hbh
    have hW_97 := below_ext hW_88 hbh
    have bw_98 := bw_89.next hbh
    have hX_99 := RepS.next sepQu hX_90 hbh (fun c h => by have h1 := h.1; have h2 := h.2; omega)
    have bx_100 := bx_91.next hbh
    have hG_101 := RepS.next sepQu hG_94 hbh (fun c h => by have h1 := h.1; have h2 := h.2; omega)
    have bg_102 := bg_92.next hbh
    have bt_103 := below_ext bt_93 hbh
    obtain ⟨yba_96_0, yba_96_1⟩ := ba_96.cells2
    obtain ⟨ybw_98_0, ybw_98_1⟩ := bw_98.cells2
    obtain ⟨ybx_100_0, ybx_100_1⟩ := bx_100.cells2
    obtain ⟨ybg_102_0, ybg_102_1⟩ := bg_102.cells2
    clear ba_87 hW_88 bw_89 hX_90 bx_91 hG_94 bg_92 bt_93 hbh
    go_wp2_with fail
    refine (toQuarantine_g _ q _ (repQu.next hV bt_103) hsm).mono ?_
    rintro e w14 ⟨cs12, rfl, hv12, hb12⟩
    clear yba_96_0 yba_96_1 ybw_98_0 ybw_98_1 ybx_100_0 ybx_100_1 ybg_102_0 ybg_102_1
    have hz_104 := hb12.size
    have ba_105 := ba_96.next hb12
    have hW_106 := below_ext hW_97 hb12
    have bw_107 := bw_98.next hb12
    have hX_108 := RepS.next sepQu hX_99 hb12 (fun c h => by have h1 := h.1; have h2 := h.2; omega)
    have bx_109 := bx_100.next hb12
    have hG_110 := RepS.next sepQu hG_101 hb12 (fun c h => by have h1 := h.1; have h2 := h.2; omega)
    have bg_111 := bg_102.next hb12
    have bt_112 := below_ext bt_103 hb12
    obtain ⟨yba_105_0, yba_105_1⟩ := ba_105.cells2
    obtain ⟨ybw_107_0, ybw_107_1⟩ := bw_107.cells2
    obtain ⟨ybx_109_0, ybx_109_1⟩ := bx_109.cells2
    obtain ⟨ybg_111_0, ybg_111_1⟩ := bg_111.cells2
    clear ba_96 hW_97 bw_98 hX_99 bx_100 hG_101 bg_102 bt_103 hb12
    go_wp2_with fail
    refine (implQuarantineDiscard_any _ q z _ (repQu.down hv12 (Nat.zero_le _))).mono ?_
    unfold QSep
    rw [HR.out]
    rintro e w15 ⟨csH, rfl, hSH, hb14⟩
    clear yba_105_0 yba_105_1 ybw_107_0 ybw_107_1 ybx_109_0 ybx_109_1 ybg_111_0 ybg_111_1
    simp only at hSH
    have hz_113 := hb14.size
    have ba_114 := ba_105.next hb14
    have hW_115 := below_ext hW_106 hb14
    have bw_116 := bw_107.next hb14
    have hX_117 := RepS.next sepQu hX_108 hb14 (fun c h => by have h1 := h.1; have h2 := h.2; omega)
    have bx_118 := bx_109.next hb14
    have hG_119 := RepS.next sepQu hG_110 hb14 (fun c h => by have h1 := h.1; have h2 := h.2; omega)
    have bg_120 := bg_111.next hb14
    have bt_121 := below_ext bt_112 hb14
    obtain ⟨yba_114_0, yba_114_1⟩ := ba_114.cells2
    obtain ⟨ybw_116_0, ybw_116_1⟩ := bw_116.cells2
    obtain ⟨ybx_118_0, ybx_118_1⟩ := bx_118.cells2
    obtain ⟨ybg_120_0, ybg_120_1⟩ := bg_120.cells2
    clear ba_105 hW_106 bw_107 hX_108 bx_109 hG_110 bg_111 bt_112 hb14
    obtain ⟨A6, n6, c6, C6, m6, d6, _, _, rfl, -⟩ := sepQu_cells hSH
    have hH_122 := hSH
    clear hSH hv12
    clear yba_114_0 yba_114_1 ybw_116_0 ybw_116_1 ybx_118_0 ybx_118_1 ybg_120_0 ybg_120_1
    have ebbh := below_box w15 (.cells #[.slice A6 n6 c6, .slice C6 m6 d6] 26)
    have hzb_123 : w15.heap.size < (w15.alloc (.cells #[.slice A6 n6 c6, .slice C6 m6 d6] 26)).heap.size := by simp
    have hz_124 := ebbh.size
    have ba_125 := ba_114.next ebbh
    have hW_126 := below_ext hW_115 ebbh
    have bw_127 := bw_116.next ebbh
    have hX_128 := RepS.next sepQu hX_117 ebbh (fun c h => by have h1 := h.1; have h2 := h.2; omega)
    have bx_129 := bx_118.next ebbh
    have hG_130 := RepS.next sepQu hG_119 ebbh (fun c h => by have h1 := h.1; have h2 := h.2; omega)
    have bg_131 := bg_120.next ebbh
    have hH_132 := RepS.next sepQu hH_122 ebbh (fun c h => by have h1 := h.1; have h2 := h.2; omega)
    have bt_133 := below_ext bt_121 ebbh
    have bh_134 := Blk.new w15 26 [.slice A6 n6 c6, .slice C6 m6 d6]
    obtain ⟨yba_125_0, yba_125_1⟩ := ba_125.cells2
    obtain ⟨ybw_127_0, ybw_127_1⟩ := bw_127.cells2
    obtain ⟨ybx_129_0, ybx_129_1⟩ := bx_129.cells2
    obtain ⟨ybg_131_0, ybg_131_1⟩ := bg_131.cells2
    obtain ⟨ybh_134_0, ybh_134_1⟩ := bh_134.cells2
    clear ba_114 hW_115 bw_116 hX_117 bx_118 hG_119 bg_120 hH_122 bt_121 ebbh
    go_wp2_with fail
    generalize hWW : w15.alloc (.cells #[.slice A6 n6 c6, .slice C6 m6 d6] 26) = w16 at *
    clear hWW
    generalize w15.heap.size = gbh at *
    refine (eqQuarantine_g _ _ qo qo _ (repQu.down (sepQu.reads hH_132) (Nat.zero_le _)) (repQu.next HWD hW_126)).mono ?_
    rw [eqQu_refl]
    rintro e w17 ⟨rfl, hbq⟩
    clear yba_125_0 yba_125_1 ybw_127_0 ybw_127_1 ybx_129_0 ybx_129_1 ybg_131_0 ybg_131_1 ybh_134_0 ybh_134_1
    have hz_135 := hbq.size
    have ba_136 := ba_125.next hbq
    have hW_137 := below_ext hW_126 hbq
    have bw_138 := bw_127.next hbq
    have hX_139 := RepS.next sepQu hX_128 hbq (fun c h => by have h1 := h.1; have h2 := h.2; omega)
    have bx_140 := bx_129.next hbq
    have hG_141 := RepS.next sepQu hG_130 hbq (fun c h => by have h1 := h.1; have h2 := h.2; omega)
    have bg_142 := bg_131.next hbq
    have hH_143 := RepS.next sepQu hH_132 hbq (fun c h => by have h1 := h.1; have h2 := h.2; omega)
    have bh_144 := bh_134.next hbq
    have bt_145 := below_ext bt_133 hbq
    obtain ⟨yba_136_0, yba_136_1⟩ := ba_136.cells2
    obtain ⟨ybw_138_0, ybw_138_1⟩ := bw_138.cells2
    obtain ⟨ybx_140_0, ybx_140_1⟩ := bx_140.cells2
    obtain ⟨ybg_142_0, ybg_142_1⟩ := bg_142.cells2
    obtain ⟨ybh_144_0, ybh_144_1⟩ := bh_144.cells2
    clear ba_125 hW_126 bw_127 hX_128 bx_129 hG_130 bg_131 hH_132 bh_134 bt_133 hbq
    go_wp2_with fail
    refine (heldQuarantine_s _ qo 1 _ (repQu.down (sepQu.reads hG_141) (Nat.zero_le _)) (by omega)).mono ?_
    rw [← HKB.out]
    rintro e w18 ⟨rfl, hbh⟩
    clear yba_136_0 yba_136_1 ybw_138_0 ybw_138_1 ybx_140_0 ybx_140_1 ybg_142_0 ybg_142_1 ybh_144_0 ybh_144_1
    have hz_146 := hbh.size
    have ba_147 := ba_136.next hbh
    have hW_148 := below_ext hW_137 hbh
    have bw_149 := bw_138.next hbh
    have hX_150 := RepS.next sepQu hX_139 hbh (fun c h => by have h1 := h.1; have h2 := h.2; omega)
    have bx_151 := bx_140.next hbh
    have hG_152 := RepS.next sepQu hG_141 hbh (fun c h => by have h1 := h.1; have h2 := h.2; omega)
    have bg_153 := bg_142.next hbh
    have hH_154 := RepS.next sepQu hH_143 hbh (fun c h => by have h1 := h.1; have h2 := h.2; omega)
    have bh_155 := bh_144.next hbh
    have bt_156 := below_ext bt_145 hbh
    obtain ⟨yba_147_0, yba_147_1⟩ := ba_147.cells2
    obtain ⟨ybw_149_0, ybw_149_1⟩ := bw_149.cells2
    obtain ⟨ybx_151_0, ybx_151_1⟩ := bx_151.cells2
    obtain ⟨ybg_153_0, ybg_153_1⟩ := bg_153.cells2
    obtain ⟨ybh_155_0, ybh_155_1⟩ := bh_155.cells2
    clear ba_136 hW_137 bw_138 hX_139 bx_140 hG_141 bg_142 hH_143 bh_144 bt_145 hbh
    go_wp2_with fail
    go_ret
    exact ⟨rfl, bt_156⟩
end Go.Proofs.Ytjofgbbofagoiaa
