import Derived.Test.YtjofgbbofagoiaaMgMark
import Derived.Test.YtjofgbbofagoiaaMgMissA
import Derived.Deep.RegionHeld3
import Derived.Test.YtjofgbbofagoiaaRows
import Derived.Test.YtjofgbbofagoiaaLiftBase
import Derived.Test.YtjofgbbofagoiaaLiftQ
/- The law FnExactQuarantineMissing, walked: for every argument it answers true. -/
namespace Go.Proofs.Ytjofgbbofagoiaa
open Go.RowKit Go.Sort

theorem toIntS_r (A : Option Addr) (n c : Nat) (xs : List Int) (w : World) (h : RInts w A n xs) (hs : smallI xs) :
    Calls Try.prog 27 #[.slice A n c] w fun e w' => ∃ B, e = .returned (.slice B n n) ∧ SSl 3 sepInt w.heap.size (Iv w.heap.size w'.heap.size) w' B n n xs ∧ Below w.heap.size w w' := by
  have hl := h.1
  unfold smallI at hs
  refine (toIntS_any A n c xs w h (by omega)).mono ?_
  rintro e w' ⟨rfl, hb, hw⟩
  refine ⟨_, rfl, ?_, hw⟩
  have ho := own_blk_ints (lo := w.heap.size) hb (Nat.le_refl _) (by simp only [maxLen]; omega)
  rw [hl] at ho
  exact SSl.of_ints ho fun b h1 h2 _ => ⟨h1, h2⟩
theorem own_ssl {lo n c : Nat} {w : World} {A : Option Addr} {xs : List Int} (h : w.ownsRow lo 3 1 (.slice A n c) n (ints xs)) : SSl 3 sepInt lo (Iv lo w.heap.size) w A n c xs :=
  SSl.of_ints h fun _ h1 h2 _ => ⟨h1, h2⟩
theorem qm_len {q : Qu} {t : Int} {fs L : List Int} (h : IsQM q t fs L) : L.length ≤ 991 := by
  unfold IsQM at h
  split at h
  · rename_i hv
    simp only [Bool.and_eq_true] at hv
    exact nodup_len (asc_nodup h.1) fun x hx => Rch.range (allQ_ok hv.1 t) (idsOk_facts hv.2.2).2.1 x ((h.2 x).1 hx).1
  · rw [h]; simp
theorem szObs_small {os : List Ob} (h : smallO os) : szL szOb os ≤ 1200000000000 := by
  have h1 := szL_le (sz := szOb) (xs := os) (M := 1048580) fun o ho => by
    have := (h.2 o ho).1
    have a := szL_I o.xs
    unfold szOb
    omega
  have h2 := h.1
  omega
theorem szQu_small {q : Qu} (h : smallQu q) : szQu q ≤ 8000000000000000000 := by
  obtain ⟨h1, h2, h3⟩ := h
  have h4 := szL_le (sz := szAr) (xs := q.ars) (M := 1200000000001) fun a ha => by
    have := szObs_small (h3 a ha)
    unfold szAr
    omega
  have h5 := szObs_small h1
  unfold szQu
  omega
set_option maxRecDepth 100000 in
set_option maxHeartbeats 6400000 in
theorem FnExactQuarantineMissing_walk (cs : List Value) (q : Qu) (z : Int) (F : Option Addr) (m d : Nat) (fs : List Int) (w : World) (hv : repQu.V 0 w cs q) (_hz0 : -9223372036854775808 ≤ z) (_hz1 : z ≤ 9223372036854775807) (hf : RInts w F m fs) (hm : m ≤ maxLen) :
    Calls Try.prog 7 #[.agg cs.toArray, .int .i64 z, .slice F m d] w fun e w' => e = .returned (.bool true) ∧ Below w.heap.size w w' := by
  have hV := hv
  obtain ⟨B0, m0, d0, B1, m1, d1, rfl, hr0, hm0, hr1, hm1⟩ := repQu_cells hv
  clear hr0 hr1
  have hm00 := hm0
  have hm10 := hm1
  unfold maxLen at hm00 hm10
  have hmm := hm
  unfold maxLen at hmm
  have b0 := below_box w (.cells #[.slice B0 m0 d0, .slice B1 m1 d1] 42)
  have hzb0 : w.heap.size < (w.alloc (.cells #[.slice B0 m0 d0, .slice B1 m1 d1] 42)).heap.size := by simp
  have ba_1 := Blk.new w 42 [.slice B0 m0 d0, .slice B1 m1 d1]
  obtain ⟨yba_1_0, yba_1_1⟩ := ba_1.cells2
  have HFL := Lib.hid hf.1
  by_cases hbig : 1048576 < m
  · go_enter Try.func7, Try.ntmps7
    go_wp2_with fail
    go_ret
    exact ⟨rfl, b0⟩
  have hsf : smallI fs := by unfold smallI; have := HFL.out; omega
  go_enter Try.func7, Try.ntmps7
  go_wp2_with fail
  refine (szQuarantine_g _ q _ _ (repQu.next hV b0) (by omega) (by omega)).mono ?_
  rintro e w1 ⟨⟨vz, rfl, r, rfl, hs⟩, hb1⟩
  clear yba_1_0 yba_1_1
  have hz_2 := hb1.size
  have ba_3 := ba_1.next hb1
  have bt_4 := below_ext b0 hb1
  obtain ⟨yba_3_0, yba_3_1⟩ := ba_3.cells2
  clear ba_1 hb1
  rcases hs with hs | ⟨hs0, hsl, hsm⟩
  · skip
    go_wp2_with fail
    go_ret
    exact ⟨rfl, bt_4⟩
  · have hs0b : decide (r < 0) = false := decide_eq_false (by omega)
    have hszq := szQu_small hsm
    go_wp2_with fail
    refine (toQuarantine_g _ q _ (repQu.next hV bt_4) hsm).mono ?_
    rintro e w2 ⟨cs2, rfl, hv2, hb2⟩
    clear yba_3_0 yba_3_1
    have hz_5 := hb2.size
    have ba_6 := ba_3.next hb2
    have bt_7 := below_ext bt_4 hb2
    obtain ⟨yba_6_0, yba_6_1⟩ := ba_6.cells2
    clear ba_3 bt_4 hb2
    have hP_8 := hv2
    clear hv2
    go_wp2_with fail
    refine (toIntS_r F m d fs _ (hf.below bt_7 (Nat.le_refl _)) hsf).mono ?_
    rintro e w3 ⟨P3, rfl, hq3, hb3⟩
    clear yba_6_0 yba_6_1
    have hz_9 := hb3.size
    have ba_10 := ba_6.next hb3
    have hP_11 := repQu.next hP_8 hb3
    have bt_12 := below_ext bt_7 hb3
    obtain ⟨yba_10_0, yba_10_1⟩ := ba_10.cells2
    clear ba_6 hP_8 bt_7 hb3
    have hY_13 := hq3
    clear hq3
    go_wp2_with fail
    refine (specQuarantineMissing_any _ q z P3 m m fs _ (repQu.down hP_11 (Nat.zero_le _)) (hY_13.reads.down (Nat.zero_le _)).rints hm).mono ?_
    unfold QMTo
    rintro e w4 ⟨Bw, dw, L, rfl, hL, hownW, hb4⟩
    clear yba_10_0 yba_10_1
    have hS2 := own_ssl hownW
    have hll := qm_len hL
    have HLL := Lib.hid hL
    clear hL
    have hz_14 := hb4.size
    have ba_15 := ba_10.next hb4
    have hP_16 := repQu.next hP_11 hb4
    have hY_17 := hY_13.next hb4 (fun c h => by have h1 := h.1; have h2 := h.2; omega)
    have bt_18 := below_ext bt_12 hb4
    obtain ⟨yba_15_0, yba_15_1⟩ := ba_15.cells2
    clear ba_10 hP_11 hY_13 bt_12 hb4
    clear hP_16 hY_17
    have hW_19 := hS2
    clear hS2 hownW
    go_wp2_with fail
    refine (toQuarantine_s _ q _ (repQu.next hV bt_18) hsm).mono ?_
    rintro e w5 ⟨cs4, rfl, hv4, hb5⟩
    clear yba_15_0 yba_15_1
    have hz_20 := hb5.size
    have ba_21 := ba_15.next hb5
    have hW_22 := hW_19.next hb5 (fun c h => by have h1 := h.1; have h2 := h.2; omega)
    have bt_23 := below_ext bt_18 hb5
    obtain ⟨yba_21_0, yba_21_1⟩ := ba_21.cells2
    clear ba_15 hW_19 bt_18 hb5
    obtain ⟨A3, n3, c3, C3, m3, d3, _, _, rfl, -⟩ := sepQu_cells hv4
    have hX_24 := hv4
    clear hv4
    clear yba_21_0 yba_21_1
    have ebbx := below_box w5 (.cells #[.slice A3 n3 c3, .slice C3 m3 d3] 26)
    have hzb_25 : w5.heap.size < (w5.alloc (.cells #[.slice A3 n3 c3, .slice C3 m3 d3] 26)).heap.size := by simp
    have hz_26 := ebbx.size
    have ba_27 := ba_21.next ebbx
    have hW_28 := hW_22.next ebbx (fun c h => by have h1 := h.1; have h2 := h.2; omega)
    have hX_29 := RepS.next sepQu hX_24 ebbx (fun c h => by have h1 := h.1; have h2 := h.2; omega)
    have bt_30 := below_ext bt_23 ebbx
    have bx_31 := Blk.new w5 26 [.slice A3 n3 c3, .slice C3 m3 d3]
    obtain ⟨yba_27_0, yba_27_1⟩ := ba_27.cells2
    obtain ⟨ybx_31_0, ybx_31_1⟩ := bx_31.cells2
    clear ba_21 hW_22 hX_24 bt_23 ebbx
    go_wp2_with fail
    generalize hWW : w5.alloc (.cells #[.slice A3 n3 c3, .slice C3 m3 d3] 26) = w6 at *
    clear hWW
    generalize w5.heap.size = gbx at *
    refine (toIntS_r F m d fs _ (hf.below bt_30 (Nat.le_refl _)) hsf).mono ?_
    rintro e w7 ⟨P6, rfl, hq6, hb6⟩
    clear yba_27_0 yba_27_1 ybx_31_0 ybx_31_1
    have hz_32 := hb6.size
    have ba_33 := ba_27.next hb6
    have hW_34 := hW_28.next hb6 (fun c h => by have h1 := h.1; have h2 := h.2; omega)
    have hX_35 := RepS.next sepQu hX_29 hb6 (fun c h => by have h1 := h.1; have h2 := h.2; omega)
    have bx_36 := bx_31.next hb6
    have bt_37 := below_ext bt_30 hb6
    obtain ⟨yba_33_0, yba_33_1⟩ := ba_33.cells2
    obtain ⟨ybx_36_0, ybx_36_1⟩ := bx_36.cells2
    clear ba_27 hW_28 hX_29 bx_31 bt_30 hb6
    have hZ_38 := hq6
    clear hq6
    go_wp2_with fail
    refine (implQuarantineMissing_any _ q z P6 m m fs _ (repQu.down (sepQu.reads hX_35) (Nat.zero_le _)) (hZ_38.reads.down (Nat.zero_le _)).rints hm).mono ?_
    unfold QMTo
    rintro e w8 ⟨Bg, dg, L2, rfl, hL2, hownG, hb7⟩
    clear yba_33_0 yba_33_1 ybx_36_0 ybx_36_1
    obtain rfl := HLL.out.uniq hL2
    have hS5 := own_ssl hownG
    clear hL2
    have hz_39 := hb7.size
    have ba_40 := ba_33.next hb7
    have hW_41 := hW_34.next hb7 (fun c h => by have h1 := h.1; have h2 := h.2; omega)
    have hX_42 := RepS.next sepQu hX_35 hb7 (fun c h => by have h1 := h.1; have h2 := h.2; omega)
    have bx_43 := bx_36.next hb7
    have hZ_44 := hZ_38.next hb7 (fun c h => by have h1 := h.1; have h2 := h.2; omega)
    have bt_45 := below_ext bt_37 hb7
    obtain ⟨yba_40_0, yba_40_1⟩ := ba_40.cells2
    obtain ⟨ybx_43_0, ybx_43_1⟩ := bx_43.cells2
    clear ba_33 hW_34 hX_35 bx_36 hZ_38 bt_37 hb7
    have hG_46 := hS5
    clear hS5 hownG
    go_wp2_with fail
    refine (eqIntS_g _ _ _ _ _ _ L L _ (hG_46.reads.down (Nat.zero_le _)) (hW_41.reads.down (Nat.zero_le _)) (by simp only [maxLen]; omega) (by simp only [maxLen]; omega)).mono ?_
    rw [eqI_self]
    rintro e w9 ⟨rfl, hbq⟩
    clear yba_40_0 yba_40_1 ybx_43_0 ybx_43_1
    have hz_47 := hbq.size
    have ba_48 := ba_40.next hbq
    have hW_49 := hW_41.next hbq (fun c h => by have h1 := h.1; have h2 := h.2; omega)
    have hX_50 := RepS.next sepQu hX_42 hbq (fun c h => by have h1 := h.1; have h2 := h.2; omega)
    have bx_51 := bx_43.next hbq
    have hZ_52 := hZ_44.next hbq (fun c h => by have h1 := h.1; have h2 := h.2; omega)
    have hG_53 := hG_46.next hbq (fun c h => by have h1 := h.1; have h2 := h.2; omega)
    have bt_54 := below_ext bt_45 hbq
    obtain ⟨yba_48_0, yba_48_1⟩ := ba_48.cells2
    obtain ⟨ybx_51_0, ybx_51_1⟩ := bx_51.cells2
    clear ba_40 hW_41 hX_42 bx_43 hZ_44 hG_46 bt_45 hbq
    go_wp2_with fail
    have HK1 := Lib.hid (fun (w' : World) (hb' : Below w9.heap.size w9 w') => (⟨⟨(ba_48.next hb').cells2.1, (ba_48.next hb').cells2.2, (bx_51.next hb').cells2.1, (bx_51.next hb').cells2.2⟩, hb'⟩ : (w'.cell? ⟨w.heap.size, 0, none⟩ = some (.slice B0 m0 d0) ∧ w'.cell? ⟨w.heap.size, 1, none⟩ = some (.slice B1 m1 d1) ∧ w'.cell? ⟨gbx, 0, none⟩ = some (.slice A3 n3 c3) ∧ w'.cell? ⟨gbx, 1, none⟩ = some (.slice C3 m3 d3)) ∧ Below w9.heap.size w9 w'))
    have HX1 := Lib.hid (show repQu.V 0 w9 _ q from repQu.down (sepQu.reads hX_50) (Nat.zero_le _))
    have HA1 := Lib.hid (repQu.next hV bt_54)
    clear yba_48_0 yba_48_1 ybx_51_0 ybx_51_1
    go_region_held3 (fun w' => (w'.cell? ⟨w.heap.size, 0, none⟩ = some (.slice B0 m0 d0) ∧ w'.cell? ⟨w.heap.size, 1, none⟩ = some (.slice B1 m1 d1) ∧ w'.cell? ⟨gbx, 0, none⟩ = some (.slice A3 n3 c3) ∧ w'.cell? ⟨gbx, 1, none⟩ = some (.slice C3 m3 d3)) ∧ Below w9.heap.size w9 w')
      (first
        | exact HK1.out _ (Below.refl _ _).drew
        | exact HK1.out _ (below_ext (And.right (by assumption)) hbr1)
        | exact HK1.out _ (below_ext (And.right (by assumption)) hbr2)
        | exact And.intro (And.left (by assumption)) (And.right (by assumption)))
      (first
        | (go_at_call 19; refine (toQuarantine_g _ q _ (repQu.next HA1.out (And.right (by assumption))) hsm).mono ?_
           rintro e wr1 ⟨csr1, rfl, hvr1, hbr1⟩)
        | (go_at_call 21; refine (eqQuarantine_g _ _ q q _ (repQu.next HX1.out (And.right (by assumption))) (repQu.down hvr1 (Nat.zero_le _))).mono ?_
           rw [eqQu_refl q]
           rintro e wr2 ⟨rfl, hbr2⟩))
    have hbR1 : Below w9.heap.size w9 wr2 := And.right (by assumption)
    clear hvr1 hbr1 hbr2
    have hz_55 := hbR1.size
    have ba_56 := ba_48.next hbR1
    have hW_57 := hW_49.next hbR1 (fun c h => by have h1 := h.1; have h2 := h.2; omega)
    have hX_58 := RepS.next sepQu hX_50 hbR1 (fun c h => by have h1 := h.1; have h2 := h.2; omega)
    have bx_59 := bx_51.next hbR1
    have hZ_60 := hZ_52.next hbR1 (fun c h => by have h1 := h.1; have h2 := h.2; omega)
    have hG_61 := hG_53.next hbR1 (fun c h => by have h1 := h.1; have h2 := h.2; omega)
    have bt_62 := below_ext bt_54 hbR1
    obtain ⟨yba_56_0, yba_56_1⟩ := ba_56.cells2
    obtain ⟨ybx_59_0, ybx_59_1⟩ := bx_59.cells2
    clear ba_48 hW_49 hX_50 bx_51 hZ_52 hG_53 bt_54 hbR1
    go_wp2_with fail
    refine (toIntS_r F m d fs _ (hf.below bt_62 (Nat.le_refl _)) hsf).mono ?_
    rintro e w10 ⟨P8, rfl, hq8, hb8⟩
    clear yba_56_0 yba_56_1 ybx_59_0 ybx_59_1
    have hz_63 := hb8.size
    have ba_64 := ba_56.next hb8
    have hW_65 := hW_57.next hb8 (fun c h => by have h1 := h.1; have h2 := h.2; omega)
    have hX_66 := RepS.next sepQu hX_58 hb8 (fun c h => by have h1 := h.1; have h2 := h.2; omega)
    have bx_67 := bx_59.next hb8
    have hZ_68 := hZ_60.next hb8 (fun c h => by have h1 := h.1; have h2 := h.2; omega)
    have hG_69 := hG_61.next hb8 (fun c h => by have h1 := h.1; have h2 := h.2; omega)
    have bt_70 := below_ext bt_62 hb8
    obtain ⟨yba_64_0, yba_64_1⟩ := ba_64.cells2
    obtain ⟨ybx_67_0, ybx_67_1⟩ := bx_67.cells2
    clear ba_56 hW_57 hX_58 bx_59 hZ_60 hG_61 bt_62 hb8
    have hY_71 := hq8
    clear hq8
    go_wp2_with fail
    refine (eqIntS_g _ _ _ _ _ _ fs fs _ (hZ_68.reads.down (Nat.zero_le _)) (hY_71.reads.down (Nat.zero_le _)) hm hm).mono ?_
    rw [eqI_self]
    rintro e w11 ⟨rfl, hb9⟩
    clear yba_64_0 yba_64_1 ybx_67_0 ybx_67_1
    have hz_72 := hb9.size
    have ba_73 := ba_64.next hb9
    have hW_74 := hW_65.next hb9 (fun c h => by have h1 := h.1; have h2 := h.2; omega)
    have hX_75 := RepS.next sepQu hX_66 hb9 (fun c h => by have h1 := h.1; have h2 := h.2; omega)
    have bx_76 := bx_67.next hb9
    have hZ_77 := hZ_68.next hb9 (fun c h => by have h1 := h.1; have h2 := h.2; omega)
    have hG_78 := hG_69.next hb9 (fun c h => by have h1 := h.1; have h2 := h.2; omega)
    have hY_79 := hY_71.next hb9 (fun c h => by have h1 := h.1; have h2 := h.2; omega)
    have bt_80 := below_ext bt_70 hb9
    obtain ⟨yba_73_0, yba_73_1⟩ := ba_73.cells2
    obtain ⟨ybx_76_0, ybx_76_1⟩ := bx_76.cells2
    clear ba_64 hW_65 hX_66 bx_67 hZ_68 hG_69 hY_71 bt_70 hb9
    clear hY_79
    obtain ⟨ka, HKA⟩ : ∃ ka : Nat, Hid (ka = 1 + szQu q) := ⟨_, Lib.hid rfl⟩
    have hka : ka ≤ 8000000000000000001 := by have := HKA.out; omega
    go_wp2_with fail
    refine (markQuarantine_s _ _ _ q 1 _ hX_75 (fun c h => by have h1 := h.1; have h2 := h.2; omega) (by omega)).mono ?_
    rw [← HKA.out]
    rintro e w12 ⟨rfl, hX9, hO9⟩
    clear yba_73_0 yba_73_1 ybx_76_0 ybx_76_1
    have hz_81 := hO9.size
    have ba_82 := hO9.blk ba_73 (fun h => by have h1 := h.1; have h2 := h.2; omega)
    have hW_83 := hW_74.only hO9 (fun c h h' => by have h1 := h.1; have h2 := h.2; have h3 := h'.1; have h4 := h'.2; omega) (fun c h => by have h1 := h.1; have h2 := h.2; omega)
    have bx_84 := hO9.blk bx_76 (fun h => by have h1 := h.1; have h2 := h.2; omega)
    have hZ_85 := hZ_77.only hO9 (fun c h h' => by have h1 := h.1; have h2 := h.2; have h3 := h'.1; have h4 := h'.2; omega) (fun c h => by have h1 := h.1; have h2 := h.2; omega)
    have hG_86 := hG_78.only hO9 (fun c h h' => by have h1 := h.1; have h2 := h.2; have h3 := h'.1; have h4 := h'.2; omega) (fun c h => by have h1 := h.1; have h2 := h.2; omega)
    have bt_87 := bt_80.trans (hO9.below (fun c h => Nat.le_trans (by omega : w.heap.size ≤ w4.heap.size) h.1) bt_80.size)
    clear hX_75
    have hX_88 := hX9
    obtain ⟨yba_82_0, yba_82_1⟩ := ba_82.cells2
    obtain ⟨ybx_84_0, ybx_84_1⟩ := bx_84.cells2
    clear ba_73 hW_74 bx_76 hZ_77 hG_78 bt_80 hO9 hX9
    have hfl := szL_I fs
    obtain ⟨kc, HKC⟩ : ∃ kc : Nat, Hid (kc = ka + szL szI1 fs) := ⟨_, Lib.hid rfl⟩
    have hkcn : decide ((kc : Int) < 0) = false := by simp
    have hfl2 : szL szI1 fs ≤ 1048576 := by have := HFL.out; omega
    clear hfl
    go_wp2_with fail
    refine (markIntS_s _ _ _ _ _ fs ka _ hZ_85 (fun c h => by have h1 := h.1; have h2 := h.2; omega) (by omega)).mono ?_
    rw [← HKC.out]
    rintro e w13 ⟨rfl, hZ9, hQ9⟩
    clear yba_82_0 yba_82_1 ybx_84_0 ybx_84_1
    have hz_89 := hQ9.size
    have ba_90 := hQ9.blk ba_82 (fun h => by have h1 := h.1; have h2 := h.2; omega)
    have hW_91 := hW_83.only hQ9 (fun c h h' => by have h1 := h.1; have h2 := h.2; have h3 := h'.1; have h4 := h'.2; omega) (fun c h => by have h1 := h.1; have h2 := h.2; omega)
    have hX_92 := RepS.only sepQu hX_88 hQ9 (fun c h h' => by have h1 := h.1; have h2 := h.2; have h3 := h'.1; have h4 := h'.2; omega) (fun c h => by have h1 := h.1; have h2 := h.2; omega)
    have bx_93 := hQ9.blk bx_84 (fun h => by have h1 := h.1; have h2 := h.2; omega)
    have hG_94 := hG_86.only hQ9 (fun c h h' => by have h1 := h.1; have h2 := h.2; have h3 := h'.1; have h4 := h'.2; omega) (fun c h => by have h1 := h.1; have h2 := h.2; omega)
    have bt_95 := bt_87.trans (hQ9.below (fun c h => Nat.le_trans (by omega : w.heap.size ≤ w6.heap.size) h.1) bt_87.size)
    clear hZ_85
    have hZ_96 := hZ9
    obtain ⟨yba_90_0, yba_90_1⟩ := ba_90.cells2
    obtain ⟨ybx_93_0, ybx_93_1⟩ := bx_93.cells2
    clear ba_82 hW_83 hX_88 bx_84 hG_86 bt_87 hQ9 hZ9
    go_wp2_with fail
    refine (eqIntS_g _ _ _ _ _ _ L L _ (hG_94.reads.down (Nat.zero_le _)) (hW_91.reads.down (Nat.zero_le _)) (by simp only [maxLen]; omega) (by simp only [maxLen]; omega)).mono ?_
    rw [eqI_self]
    rintro e w14 ⟨rfl, hbq⟩
    clear yba_90_0 yba_90_1 ybx_93_0 ybx_93_1
    have hz_97 := hbq.size
    have ba_98 := ba_90.next hbq
    have hW_99 := hW_91.next hbq (fun c h => by have h1 := h.1; have h2 := h.2; omega)
    have hX_100 := RepS.next sepQu hX_92 hbq (fun c h => by have h1 := h.1; have h2 := h.2; omega)
    have bx_101 := bx_93.next hbq
    have hZ_102 := hZ_96.next hbq (fun c h => by have h1 := h.1; have h2 := h.2; omega)
    have hG_103 := hG_94.next hbq (fun c h => by have h1 := h.1; have h2 := h.2; omega)
    have bt_104 := below_ext bt_95 hbq
    obtain ⟨yba_98_0, yba_98_1⟩ := ba_98.cells2
    obtain ⟨ybx_101_0, ybx_101_1⟩ := bx_101.cells2
    clear ba_90 hW_91 hX_92 bx_93 hZ_96 hG_94 bt_95 hbq
    have hlen := szL_I L
    obtain ⟨kb, HKB⟩ : ∃ kb : Nat, Hid (kb = 1 + szL szI1 L) := ⟨_, Lib.hid rfl⟩
    have hkbn : decide ((kb : Int) < 0) = false := by simp
    have hkbe : ((kb : Int) != (kb : Int)) = false := by simp
    have hlen2 : szL szI1 L ≤ 991 := by omega
    clear hlen
    go_wp2_with fail
    refine (markIntS_s _ _ _ _ _ L 1 _ hG_103 (fun c h => by have h1 := h.1; have h2 := h.2; omega) (by omega)).mono ?_
    rw [← HKB.out]
    rintro e w15 ⟨rfl, hG9, hP9⟩
    clear yba_98_0 yba_98_1 ybx_101_0 ybx_101_1
    have hz_105 := hP9.size
    have ba_106 := hP9.blk ba_98 (fun h => by have h1 := h.1; have h2 := h.2; omega)
    have hW_107 := hW_99.only hP9 (fun c h h' => by have h1 := h.1; have h2 := h.2; have h3 := h'.1; have h4 := h'.2; omega) (fun c h => by have h1 := h.1; have h2 := h.2; omega)
    have hX_108 := RepS.only sepQu hX_100 hP9 (fun c h h' => by have h1 := h.1; have h2 := h.2; have h3 := h'.1; have h4 := h'.2; omega) (fun c h => by have h1 := h.1; have h2 := h.2; omega)
    have bx_109 := hP9.blk bx_101 (fun h => by have h1 := h.1; have h2 := h.2; omega)
    have hZ_110 := hZ_102.only hP9 (fun c h h' => by have h1 := h.1; have h2 := h.2; have h3 := h'.1; have h4 := h'.2; omega) (fun c h => by have h1 := h.1; have h2 := h.2; omega)
    have bt_111 := bt_104.trans (hP9.below (fun c h => Nat.le_trans (by omega : w.heap.size ≤ w7.heap.size) h.1) bt_104.size)
    clear hG_103
    have hG_112 := hG9
    obtain ⟨yba_106_0, yba_106_1⟩ := ba_106.cells2
    obtain ⟨ybx_109_0, ybx_109_1⟩ := bx_109.cells2
    clear ba_98 hW_99 hX_100 bx_101 hZ_102 bt_104 hP9 hG9
    go_wp2_with fail
    refine (heldIntS_s _ _ _ L 1 _ (hG_112.reads.down (Nat.zero_le _)) (by simp only [maxLen]; omega) (by omega)).mono ?_
    rw [← HKB.out]
    rintro e w16 ⟨rfl, hbh⟩
    clear yba_106_0 yba_106_1 ybx_109_0 ybx_109_1
    have hz_113 := hbh.size
    have ba_114 := ba_106.next hbh
    have hW_115 := hW_107.next hbh (fun c h => by have h1 := h.1; have h2 := h.2; omega)
    have hX_116 := RepS.next sepQu hX_108 hbh (fun c h => by have h1 := h.1; have h2 := h.2; omega)
    have bx_117 := bx_109.next hbh
    have hZ_118 := hZ_110.next hbh (fun c h => by have h1 := h.1; have h2 := h.2; omega)
    have hG_119 := hG_112.next hbh (fun c h => by have h1 := h.1; have h2 := h.2; omega)
    have bt_120 := below_ext bt_111 hbh
    obtain ⟨yba_114_0, yba_114_1⟩ := ba_114.cells2
    obtain ⟨ybx_117_0, ybx_117_1⟩ := bx_117.cells2
    clear ba_106 hW_107 hX_108 bx_109 hZ_110 hG_112 bt_111 hbh
    go_wp2_with fail
    refine (toQuarantine_g _ q _ (repQu.next hV bt_120) hsm).mono ?_
    rintro e w17 ⟨cs12, rfl, hv12, hb12⟩
    clear yba_114_0 yba_114_1 ybx_117_0 ybx_117_1
    have hz_121 := hb12.size
    have ba_122 := ba_114.next hb12
    have hW_123 := hW_115.next hb12 (fun c h => by have h1 := h.1; have h2 := h.2; omega)
    have hX_124 := RepS.next sepQu hX_116 hb12 (fun c h => by have h1 := h.1; have h2 := h.2; omega)
    have bx_125 := bx_117.next hb12
    have hZ_126 := hZ_118.next hb12 (fun c h => by have h1 := h.1; have h2 := h.2; omega)
    have hG_127 := hG_119.next hb12 (fun c h => by have h1 := h.1; have h2 := h.2; omega)
    have bt_128 := below_ext bt_120 hb12
    obtain ⟨yba_122_0, yba_122_1⟩ := ba_122.cells2
    obtain ⟨ybx_125_0, ybx_125_1⟩ := bx_125.cells2
    clear ba_114 hW_115 hX_116 bx_117 hZ_118 hG_119 bt_120 hb12
    have hP_129 := hv12
    clear hv12
    go_wp2_with fail
    refine (toIntS_r F m d fs _ (hf.below bt_128 (Nat.le_refl _)) hsf).mono ?_
    rintro e w18 ⟨P13, rfl, hq13, hb13⟩
    clear yba_122_0 yba_122_1 ybx_125_0 ybx_125_1
    have hz_130 := hb13.size
    have ba_131 := ba_122.next hb13
    have hW_132 := hW_123.next hb13 (fun c h => by have h1 := h.1; have h2 := h.2; omega)
    have hX_133 := RepS.next sepQu hX_124 hb13 (fun c h => by have h1 := h.1; have h2 := h.2; omega)
    have bx_134 := bx_125.next hb13
    have hZ_135 := hZ_126.next hb13 (fun c h => by have h1 := h.1; have h2 := h.2; omega)
    have hG_136 := hG_127.next hb13 (fun c h => by have h1 := h.1; have h2 := h.2; omega)
    have hP_137 := repQu.next hP_129 hb13
    have bt_138 := below_ext bt_128 hb13
    obtain ⟨yba_131_0, yba_131_1⟩ := ba_131.cells2
    obtain ⟨ybx_134_0, ybx_134_1⟩ := bx_134.cells2
    clear ba_122 hW_123 hX_124 bx_125 hZ_126 hG_127 hP_129 bt_128 hb13
    have hY_139 := hq13
    clear hq13
    go_wp2_with fail
    refine (implQuarantineMissing_any _ q z P13 m m fs _ (repQu.down hP_137 (Nat.zero_le _)) (hY_139.reads.down (Nat.zero_le _)).rints hm).mono ?_
    unfold QMTo
    rintro e w19 ⟨Bh, dh, L3, rfl, hL3, hownH, hb14⟩
    clear yba_131_0 yba_131_1 ybx_134_0 ybx_134_1
    obtain rfl := HLL.out.uniq hL3
    have hS13 := own_ssl hownH
    clear hL3
    have hz_140 := hb14.size
    have ba_141 := ba_131.next hb14
    have hW_142 := hW_132.next hb14 (fun c h => by have h1 := h.1; have h2 := h.2; omega)
    have hX_143 := RepS.next sepQu hX_133 hb14 (fun c h => by have h1 := h.1; have h2 := h.2; omega)
    have bx_144 := bx_134.next hb14
    have hZ_145 := hZ_135.next hb14 (fun c h => by have h1 := h.1; have h2 := h.2; omega)
    have hG_146 := hG_136.next hb14 (fun c h => by have h1 := h.1; have h2 := h.2; omega)
    have hP_147 := repQu.next hP_137 hb14
    have hY_148 := hY_139.next hb14 (fun c h => by have h1 := h.1; have h2 := h.2; omega)
    have bt_149 := below_ext bt_138 hb14
    obtain ⟨yba_141_0, yba_141_1⟩ := ba_141.cells2
    obtain ⟨ybx_144_0, ybx_144_1⟩ := bx_144.cells2
    clear ba_131 hW_132 hX_133 bx_134 hZ_135 hG_136 hP_137 hY_139 bt_138 hb14
    clear hP_147 hY_148
    have hH_150 := hS13
    clear hS13 hownH
    go_wp2_with fail
    refine (eqIntS_g _ _ _ _ _ _ L L _ (hH_150.reads.down (Nat.zero_le _)) (hW_142.reads.down (Nat.zero_le _)) (by simp only [maxLen]; omega) (by simp only [maxLen]; omega)).mono ?_
    rw [eqI_self]
    rintro e w20 ⟨rfl, hbq⟩
    clear yba_141_0 yba_141_1 ybx_144_0 ybx_144_1
    have hz_151 := hbq.size
    have ba_152 := ba_141.next hbq
    have hW_153 := hW_142.next hbq (fun c h => by have h1 := h.1; have h2 := h.2; omega)
    have hX_154 := RepS.next sepQu hX_143 hbq (fun c h => by have h1 := h.1; have h2 := h.2; omega)
    have bx_155 := bx_144.next hbq
    have hZ_156 := hZ_145.next hbq (fun c h => by have h1 := h.1; have h2 := h.2; omega)
    have hG_157 := hG_146.next hbq (fun c h => by have h1 := h.1; have h2 := h.2; omega)
    have hH_158 := hH_150.next hbq (fun c h => by have h1 := h.1; have h2 := h.2; omega)
    have bt_159 := below_ext bt_149 hbq
    obtain ⟨yba_152_0, yba_152_1⟩ := ba_152.cells2
    obtain ⟨ybx_155_0, ybx_155_1⟩ := bx_155.cells2
    clear ba_141 hW_142 hX_143 bx_144 hZ_145 hG_146 hH_150 bt_149 hbq
    go_wp2_with fail
    refine (heldIntS_s _ _ _ L 1 _ (hG_157.reads.down (Nat.zero_le _)) (by simp only [maxLen]; omega) (by omega)).mono ?_
    rw [← HKB.out]
    rintro e w21 ⟨rfl, hbh⟩
    clear yba_152_0 yba_152_1 ybx_155_0 ybx_155_1
    have hz_160 := hbh.size
    have ba_161 := ba_152.next hbh
    have hW_162 := hW_153.next hbh (fun c h => by have h1 := h.1; have h2 := h.2; omega)
    have hX_163 := RepS.next sepQu hX_154 hbh (fun c h => by have h1 := h.1; have h2 := h.2; omega)
    have bx_164 := bx_155.next hbh
    have hZ_165 := hZ_156.next hbh (fun c h => by have h1 := h.1; have h2 := h.2; omega)
    have hG_166 := hG_157.next hbh (fun c h => by have h1 := h.1; have h2 := h.2; omega)
    have hH_167 := hH_158.next hbh (fun c h => by have h1 := h.1; have h2 := h.2; omega)
    have bt_168 := below_ext bt_159 hbh
    obtain ⟨yba_161_0, yba_161_1⟩ := ba_161.cells2
    obtain ⟨ybx_164_0, ybx_164_1⟩ := bx_164.cells2
    clear ba_152 hW_153 hX_154 bx_155 hZ_156 hG_157 hH_158 bt_159 hbh
    go_wp2_with fail
    go_ret
    exact ⟨rfl, bt_168⟩
end Go.Proofs.Ytjofgbbofagoiaa
/- The statement FnExactQuarantineMissingSaid: for every input FnExactQuarantineMissing answers true and leaves its arguments as they were. No condition. -/
namespace Go.Proofs.Ytjofgbbofagoiaa
open Go.ChangeShapes Go.WideShapes Go.ChangeAt Go.RowKit Go.Joins Go.Deep

theorem Try.own : ownKnob Try.prog.godebug = none := by kernel_rfl
theorem Try.laidOut : laidOutB Try.prog = true := by kernel_rfl
theorem Try.cellsInt : Try.prog.cellsOf 3 = 1 := by kernel_rfl

set_option maxRecDepth 100000 in
theorem FnExactQuarantineMissing_lifted (os : Os) (started : os.Started) (H : Type) (enc : TypeId × Value → H) :
    ReturnsInHanded {} Try.checked os 7 .any (Rows.fnExactQuarantineMissingSpec.pre6 enc Try.prog Try.f7 Rows.fnExactQuarantineMissingRow.domain false) (Rows.fnExactQuarantineMissingSpec.post enc Try.prog Try.f7 false true false false) := by
  refine returnsInHanded_of_change (C := Try.checked) Try.own started (by kernel_rfl) Try.func7
    (ChangeSpec.witness6 (enc := enc) (C := Try.checked) false ⟨#[], #[.agg #[.slice none 0 0, .slice none 0 0], .int .i64 0, .slice none 0 0], []⟩ 8 (by kernel_rfl) (by kernel_rfl) (by kernel_rfl) (by kernel_rfl)) ?_
  intro W base args ds gs before hval0 hW _ _
  have hval : ∀ (j : Nat) t v, Try.f7.params[j]? = some t → args[j]? = some v → Value.okWide Try.prog W .any base t v := hval0
  have hW' := hW
  obtain ⟨p, q, hA0, hV, rfl, _, _⟩ := hW
  have hA : DataW.TrodAll enc Try.prog W 0 (fun _ => true) true Try.f7.params.toList args.toList ds p := hA0
  rw [Try.params7] at hA hval
  obtain ⟨v0, v1, v2, d0, d1, d2, p0, p1, p2, rfl, rfl, rfl, h0, h1, h2⟩ := trodAll_three hA
  obtain ⟨rfl, rfl⟩ := trodVars_none hV
  obtain ⟨cs0, q0, rfl, hr0⟩ := open_top Try.underlying42 Try.cellsQu Try.opensQu (hval 0 _ v0 rfl rfl) h0
  obtain ⟨z1, rfl, _, _, wz1⟩ := open_int Try.underlying3 (hval 1 _ v1 rfl rfl) h1
  have hz1 := int_bounds wz1
  obtain ⟨A2, n2, c2, xs2, rfl, hr2, hn2⟩ := open_top_sl Try.underlying27 Try.opensInts (hval 2 _ v2 rfl rfl) h2
  clear hA0 hval0
  simp only [List.append_nil] at hW'
  have hlt : ∀ x ∈ p0 ++ (p1 ++ p2), x.block < W.heap.size := fun x hx => hW'.lt x (by simpa using hx)
  refine (FnExactQuarantineMissing_walk cs0 q0 z1 A2 n2 c2 xs2 W hr0 hz1.1 hz1.2 hr2.rints hn2).mono fun e W' ⟨he, hb⟩ => ?_
  subst he
  exact ⟨_, rfl, post_of_below (pa := p0 ++ (p1 ++ p2)) (pv := []) hW' (fun _ _ _ => trodAll_mk1 (shut_bool Try.underlying4 true))
    (fun sp hsp => trodAll_mk3 (arg_stays Try.laidOut (by kernel_rfl) (of_decide_eq_true (by kernel_rfl)) h0 hb (fun x hx => hlt x (by simp [hx])) (fun x hx => hsp x (by simp [hx]))) (arg_stays Try.laidOut (by kernel_rfl) (of_decide_eq_true (by kernel_rfl)) h1 hb (fun x hx => hlt x (by simp [hx])) (fun x hx => hsp x (by simp [hx]))) (arg_stays Try.laidOut (by kernel_rfl) (of_decide_eq_true (by kernel_rfl)) h2 hb (fun x hx => hlt x (by simp [hx])) (fun x hx => hsp x (by simp [hx])))) (fun _ _ => rfl) (by simp) hb
    (ok_one (by kernel_rfl) rfl (okWide_bool_mk Try.underlying4 true))⟩

theorem FnExactQuarantineMissing_holds : Rows.FnExactQuarantineMissingSaid :=
  OpenClaim.holds_of_wide 7 Try.f7 rfl rfl rfl rfl rfl rfl rfl ⟨rfl, rfl, rfl, rfl, rfl⟩ rfl rfl rfl rfl rfl (by kernel_rfl) Try.func7 (by kernel_rfl)
    (of_decide_eq_true (by kernel_rfl)) (by unfold Func.isWrapper; rw [if_neg (of_decide_eq_false (by kernel_rfl))]; exact ⟨rfl, rfl⟩)
    (fun os started H enc _ => FnExactQuarantineMissing_lifted os started H enc)
end Go.Proofs.Ytjofgbbofagoiaa
