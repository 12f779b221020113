/- The law FnBegin, walked: for every code it answers true. -/
import Derived.Test.YtfbdfigkodiboaaCoLaw
import Derived.Test.YtfbdfigkodiboaaBeginI
import Derived.Test.YtfbdfigkodiboaaBeginS
import Derived.Test.YtfbdfigkodiboaaSameC
import Derived.Test.YtfbdfigkodiboaaWaits
namespace Go.Proofs.Ytfbdfigkodiboaa
open Go.RowKit Go.Sort

set_option maxRecDepth 100000 in
set_option maxHeartbeats 3200000 in
theorem FnBegin_walk (A : Option Addr) (n c : Nat) (w : World) (h : RBytes w w.heap.size A n ∧ n ≤ c) (hn : n ≤ maxLen) :
    Calls Try.prog 10 #[.slice A n c] w fun e w' => e = .returned (.bool true) ∧ Below w.heap.size w w' := by
  have hn0 := hn
  unfold maxLen at hn0
  by_cases hs : 1048576 < n
  · go_enter Try.func10, Try.ntmps10
    go_wp2_with fail
    go_ret
    exact ⟨rfl, Below.refl _ _⟩
  · go_enter Try.func10, Try.ntmps10
    go_wp2_with fail
    refine (DrawCoordinatorBegin_any A n c w h.1 hn h.2).mono ?_
    rintro e w1 ⟨cs, q, PA, pn, pc, ps, rfl, hQ, hpn, hps, hpu, hb1⟩
    obtain ⟨A2, n2, c2, C2, m2, d2, rfl⟩ := hQ.two
    have htn := hQ.tiny
    have htn1 := htn.1
    have htn2 := htn.2.1
    have hRc_1 := hQ.rep0
    have hP_2 := hps.down (Nat.zero_le _)
    obtain ⟨_, _, _, _, _, _, e9, hl2, hl2m⟩ := repCo_two hQ.rep0
    obtain ⟨⟨rfl, rfl, rfl⟩, rfl, rfl, rfl⟩ : (_ ∧ _ ∧ _) ∧ _ ∧ _ ∧ _ := by simpa using e9
    clear e9 hQ hps
    have ebbc := below_box w1 (.cells #[.slice A2 n2 c2, .slice C2 m2 d2] 30)
    have hRc_3 := repCo.next hRc_1 ebbc
    have hP_4 := hP_2.next ebbc
    have bt_5 := below_ext hb1 ebbc
    have bc_6 := Blk.new w1 30 [.slice A2 n2 c2, .slice C2 m2 d2]
    obtain ⟨ybc_6_0, ybc_6_1⟩ := bc_6.cells2
    clear hRc_1 hP_2 ebbc
    obtain ⟨qo, bo, HR⟩ : ∃ qo bo, Hid (beginQ q ps = (qo, bo)) := ⟨_, _, Lib.hid rfl⟩
    go_wp2_with fail
    generalize hWW : w1.alloc (.cells #[.slice A2 n2 c2, .slice C2 m2 d2] 30) = w2 at *
    clear hWW
    generalize w1.heap.size = gbc at *
    refine (implBegin_any _ q PA pn pc ps _ hRc_3 hP_4 (by simp only [maxLen]; omega) (by omega) (by omega)).mono ?_
    unfold CoTo2
    rw [HR.out]
    rintro e w3 ⟨csO, rfl, hSO, hbO⟩
    clear ybc_6_0 ybc_6_1
    have hRc_7 := repCo.next hRc_3 hbO
    have hP_8 := hP_4.next hbO
    have bc_9 := bc_6.next hbO
    have bt_10 := below_ext bt_5 hbO
    obtain ⟨ybc_9_0, ybc_9_1⟩ := bc_9.cells2
    clear hRc_3 hP_4 bc_6 bt_5 hbO
    have hRo0 := repCo.down (sepCo.reads hSO) (Nat.zero_le _)
    obtain ⟨A3, n3, c3, C3, m3, d3, rfl, hn3, hm3, hcap3, hmax3⟩ := sepCo_two hSO
    have hRo_11 := hRo0
    clear hSO hRo0
    clear ybc_9_0 ybc_9_1
    have ebbo := below_box w3 (.cells #[.slice A3 n3 c3, .slice C3 m3 d3] 30)
    have hRc_12 := repCo.next hRc_7 ebbo
    have hP_13 := hP_8.next ebbo
    have bc_14 := bc_9.next ebbo
    have hRo_15 := repCo.next hRo_11 ebbo
    have bt_16 := below_ext bt_10 ebbo
    have bo_17 := Blk.new w3 30 [.slice A3 n3 c3, .slice C3 m3 d3]
    obtain ⟨ybc_14_0, ybc_14_1⟩ := bc_14.cells2
    obtain ⟨ybo_17_0, ybo_17_1⟩ := bo_17.cells2
    clear hRc_7 hP_8 bc_9 hRo_11 bt_10 ebbo
    go_wp2_with fail
    generalize hWW : w3.alloc (.cells #[.slice A3 n3 c3, .slice C3 m3 d3] 30) = w4 at *
    clear hWW
    generalize w3.heap.size = gbo at *
    refine (specBegin_any _ q PA pn pc ps _ hRc_12 hP_13 (by simp only [maxLen]; omega)).mono ?_
    unfold CoTo2
    rw [HR.out]
    rintro e w5 ⟨csW, rfl, hSW, hbW⟩
    clear ybc_14_0 ybc_14_1 ybo_17_0 ybo_17_1
    have hRc_18 := repCo.next hRc_12 hbW
    have hP_19 := hP_13.next hbW
    have bc_20 := bc_14.next hbW
    have hRo_21 := repCo.next hRo_15 hbW
    have bo_22 := bo_17.next hbW
    have bt_23 := below_ext bt_16 hbW
    obtain ⟨ybc_20_0, ybc_20_1⟩ := bc_20.cells2
    obtain ⟨ybo_22_0, ybo_22_1⟩ := bo_22.cells2
    clear hRc_12 hP_13 bc_14 hRo_15 bo_17 bt_16 hbW
    have hRw0 := repCo.down (sepCo.reads hSW) (Nat.zero_le _)
    obtain ⟨A4, n4, c4, C4, m4, d4, rfl, hn4, hm4⟩ := repCo_two hRw0
    have hRw_24 := hRw0
    clear hSW hRw0
    clear ybc_20_0 ybc_20_1 ybo_22_0 ybo_22_1
    have ebbw := below_box w5 (.cells #[.slice A4 n4 c4, .slice C4 m4 d4] 30)
    have hRc_25 := repCo.next hRc_18 ebbw
    have hP_26 := hP_19.next ebbw
    have bc_27 := bc_20.next ebbw
    have hRo_28 := repCo.next hRo_21 ebbw
    have bo_29 := bo_22.next ebbw
    have hRw_30 := repCo.next hRw_24 ebbw
    have bt_31 := below_ext bt_23 ebbw
    have bw_32 := Blk.new w5 30 [.slice A4 n4 c4, .slice C4 m4 d4]
    obtain ⟨ybc_27_0, ybc_27_1⟩ := bc_27.cells2
    obtain ⟨ybo_29_0, ybo_29_1⟩ := bo_29.cells2
    obtain ⟨ybw_32_0, ybw_32_1⟩ := bw_32.cells2
    clear hRc_18 hP_19 bc_20 hRo_21 bo_22 hRw_24 bt_23 ebbw
    have hbne : (bo != bo) = false := by simp
    have hbeq : (bo == bo) = true := by simp
    go_wp2_with fail
    generalize hWW : w5.alloc (.cells #[.slice A4 n4 c4, .slice C4 m4 d4] 30) = w6 at *
    clear hWW
    generalize w5.heap.size = gbw at *
    refine (sameCoordinator_any _ _ qo qo _ hRo_28 hRw_30).mono ?_
    rw [eqCo_refl]
    rintro e w7 ⟨rfl, hbS⟩
    clear ybc_27_0 ybc_27_1 ybo_29_0 ybo_29_1 ybw_32_0 ybw_32_1
    have hRc_33 := repCo.next hRc_25 hbS
    have hP_34 := hP_26.next hbS
    have bc_35 := bc_27.next hbS
    have hRo_36 := repCo.next hRo_28 hbS
    have bo_37 := bo_29.next hbS
    have hRw_38 := repCo.next hRw_30 hbS
    have bw_39 := bw_32.next hbS
    have bt_40 := below_ext bt_31 hbS
    obtain ⟨ybc_35_0, ybc_35_1⟩ := bc_35.cells2
    obtain ⟨ybo_37_0, ybo_37_1⟩ := bo_37.cells2
    obtain ⟨ybw_39_0, ybw_39_1⟩ := bw_39.cells2
    clear hRc_25 hP_26 bc_27 hRo_28 bo_29 hRw_30 bw_32 bt_31 hbS
    cases bo
    · skip
      go_wp2_with fail
      refine (sameCoordinator_any _ _ _ _ _ hRo_36 hRw_38).mono ?_
      rw [eqCo_refl]
      rintro e w8 ⟨rfl, hbS⟩
      clear ybc_35_0 ybc_35_1 ybo_37_0 ybo_37_1 ybw_39_0 ybw_39_1
      have hRc_41 := repCo.next hRc_33 hbS
      have hP_42 := hP_34.next hbS
      have bc_43 := bc_35.next hbS
      have hRo_44 := repCo.next hRo_36 hbS
      have bo_45 := bo_37.next hbS
      have hRw_46 := repCo.next hRw_38 hbS
      have bw_47 := bw_39.next hbS
      have bt_48 := below_ext bt_40 hbS
      obtain ⟨ybc_43_0, ybc_43_1⟩ := bc_43.cells2
      obtain ⟨ybo_45_0, ybo_45_1⟩ := bo_45.cells2
      obtain ⟨ybw_47_0, ybw_47_1⟩ := bw_47.cells2
      clear hRc_33 hP_34 bc_35 hRo_36 bo_37 hRw_38 bw_39 bt_40 hbS
      go_wp2_with fail
      go_ret
      exact ⟨rfl, bt_48⟩
    · obtain ⟨hv, hp, hlt, rfl⟩ := begin_done HR.out
      have hvo := begin_ok hv hp hlt
      have hn23 : n3 = n2 + 1 := by rw [hn3.out, hl2.out]; simp
      have HN := Lib.hid hn23
      have HWA := Lib.hid (waits_new hvo hl2.out)
      have hn2n : n2 ≤ 12 := by have := hl2.out; omega
      have hs1 : IntKind.i64.wrap ((n3 : Int) - 1) = (n2 : Int) := by rw [IntKind.wrap_i64]; omega
      have hmo : q.ord.length ≤ 100000000 := by omega
      have hlps : ps.length = pn := hP_34.1
      have HL := Lib.hid hlps
      unfold maxLen at hmax3
      clear hlps
      have ebsh := below_box w7 (.cells #[] 3)
      have bsh := Blk.new w7 3 []
      go_wp2_with fail
      clear hn23
      go_loopw [10, 11] (fun v i wr => ∃ (k : Nat) (B : Option Addr) (d : Nat), k ≤ pn ∧ i = .int .i64 k ∧ v = .slice B k d ∧ wr.ownsRow w7.heap.size 3 1 (.slice B k d) k (ints ((ps.take k).map (·.shard))) ∧ Below w7.heap.size w7 wr) (fun _ i _ => pn - (intOf i).toNat)
      case atStart => exact ⟨0, _, _, Nat.zero_le _, rfl, rfl, own_emp bsh (Nat.le_refl _), ebsh⟩
      case round =>
        clear bsh ebsh
        obtain ⟨k, B, d, hk, rfl, rfl, hownj, hbj⟩ := hrel
        have hz := hbj.size
        clear ybc_35_0 ybc_35_1 ybo_37_0 ybo_37_1 ybw_39_0 ybw_39_1
        by_cases hlt2 : k < pn
        · obtain ⟨bp, po, p, csp, rfl, hbp, hpk, hcp, hvp⟩ := (hP_34.next hbj).at_ hlt2
          obtain ⟨P9, n9, c9, rfl, -, -⟩ := repPt_cells hvp
          have cp : wr.cell? ⟨bp, po + k * 2, none⟩ = some (.int .i64 p.shard) := hcp 0 _ rfl
          have HS := Lib.hid (shards_succ k ps p hpk)
          clear hcp hvp hpk
          go_wp2_with (at_builtin; go_loud (refine wpList_app rfl (.tmp 65) (.tmp 71) 23 rfl w7.heap.size 3 Try.underlying23 int_info1 rfl (by omega) (by omega) _ k _ rfl (hownj.alloc _) ⟨wr.heap.size, 0, none⟩ 1 1 [.int .i64 p.shard] rfl rfl (cell_one_new _ _ _) (by simp [Value.oneCell']) (by omega) (Nat.le_trans hz (by simp)) ?_; intro B' d' w4 hown4 _ hb4 hg4 hloc4))
          go_roundw
          case rel => exact ⟨k + 1, B', d', by omega, by go_num, rfl, by rw [HS.out, ← ints_snoc]; exact hown4, hbj.trans (((below_box wr (.cells #[.int .i64 p.shard] 3)).mono hz).trans hb4)⟩
          case measure => simp [intOf]; omega
        · have hke : pn = k := by omega
          subst hke
          rw [List.take_of_length_le (by rw [HL.out]; exact Nat.le_refl _)] at hownj
          have hRc_41 := repCo.next hRc_33 hbj
          have hP_42 := hP_34.next hbj
          have bc_43 := bc_35.next hbj
          have hRo_44 := repCo.next hRo_36 hbj
          have bo_45 := bo_37.next hbj
          have hRw_46 := repCo.next hRw_38 hbj
          have bw_47 := bw_39.next hbj
          have bt_48 := below_ext bt_40 hbj
          have hshr : RInts wr B pn (ps.map (·.shard)) := RInts.of_ownL hownj
          have hsh_0 := hshr
          obtain ⟨ybc_43_0, ybc_43_1⟩ := bc_43.cells2
          obtain ⟨ybo_45_0, ybo_45_1⟩ := bo_45.cells2
          obtain ⟨ybw_47_0, ybw_47_1⟩ := bw_47.cells2
          have hbF : Below wr.heap.size wr (wr.alloc (.cells #[.slice A3 n2 c3, .slice C3 m3 d3] 30)) := below_box wr _
          have bx0 := Blk.new wr 30 [.slice A3 n3 c3, .slice C3 m3 d3]
          obtain ⟨x00, x01⟩ := bx0.cells2
          have fx00 := bx0.frozen 0
          have bx1 := Blk.new wr 30 [.slice A3 n2 c3, .slice C3 m3 d3]
          obtain ⟨o00, o01⟩ := (bo_45.next (below_box wr (.cells #[.slice A3 n3 c3, .slice C3 m3 d3] 30))).cells2
          obtain ⟨_, _, _, _, _, _, e9, hr0, _, hr1, _⟩ := repCo_cells hRo_44
          obtain ⟨⟨rfl, rfl, rfl⟩, rfl, rfl, rfl⟩ : (_ ∧ _ ∧ _) ∧ _ ∧ _ ∧ _ := by simpa using e9
          clear e9
          rw [HN.out] at hr0
          have hrx := repCo_mk (x := q) (d0 := c3) (d1 := d3) hr0.butLast (by simp only [maxLen]; omega) hr1 (by simp only [maxLen]; have := hm3.out; have h9 : m3 = q.ord.length := this; omega)
          have hRx_0 := hrx
          obtain ⟨bt, tq, y, cst, rfl, hbt, hy, hct, hvt⟩ := hr0.at_ (k := n2) (by omega)
          have hyy : y = newTx ps := by rw [hl2.out, List.getElem?_append_right (Nat.le_refl _), Nat.sub_self] at hy; simpa using hy.symm
          subst hyy
          obtain ⟨P0, p0, f0, V0, v0, s0, rfl, hrp, hmp, -, -⟩ := repTx_cells hvt
          have ct0 : wr.cell? ⟨bt, tq + n2 * 3, none⟩ = some (.slice P0 p0 f0) := hct 0 _ rfl
          have ct2 : wr.cell? ⟨bt, tq + n2 * 3 + 1 + 1, none⟩ = some (.int .i64 0) := hct 2 _ rfl
          have hrp' : RSl repPt 0 wr P0 p0 ps := hrp
          clear hct hvt hy hr0 hr1 hrx hshr
          have ltb_0 := hbt
          have ct0_0 := ct0
          have ct2_0 := ct2
          have hPo_0 := hrp'
          clear ct0 ct2 hrp hrp' hbt
          have hRc_49 := repCo.next hRc_41 hbF
          have hP_50 := hP_42.next hbF
          have bc_51 := bc_43.next hbF
          have hRo_52 := repCo.next hRo_44 hbF
          have bo_53 := bo_45.next hbF
          have hRw_54 := repCo.next hRw_46 hbF
          have bw_55 := bw_47.next hbF
          have hsh_56 := hsh_0.next hbF
          have hRx_57 := repCo.next hRx_0 hbF
          have ltb_58 := Nat.lt_of_lt_of_le ltb_0 hbF.size
          have ct0_59 := (hbF.cell (p := ⟨bt, tq + n2 * 3, none⟩) ltb_0).trans ct0_0
          have ct2_60 := (hbF.cell (p := ⟨bt, tq + n2 * 3 + 1 + 1, none⟩) ltb_0).trans ct2_0
          have hPo_61 := hPo_0.next hbF
          have bt_62 := below_ext bt_48 hbF
          have bx_63 := bx1
          obtain ⟨ybc_51_0, ybc_51_1⟩ := bc_51.cells2
          obtain ⟨ybo_53_0, ybo_53_1⟩ := bo_53.cells2
          obtain ⟨ybw_55_0, ybw_55_1⟩ := bw_55.cells2
          obtain ⟨ybx_63_0, ybx_63_1⟩ := bx_63.cells2
          have hnc : n2 ≤ c3 := by have := HN.out; omega
          have hnn : n2 < n3 := by have := HN.out; omega
          clear hRc_33 hP_34 bc_35 hRo_36 bo_37 hRw_38 bw_39 bt_40 hRc_41 hP_42 bc_43 hRo_44 bo_45 hRw_46 bw_47 hsh_0 hRx_0 ltb_0 ct0_0 ct2_0 hPo_0 bt_48 hbj hbF bx1 hownj
          go_wp2_with fail
          generalize hWW : wr.alloc (.cells #[.slice (some ⟨bt, tq, none⟩) n2 c3, .slice C3 m3 d3] 30) = wF at *
          clear hWW x00 x01 fx00 bx0 o00 o01
          generalize wr.heap.size = gx at *
          refine (sameParts_any P0 PA p0 f0 pn pc ps ps _ hPo_61 hP_50 hmp (by simp only [maxLen]; omega)).mono ?_
          rw [eqL_refl eqPt_refl]
          rintro e w8 ⟨rfl, hb7⟩
          clear ybc_43_0 ybc_43_1 ybo_45_0 ybo_45_1 ybw_47_0 ybw_47_1 ybc_51_0 ybc_51_1 ybo_53_0 ybo_53_1 ybw_55_0 ybw_55_1 ybx_63_0 ybx_63_1
          have hRc_64 := repCo.next hRc_49 hb7
          have hP_65 := hP_50.next hb7
          have bc_66 := bc_51.next hb7
          have hRo_67 := repCo.next hRo_52 hb7
          have bo_68 := bo_53.next hb7
          have hRw_69 := repCo.next hRw_54 hb7
          have bw_70 := bw_55.next hb7
          have hsh_71 := hsh_56.next hb7
          have hRx_72 := repCo.next hRx_57 hb7
          have ltb_73 := Nat.lt_of_lt_of_le ltb_58 hb7.size
          have ct0_74 := (hb7.cell (p := ⟨bt, tq + n2 * 3, none⟩) ltb_58).trans ct0_59
          have ct2_75 := (hb7.cell (p := ⟨bt, tq + n2 * 3 + 1 + 1, none⟩) ltb_58).trans ct2_60
          have hPo_76 := hPo_61.next hb7
          have bx_77 := bx_63.next hb7
          have bt_78 := below_ext bt_62 hb7
          obtain ⟨ybc_66_0, ybc_66_1⟩ := bc_66.cells2
          obtain ⟨ybo_68_0, ybo_68_1⟩ := bo_68.cells2
          obtain ⟨ybw_70_0, ybw_70_1⟩ := bw_70.cells2
          obtain ⟨ybx_77_0, ybx_77_1⟩ := bx_77.cells2
          clear hRc_49 hP_50 bc_51 hRo_52 bo_53 hRw_54 bw_55 hsh_56 hRx_57 ltb_58 ct0_59 ct2_60 hPo_61 bx_63 bt_62 hb7
          go_wp2_with fail
          refine (implWaits_any _ _ (n2 : Int) _ hRo_67 (by exact hmo) (by simp; omega)).mono ?_
          unfold WaitsTo
          rw [HWA.out]
          rintro e w9 ⟨B8, m8, d8, rfl, hown8, hb8⟩
          clear ybc_66_0 ybc_66_1 ybo_68_0 ybo_68_1 ybw_70_0 ybw_70_1 ybx_77_0 ybx_77_1
          have hRc_79 := repCo.next hRc_64 hb8
          have hP_80 := hP_65.next hb8
          have bc_81 := bc_66.next hb8
          have hRo_82 := repCo.next hRo_67 hb8
          have bo_83 := bo_68.next hb8
          have hRw_84 := repCo.next hRw_69 hb8
          have bw_85 := bw_70.next hb8
          have hsh_86 := hsh_71.next hb8
          have hRx_87 := repCo.next hRx_72 hb8
          have ltb_88 := Nat.lt_of_lt_of_le ltb_73 hb8.size
          have ct0_89 := (hb8.cell (p := ⟨bt, tq + n2 * 3, none⟩) ltb_73).trans ct0_74
          have ct2_90 := (hb8.cell (p := ⟨bt, tq + n2 * 3 + 1 + 1, none⟩) ltb_73).trans ct2_75
          have hPo_91 := hPo_76.next hb8
          have bx_92 := bx_77.next hb8
          have bt_93 := below_ext bt_78 hb8
          obtain ⟨ybc_81_0, ybc_81_1⟩ := bc_81.cells2
          obtain ⟨ybo_83_0, ybo_83_1⟩ := bo_83.cells2
          obtain ⟨ybw_85_0, ybw_85_1⟩ := bw_85.cells2
          obtain ⟨ybx_92_0, ybx_92_1⟩ := bx_92.cells2
          clear hRc_64 hP_65 bc_66 hRo_67 bo_68 hRw_69 bw_70 hsh_71 hRx_72 ltb_73 ct0_74 ct2_75 hPo_76 bx_77 bt_78 hb8
          have hr8 := RInts.of_ownL hown8
          go_wp2_with fail
          refine (sameInts_any _ _ _ _ _ _ (ps.map (·.shard)) (ps.map (·.shard)) _ hr8 hsh_86 (by have := hr8.1; have := HL.out; simp at *; simp only [maxLen]; omega) (by simp only [maxLen]; omega)).mono ?_
          rw [eqI_self]
          rintro e w10 ⟨rfl, hb9⟩
          clear ybc_81_0 ybc_81_1 ybo_83_0 ybo_83_1 ybw_85_0 ybw_85_1 ybx_92_0 ybx_92_1
          have hRc_94 := repCo.next hRc_79 hb9
          have hP_95 := hP_80.next hb9
          have bc_96 := bc_81.next hb9
          have hRo_97 := repCo.next hRo_82 hb9
          have bo_98 := bo_83.next hb9
          have hRw_99 := repCo.next hRw_84 hb9
          have bw_100 := bw_85.next hb9
          have hsh_101 := hsh_86.next hb9
          have hRx_102 := repCo.next hRx_87 hb9
          have ltb_103 := Nat.lt_of_lt_of_le ltb_88 hb9.size
          have ct0_104 := (hb9.cell (p := ⟨bt, tq + n2 * 3, none⟩) ltb_88).trans ct0_89
          have ct2_105 := (hb9.cell (p := ⟨bt, tq + n2 * 3 + 1 + 1, none⟩) ltb_88).trans ct2_90
          have hPo_106 := hPo_91.next hb9
          have bx_107 := bx_92.next hb9
          have bt_108 := below_ext bt_93 hb9
          obtain ⟨ybc_96_0, ybc_96_1⟩ := bc_96.cells2
          obtain ⟨ybo_98_0, ybo_98_1⟩ := bo_98.cells2
          obtain ⟨ybw_100_0, ybw_100_1⟩ := bw_100.cells2
          obtain ⟨ybx_107_0, ybx_107_1⟩ := bx_107.cells2
          clear hRc_79 hP_80 bc_81 hRo_82 bo_83 hRw_84 bw_85 hsh_86 hRx_87 ltb_88 ct0_89 ct2_90 hPo_91 bx_92 bt_93 hb9
          go_wp2_with fail
          refine (sameCoordinator_any _ _ q q _ hRx_102 hRc_94).mono ?_
          rw [eqCo_refl]
          rintro e w11 ⟨rfl, hb10⟩
          clear ybc_96_0 ybc_96_1 ybo_98_0 ybo_98_1 ybw_100_0 ybw_100_1 ybx_107_0 ybx_107_1
          have hRc_109 := repCo.next hRc_94 hb10
          have hP_110 := hP_95.next hb10
          have bc_111 := bc_96.next hb10
          have hRo_112 := repCo.next hRo_97 hb10
          have bo_113 := bo_98.next hb10
          have hRw_114 := repCo.next hRw_99 hb10
          have bw_115 := bw_100.next hb10
          have hsh_116 := hsh_101.next hb10
          have hRx_117 := repCo.next hRx_102 hb10
          have ltb_118 := Nat.lt_of_lt_of_le ltb_103 hb10.size
          have ct0_119 := (hb10.cell (p := ⟨bt, tq + n2 * 3, none⟩) ltb_103).trans ct0_104
          have ct2_120 := (hb10.cell (p := ⟨bt, tq + n2 * 3 + 1 + 1, none⟩) ltb_103).trans ct2_105
          have hPo_121 := hPo_106.next hb10
          have bx_122 := bx_107.next hb10
          have bt_123 := below_ext bt_108 hb10
          obtain ⟨ybc_111_0, ybc_111_1⟩ := bc_111.cells2
          obtain ⟨ybo_113_0, ybo_113_1⟩ := bo_113.cells2
          obtain ⟨ybw_115_0, ybw_115_1⟩ := bw_115.cells2
          obtain ⟨ybx_122_0, ybx_122_1⟩ := bx_122.cells2
          clear hRc_94 hP_95 bc_96 hRo_97 bo_98 hRw_99 bw_100 hsh_101 hRx_102 ltb_103 ct0_104 ct2_105 hPo_106 bx_107 bt_108 hb10
          go_wp2_with fail
          refine (implCoordinatorValid_any _ _ _ hRo_112 (by exact hmo) (by simp; omega)).mono ?_
          rw [hvo]
          rintro e w12 ⟨rfl, hb11⟩
          clear ybc_111_0 ybc_111_1 ybo_113_0 ybo_113_1 ybw_115_0 ybw_115_1 ybx_122_0 ybx_122_1
          have hRc_124 := repCo.next hRc_109 hb11
          have hP_125 := hP_110.next hb11
          have bc_126 := bc_111.next hb11
          have hRo_127 := repCo.next hRo_112 hb11
          have bo_128 := bo_113.next hb11
          have hRw_129 := repCo.next hRw_114 hb11
          have bw_130 := bw_115.next hb11
          have hsh_131 := hsh_116.next hb11
          have hRx_132 := repCo.next hRx_117 hb11
          have ltb_133 := Nat.lt_of_lt_of_le ltb_118 hb11.size
          have ct0_134 := (hb11.cell (p := ⟨bt, tq + n2 * 3, none⟩) ltb_118).trans ct0_119
          have ct2_135 := (hb11.cell (p := ⟨bt, tq + n2 * 3 + 1 + 1, none⟩) ltb_118).trans ct2_120
          have hPo_136 := hPo_121.next hb11
          have bx_137 := bx_122.next hb11
          have bt_138 := below_ext bt_123 hb11
          obtain ⟨ybc_126_0, ybc_126_1⟩ := bc_126.cells2
          obtain ⟨ybo_128_0, ybo_128_1⟩ := bo_128.cells2
          obtain ⟨ybw_130_0, ybw_130_1⟩ := bw_130.cells2
          obtain ⟨ybx_137_0, ybx_137_1⟩ := bx_137.cells2
          clear hRc_109 hP_110 bc_111 hRo_112 bo_113 hRw_114 bw_115 hsh_116 hRx_117 ltb_118 ct0_119 ct2_120 hPo_121 bx_122 bt_123 hb11
          go_wp2_with fail
          go_ret
          exact ⟨rfl, bt_138⟩
end Go.Proofs.Ytfbdfigkodiboaa
