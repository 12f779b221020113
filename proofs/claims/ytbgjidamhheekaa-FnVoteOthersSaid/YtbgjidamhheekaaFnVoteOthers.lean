/- The law FnVoteOthers, walked: for every code it answers true. -/
import Derived.Test.YtbgjidamhheekaaCoLaw
import Derived.Test.YtbgjidamhheekaaDrawVote
import Derived.Test.YtbgjidamhheekaaVotePlain
import Derived.Test.YtbgjidamhheekaaVoteLaw
import Derived.Test.YtbgjidamhheekaaVoteI
import Derived.Test.YtbgjidamhheekaaVote2S
import Derived.Test.YtbgjidamhheekaaSameC
namespace Go.Proofs.Ytbgjidamhheekaa
open Go.RowKit Go.Sort

set_option maxRecDepth 100000 in
set_option maxHeartbeats 3200000 in
theorem FnVoteOthers_walk (A : Option Addr) (n c : Nat) (w : World) (h : RBytes w w.heap.size A n ∧ n ≤ c) (hn : n ≤ maxLen) :
    Calls Try.prog 6 #[.slice A n c] w fun e w' => e = .returned (.bool true) ∧ Below w.heap.size w w' := by
  have hn0 := hn
  unfold maxLen at hn0
  by_cases hs : 1048576 < n
  · go_enter Try.func6, Try.ntmps6
    go_wp2_with fail
    go_ret
    exact ⟨rfl, Below.refl _ _⟩
  · go_enter Try.func6, Try.ntmps6
    go_wp2_with fail
    refine (DrawCoordinatorVote_any A n c w h.1 hn h.2).mono ?_
    rintro e w1 ⟨cs, q, t, z2, yes, rfl, hQ, hb1⟩
    obtain ⟨A2, n2, c2, C2, m2, d2, rfl⟩ := hQ.two
    have htn := hQ.tiny
    have htn1 := htn.1
    have htn2 := htn.2.1
    have hRc_1 := hQ.rep0
    obtain ⟨_, _, _, _, _, _, e9, hl2, hl2m⟩ := repCo_two hQ.rep0
    obtain ⟨⟨rfl, rfl, rfl⟩, rfl, rfl, rfl⟩ : (_ ∧ _ ∧ _) ∧ _ ∧ _ ∧ _ := by simpa using e9
    clear e9 hQ
    have ebbc := below_box w1 (.cells #[.slice A2 n2 c2, .slice C2 m2 d2] 29)
    have hRc_2 := repCo.next hRc_1 ebbc
    have bt_3 := below_ext hb1 ebbc
    have bc_4 := Blk.new w1 29 [.slice A2 n2 c2, .slice C2 m2 d2]
    obtain ⟨ybc_4_0, ybc_4_1⟩ := bc_4.cells2
    clear hRc_1 ebbc
    obtain ⟨qo, bo, HR⟩ : ∃ qo bo, Hid (voteQ q t z2 yes = (qo, bo)) := ⟨_, _, Lib.hid rfl⟩
    go_wp2_with fail
    generalize hWW : w1.alloc (.cells #[.slice A2 n2 c2, .slice C2 m2 d2] 29) = w2 at *
    clear hWW
    generalize w1.heap.size = gbc at *
    refine (implVote_any _ q t z2 yes _ hRc_2 (by omega) (by omega)).mono ?_
    unfold CoTo2
    rw [HR.out]
    rintro e w3 ⟨csO, rfl, hSO, hbO⟩
    clear ybc_4_0 ybc_4_1
    have hRc_5 := repCo.next hRc_2 hbO
    have bc_6 := bc_4.next hbO
    have bt_7 := below_ext bt_3 hbO
    obtain ⟨ybc_6_0, ybc_6_1⟩ := bc_6.cells2
    clear hRc_2 bc_4 bt_3 hbO
    have hRo0 := repCo.down (sepCo.reads hSO) (Nat.zero_le _)
    obtain ⟨A3, n3, c3, C3, m3, d3, rfl, hn3, hm3, hcap3, hmax3⟩ := sepCo_two hSO
    have hRo_8 := hRo0
    clear hSO hRo0
    clear ybc_6_0 ybc_6_1
    have ebbo := below_box w3 (.cells #[.slice A3 n3 c3, .slice C3 m3 d3] 29)
    have hRc_9 := repCo.next hRc_5 ebbo
    have bc_10 := bc_6.next ebbo
    have hRo_11 := repCo.next hRo_8 ebbo
    have bt_12 := below_ext bt_7 ebbo
    have bo_13 := Blk.new w3 29 [.slice A3 n3 c3, .slice C3 m3 d3]
    obtain ⟨ybc_10_0, ybc_10_1⟩ := bc_10.cells2
    obtain ⟨ybo_13_0, ybo_13_1⟩ := bo_13.cells2
    clear hRc_5 bc_6 hRo_8 bt_7 ebbo
    go_wp2_with fail
    generalize hWW : w3.alloc (.cells #[.slice A3 n3 c3, .slice C3 m3 d3] 29) = w4 at *
    clear hWW
    generalize w3.heap.size = gbo at *
    refine (specVote_any _ q t z2 yes _ hRc_9).mono ?_
    unfold CoTo2
    rw [HR.out]
    rintro e w5 ⟨csW, rfl, hSW, hbW⟩
    clear ybc_10_0 ybc_10_1 ybo_13_0 ybo_13_1
    have hRc_14 := repCo.next hRc_9 hbW
    have bc_15 := bc_10.next hbW
    have hRo_16 := repCo.next hRo_11 hbW
    have bo_17 := bo_13.next hbW
    have bt_18 := below_ext bt_12 hbW
    obtain ⟨ybc_15_0, ybc_15_1⟩ := bc_15.cells2
    obtain ⟨ybo_17_0, ybo_17_1⟩ := bo_17.cells2
    clear hRc_9 bc_10 hRo_11 bo_13 bt_12 hbW
    have hRw0 := repCo.down (sepCo.reads hSW) (Nat.zero_le _)
    obtain ⟨A4, n4, c4, C4, m4, d4, rfl, hn4, hm4⟩ := repCo_two hRw0
    have hRw_19 := hRw0
    clear hSW hRw0
    clear ybc_15_0 ybc_15_1 ybo_17_0 ybo_17_1
    have ebbw := below_box w5 (.cells #[.slice A4 n4 c4, .slice C4 m4 d4] 29)
    have hRc_20 := repCo.next hRc_14 ebbw
    have bc_21 := bc_15.next ebbw
    have hRo_22 := repCo.next hRo_16 ebbw
    have bo_23 := bo_17.next ebbw
    have hRw_24 := repCo.next hRw_19 ebbw
    have bt_25 := below_ext bt_18 ebbw
    have bw_26 := Blk.new w5 29 [.slice A4 n4 c4, .slice C4 m4 d4]
    obtain ⟨ybc_21_0, ybc_21_1⟩ := bc_21.cells2
    obtain ⟨ybo_23_0, ybo_23_1⟩ := bo_23.cells2
    obtain ⟨ybw_26_0, ybw_26_1⟩ := bw_26.cells2
    clear hRc_14 bc_15 hRo_16 bo_17 hRw_19 bt_18 ebbw
    have hbne : (bo != bo) = false := by simp
    have hbeq : (bo == bo) = true := by simp
    go_wp2_with fail
    generalize hWW : w5.alloc (.cells #[.slice A4 n4 c4, .slice C4 m4 d4] 29) = w6 at *
    clear hWW
    generalize w5.heap.size = gbw at *
    refine (sameCoordinator_any _ _ _ _ _ hRo_22 hRw_24).mono ?_
    rw [eqCo_refl]
    rintro e w7 ⟨rfl, hbS⟩
    clear ybc_21_0 ybc_21_1 ybo_23_0 ybo_23_1 ybw_26_0 ybw_26_1
    have hRc_27 := repCo.next hRc_20 hbS
    have bc_28 := bc_21.next hbS
    have hRo_29 := repCo.next hRo_22 hbS
    have bo_30 := bo_23.next hbS
    have hRw_31 := repCo.next hRw_24 hbS
    have bw_32 := bw_26.next hbS
    have bt_33 := below_ext bt_25 hbS
    obtain ⟨ybc_28_0, ybc_28_1⟩ := bc_28.cells2
    obtain ⟨ybo_30_0, ybo_30_1⟩ := bo_30.cells2
    obtain ⟨ybw_32_0, ybw_32_1⟩ := bw_32.cells2
    clear hRc_20 bc_21 hRo_22 bo_23 hRw_24 bw_26 bt_25 hbS
    have hsz := vote_tiny HR.out htn1 htn2
    have hqo1 : qo.ts.length ≤ 100000000 := by omega
    have hqo2 : qo.ord.length ≤ 100000000 := by omega
    cases bo
    · skip
      go_wp2_with fail
      refine (sameCoordinator_any _ _ _ _ _ hRo_29 hRw_31).mono ?_
      rw [eqCo_refl]
      rintro e w8 ⟨rfl, hbS⟩
      clear ybc_28_0 ybc_28_1 ybo_30_0 ybo_30_1 ybw_32_0 ybw_32_1
      have hRc_34 := repCo.next hRc_27 hbS
      have bc_35 := bc_28.next hbS
      have hRo_36 := repCo.next hRo_29 hbS
      have bo_37 := bo_30.next hbS
      have hRw_38 := repCo.next hRw_31 hbS
      have bw_39 := bw_32.next hbS
      have bt_40 := below_ext bt_33 hbS
      obtain ⟨ybc_35_0, ybc_35_1⟩ := bc_35.cells2
      obtain ⟨ybo_37_0, ybo_37_1⟩ := bo_37.cells2
      obtain ⟨ybw_39_0, ybw_39_1⟩ := bw_39.cells2
      clear hRc_27 bc_28 hRo_29 bo_30 hRw_31 bw_32 bt_33 hbS
      go_wp2_with fail
      go_ret
      exact ⟨rfl, bt_40⟩
    · skip
      obtain ⟨hv, tn, k, x, rfl, hx, hd, hs0, hvk, hqo⟩ := vote_done HR.out
      have hlen : qo.ts.length = q.ts.length := by rw [hqo]; exact vote1_len hx
      have hn32 : n3 = n2 := by have := hn3.out; have := hl2.out; omega
      have HOT := Lib.hid (fun (i : Nat) (y : Tx) (hi : i ≠ tn) (hy : q.ts[i]? = some y) => (by rw [hqo]; exact vote1_other hx hi hy : qo.ts[i]? = some y))
      have hn2b : n2 ≤ 12 := by have := hl2.out; omega
      subst hn32
      clear hlen hqo hx hd hs0 hvk
      go_wp2_with fail
      clear ybc_28_0 ybc_28_1 ybo_30_0 ybo_30_1 ybw_32_0 ybw_32_1
      go_loopw [11] (fun i wr => ∃ k : Nat, k ≤ n3 ∧ i = .int .i64 k ∧ Below w7.heap.size w7 wr) (fun i _ => n3 - (intOf i).toNat)
      case atStart => exact ⟨0, Nat.zero_le _, rfl, Below.refl _ _⟩
      case round =>
        obtain ⟨i, hk, rfl, hbj⟩ := hrel
        have hRc_34 := repCo.next hRc_27 hbj
        have bc_35 := bc_28.next hbj
        have hRo_36 := repCo.next hRo_29 hbj
        have bo_37 := bo_30.next hbj
        have hRw_38 := repCo.next hRw_31 hbj
        have bw_39 := bw_32.next hbj
        have bt_40 := below_ext bt_33 hbj
        obtain ⟨ybc_35_0, ybc_35_1⟩ := bc_35.cells2
        obtain ⟨ybo_37_0, ybo_37_1⟩ := bo_37.cells2
        obtain ⟨ybw_39_0, ybw_39_1⟩ := bw_39.cells2
        clear hRc_27 bc_28 hRo_29 bo_30 hRw_31 bw_32 bt_33
        by_cases hlt : i < n3
        · by_cases hit : i = tn
          · have hne : ((i : Int) != (tn : Int)) = false := by simp [hit]
            go_wp2
            have gg0 := cell_regrown ybc_35_0
            have gg1 := cell_regrown ybc_35_1
            have gg2 := cell_regrown ybo_37_0
            have gg3 := cell_regrown ybo_37_1
            have gg4 := cell_regrown ybw_39_0
            have gg5 := cell_regrown ybw_39_1
            clear ybc_35_0 ybc_35_1 ybo_37_0 ybo_37_1 ybw_39_0 ybw_39_1
            refine wp_region_ext (by kernel_rfl) (by kernel_rfl) ?_
            repeat (go_big_quiet_step (fail))
            refine wpQuiet_nil ?_
            intro wz hbz
            go_wp2
            go_roundw
            case rel => exact ⟨i + 1, by omega, by go_num, below_ext hbj hbz⟩
            case measure => simp [intOf]; omega
          · have hne : ((i : Int) != (tn : Int)) = true := by simp; omega
            obtain ⟨_, _, _, _, _, _, e9, hr0o, hm0o, hr1o, hm1o⟩ := repCo_cells hRo_36
            obtain ⟨⟨rfl, rfl, rfl⟩, rfl, rfl, rfl⟩ : (_ ∧ _ ∧ _) ∧ _ ∧ _ ∧ _ := by simpa using e9
            clear e9
            obtain ⟨_, _, _, _, _, _, e9, hr0c, hm0c, hr1c, hm1c⟩ := repCo_cells hRc_34
            obtain ⟨⟨rfl, rfl, rfl⟩, rfl, rfl, rfl⟩ : (_ ∧ _ ∧ _) ∧ _ ∧ _ ∧ _ := by simpa using e9
            clear e9
            obtain ⟨bt, tq, y, cst, rfl, hbt, hy, hct, hvt⟩ := hr0o.at_ hlt
            obtain ⟨bu, uq, y2, csu, rfl, hbu, hy2, hcu, hvu⟩ := hr0c.at_ hlt
            have hyy := HOT.out i y2 hit hy2
            rw [hy] at hyy
            injection hyy with hyy
            subst hyy
            obtain ⟨P0, p0, f0, V0, v0, s0, rfl, -, -, hrv, hmv⟩ := repTx_cells hvt
            obtain ⟨P1, p1, f1, V1, v1, s1, rfl, -, -, hrv1, hmv1⟩ := repTx_cells hvu
            have a0 : wr.cell? ⟨bt, tq + i * 3 + 1, none⟩ = some (.slice V0 v0 s0) := hct 1 _ rfl
            have a1 : wr.cell? ⟨bt, tq + i * 3 + 1 + 1, none⟩ = some (.int .i64 y.dec) := hct 2 _ rfl
            have a2 : wr.cell? ⟨bu, uq + i * 3 + 1, none⟩ = some (.slice V1 v1 s1) := hcu 1 _ rfl
            have a3 : wr.cell? ⟨bu, uq + i * 3 + 1 + 1, none⟩ = some (.int .i64 y.dec) := hcu 2 _ rfl
            have hdd : (y.dec != y.dec) = false := by simp
            have hcall := fun W (q : Below wr.heap.size wr W) => sameInts_any V0 V1 v0 s0 v1 s1 y.vs y.vs W (hrv.next q).plain.rints (hrv1.next q).plain.rints hmv hmv1
            simp only [eqI_self] at hcall
            clear hct hcu hvt hvu hy hy2 hr0o hr0c hr1o hr1c
            go_wp2
            have gg0 := cell_regrown ybc_35_0
            have gg1 := cell_regrown ybc_35_1
            have gg2 := cell_regrown ybo_37_0
            have gg3 := cell_regrown ybo_37_1
            have gg4 := cell_regrown ybw_39_0
            have gg5 := cell_regrown ybw_39_1
            have gg6 := cell_regrown a0
            have gg7 := cell_regrown a1
            have gg8 := cell_regrown a2
            have gg9 := cell_regrown a3
            clear ybc_35_0 ybc_35_1 ybo_37_0 ybo_37_1 ybw_39_0 ybw_39_1 a0 a1 a2 a3
            refine wp_region_ext (by kernel_rfl) (by kernel_rfl) ?_
            repeat (go_big_quiet_step ((go_at_call 19; exact rg_below (hcall _ (below_regrown _ _ _)))))
            refine wpQuiet_nil ?_
            intro wz hbz
            go_wp2
            go_roundw
            case rel => exact ⟨i + 1, by omega, by go_num, below_ext hbj hbz⟩
            case measure => simp [intOf]; omega
        · have hke : i = n3 := by omega
          subst hke
          go_wp2_with fail
          go_ret
          exact ⟨rfl, bt_40⟩
end Go.Proofs.Ytbgjidamhheekaa
