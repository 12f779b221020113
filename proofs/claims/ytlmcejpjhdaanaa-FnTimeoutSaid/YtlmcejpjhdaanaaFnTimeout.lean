/- The law FnTimeout, walked: for every code it answers true. -/
import Derived.Test.YtlmcejpjhdaanaaCoLaw
import Derived.Test.YtlmcejpjhdaanaaVotePlain
import Derived.Test.YtlmcejpjhdaanaaTimeI
import Derived.Test.YtlmcejpjhdaanaaTimeS
import Derived.Test.YtlmcejpjhdaanaaSameC
import Derived.Test.YtlmcejpjhdaanaaWaits
import Derived.Test.YtlmcejpjhdaanaaRemake
namespace Go.Proofs.Ytlmcejpjhdaanaa
open Go.RowKit Go.Sort

set_option maxRecDepth 100000 in
set_option maxHeartbeats 3200000 in
theorem FnTimeout_walk (A : Option Addr) (n c : Nat) (w : World) (h : RBytes w w.heap.size A n ∧ n ≤ c) (hn : n ≤ maxLen) :
    Calls Try.prog 4 #[.slice A n c] w fun e w' => e = .returned (.bool true) ∧ Below w.heap.size w w' := by
  have hn0 := hn
  unfold maxLen at hn0
  by_cases hs : 1048576 < n
  · go_enter Try.func4, Try.ntmps4
    go_wp2_with fail
    go_ret
    exact ⟨rfl, Below.refl _ _⟩
  · go_enter Try.func4, Try.ntmps4
    go_wp2_with fail
    refine (DrawCoordinatorTimeout_any A n c w h.1 hn h.2).mono ?_
    rintro e w1 ⟨cs, q, t, rfl, ht0, ht1, hQ, hb1⟩
    obtain ⟨A2, n2, c2, C2, m2, d2, rfl⟩ := hQ.two
    have htn := hQ.tiny
    have htn1 := htn.1
    have htn2 := htn.2.1
    have hRc_1 := hQ.rep0
    obtain ⟨_, _, _, _, _, _, e9, hl2, hl2m⟩ := repCo_two hQ.rep0
    obtain ⟨⟨rfl, rfl, rfl⟩, rfl, rfl, rfl⟩ : (_ ∧ _ ∧ _) ∧ _ ∧ _ ∧ _ := by simpa using e9
    clear e9 hQ
    have ebbc := below_box w1 (.cells #[.slice A2 n2 c2, .slice C2 m2 d2] 26)
    have hRc_2 := repCo.next hRc_1 ebbc
    have bt_3 := below_ext hb1 ebbc
    have bc_4 := Blk.new w1 26 [.slice A2 n2 c2, .slice C2 m2 d2]
    obtain ⟨ybc_4_0, ybc_4_1⟩ := bc_4.cells2
    clear hRc_1 ebbc
    obtain ⟨qo, bo, HR⟩ : ∃ qo bo, Hid (timeoutQ q t = (qo, bo)) := ⟨_, _, Lib.hid rfl⟩
    go_wp2_with fail
    generalize hWW : w1.alloc (.cells #[.slice A2 n2 c2, .slice C2 m2 d2] 26) = w2 at *
    clear hWW
    generalize w1.heap.size = gbc at *
    refine (implTimeout_any _ q t _ hRc_2 (by omega) (by omega)).mono ?_
    unfold CoTo2
    rw [HR.out]
    rintro e w3 ⟨csO, rfl, hSO, hbO⟩
    clear ybc_4_0 ybc_4_1
    have hRc_5 := repCo.next hRc_2 hbO
    have bc_6 := bc_4.next hbO
    have bt_7 := below_ext bt_3 hbO
    obtain ⟨ybc_6_0, ybc_6_1⟩ := bc_6.cells2
    clear hRc_2 bc_4 bt_3 hbO
    have hRo0 := repCo.down (sepCo.reads hSO) (Nat.zero_le _)
    obtain ⟨A3, n3, c3, C3, m3, d3, rfl, hn3, hm3, hcap3, hmax3⟩ := sepCo_two hSO
    have hRo_8 := hRo0
    clear hSO hRo0
    clear ybc_6_0 ybc_6_1
    have ebbo := below_box w3 (.cells #[.slice A3 n3 c3, .slice C3 m3 d3] 26)
    have hRc_9 := repCo.next hRc_5 ebbo
    have bc_10 := bc_6.next ebbo
    have hRo_11 := repCo.next hRo_8 ebbo
    have bt_12 := below_ext bt_7 ebbo
    have bo_13 := Blk.new w3 26 [.slice A3 n3 c3, .slice C3 m3 d3]
    obtain ⟨ybc_10_0, ybc_10_1⟩ := bc_10.cells2
    obtain ⟨ybo_13_0, ybo_13_1⟩ := bo_13.cells2
    clear hRc_5 bc_6 hRo_8 bt_7 ebbo
    go_wp2_with fail
    generalize hWW : w3.alloc (.cells #[.slice A3 n3 c3, .slice C3 m3 d3] 26) = w4 at *
    clear hWW
    generalize w3.heap.size = gbo at *
    refine (specTimeout_any _ q t _ hRc_9).mono ?_
    unfold CoTo2
    rw [HR.out]
    rintro e w5 ⟨csW, rfl, hSW, hbW⟩
    clear ybc_10_0 ybc_10_1 ybo_13_0 ybo_13_1
    have hRc_14 := repCo.next hRc_9 hbW
    have bc_15 := bc_10.next hbW
    have hRo_16 := repCo.next hRo_11 hbW
    have bo_17 := bo_13.next hbW
    have bt_18 := below_ext bt_12 hbW
    obtain ⟨ybc_15_0, ybc_15_1⟩ := bc_15.cells2
    obtain ⟨ybo_17_0, ybo_17_1⟩ := bo_17.cells2
    clear hRc_9 bc_10 hRo_11 bo_13 bt_12 hbW
    have hRw0 := repCo.down (sepCo.reads hSW) (Nat.zero_le _)
    obtain ⟨A4, n4, c4, C4, m4, d4, rfl, hn4, hm4⟩ := repCo_two hRw0
    have hRw_19 := hRw0
    clear hSW hRw0
    clear ybc_15_0 ybc_15_1 ybo_17_0 ybo_17_1
    have ebbw := below_box w5 (.cells #[.slice A4 n4 c4, .slice C4 m4 d4] 26)
    have hRc_20 := repCo.next hRc_14 ebbw
    have bc_21 := bc_15.next ebbw
    have hRo_22 := repCo.next hRo_16 ebbw
    have bo_23 := bo_17.next ebbw
    have hRw_24 := repCo.next hRw_19 ebbw
    have bt_25 := below_ext bt_18 ebbw
    have bw_26 := Blk.new w5 26 [.slice A4 n4 c4, .slice C4 m4 d4]
    obtain ⟨ybc_21_0, ybc_21_1⟩ := bc_21.cells2
    obtain ⟨ybo_23_0, ybo_23_1⟩ := bo_23.cells2
    obtain ⟨ybw_26_0, ybw_26_1⟩ := bw_26.cells2
    clear hRc_14 bc_15 hRo_16 bo_17 hRw_19 bt_18 ebbw
    have hbne : (bo != bo) = false := by simp
    have hbeq : (bo == bo) = true := by simp
    go_wp2_with fail
    generalize hWW : w5.alloc (.cells #[.slice A4 n4 c4, .slice C4 m4 d4] 26) = w6 at *
    clear hWW
    generalize w5.heap.size = gbw at *
    refine (sameCoordinator_any _ _ _ _ _ hRo_22 hRw_24).mono ?_
    rw [eqCo_refl]
    rintro e w7 ⟨rfl, hbS⟩
    clear ybc_21_0 ybc_21_1 ybo_23_0 ybo_23_1 ybw_26_0 ybw_26_1
    have hRc_27 := repCo.next hRc_20 hbS
    have bc_28 := bc_21.next hbS
    have hRo_29 := repCo.next hRo_22 hbS
    have bo_30 := bo_23.next hbS
    have hRw_31 := repCo.next hRw_24 hbS
    have bw_32 := bw_26.next hbS
    have bt_33 := below_ext bt_25 hbS
    obtain ⟨ybc_28_0, ybc_28_1⟩ := bc_28.cells2
    obtain ⟨ybo_30_0, ybo_30_1⟩ := bo_30.cells2
    obtain ⟨ybw_32_0, ybw_32_1⟩ := bw_32.cells2
    clear hRc_20 bc_21 hRo_22 bo_23 hRw_24 bw_26 bt_25 hbS
    cases bo
    · skip
      go_wp2_with fail
      refine (sameCoordinator_any _ _ _ _ _ hRo_29 hRw_31).mono ?_
      rw [eqCo_refl]
      rintro e w8 ⟨rfl, hbS⟩
      clear ybc_28_0 ybc_28_1 ybo_30_0 ybo_30_1 ybw_32_0 ybw_32_1
      have hRc_34 := repCo.next hRc_27 hbS
      have bc_35 := bc_28.next hbS
      have hRo_36 := repCo.next hRo_29 hbS
      have bo_37 := bo_30.next hbS
      have hRw_38 := repCo.next hRw_31 hbS
      have bw_39 := bw_32.next hbS
      have bt_40 := below_ext bt_33 hbS
      obtain ⟨ybc_35_0, ybc_35_1⟩ := bc_35.cells2
      obtain ⟨ybo_37_0, ybo_37_1⟩ := bo_37.cells2
      obtain ⟨ybw_39_0, ybw_39_1⟩ := bw_39.cells2
      clear hRc_27 bc_28 hRo_29 bo_30 hRw_31 bw_32 bt_33 hbS
      go_wp2_with fail
      go_ret
      exact ⟨rfl, bt_40⟩
    · obtain ⟨hv, tn, x, rfl, hx, hd, hqo⟩ := timeout_done HR.out
      have HWA := Lib.hid (abort_waits hv hx hd)
      have HOK := Lib.hid (abort_ok hv hx hd)
      rw [← hqo] at HWA HOK
      have hqo1 : qo.ts.length ≤ 100000000 := by rw [hqo]; simp; omega
      have hqo2 : qo.ord.length ≤ 100000000 := by rw [hqo]; simp; omega
      have hq3 : n3 = n2 := by have := hl2.out; rw [hn3.out, hqo]; simp; omega
      have HN := Lib.hid hq3
      have hlt : tn < n3 := by have := hl2.out; have := (List.getElem?_eq_some_iff.1 hx).1; omega
      have hn3s : n3 ≤ 12 := by have := hl2.out; omega
      clear hq3
      obtain ⟨_, _, _, _, _, _, e9, hr0o, hm0o, hr1o, hm1o⟩ := repCo_cells hRo_29
      obtain ⟨⟨rfl, rfl, rfl⟩, rfl, rfl, rfl⟩ : (_ ∧ _ ∧ _) ∧ _ ∧ _ ∧ _ := by simpa using e9
      clear e9
      have hxo : qo.ts[tn]? = some ⟨x.ps, x.vs, 3⟩ := by rw [hqo]; simp [(List.getElem?_eq_some_iff.1 hx).1]
      have hback : qo.ts.set tn ⟨x.ps, x.vs, 0⟩ = q.ts := by rw [hqo]; show (q.ts.set tn _).set tn _ = q.ts; rw [List.set_set]; rw [show (⟨x.ps, x.vs, 0⟩ : Tx) = x by rw [← hd]]; rw [← (List.getElem?_eq_some_iff.1 hx).2]; exact List.set_getElem_self _
      have hordq : qo.ord = q.ord := by rw [hqo]
      obtain ⟨css, hcl, hc3, hcV, hcr⟩ := hr0o.txFlat
      obtain ⟨ad, hA3, hadb, hcr⟩ := hcr (by omega)
      have hlo := hr0o.1
      have hone := one_flat (hcl.trans hlo.symm) hcV
      obtain ⟨bt, tq, y, cst, hA4, hbt, hy, hct, hvt⟩ := hr0o.at_ hlt
      rw [hxo] at hy
      injection hy with hy
      subst hy
      obtain ⟨P0, q0, e0, P1, q1, e1, rfl, -, -, -, -⟩ := repTx_cells hvt
      subst hA4
      have a3 : w7.cell? ⟨bt, tq + tn * 3 + 1 + 1, none⟩ = some (.int .i64 3) := hct 2 _ rfl
      injection hA3 with hA3
      subst hA3
      clear hct hvt
      have HHID := Lib.hid (And.intro hxo (And.intro hback (And.intro hordq (And.intro hx (And.intro hd hqo)))))
      have HCL := Lib.hid (And.intro hcl hlo)
      have hflen : css.flatten.length = n3 * 3 := by rw [flat_len hc3, hcl]
      have HFL := Lib.hid hflen
      clear hxo hback hordq hx hqo hd hcl hlo hflen
      have bx0 := Blk.new w7 26 [.slice (some ⟨bt, tq, none⟩) n3 c3, .slice C3 m3 d3]
      have e1 := below_box w7 (.cells #[.slice (some ⟨bt, tq, none⟩) n3 c3, .slice C3 m3 d3] 26)
      obtain ⟨o00, o01⟩ := (bo_30.next e1).cells2
      have bs0 : Blk ((w7.alloc (.cells #[.slice (some ⟨bt, tq, none⟩) n3 c3, .slice C3 m3 d3] 26)).alloc (.cells #[] 35)) (w7.heap.size + 1) 35 [] := by simpa using Blk.new (w7.alloc (.cells #[.slice (some ⟨bt, tq, none⟩) n3 c3, .slice C3 m3 d3] 26)) 35 []
      have e2 := below_ext e1 (below_box (w7.alloc (.cells #[.slice (some ⟨bt, tq, none⟩) n3 c3, .slice C3 m3 d3] 26)) (.cells #[] 35))
      have bx1 := bx0.alloc (.cells #[] 35)
      obtain ⟨o10, o11⟩ := (bo_30.next e2).cells2
      obtain ⟨xx0, xx1⟩ := bx1.cells2
      clear ybc_28_0 ybc_28_1 ybo_30_0 ybo_30_1 ybw_32_0 ybw_32_1
      obtain ⟨ybo_0, ybo_1⟩ := bo_30.cells2
      have hsz1 : (w7.alloc (.cells #[.slice (some ⟨bt, tq, none⟩) n3 c3, .slice C3 m3 d3] 26)).heap.size = w7.heap.size + 1 := by simp
      have HSZ := Lib.hid hsz1
      clear hsz1
      go_wp2_with (at_builtin; go_loud (refine wpList_appS rfl (.tmp 52) (.tmp 54) 23 rfl (w7.heap.size + 1) 35 Try.underlying23 txn_info1 rfl (by omega) (by omega) _ 0 [] rfl (own_emp bs0 (Nat.le_refl _)) _ n3 c3 css.flatten rfl HFL.out (fun hn => ⟨_, rfl, fun j u hu => (e2.cell (p := (⟨bt, tq, none⟩ : Addr).add j) (by rw [block_of_add]; exact hadb)).trans (hcr j u hu)⟩) hone n3 (by omega) (by omega) (by simp) ?_; intro Bn dn wA hownA _ hbA hgA; have bxA := bx1.below hbA (Nat.lt_succ_self _); obtain ⟨xA0, xA1⟩ := bxA.cells2; have fA0 := bxA.frozen 0; obtain ⟨gB, rfl, hgB1, hgB2⟩ := own_addr hownA (by omega); simp only [List.nil_append] at hownA; obtain ⟨cur, hBk, -, hcurt⟩ := own_blkR hownA; have bxB := bxA.set_ 0 (.slice (some ⟨gB, 0, none⟩) n3 dn); simp only [List.set_cons_zero] at bxB; obtain ⟨xB0, xB1⟩ := bxB.cells2; have hBk2 := hBk.far (p := ⟨w7.heap.size, 0, none⟩) (by dsimp only; omega) (.slice (some ⟨gB, 0, none⟩) n3 dn); have hcu := cur_at HCL.out.1 hc3 hcV HHID.out.1 hcurt; have cB := hBk2.cell (tn * 3 + 2); rw [hcu] at cB; have fB := hBk2.frozen (tn * 3 + 2); have hbWA := e2.trans (hbA.mono (Nat.le_succ _)); have hbF := (hbWA.setCell (p := ⟨w7.heap.size, 0, none⟩) (Nat.le_refl _) (.slice (some ⟨gB, 0, none⟩) n3 dn)).setCell (p := ⟨gB, tn * 3 + 2, none⟩) (by dsimp only; omega) (.int .i64 0); obtain ⟨oF0, oF1⟩ := (bo_30.next hbF).cells2; have aF := (hbF.cell (p := ⟨bt, tq + tn * 3 + 1 + 1, none⟩) hbt).trans a3))
      obtain ⟨hxo, hback, hordq, -⟩ := HHID.out
      have hRS := redec HCL.out.2 HCL.out.1 hc3 hcV hxo hcurt (hBk2.set_ (tn * 3 + 2) (.int .i64 0)) hbF
      rw [hback] at hRS
      have hRO := hr1o.next hbF
      rw [hordq] at hRO
      have hRx_0 := repCo_mk (x := q) (d0 := dn) (d1 := d3) hRS hm0o hRO hm1o
      have bxF := bxB.far (p := ⟨gB, tn * 3 + 2, none⟩) (by dsimp only; omega) (.int .i64 0)
      have hRc_34 := repCo.next hRc_27 hbF
      have bc_35 := bc_28.next hbF
      have hRo_36 := repCo.next hRo_29 hbF
      have bo_37 := bo_30.next hbF
      have hRw_38 := repCo.next hRw_31 hbF
      have bw_39 := bw_32.next hbF
      have bt_40 := below_ext bt_33 hbF
      have bx_41 := bxF
      obtain ⟨ybc_35_0, ybc_35_1⟩ := bc_35.cells2
      obtain ⟨ybo_37_0, ybo_37_1⟩ := bo_37.cells2
      obtain ⟨ybw_39_0, ybw_39_1⟩ := bw_39.cells2
      obtain ⟨ybx_41_0, ybx_41_1⟩ := bx_41.cells2
      clear bxF bxB bxA hRS hRO hback hordq hxo xx0 xx1 xA0 xA1 xB0 xB1 fA0 cB fB bx0 bx1 bs0 o00 o01 o10 o11 ybo_0 ybo_1 oF0 oF1 aF hBk hBk2 hcu hcurt hownA HSZ e1 e2 hbA hbWA hbF hgA hcr hadb a3 hbt hr0o hr1o
      generalize hWW : ((wA.setCell ⟨w7.heap.size, 0, none⟩ (.slice (some ⟨gB, 0, none⟩) n3 dn)).setCell ⟨gB, tn * 3 + 2, none⟩ (.int .i64 0)) = wF at *
      clear hWW
      generalize w7.heap.size = gx at *
      refine (implWaits_any _ _ (tn : Int) _ hRo_36 hqo2 hqo1).mono ?_
      unfold WaitsTo
      rw [HWA.out]
      rintro e w8 ⟨B8, m8, d8, rfl, hown8, hb8⟩
      clear ybc_35_0 ybc_35_1 ybo_37_0 ybo_37_1 ybw_39_0 ybw_39_1 ybx_41_0 ybx_41_1
      have hRc_42 := repCo.next hRc_34 hb8
      have bc_43 := bc_35.next hb8
      have hRo_44 := repCo.next hRo_36 hb8
      have bo_45 := bo_37.next hb8
      have hRw_46 := repCo.next hRw_38 hb8
      have bw_47 := bw_39.next hb8
      have hRx_48 := repCo.next hRx_0 hb8
      have bx_49 := bx_41.next hb8
      have bt_50 := below_ext bt_40 hb8
      obtain ⟨ybc_43_0, ybc_43_1⟩ := bc_43.cells2
      obtain ⟨ybo_45_0, ybo_45_1⟩ := bo_45.cells2
      obtain ⟨ybw_47_0, ybw_47_1⟩ := bw_47.cells2
      obtain ⟨ybx_49_0, ybx_49_1⟩ := bx_49.cells2
      clear hRc_34 bc_35 hRo_36 bo_37 hRw_38 bw_39 hRx_0 bx_41 bt_40 hb8
      obtain rfl : m8 = 0 := by have := (RInts.of_ownL hown8).1; simpa using this.symm
      go_wp2_with fail
      refine (sameCoordinator_any _ _ _ _ _ hRx_48 hRc_42).mono ?_
      rw [eqCo_refl]
      rintro e w9 ⟨rfl, hbS⟩
      clear ybc_43_0 ybc_43_1 ybo_45_0 ybo_45_1 ybw_47_0 ybw_47_1 ybx_49_0 ybx_49_1
      have hRc_51 := repCo.next hRc_42 hbS
      have bc_52 := bc_43.next hbS
      have hRo_53 := repCo.next hRo_44 hbS
      have bo_54 := bo_45.next hbS
      have hRw_55 := repCo.next hRw_46 hbS
      have bw_56 := bw_47.next hbS
      have hRx_57 := repCo.next hRx_48 hbS
      have bx_58 := bx_49.next hbS
      have bt_59 := below_ext bt_50 hbS
      obtain ⟨ybc_52_0, ybc_52_1⟩ := bc_52.cells2
      obtain ⟨ybo_54_0, ybo_54_1⟩ := bo_54.cells2
      obtain ⟨ybw_56_0, ybw_56_1⟩ := bw_56.cells2
      obtain ⟨ybx_58_0, ybx_58_1⟩ := bx_58.cells2
      clear hRc_42 bc_43 hRo_44 bo_45 hRw_46 bw_47 hRx_48 bx_49 bt_50 hbS
      go_wp2_with fail
      refine (implCoordinatorValid_any _ _ _ hRo_53 hqo2 hqo1).mono ?_
      rw [HOK.out]
      rintro e w10 ⟨rfl, hbV⟩
      clear ybc_52_0 ybc_52_1 ybo_54_0 ybo_54_1 ybw_56_0 ybw_56_1 ybx_58_0 ybx_58_1
      have hRc_60 := repCo.next hRc_51 hbV
      have bc_61 := bc_52.next hbV
      have hRo_62 := repCo.next hRo_53 hbV
      have bo_63 := bo_54.next hbV
      have hRw_64 := repCo.next hRw_55 hbV
      have bw_65 := bw_56.next hbV
      have hRx_66 := repCo.next hRx_57 hbV
      have bx_67 := bx_58.next hbV
      have bt_68 := below_ext bt_59 hbV
      obtain ⟨ybc_61_0, ybc_61_1⟩ := bc_61.cells2
      obtain ⟨ybo_63_0, ybo_63_1⟩ := bo_63.cells2
      obtain ⟨ybw_65_0, ybw_65_1⟩ := bw_65.cells2
      obtain ⟨ybx_67_0, ybx_67_1⟩ := bx_67.cells2
      clear hRc_51 bc_52 hRo_53 bo_54 hRw_55 bw_56 hRx_57 bx_58 bt_59 hbV
      go_wp2_with fail
      go_ret
      exact ⟨rfl, bt_68⟩
end Go.Proofs.Ytlmcejpjhdaanaa
