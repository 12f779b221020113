/- The law FnVoteYes, walked: for every code it answers true. -/
import Derived.Test.YtbgjidamhheekaaCoLaw
import Derived.Test.YtbgjidamhheekaaDrawVote
import Derived.Test.YtbgjidamhheekaaVotePlain
import Derived.Test.YtbgjidamhheekaaVoteLaw
import Derived.Test.YtbgjidamhheekaaVoteI
import Derived.Test.YtbgjidamhheekaaVote2S
import Derived.Test.YtbgjidamhheekaaSameC
import Derived.Test.YtbgjidamhheekaaWaits
import Derived.Test.YtbgjidamhheekaaRegL
namespace Go.Proofs.Ytbgjidamhheekaa
open Go.RowKit Go.Sort

section
variable {P : Program} {w : World}
theorem step_appW {ops : Array Oper} {o : Oper} {a : Act} {K : Act → World → Prop} {Q : Exit → Act → World → Prop} {E : Prop} (hw : Region.wanted o (yielded ops a.tmps) = true) (s x : Operand) (t : TypeId)
    (ho : o.op = .call { callee := .builtin .append, args := #[s, x], argTypes := #[t, t] })
    (base : Nat) (e : TypeId) {z : Value} {size bytes : Nat} (ht : P.underlying t = some (.slice e)) (hi : (P.info? e).map (fun i => (i.zero, i.size, i.bytes)) = some (some z, size, bytes)) (hzs : z.cells.size = size) (hsz : 0 < size) (hb : bytes ≤ 1000)
    (v : Value) (n : Nat) (xs : List Value) (hs : a.eval s = v) (hown : w.ownsRow base e size v n xs)
    (S : Option Addr) (m c : Nat) (news : List Value) (hx : a.eval x = .slice S m c) (hl : news.length = m * size) (hnews : 0 < m → ∃ ad, S = some ad ∧ ∀ j u, news[j]? = some u → w.cell? (ad.add j) = some u) (h1 : ∀ u ∈ news, u.oneCell' = true)
    (nm : Nat) (hnm : n + m = nm) (hn : nm ≤ 1000000000) (hbase : base ≤ w.heap.size)
    (h : ∀ A c' w', w'.ownsRow base e size (.slice A nm c') nm (xs ++ news) → Below base w w' → w.grownBy w' v.ownBlock → K (a.put o.dst (.slice A nm c')) w') :
    if Region.wanted o (yielded ops a.tmps) = true then Oper.wp P o a w K Q else E := by
  rw [if_pos hw]
  obtain ⟨i0, hi0, hz0, hz1, hz2⟩ := info_parts hi
  subst hnm
  by_cases h0 : m = 0
  · subst h0
    obtain rfl : news = [] := List.eq_nil_of_length_eq_zero (by rw [hl]; simp)
    obtain ⟨A, c', rfl, hc'⟩ := own_form hown
    have hr := run_append_zero (P := P) (w := w) base t o.type e i0 size ht hi0 (.slice A n c') n xs hown S c
    unfold Oper.wp execOp
    simp only [ho, resolve, invoke, builtin, Sem.run_bind, Sem.run_pure, Result.andThen_ok, List.map_toArray, List.map_cons, List.map_nil, hs, hx, hr]
    exact h A c' w (by simpa using hown) (Below.refl _ _) (World.grownBy.refl _ _)
  · obtain ⟨ad, rfl, hc⟩ := hnews (by omega)
    have hbb : (n + m) * bytes ≤ 1000000000 * 1000 := Nat.mul_le_mul hn hb
    obtain ⟨v', w', hr, h2, h3, _, h5⟩ := run_append_own_at (P := P) w base t o.type e i0 z size bytes ht hi0 hz0 hz1 hz2 hzs hsz v n xs hown ad m c news hl hc h1 (by simp only [maxLen]; omega) (by omega) hbase
    unfold Oper.wp execOp
    simp only [ho, resolve, invoke, builtin, Sem.run_bind, Sem.run_pure, Result.andThen_ok, List.map_toArray, List.map_cons, List.map_nil, hs, hx, hr]
    obtain ⟨A, c', rfl, hc'⟩ := own_form h2
    exact h A c' w' h2 ((Below.refl _ _).grown h3 hbase (fun k hk => (hown.lt k hk).1)) h3
end
set_option maxRecDepth 100000 in
set_option maxHeartbeats 3200000 in
theorem FnVoteYes_walk (A : Option Addr) (n c : Nat) (w : World) (h : RBytes w w.heap.size A n ∧ n ≤ c) (hn : n ≤ maxLen) :
    Calls Try.prog 9 #[.slice A n c] w fun e w' => e = .returned (.bool true) ∧ Below w.heap.size w w' := by
  have hn0 := hn
  unfold maxLen at hn0
  by_cases hs : 1048576 < n
  · go_enter Try.func9, Try.ntmps9
    go_wp2_with fail
    go_ret
    exact ⟨rfl, Below.refl _ _⟩
  · go_enter Try.func9, Try.ntmps9
    go_wp2_with fail
    refine (DrawCoordinatorVote_any A n c w h.1 hn h.2).mono ?_
    rintro e w1 ⟨cs, q, t, z2, yes, rfl, hQ, hb1⟩
    obtain ⟨A2, n2, c2, C2, m2, d2, rfl⟩ := hQ.two
    have htn := hQ.tiny
    have htn1 := htn.1
    have htn2 := htn.2.1
    have hRc_1 := hQ.rep0
    obtain ⟨_, _, _, _, _, _, e9, hl2, hl2m⟩ := repCo_two hQ.rep0
    obtain ⟨⟨rfl, rfl, rfl⟩, rfl, rfl, rfl⟩ : (_ ∧ _ ∧ _) ∧ _ ∧ _ ∧ _ := by simpa using e9
    clear e9 hQ
    have ebbc := below_box w1 (.cells #[.slice A2 n2 c2, .slice C2 m2 d2] 29)
    have hRc_2 := repCo.next hRc_1 ebbc
    have bt_3 := below_ext hb1 ebbc
    have bc_4 := Blk.new w1 29 [.slice A2 n2 c2, .slice C2 m2 d2]
    obtain ⟨ybc_4_0, ybc_4_1⟩ := bc_4.cells2
    clear hRc_1 ebbc
    obtain ⟨qo, bo, HR⟩ : ∃ qo bo, Hid (voteQ q t z2 yes = (qo, bo)) := ⟨_, _, Lib.hid rfl⟩
    go_wp2_with fail
    generalize hWW : w1.alloc (.cells #[.slice A2 n2 c2, .slice C2 m2 d2] 29) = w2 at *
    clear hWW
    generalize w1.heap.size = gbc at *
    refine (implVote_any _ q t z2 yes _ hRc_2 (by omega) (by omega)).mono ?_
    unfold CoTo2
    rw [HR.out]
    rintro e w3 ⟨csO, rfl, hSO, hbO⟩
    clear ybc_4_0 ybc_4_1
    have hRc_5 := repCo.next hRc_2 hbO
    have bc_6 := bc_4.next hbO
    have bt_7 := below_ext bt_3 hbO
    obtain ⟨ybc_6_0, ybc_6_1⟩ := bc_6.cells2
    clear hRc_2 bc_4 bt_3 hbO
    have hRo0 := repCo.down (sepCo.reads hSO) (Nat.zero_le _)
    obtain ⟨A3, n3, c3, C3, m3, d3, rfl, hn3, hm3, hcap3, hmax3⟩ := sepCo_two hSO
    have hRo_8 := hRo0
    clear hSO hRo0
    clear ybc_6_0 ybc_6_1
    have ebbo := below_box w3 (.cells #[.slice A3 n3 c3, .slice C3 m3 d3] 29)
    have hRc_9 := repCo.next hRc_5 ebbo
    have bc_10 := bc_6.next ebbo
    have hRo_11 := repCo.next hRo_8 ebbo
    have bt_12 := below_ext bt_7 ebbo
    have bo_13 := Blk.new w3 29 [.slice A3 n3 c3, .slice C3 m3 d3]
    obtain ⟨ybc_10_0, ybc_10_1⟩ := bc_10.cells2
    obtain ⟨ybo_13_0, ybo_13_1⟩ := bo_13.cells2
    clear hRc_5 bc_6 hRo_8 bt_7 ebbo
    go_wp2_with fail
    generalize hWW : w3.alloc (.cells #[.slice A3 n3 c3, .slice C3 m3 d3] 29) = w4 at *
    clear hWW
    generalize w3.heap.size = gbo at *
    refine (specVote_any _ q t z2 yes _ hRc_9).mono ?_
    unfold CoTo2
    rw [HR.out]
    rintro e w5 ⟨csW, rfl, hSW, hbW⟩
    clear ybc_10_0 ybc_10_1 ybo_13_0 ybo_13_1
    have hRc_14 := repCo.next hRc_9 hbW
    have bc_15 := bc_10.next hbW
    have hRo_16 := repCo.next hRo_11 hbW
    have bo_17 := bo_13.next hbW
    have bt_18 := below_ext bt_12 hbW
    obtain ⟨ybc_15_0, ybc_15_1⟩ := bc_15.cells2
    obtain ⟨ybo_17_0, ybo_17_1⟩ := bo_17.cells2
    clear hRc_9 bc_10 hRo_11 bo_13 bt_12 hbW
    have hRw0 := repCo.down (sepCo.reads hSW) (Nat.zero_le _)
    obtain ⟨A4, n4, c4, C4, m4, d4, rfl, hn4, hm4⟩ := repCo_two hRw0
    have hRw_19 := hRw0
    clear hSW hRw0
    clear ybc_15_0 ybc_15_1 ybo_17_0 ybo_17_1
    have ebbw := below_box w5 (.cells #[.slice A4 n4 c4, .slice C4 m4 d4] 29)
    have hRc_20 := repCo.next hRc_14 ebbw
    have bc_21 := bc_15.next ebbw
    have hRo_22 := repCo.next hRo_16 ebbw
    have bo_23 := bo_17.next ebbw
    have hRw_24 := repCo.next hRw_19 ebbw
    have bt_25 := below_ext bt_18 ebbw
    have bw_26 := Blk.new w5 29 [.slice A4 n4 c4, .slice C4 m4 d4]
    obtain ⟨ybc_21_0, ybc_21_1⟩ := bc_21.cells2
    obtain ⟨ybo_23_0, ybo_23_1⟩ := bo_23.cells2
    obtain ⟨ybw_26_0, ybw_26_1⟩ := bw_26.cells2
    clear hRc_14 bc_15 hRo_16 bo_17 hRw_19 bt_18 ebbw
    have hbne : (bo != bo) = false := by simp
    have hbeq : (bo == bo) = true := by simp
    go_wp2_with fail
    generalize hWW : w5.alloc (.cells #[.slice A4 n4 c4, .slice C4 m4 d4] 29) = w6 at *
    clear hWW
    generalize w5.heap.size = gbw at *
    refine (sameCoordinator_any _ _ _ _ _ hRo_22 hRw_24).mono ?_
    rw [eqCo_refl]
    rintro e w7 ⟨rfl, hbS⟩
    clear ybc_21_0 ybc_21_1 ybo_23_0 ybo_23_1 ybw_26_0 ybw_26_1
    have hRc_27 := repCo.next hRc_20 hbS
    have bc_28 := bc_21.next hbS
    have hRo_29 := repCo.next hRo_22 hbS
    have bo_30 := bo_23.next hbS
    have hRw_31 := repCo.next hRw_24 hbS
    have bw_32 := bw_26.next hbS
    have bt_33 := below_ext bt_25 hbS
    obtain ⟨ybc_28_0, ybc_28_1⟩ := bc_28.cells2
    obtain ⟨ybo_30_0, ybo_30_1⟩ := bo_30.cells2
    obtain ⟨ybw_32_0, ybw_32_1⟩ := bw_32.cells2
    clear hRc_20 bc_21 hRo_22 bo_23 hRw_24 bw_26 bt_25 hbS
    have hsz := vote_tiny HR.out htn1 htn2
    have hqo1 : qo.ts.length ≤ 100000000 := by omega
    have hqo2 : qo.ord.length ≤ 100000000 := by omega
    cases bo
    · skip
      go_wp2_with fail
      refine (sameCoordinator_any _ _ _ _ _ hRo_29 hRw_31).mono ?_
      rw [eqCo_refl]
      rintro e w8 ⟨rfl, hbS⟩
      clear ybc_28_0 ybc_28_1 ybo_30_0 ybo_30_1 ybw_32_0 ybw_32_1
      have hRc_34 := repCo.next hRc_27 hbS
      have bc_35 := bc_28.next hbS
      have hRo_36 := repCo.next hRo_29 hbS
      have bo_37 := bo_30.next hbS
      have hRw_38 := repCo.next hRw_31 hbS
      have bw_39 := bw_32.next hbS
      have bt_40 := below_ext bt_33 hbS
      obtain ⟨ybc_35_0, ybc_35_1⟩ := bc_35.cells2
      obtain ⟨ybo_37_0, ybo_37_1⟩ := bo_37.cells2
      obtain ⟨ybw_39_0, ybw_39_1⟩ := bw_39.cells2
      clear hRc_27 bc_28 hRo_29 bo_30 hRw_31 bw_32 bt_33 hbS
      go_wp2_with fail
      go_ret
      exact ⟨rfl, bt_40⟩
    · skip
      obtain ⟨hv, tn, k, x, rfl, hx, hd, hs0, hvk, hqo⟩ := vote_done HR.out
      cases yes
      · skip
        go_wp2_with fail
        refine (sameCoordinator_any _ _ _ _ _ hRo_29 hRw_31).mono ?_
        rw [eqCo_refl]
        rintro e w8 ⟨rfl, hbS⟩
        clear ybc_28_0 ybc_28_1 ybo_30_0 ybo_30_1 ybw_32_0 ybw_32_1
        have hRc_34 := repCo.next hRc_27 hbS
        have bc_35 := bc_28.next hbS
        have hRo_36 := repCo.next hRo_29 hbS
        have bo_37 := bo_30.next hbS
        have hRw_38 := repCo.next hRw_31 hbS
        have bw_39 := bw_32.next hbS
        have bt_40 := below_ext bt_33 hbS
        obtain ⟨ybc_35_0, ybc_35_1⟩ := bc_35.cells2
        obtain ⟨ybo_37_0, ybo_37_1⟩ := bo_37.cells2
        obtain ⟨ybw_39_0, ybw_39_1⟩ := bw_39.cells2
        clear hRc_27 bc_28 hRo_29 bo_30 hRw_31 bw_32 bt_33 hbS
        go_wp2_with fail
        go_ret
        exact ⟨rfl, bt_40⟩
      · obtain ⟨ws, HW, HWM⟩ : ∃ ws, Hid (waitsQ q (tn : Int) = ws) ∧ Hid (ws = missI x.ps x.vs) := ⟨_, Lib.hid (by unfold waitsQ; rw [hv, if_pos rfl, openQ_mk hx hd]), Lib.hid rfl⟩
        have hws : ws.length ≤ 3 := by rw [← HW.out]; exact waits_short q _
        go_wp2_with fail
        refine (implWaits_any _ q (tn : Int) _ hRc_27 (by omega) (by omega)).mono ?_
        unfold WaitsTo
        rw [HW.out]
        rintro e w8 ⟨B8, m8, d8, rfl, hown8, hb8⟩
        clear ybc_28_0 ybc_28_1 ybo_30_0 ybo_30_1 ybw_32_0 ybw_32_1
        have hr8 := RInts.of_ownL hown8
        have HM8 := Lib.hid hr8.1
        clear hown8 hr8
        have hRc_34 := repCo.next hRc_27 hb8
        have bc_35 := bc_28.next hb8
        have hRo_36 := repCo.next hRo_29 hb8
        have bo_37 := bo_30.next hb8
        have hRw_38 := repCo.next hRw_31 hb8
        have bw_39 := bw_32.next hb8
        have bt_40 := below_ext bt_33 hb8
        obtain ⟨ybc_35_0, ybc_35_1⟩ := bc_35.cells2
        obtain ⟨ybo_37_0, ybo_37_1⟩ := bo_37.cells2
        obtain ⟨ybw_39_0, ybw_39_1⟩ := bw_39.cells2
        clear hRc_27 bc_28 hRo_29 bo_30 hRw_31 bw_32 bt_33 hb8
        have hm8 : m8 ≤ 3 := by have := HM8.out; omega
        by_cases hm : 1 < m8
        · obtain ⟨hA1, hA2, hA3, hA4, hA5⟩ := vote_yes_more hv hx hd hs0 hvk (by rw [← HWM.out, HM8.out]; exact hm)
          have hqo2e := hqo.trans hA1
          rw [← hqo2e] at hA2 hA3
          have hxo : qo.ts[tn]? = some ⟨x.ps, x.vs.set k 1, 0⟩ := by rw [hqo2e]; simp [(List.getElem?_eq_some_iff.1 hx).1]
          have hordq : qo.ord = q.ord := by rw [hqo2e]
          have hlt : tn < n3 := by have := hn3.out; have := (List.getElem?_eq_some_iff.1 hxo).1; omega
          obtain ⟨ws2, HW2, HWM2⟩ : ∃ ws2, Hid (waitsQ qo (tn : Int) = ws2) ∧ Hid (ws2 = missI x.ps (x.vs.set k 1)) := ⟨_, Lib.hid hA3, Lib.hid rfl⟩
          have HL2 := Lib.hid (show ws2.length + 1 = m8 by rw [HWM2.out, hA4, ← HWM.out, HM8.out])
          have HH2 := Lib.hid (show hasI ws2 z2 = false by rw [HWM2.out]; exact hA5)
          obtain ⟨_, _, _, _, _, _, e9, hr0o, hm0o, hr1o, hm1o⟩ := repCo_cells hRo_36
          obtain ⟨⟨rfl, rfl, rfl⟩, rfl, rfl, rfl⟩ : (_ ∧ _ ∧ _) ∧ _ ∧ _ ∧ _ := by simpa using e9
          clear e9
          obtain ⟨_, _, _, _, _, _, e9, hr0c, hm0c, hr1c, hm1c⟩ := repCo_cells hRc_34
          obtain ⟨⟨rfl, rfl, rfl⟩, rfl, rfl, rfl⟩ : (_ ∧ _ ∧ _) ∧ _ ∧ _ ∧ _ := by simpa using e9
          clear e9
          rw [hordq] at hr1o
          obtain ⟨bt, tq, y, cst, rfl, hbt, hy, hct, hvt⟩ := hr0o.at_ hlt
          rw [hxo] at hy
          injection hy with hy
          subst hy
          obtain ⟨P0, q0, e0, P1, q1, e1, rfl, -, -, -, -⟩ := repTx_cells hvt
          have a3 : w8.cell? ⟨bt, tq + tn * 3 + 1 + 1, none⟩ = some (.int .i64 0) := hct 2 _ rfl
          have hIo_0 := hr1o
          have hIc_0 := hr1c
          clear hct hvt hxo hordq hqo hqo2e hA1 hA2 hA3 hA4 hA5 hx hd hs0 hvk hr0o hr0c hr1o hr1c
          go_wp2_with fail
          refine (implWaits_any _ qo (tn : Int) _ hRo_36 hqo2 hqo1).mono ?_
          unfold WaitsTo
          rw [HW2.out]
          rintro e w9 ⟨B9, m9, d9, rfl, hown9, hb9⟩
          clear ybc_35_0 ybc_35_1 ybo_37_0 ybo_37_1 ybw_39_0 ybw_39_1
          have hr9 := RInts.of_ownL hown9
          have hm9 : m9 + 1 = m8 := by have := HL2.out; have := hr9.1; omega
          have hsub : IntKind.i64.wrap ((m8 : Int) - 1) = (m9 : Int) := by rw [IntKind.wrap_i64]; omega
          clear hm9 hr9 hown9
          have hRc_41 := repCo.next hRc_34 hb9
          have bc_42 := bc_35.next hb9
          have hRo_43 := repCo.next hRo_36 hb9
          have bo_44 := bo_37.next hb9
          have hRw_45 := repCo.next hRw_38 hb9
          have bw_46 := bw_39.next hb9
          have hIo_47 := hIo_0.next hb9
          have hIc_48 := hIc_0.next hb9
          have bt_49 := below_ext bt_40 hb9
          obtain ⟨ybc_42_0, ybc_42_1⟩ := bc_42.cells2
          obtain ⟨ybo_44_0, ybo_44_1⟩ := bo_44.cells2
          obtain ⟨ybw_46_0, ybw_46_1⟩ := bw_46.cells2
          clear hRc_34 bc_35 hRo_36 bo_37 hRw_38 bw_39 hIo_0 hIc_0 bt_40 hb9
          go_wp2_with fail
          refine (sameInts_any _ _ _ _ _ _ q.ord q.ord _ hIo_47.rints hIc_48.rints hm1o hm1c).mono ?_
          rw [eqI_self]
          rintro e w10 ⟨rfl, hbI⟩
          clear ybc_42_0 ybc_42_1 ybo_44_0 ybo_44_1 ybw_46_0 ybw_46_1
          have hRc_50 := repCo.next hRc_41 hbI
          have bc_51 := bc_42.next hbI
          have hRo_52 := repCo.next hRo_43 hbI
          have bo_53 := bo_44.next hbI
          have hRw_54 := repCo.next hRw_45 hbI
          have bw_55 := bw_46.next hbI
          have hIo_56 := hIo_47.next hbI
          have hIc_57 := hIc_48.next hbI
          have bt_58 := below_ext bt_49 hbI
          obtain ⟨ybc_51_0, ybc_51_1⟩ := bc_51.cells2
          obtain ⟨ybo_53_0, ybo_53_1⟩ := bo_53.cells2
          obtain ⟨ybw_55_0, ybw_55_1⟩ := bw_55.cells2
          clear hRc_41 bc_42 hRo_43 bo_44 hRw_45 bw_46 hIo_47 hIc_48 bt_49 hbI
          go_wp2_with fail
          refine (implWaits_any _ qo (tn : Int) _ hRo_52 hqo2 hqo1).mono ?_
          unfold WaitsTo
          rw [HW2.out]
          rintro e w11 ⟨B10, m10, d10, rfl, hown10, hb10⟩
          clear ybc_51_0 ybc_51_1 ybo_53_0 ybo_53_1 ybw_55_0 ybw_55_1
          have hr10 := RInts.of_ownL hown10
          have hm10 : m10 ≤ 3 := by have := HL2.out; have := hr10.1; omega
          have hRc_59 := repCo.next hRc_50 hb10
          have bc_60 := bc_51.next hb10
          have hRo_61 := repCo.next hRo_52 hb10
          have bo_62 := bo_53.next hb10
          have hRw_63 := repCo.next hRw_54 hb10
          have bw_64 := bw_55.next hb10
          have hIo_65 := hIo_56.next hb10
          have hIc_66 := hIc_57.next hb10
          have bt_67 := below_ext bt_58 hb10
          obtain ⟨ybc_60_0, ybc_60_1⟩ := bc_60.cells2
          obtain ⟨ybo_62_0, ybo_62_1⟩ := bo_62.cells2
          obtain ⟨ybw_64_0, ybw_64_1⟩ := bw_64.cells2
          clear hRc_50 bc_51 hRo_52 bo_53 hRw_54 bw_55 hIo_56 hIc_57 bt_58 hb10
          go_wp2_with fail
          refine (hasInt_any B10 m10 d10 ws2 z2 _ hr10 (by simp only [maxLen]; omega)).mono ?_
          rintro e wzz ⟨rfl, rfl⟩
          rw [HH2.out]
          go_wp2_with fail
          go_ret
          exact ⟨rfl, bt_67⟩
        · have hB1 := vote_yes_last (k := k) hv hx hd hvk (by rw [← HWM.out, HM8.out]; exact hm)
          have HOK := Lib.hid (vote1_ok (y := true) hv hx hd hvk)
          rw [← hqo] at HOK
          have hqo2e := hqo.trans hB1
          have hxo : qo.ts[tn]? = some ⟨x.ps, x.vs.set k 1, 2⟩ := by rw [hqo2e]; simp [(List.getElem?_eq_some_iff.1 hx).1]
          have hordq : qo.ord = q.ord ++ [(tn : Int)] := by rw [hqo2e]
          have hlt : tn < n3 := by have := hn3.out; have := (List.getElem?_eq_some_iff.1 hxo).1; omega
          obtain ⟨_, _, _, _, _, _, e9, hr0o, hm0o, hr1o, hm1o⟩ := repCo_cells hRo_36
          obtain ⟨⟨rfl, rfl, rfl⟩, rfl, rfl, rfl⟩ : (_ ∧ _ ∧ _) ∧ _ ∧ _ ∧ _ := by simpa using e9
          clear e9
          obtain ⟨_, _, _, _, _, _, e9, hr0c, hm0c, hr1c, hm1c⟩ := repCo_cells hRc_34
          obtain ⟨⟨rfl, rfl, rfl⟩, rfl, rfl, rfl⟩ : (_ ∧ _ ∧ _) ∧ _ ∧ _ ∧ _ := by simpa using e9
          clear e9
          rw [hordq] at hr1o
          obtain ⟨bt, tq, y, cst, rfl, hbt, hy, hct, hvt⟩ := hr0o.at_ hlt
          rw [hxo] at hy
          injection hy with hy
          subst hy
          obtain ⟨P0, q0, e0, P1, q1, e1, rfl, -, -, -, -⟩ := repTx_cells hvt
          have a3 : w8.cell? ⟨bt, tq + tn * 3 + 1 + 1, none⟩ = some (.int .i64 2) := hct 2 _ rfl
          have hmq : m2 = q.ord.length := hr1c.1.symm
          have HMQ := Lib.hid hmq
          have hm2 : m2 ≤ 13 := by omega
          have HK := Lib.hid (fun (w' : World) (hb' : Below w8.heap.size w8 w') => (⟨(bo_37.next hb').cells2.1, (bo_37.next hb').cells2.2, (bc_35.next hb').cells2.2, (hb'.cell (p := ⟨bt, tq + tn * 3 + 1 + 1, none⟩) hbt).trans a3⟩ : w'.cell? ⟨gbo, 0, none⟩ = some (.slice (some ⟨bt, tq, none⟩) n3 c3) ∧ w'.cell? ⟨gbo, 1, none⟩ = some (.slice C3 m3 d3) ∧ w'.cell? ⟨gbc, 1, none⟩ = some (.slice C2 m2 d2) ∧ w'.cell? ⟨bt, tq + tn * 3 + 1 + 1, none⟩ = some (.int .i64 2)))
          clear ybc_35_0 ybc_35_1 ybo_37_0 ybo_37_1 ybw_39_0 ybw_39_1
          have HRO := Lib.hid hRo_36
          have HIO := Lib.hid hr1o.rints
          have HIC := Lib.hid hr1c.rints
          have hbd : Below w8.heap.size w8 w8.drew := (Below.refl _ _).drew
          clear hct hvt hxo hordq hqo hqo2e hB1 hx hd hs0 hvk hr0o hr0c hr1o hr1c hmq a3
          go_wp2_with fail
          refine wp_region_L (fun _ w' => w'.cell? ⟨gbo, 0, none⟩ = some (.slice (some ⟨bt, tq, none⟩) n3 c3) ∧ w'.cell? ⟨gbo, 1, none⟩ = some (.slice C3 m3 d3) ∧ w'.cell? ⟨gbc, 1, none⟩ = some (.slice C2 m2 d2) ∧ w'.cell? ⟨bt, tq + tn * 3 + 1 + 1, none⟩ = some (.int .i64 2)) 23 (by kernel_rfl) (HK.out _ hbd) (fun hHeld => ?_)
          refine wpAnyL_takeS (i := 0) (v := ?_) op0 (by kernel_rfl) (by kernel_rfl) (by kernel_rfl) (by rfl) (fun _ _ _ h => h) hHeld (by kernel_rfl) (by kernel_rfl) (Or.inl ⟨by rfl, ?_⟩) ?_
          rotate_left
          · intro wS hSw; obtain ⟨hSa, hSb, hSc, hSd⟩ := hSw; go_simp; (try with_reducible rfl)
          (try simp only [Act.put, List.setIfInBounds_toArray, List.set_cons_zero, List.set_cons_succ])
          refine wpAnyL_takeS (i := 1) (v := ?_) op1 (by kernel_rfl) (by kernel_rfl) (by kernel_rfl) (by rfl) (fun _ _ _ h => h) hHeld (by kernel_rfl) (by kernel_rfl) (Or.inl ⟨by rfl, ?_⟩) ?_
          rotate_left
          · intro wS hSw; obtain ⟨hSa, hSb, hSc, hSd⟩ := hSw; go_simp; (try with_reducible rfl)
          (try simp only [Act.put, List.setIfInBounds_toArray, List.set_cons_zero, List.set_cons_succ])
          refine wpAnyL_takeS (i := 2) (v := ?_) op2 (by kernel_rfl) (by kernel_rfl) (by kernel_rfl) (by rfl) (fun _ _ _ h => h) hHeld (by kernel_rfl) (by kernel_rfl) (Or.inl ⟨by rfl, ?_⟩) ?_
          rotate_left
          · intro wS hSw; obtain ⟨hSa, hSb, hSc, hSd⟩ := hSw; go_simp; (try with_reducible rfl)
          (try simp only [Act.put, List.setIfInBounds_toArray, List.set_cons_zero, List.set_cons_succ])
          refine wpAnyL_takeS (i := 3) (v := ?_) op3 (by kernel_rfl) (by kernel_rfl) (by kernel_rfl) (by rfl) (fun _ _ _ h => h) hHeld (by kernel_rfl) (by kernel_rfl) (Or.inl ⟨by rfl, ?_⟩) ?_
          rotate_left
          · intro wS hSw; obtain ⟨hSa, hSb, hSc, hSd⟩ := hSw; go_simp; (try with_reducible rfl)
          (try simp only [Act.put, List.setIfInBounds_toArray, List.set_cons_zero, List.set_cons_succ])
          refine wpAnyL_takeS (i := 4) (v := ?_) op4 (by kernel_rfl) (by kernel_rfl) (by kernel_rfl) (by rfl) (fun _ _ _ h => h) hHeld (by kernel_rfl) (by kernel_rfl) (Or.inl ⟨by rfl, ?_⟩) ?_
          rotate_left
          · intro wS hSw; obtain ⟨hSa, hSb, hSc, hSd⟩ := hSw; go_simp; (try with_reducible rfl)
          (try simp only [Act.put, List.setIfInBounds_toArray, List.set_cons_zero, List.set_cons_succ])
          refine wpAnyL_takeS (i := 5) (v := ?_) op5 (by kernel_rfl) (by kernel_rfl) (by kernel_rfl) (by rfl) (fun _ _ _ h => h) hHeld (by kernel_rfl) (by kernel_rfl) (Or.inl ⟨by rfl, ?_⟩) ?_
          rotate_left
          · intro wS hSw; obtain ⟨hSa, hSb, hSc, hSd⟩ := hSw; go_simp; (try with_reducible rfl)
          (try simp only [Act.put, List.setIfInBounds_toArray, List.set_cons_zero, List.set_cons_succ])
          refine wpAnyL_takeS (i := 6) (v := ?_) op6 (by kernel_rfl) (by kernel_rfl) (by kernel_rfl) (by rfl) (fun _ _ _ h => h) hHeld (by kernel_rfl) (by kernel_rfl) (Or.inl ⟨by rfl, ?_⟩) ?_
          rotate_left
          · intro wS hSw; obtain ⟨hSa, hSb, hSc, hSd⟩ := hSw; go_simp; (try with_reducible rfl)
          (try simp only [Act.put, List.setIfInBounds_toArray, List.set_cons_zero, List.set_cons_succ])
          refine wpAnyL_takeS (i := 7) (v := ?_) op7 (by kernel_rfl) (by kernel_rfl) (by kernel_rfl) (by rfl) (fun _ _ _ h => h) hHeld (by kernel_rfl) (by kernel_rfl) (Or.inl ⟨by rfl, ?_⟩) ?_
          rotate_left
          · intro wS hSw; obtain ⟨hSa, hSb, hSc, hSd⟩ := hSw; go_simp; (try with_reducible rfl)
          (try simp only [Act.put, List.setIfInBounds_toArray, List.set_cons_zero, List.set_cons_succ])
          refine wpAnyL_takeS (i := 8) (v := ?_) op8 (by kernel_rfl) (by kernel_rfl) (by kernel_rfl) (by rfl) (fun _ _ _ h => h) hHeld (by kernel_rfl) (by kernel_rfl) (Or.inl ⟨by rfl, ?_⟩) ?_
          rotate_left
          · intro wS hSw; obtain ⟨hSa, hSb, hSc, hSd⟩ := hSw; go_simp; (try with_reducible rfl)
          (try simp only [Act.put, List.setIfInBounds_toArray, List.set_cons_zero, List.set_cons_succ])
          refine wpAnyL_takeS (i := 9) (v := ?_) op9 (by kernel_rfl) (by kernel_rfl) (by kernel_rfl) (by rfl) (fun _ _ _ h => h) hHeld (by kernel_rfl) (by kernel_rfl) (Or.inl ⟨by rfl, ?_⟩) ?_
          rotate_left
          · intro wS hSw; obtain ⟨hSa, hSb, hSc, hSd⟩ := hSw; go_simp; (try with_reducible rfl)
          (try simp only [Act.put, List.setIfInBounds_toArray, List.set_cons_zero, List.set_cons_succ])
          refine wpAnyL_takeS (i := 11) (v := ?_) op11 (by kernel_rfl) (by kernel_rfl) (by kernel_rfl) (by rfl) (fun _ _ _ h => h) hHeld (by kernel_rfl) (by kernel_rfl) (Or.inl ⟨by rfl, ?_⟩) ?_
          rotate_left
          · intro wS hSw; obtain ⟨hSa, hSb, hSc, hSd⟩ := hSw; go_simp; (try with_reducible rfl)
          (try simp only [Act.put, List.setIfInBounds_toArray, List.set_cons_zero, List.set_cons_succ])
          refine wpAnyL_takeS (i := 12) (v := ?_) op12 (by kernel_rfl) (by kernel_rfl) (by kernel_rfl) (by rfl) (fun _ _ _ h => h) hHeld (by kernel_rfl) (by kernel_rfl) (Or.inl ⟨by rfl, ?_⟩) ?_
          rotate_left
          · intro wS hSw; obtain ⟨hSa, hSb, hSc, hSd⟩ := hSw; go_simp; (try with_reducible rfl)
          (try simp only [Act.put, List.setIfInBounds_toArray, List.set_cons_zero, List.set_cons_succ])
          refine wpAnyL_takeS (i := 14) (v := ?_) op14 (by kernel_rfl) (by kernel_rfl) (by kernel_rfl) (by rfl) (fun _ _ _ h => h) hHeld (by kernel_rfl) (by kernel_rfl) (Or.inl ⟨by rfl, ?_⟩) ?_
          rotate_left
          · intro wS hSw; obtain ⟨hSa, hSb, hSc, hSd⟩ := hSw; go_simp; (try with_reducible rfl)
          (try simp only [Act.put, List.setIfInBounds_toArray, List.set_cons_zero, List.set_cons_succ])
          refine wpAnyL_ready (rs := [10, 15]) (by kernel_rfl) rfl ?_
          refine AllReadyL.cons (b := false) op10 (by kernel_rfl) (fun K hK => ?_) (AllReadyL.cons (b := false) op15 (by kernel_rfl) (fun K hK => ?_) AllReadyL.nil)
          · go_simp
            have b10 := below_ext hbd (below_box w8.drew (.cells #[] 3))
            have e10 := Blk.new w8.drew 3 []
            refine hK.out _ _ (HK.out _ b10) (fun hHeld => ?_)
            clear hK K
            (try simp only [Act.put, List.setIfInBounds_toArray, List.set_cons_zero, List.set_cons_succ])
            refine wpAnyL_ready (rs := [13, 15]) (by kernel_rfl) rfl ?_
            refine AllReadyL.cons (b := false) op13 (by kernel_rfl) (fun K hK => ?_) (AllReadyL.cons (b := false) op15 (by kernel_rfl) (fun K hK => ?_) AllReadyL.nil)
            · skip
              refine step_appW (by rfl) (.tmp 111) (.tmp 113) 23 rfl w8.heap.size 3 Try.underlying23 int_info1 rfl (by omega) (by omega) _ 0 [] rfl (own_emp e10 (Nat.le_refl _)) _ m2 d2 (ints q.ord) rfl (by rw [length_ints]; have := HMQ.out; omega) (fun hn => (HIC.out.next b10).newsI hn) (ints_one _) m2 (by omega) (by omega) ((b10).size) ?_
              intro AX dX wX hownX hbX hgX
              simp only [List.nil_append] at hownX
              have bX := (b10).trans (hbX.mono (Nat.le_refl _))
              refine hK.out _ _ (HK.out _ bX) (fun hHeld => ?_)
              clear hK K
              (try simp only [Act.put, List.setIfInBounds_toArray, List.set_cons_zero, List.set_cons_succ])
              refine wpAnyL_ready (rs := [15]) (by kernel_rfl) rfl ?_
              refine AllReadyL.cons (b := false) op15 (by kernel_rfl) (fun K hK => ?_) AllReadyL.nil
              go_simp
              have b15 := below_ext bX (below_box wX (.cells #[.int .i64 (tn : Int)] 3))
              have o15 := Blk.new wX 3 [.int .i64 (tn : Int)]
              refine hK.out _ _ (HK.out _ b15) (fun hHeld => ?_)
              clear hK K
              (try simp only [Act.put, List.setIfInBounds_toArray, List.set_cons_zero, List.set_cons_succ])
              refine wpAnyL_ready (rs := [16]) (by kernel_rfl) rfl ?_
              refine AllReadyL.cons (b := false) op16 (by kernel_rfl) (fun K hK => ?_) AllReadyL.nil
              refine step_appW (by rfl) (.tmp 114) (.tmp 116) 23 rfl w8.heap.size 3 Try.underlying23 int_info1 rfl (by omega) (by omega) _ m2 (ints q.ord) rfl (hownX.alloc _) _ 1 1 [.int .i64 (tn : Int)] rfl rfl (fun _ => ⟨_, rfl, fun j u hu => by
                have h9 := o15
                match j, hu with
                | 0, hu =>
                  simp at hu
                  subst hu
                  rw [add_flat]
                  exact h9.cell 0
                | j + 1, hu => simp at hu⟩) (by simp [Value.oneCell']) (m2 + 1) rfl (by omega) ((b15).size) ?_
              intro AZ dZ wZ hownZ hbZ hgZ
              rw [ints_snoc] at hownZ
              have bZ := (b15).trans (hbZ.mono (Nat.le_refl _))
              refine hK.out _ _ (HK.out _ bZ) (fun hHeld => ?_)
              clear hK K
              (try simp only [Act.put, List.setIfInBounds_toArray, List.set_cons_zero, List.set_cons_succ])
              refine wpAnyL_ready (rs := [17]) (by kernel_rfl) rfl ?_
              refine AllReadyL.cons (b := false) op17 (by kernel_rfl) (fun K hK => ?_) AllReadyL.nil
              go_simp
              go_at_call 19
              refine (sameInts_any _ _ _ _ _ _ (q.ord ++ [(tn : Int)]) (q.ord ++ [(tn : Int)]) _ (HIO.out.next bZ) (RInts.of_ownL hownZ) hm1o (by simp only [maxLen]; omega)).mono ?_
              rw [eqI_self]
              rintro e wC ⟨rfl, hbC⟩
              have bC := below_ext bZ hbC
              go_wp2_with fail
              refine hK.out _ _ (HK.out _ bC) (fun hHeld => ?_)
              clear hK K
              (try simp only [Act.put, List.setIfInBounds_toArray, List.set_cons_zero, List.set_cons_succ])
              refine wpAnyL_takeS (i := 18) (v := ?_) op18 (by kernel_rfl) (by kernel_rfl) (by kernel_rfl) (by rfl) (fun _ _ _ h => h) hHeld (by kernel_rfl) (by kernel_rfl) (Or.inl ⟨by rfl, ?_⟩) ?_
              rotate_left
              · intro wS hSw; obtain ⟨hSa, hSb, hSc, hSd⟩ := hSw; go_simp; (try with_reducible rfl)
              (try simp only [Act.put, List.setIfInBounds_toArray, List.set_cons_zero, List.set_cons_succ])
              refine wpAnyL_takeS (i := 19) (v := ?_) op19 (by kernel_rfl) (by kernel_rfl) (by kernel_rfl) (by rfl) (fun _ _ _ h => h) hHeld (by kernel_rfl) (by kernel_rfl) (Or.inl ⟨by rfl, ?_⟩) ?_
              rotate_left
              · intro wS hSw; obtain ⟨hSa, hSb, hSc, hSd⟩ := hSw; go_simp; (try with_reducible rfl)
              (try simp only [Act.put, List.setIfInBounds_toArray, List.set_cons_zero, List.set_cons_succ])
              refine wpAnyL_takeS (i := 20) (v := ?_) op20 (by kernel_rfl) (by kernel_rfl) (by kernel_rfl) (by rfl) (fun _ _ _ h => h) hHeld (by kernel_rfl) (by kernel_rfl) (Or.inl ⟨by rfl, ?_⟩) ?_
              rotate_left
              · intro wS hSw; obtain ⟨hSa, hSb, hSc, hSd⟩ := hSw; go_simp; (try with_reducible rfl)
              (try simp only [Act.put, List.setIfInBounds_toArray, List.set_cons_zero, List.set_cons_succ])
              refine wpAnyL_ready (rs := [21]) (by kernel_rfl) rfl ?_
              refine AllReadyL.cons (b := false) op21 (by kernel_rfl) (fun K hK => ?_) AllReadyL.nil
              go_simp
              go_at_call 20
              refine (implCoordinatorValid_any _ qo _ (repCo.next HRO.out bC) hqo2 hqo1).mono ?_
              rw [HOK.out]
              rintro e wD ⟨rfl, hbD⟩
              have bD := below_ext bC hbD
              go_wp2_with fail
              refine hK.out _ _ (HK.out _ bD) (fun hHeld => ?_)
              clear hK K
              (try simp only [Act.put, List.setIfInBounds_toArray, List.set_cons_zero, List.set_cons_succ])
              refine wpAnyL_takeS (i := 22) (v := ?_) op22 (by kernel_rfl) (by kernel_rfl) (by kernel_rfl) (by rfl) (fun _ _ _ h => h) hHeld (by kernel_rfl) (by kernel_rfl) (Or.inl ⟨by rfl, ?_⟩) ?_
              rotate_left
              · intro wS hSw; obtain ⟨hSa, hSb, hSc, hSd⟩ := hSw; go_simp; (try with_reducible rfl)
              (try simp only [Act.put, List.setIfInBounds_toArray, List.set_cons_zero, List.set_cons_succ])
              refine wpAnyL_ready (rs := [23]) (by kernel_rfl) rfl ?_
              refine AllReadyL.cons (b := true) op23 (by kernel_rfl) (fun K hK => ?_) AllReadyL.nil
              go_simp
              refine hK.out _ _ (HK.out _ bD) (fun hHeld => ?_)
              clear hK K
              (try simp only [Act.put, List.setIfInBounds_toArray, List.set_cons_zero, List.set_cons_succ])
              refine wpAnyL_done (by kernel_rfl) ?_ _
              go_wp2_with fail
              go_ret
              exact ⟨rfl, below_ext bt_40 bD⟩
            · go_simp
              have b15 := below_ext b10 (below_box (w8.drew.alloc (.cells #[] 3)) (.cells #[.int .i64 (tn : Int)] 3))
              have o15 := Blk.new (w8.drew.alloc (.cells #[] 3)) 3 [.int .i64 (tn : Int)]
              rw [show (w8.drew.alloc (.cells #[] 3)).heap.size = w8.drew.heap.size + 1 by simp] at o15
              have e15 := (own_emp (size := 1) e10 (Nat.le_refl w8.drew.heap.size)).alloc (.cells #[.int .i64 (tn : Int)] 3)
              refine hK.out _ _ (HK.out _ b15) (fun hHeld => ?_)
              clear hK K
              (try simp only [Act.put, List.setIfInBounds_toArray, List.set_cons_zero, List.set_cons_succ])
              refine wpAnyL_ready (rs := [13]) (by kernel_rfl) rfl ?_
              refine AllReadyL.cons (b := false) op13 (by kernel_rfl) (fun K hK => ?_) AllReadyL.nil
              refine step_appW (by rfl) (.tmp 111) (.tmp 113) 23 rfl w8.heap.size 3 Try.underlying23 int_info1 rfl (by omega) (by omega) _ 0 [] rfl (e15) _ m2 d2 (ints q.ord) rfl (by rw [length_ints]; have := HMQ.out; omega) (fun hn => (HIC.out.next b15).newsI hn) (ints_one _) m2 (by omega) (by omega) ((b15).size) ?_
              intro AX dX wX hownX hbX hgX
              simp only [List.nil_append] at hownX
              have bX := (b15).trans (hbX.mono (Nat.le_refl _))
              refine hK.out _ _ (HK.out _ bX) (fun hHeld => ?_)
              clear hK K
              (try simp only [Act.put, List.setIfInBounds_toArray, List.set_cons_zero, List.set_cons_succ])
              refine wpAnyL_ready (rs := [16]) (by kernel_rfl) rfl ?_
              refine AllReadyL.cons (b := false) op16 (by kernel_rfl) (fun K hK => ?_) AllReadyL.nil
              have o16 := o15.grown hgX (fun e => absurd (Option.some.inj e : w8.drew.heap.size + 1 = w8.drew.heap.size) (Nat.succ_ne_self _))
              refine step_appW (by rfl) (.tmp 114) (.tmp 116) 23 rfl w8.heap.size 3 Try.underlying23 int_info1 rfl (by omega) (by omega) _ m2 (ints q.ord) rfl (hownX) _ 1 1 [.int .i64 (tn : Int)] rfl rfl (fun _ => ⟨_, rfl, fun j u hu => by
                have h9 := o16
                match j, hu with
                | 0, hu =>
                  simp at hu
                  subst hu
                  rw [add_flat]
                  exact h9.cell 0
                | j + 1, hu => simp at hu⟩) (by simp [Value.oneCell']) (m2 + 1) rfl (by omega) ((bX).size) ?_
              intro AZ dZ wZ hownZ hbZ hgZ
              rw [ints_snoc] at hownZ
              have bZ := (bX).trans (hbZ.mono (Nat.le_refl _))
              refine hK.out _ _ (HK.out _ bZ) (fun hHeld => ?_)
              clear hK K
              (try simp only [Act.put, List.setIfInBounds_toArray, List.set_cons_zero, List.set_cons_succ])
              refine wpAnyL_ready (rs := [17]) (by kernel_rfl) rfl ?_
              refine AllReadyL.cons (b := false) op17 (by kernel_rfl) (fun K hK => ?_) AllReadyL.nil
              go_simp
              go_at_call 19
              refine (sameInts_any _ _ _ _ _ _ (q.ord ++ [(tn : Int)]) (q.ord ++ [(tn : Int)]) _ (HIO.out.next bZ) (RInts.of_ownL hownZ) hm1o (by simp only [maxLen]; omega)).mono ?_
              rw [eqI_self]
              rintro e wC ⟨rfl, hbC⟩
              have bC := below_ext bZ hbC
              go_wp2_with fail
              refine hK.out _ _ (HK.out _ bC) (fun hHeld => ?_)
              clear hK K
              (try simp only [Act.put, List.setIfInBounds_toArray, List.set_cons_zero, List.set_cons_succ])
              refine wpAnyL_takeS (i := 18) (v := ?_) op18 (by kernel_rfl) (by kernel_rfl) (by kernel_rfl) (by rfl) (fun _ _ _ h => h) hHeld (by kernel_rfl) (by kernel_rfl) (Or.inl ⟨by rfl, ?_⟩) ?_
              rotate_left
              · intro wS hSw; obtain ⟨hSa, hSb, hSc, hSd⟩ := hSw; go_simp; (try with_reducible rfl)
              (try simp only [Act.put, List.setIfInBounds_toArray, List.set_cons_zero, List.set_cons_succ])
              refine wpAnyL_takeS (i := 19) (v := ?_) op19 (by kernel_rfl) (by kernel_rfl) (by kernel_rfl) (by rfl) (fun _ _ _ h => h) hHeld (by kernel_rfl) (by kernel_rfl) (Or.inl ⟨by rfl, ?_⟩) ?_
              rotate_left
              · intro wS hSw; obtain ⟨hSa, hSb, hSc, hSd⟩ := hSw; go_simp; (try with_reducible rfl)
              (try simp only [Act.put, List.setIfInBounds_toArray, List.set_cons_zero, List.set_cons_succ])
              refine wpAnyL_takeS (i := 20) (v := ?_) op20 (by kernel_rfl) (by kernel_rfl) (by kernel_rfl) (by rfl) (fun _ _ _ h => h) hHeld (by kernel_rfl) (by kernel_rfl) (Or.inl ⟨by rfl, ?_⟩) ?_
              rotate_left
              · intro wS hSw; obtain ⟨hSa, hSb, hSc, hSd⟩ := hSw; go_simp; (try with_reducible rfl)
              (try simp only [Act.put, List.setIfInBounds_toArray, List.set_cons_zero, List.set_cons_succ])
              refine wpAnyL_ready (rs := [21]) (by kernel_rfl) rfl ?_
              refine AllReadyL.cons (b := false) op21 (by kernel_rfl) (fun K hK => ?_) AllReadyL.nil
              go_simp
              go_at_call 20
              refine (implCoordinatorValid_any _ qo _ (repCo.next HRO.out bC) hqo2 hqo1).mono ?_
              rw [HOK.out]
              rintro e wD ⟨rfl, hbD⟩
              have bD := below_ext bC hbD
              go_wp2_with fail
              refine hK.out _ _ (HK.out _ bD) (fun hHeld => ?_)
              clear hK K
              (try simp only [Act.put, List.setIfInBounds_toArray, List.set_cons_zero, List.set_cons_succ])
              refine wpAnyL_takeS (i := 22) (v := ?_) op22 (by kernel_rfl) (by kernel_rfl) (by kernel_rfl) (by rfl) (fun _ _ _ h => h) hHeld (by kernel_rfl) (by kernel_rfl) (Or.inl ⟨by rfl, ?_⟩) ?_
              rotate_left
              · intro wS hSw; obtain ⟨hSa, hSb, hSc, hSd⟩ := hSw; go_simp; (try with_reducible rfl)
              (try simp only [Act.put, List.setIfInBounds_toArray, List.set_cons_zero, List.set_cons_succ])
              refine wpAnyL_ready (rs := [23]) (by kernel_rfl) rfl ?_
              refine AllReadyL.cons (b := true) op23 (by kernel_rfl) (fun K hK => ?_) AllReadyL.nil
              go_simp
              refine hK.out _ _ (HK.out _ bD) (fun hHeld => ?_)
              clear hK K
              (try simp only [Act.put, List.setIfInBounds_toArray, List.set_cons_zero, List.set_cons_succ])
              refine wpAnyL_done (by kernel_rfl) ?_ _
              go_wp2_with fail
              go_ret
              exact ⟨rfl, below_ext bt_40 bD⟩
          · go_simp
            have b15 := below_ext hbd (below_box w8.drew (.cells #[.int .i64 (tn : Int)] 3))
            have o15 := Blk.new w8.drew 3 [.int .i64 (tn : Int)]
            refine hK.out _ _ (HK.out _ b15) (fun hHeld => ?_)
            clear hK K
            (try simp only [Act.put, List.setIfInBounds_toArray, List.set_cons_zero, List.set_cons_succ])
            refine wpAnyL_ready (rs := [10]) (by kernel_rfl) rfl ?_
            refine AllReadyL.cons (b := false) op10 (by kernel_rfl) (fun K hK => ?_) AllReadyL.nil
            go_simp
            have b10 := below_ext b15 (below_box (w8.drew.alloc (.cells #[.int .i64 (tn : Int)] 3)) (.cells #[] 3))
            have e10 := Blk.new (w8.drew.alloc (.cells #[.int .i64 (tn : Int)] 3)) 3 []
            rw [show (w8.drew.alloc (.cells #[.int .i64 (tn : Int)] 3)).heap.size = w8.drew.heap.size + 1 by simp] at e10
            have o10 := o15.alloc (.cells #[] 3)
            refine hK.out _ _ (HK.out _ b10) (fun hHeld => ?_)
            clear hK K
            (try simp only [Act.put, List.setIfInBounds_toArray, List.set_cons_zero, List.set_cons_succ])
            refine wpAnyL_ready (rs := [13]) (by kernel_rfl) rfl ?_
            refine AllReadyL.cons (b := false) op13 (by kernel_rfl) (fun K hK => ?_) AllReadyL.nil
            refine step_appW (by rfl) (.tmp 111) (.tmp 113) 23 rfl w8.heap.size 3 Try.underlying23 int_info1 rfl (by omega) (by omega) _ 0 [] rfl (own_emp e10 (Nat.le_succ _)) _ m2 d2 (ints q.ord) rfl (by rw [length_ints]; have := HMQ.out; omega) (fun hn => (HIC.out.next b10).newsI hn) (ints_one _) m2 (by omega) (by omega) ((b10).size) ?_
            intro AX dX wX hownX hbX hgX
            simp only [List.nil_append] at hownX
            have bX := (b10).trans (hbX.mono (Nat.le_refl _))
            refine hK.out _ _ (HK.out _ bX) (fun hHeld => ?_)
            clear hK K
            (try simp only [Act.put, List.setIfInBounds_toArray, List.set_cons_zero, List.set_cons_succ])
            refine wpAnyL_ready (rs := [16]) (by kernel_rfl) rfl ?_
            refine AllReadyL.cons (b := false) op16 (by kernel_rfl) (fun K hK => ?_) AllReadyL.nil
            have o16 := o10.grown hgX (fun e => absurd (Option.some.inj e : w8.drew.heap.size = w8.drew.heap.size + 1).symm (Nat.succ_ne_self _))
            refine step_appW (by rfl) (.tmp 114) (.tmp 116) 23 rfl w8.heap.size 3 Try.underlying23 int_info1 rfl (by omega) (by omega) _ m2 (ints q.ord) rfl (hownX) _ 1 1 [.int .i64 (tn : Int)] rfl rfl (fun _ => ⟨_, rfl, fun j u hu => by
              have h9 := o16
              match j, hu with
              | 0, hu =>
                simp at hu
                subst hu
                rw [add_flat]
                exact h9.cell 0
              | j + 1, hu => simp at hu⟩) (by simp [Value.oneCell']) (m2 + 1) rfl (by omega) ((bX).size) ?_
            intro AZ dZ wZ hownZ hbZ hgZ
            rw [ints_snoc] at hownZ
            have bZ := (bX).trans (hbZ.mono (Nat.le_refl _))
            refine hK.out _ _ (HK.out _ bZ) (fun hHeld => ?_)
            clear hK K
            (try simp only [Act.put, List.setIfInBounds_toArray, List.set_cons_zero, List.set_cons_succ])
            refine wpAnyL_ready (rs := [17]) (by kernel_rfl) rfl ?_
            refine AllReadyL.cons (b := false) op17 (by kernel_rfl) (fun K hK => ?_) AllReadyL.nil
            go_simp
            go_at_call 19
            refine (sameInts_any _ _ _ _ _ _ (q.ord ++ [(tn : Int)]) (q.ord ++ [(tn : Int)]) _ (HIO.out.next bZ) (RInts.of_ownL hownZ) hm1o (by simp only [maxLen]; omega)).mono ?_
            rw [eqI_self]
            rintro e wC ⟨rfl, hbC⟩
            have bC := below_ext bZ hbC
            go_wp2_with fail
            refine hK.out _ _ (HK.out _ bC) (fun hHeld => ?_)
            clear hK K
            (try simp only [Act.put, List.setIfInBounds_toArray, List.set_cons_zero, List.set_cons_succ])
            refine wpAnyL_takeS (i := 18) (v := ?_) op18 (by kernel_rfl) (by kernel_rfl) (by kernel_rfl) (by rfl) (fun _ _ _ h => h) hHeld (by kernel_rfl) (by kernel_rfl) (Or.inl ⟨by rfl, ?_⟩) ?_
            rotate_left
            · intro wS hSw; obtain ⟨hSa, hSb, hSc, hSd⟩ := hSw; go_simp; (try with_reducible rfl)
            (try simp only [Act.put, List.setIfInBounds_toArray, List.set_cons_zero, List.set_cons_succ])
            refine wpAnyL_takeS (i := 19) (v := ?_) op19 (by kernel_rfl) (by kernel_rfl) (by kernel_rfl) (by rfl) (fun _ _ _ h => h) hHeld (by kernel_rfl) (by kernel_rfl) (Or.inl ⟨by rfl, ?_⟩) ?_
            rotate_left
            · intro wS hSw; obtain ⟨hSa, hSb, hSc, hSd⟩ := hSw; go_simp; (try with_reducible rfl)
            (try simp only [Act.put, List.setIfInBounds_toArray, List.set_cons_zero, List.set_cons_succ])
            refine wpAnyL_takeS (i := 20) (v := ?_) op20 (by kernel_rfl) (by kernel_rfl) (by kernel_rfl) (by rfl) (fun _ _ _ h => h) hHeld (by kernel_rfl) (by kernel_rfl) (Or.inl ⟨by rfl, ?_⟩) ?_
            rotate_left
            · intro wS hSw; obtain ⟨hSa, hSb, hSc, hSd⟩ := hSw; go_simp; (try with_reducible rfl)
            (try simp only [Act.put, List.setIfInBounds_toArray, List.set_cons_zero, List.set_cons_succ])
            refine wpAnyL_ready (rs := [21]) (by kernel_rfl) rfl ?_
            refine AllReadyL.cons (b := false) op21 (by kernel_rfl) (fun K hK => ?_) AllReadyL.nil
            go_simp
            go_at_call 20
            refine (implCoordinatorValid_any _ qo _ (repCo.next HRO.out bC) hqo2 hqo1).mono ?_
            rw [HOK.out]
            rintro e wD ⟨rfl, hbD⟩
            have bD := below_ext bC hbD
            go_wp2_with fail
            refine hK.out _ _ (HK.out _ bD) (fun hHeld => ?_)
            clear hK K
            (try simp only [Act.put, List.setIfInBounds_toArray, List.set_cons_zero, List.set_cons_succ])
            refine wpAnyL_takeS (i := 22) (v := ?_) op22 (by kernel_rfl) (by kernel_rfl) (by kernel_rfl) (by rfl) (fun _ _ _ h => h) hHeld (by kernel_rfl) (by kernel_rfl) (Or.inl ⟨by rfl, ?_⟩) ?_
            rotate_left
            · intro wS hSw; obtain ⟨hSa, hSb, hSc, hSd⟩ := hSw; go_simp; (try with_reducible rfl)
            (try simp only [Act.put, List.setIfInBounds_toArray, List.set_cons_zero, List.set_cons_succ])
            refine wpAnyL_ready (rs := [23]) (by kernel_rfl) rfl ?_
            refine AllReadyL.cons (b := true) op23 (by kernel_rfl) (fun K hK => ?_) AllReadyL.nil
            go_simp
            refine hK.out _ _ (HK.out _ bD) (fun hHeld => ?_)
            clear hK K
            (try simp only [Act.put, List.setIfInBounds_toArray, List.set_cons_zero, List.set_cons_succ])
            refine wpAnyL_done (by kernel_rfl) ?_ _
            go_wp2_with fail
            go_ret
            exact ⟨rfl, below_ext bt_40 bD⟩
end Go.Proofs.Ytbgjidamhheekaa
