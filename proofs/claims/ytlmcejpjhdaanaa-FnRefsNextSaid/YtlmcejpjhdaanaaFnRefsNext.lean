/- The law FnRefsNext, walked: for every code it answers true. -/
import Derived.Test.YtlmcejpjhdaanaaRefsV
import Derived.Test.YtlmcejpjhdaanaaSameC
import Derived.Test.YtlmcejpjhdaanaaVoteLaw
namespace Go.Proofs.Ytlmcejpjhdaanaa
open Go.RowKit Go.Sort

theorem CoAt.ord {B : Nat} {w : World} {A : Option Addr} {n c : Nat} {C : Option Addr} {m d : Nat} {q : Co} (h : CoAt B w [.slice A n c, .slice C m d] q) : (m ≤ d ∧ (C = none → d = 0)) ∧ Hid (n = q.ts.length) ∧ Hid (m = q.ord.length) := by
  obtain ⟨S, h1, h2, h3⟩ := h
  obtain ⟨A', n', c', C', m', d', S1, S2, e, _, _, _, h4, h5⟩ := sepCo_cells h2
  simp only [List.cons.injEq, Value.slice.injEq, and_true] at e
  obtain ⟨⟨rfl, rfl, rfl⟩, rfl, rfl, rfl⟩ := e
  refine ⟨⟨h5.small.1, fun hC => ?_⟩, Lib.hid h4.1.symm, Lib.hid h5.1.symm⟩
  obtain ⟨_, ⟨_, _, rfl⟩ | ⟨g, css, hA, _⟩⟩ := h5
  · rfl
  · rw [hC] at hA; cases hA
def foldP (s : Int) (r : List Int) (ps : List Pt) : List Int := ps.foldl (fun r p => if p.shard = s then setR r p.us else r) r
theorem foldP_succ {ps : List Pt} {k : Nat} {p : Pt} (s : Int) (r : List Int) (h : ps[k]? = some p) : foldP s r (ps.take (k + 1)) = if p.shard = s then setR (foldP s r (ps.take k)) p.us else foldP s r (ps.take k) := by
  obtain ⟨h1, h2⟩ := List.getElem?_eq_some_iff.1 h
  unfold foldP
  rw [List.take_succ_eq_append_getElem h1, List.foldl_append, h2]
  rfl
theorem foldP_len (s : Int) : ∀ (ps : List Pt) (r : List Int), (foldP s r ps).length = r.length
  | [], _ => rfl
  | p :: ps, r => by
    show (foldP s (if p.shard = s then setR r p.us else r) ps).length = _
    rw [foldP_len s ps]
    split
    · exact setR_len _ _
    · rfl
theorem foldP_none (s : Int) : ∀ (ps : List Pt) (r : List Int), (∀ p ∈ ps, p.shard ≠ s) → foldP s r ps = r
  | [], _, _ => rfl
  | p :: ps, r, h => by
    show foldP s (if p.shard = s then setR r p.us else r) ps = r
    rw [if_neg (h p (by simp)), foldP_none s ps r (fun x hx => h x (List.mem_cons_of_mem _ hx))]
theorem foldP_some (s : Int) : ∀ (ps : List Pt) (r : List Int) (k : Nat) (p : Pt), ps.Pairwise (fun a b => a.shard < b.shard) → ps[k]? = some p → p.shard = s → foldP s r ps = setR r p.us
  | [], _, _, _, _, h, _ => by simp at h
  | x :: ps, r, 0, p, hp, h, hs => by
    simp at h
    subst h
    show foldP s (if x.shard = s then setR r x.us else r) ps = _
    rw [if_pos hs, foldP_none s ps]
    intro y hy e
    have := (List.pairwise_cons.1 hp).1 y hy
    omega
  | x :: ps, r, k + 1, p, hp, h, hs => by
    have h' : ps[k]? = some p := by simpa using h
    have := (List.pairwise_cons.1 hp).1 p (List.mem_of_getElem? h')
    show foldP s (if x.shard = s then setR r x.us else r) ps = _
    rw [if_neg (by omega), foldP_some s ps r k p (List.pairwise_cons.1 hp).2 h' hs]
theorem step_fold {q : Co} (s : Int) (r : List Int) {tn : Nat} {x : Tx} (hb : partsB x.ps = true) (hx : q.ts[tn]? = some x) : stepR q s r (tn : Int) = foldP s r x.ps := by
  cases hs : shAt x.ps s with
  | none =>
    rw [stepR_none hx hs, foldP_none]
    intro p hp e
    unfold shAt at hs
    rw [List.findIdx?_eq_none_iff] at hs
    have := hs p hp
    simp [e] at this
  | some k =>
    obtain ⟨p, hp, hps⟩ := shAt_lt hs
    rw [stepR_some hx hs hp, foldP_some s x.ps r k p (parts_pw hb) hp hps]
set_option maxRecDepth 100000 in
set_option maxHeartbeats 3200000 in
theorem FnRefsNext_walk (A : Option Addr) (n c : Nat) (w : World) (h : RBytes w w.heap.size A n ∧ n ≤ c) (hn : n ≤ maxLen) :
    Calls Try.prog 6 #[.slice A n c] w fun e w' => e = .returned (.bool true) ∧ Below w.heap.size w w' := by
  have hn0 := hn
  unfold maxLen at hn0
  by_cases hs : 1048576 < n
  · go_enter Try.func6, Try.ntmps6
    go_wp2_with fail
    go_ret
    exact ⟨rfl, Below.refl _ _⟩
  · go_enter Try.func6, Try.ntmps6
    go_wp2_with fail
    refine (DrawCoordinatorRefs_any A n c w h.1 hn h.2).mono ?_
    rintro e w1 ⟨cs, q, s, z, rfl, hQ, hz0, hz1, hb1⟩
    obtain ⟨A2, n2, c2, C2, m2, d2, rfl⟩ := hQ.two
    obtain ⟨⟨hcap, hnil⟩, HN2, HM2⟩ := hQ.ord
    have htn := hQ.tiny
    have htn1 := htn.1
    have htn2 := htn.2.1
    have hRc_1 := hQ.rep0
    have HTN := Lib.hid htn
    clear hQ htn
    have ebbc := below_box w1 (.cells #[.slice A2 n2 c2, .slice C2 m2 d2] 26)
    have hRc_2 := repCo.next hRc_1 ebbc
    have bt_3 := below_ext hb1 ebbc
    have bc_4 := Blk.new w1 26 [.slice A2 n2 c2, .slice C2 m2 d2]
    obtain ⟨ybc_4_0, ybc_4_1⟩ := bc_4.cells2
    clear hRc_1 ebbc
    have hl4 : (refsOut q s z).length ≤ 4 := by
      unfold refsOut
      split
      · rw [refsQ_len]; exact Nat.le_refl 4
      · simp
    go_wp2_with fail
    generalize hWW : w1.alloc (.cells #[.slice A2 n2 c2, .slice C2 m2 d2] 26) = w2 at *
    clear hWW
    generalize w1.heap.size = gbc at *
    refine (implRefs_any A2 n2 c2 C2 m2 d2 q s z _ hRc_2 (by omega) (by omega) hcap hnil).mono ?_
    rintro e w3 ⟨B3, m3, d3, rfl, hown3, hb3⟩
    clear ybc_4_0 ybc_4_1
    have hRc_5 := repCo.next hRc_2 hb3
    have bc_6 := bc_4.next hb3
    have bt_7 := below_ext bt_3 hb3
    obtain ⟨ybc_6_0, ybc_6_1⟩ := bc_6.cells2
    clear hRc_2 bc_4 bt_3 hb3
    have r3_8 := RInts.of_ownL hown3
    have hn3 := r3_8.1
    clear hown3
    go_wp2_with fail
    refine (specRefs_any _ q s z _ hRc_5).mono ?_
    rintro e w4 ⟨B4, m4, d4, rfl, hown4, hb4⟩
    clear ybc_6_0 ybc_6_1
    have hRc_9 := repCo.next hRc_5 hb4
    have bc_10 := bc_6.next hb4
    have r3_11 := r3_8.next hb4
    have bt_12 := below_ext bt_7 hb4
    obtain ⟨ybc_10_0, ybc_10_1⟩ := bc_10.cells2
    clear hRc_5 bc_6 r3_8 bt_7 hb4
    have r4_13 := RInts.of_ownL hown4
    have hn4 := r4_13.1
    clear hown4
    go_wp2_with fail
    refine (sameInts_any _ _ _ _ _ _ _ _ _ r3_11 r4_13 (by simp only [maxLen]; omega) (by simp only [maxLen]; omega)).mono ?_
    rw [eqI_self]
    rintro e w5 ⟨rfl, hbS⟩
    clear ybc_10_0 ybc_10_1
    have hRc_14 := repCo.next hRc_9 hbS
    have bc_15 := bc_10.next hbS
    have r3_16 := r3_11.next hbS
    have r4_17 := r4_13.next hbS
    have bt_18 := below_ext bt_12 hbS
    obtain ⟨ybc_15_0, ybc_15_1⟩ := bc_15.cells2
    clear hRc_9 bc_10 r3_11 r4_13 bt_12 hbS
    cases hv : refsOk q s z
    · have HE := Lib.hid (refsOut_bad hv)
      have hz3 : m3 = 0 := by rw [HE.out] at hn3; exact hn3.symm
      subst hz3
      go_wp2_with fail
      refine (sameInts_any _ _ _ _ _ _ _ _ _ r3_16 r4_17 (by simp only [maxLen]; omega) (by simp only [maxLen]; omega)).mono ?_
      rw [eqI_self]
      rintro e w6 ⟨rfl, hbT⟩
      clear ybc_15_0 ybc_15_1
      have hRc_19 := repCo.next hRc_14 hbT
      have bc_20 := bc_15.next hbT
      have r3_21 := r3_16.next hbT
      have r4_22 := r4_17.next hbT
      have bt_23 := below_ext bt_18 hbT
      obtain ⟨ybc_20_0, ybc_20_1⟩ := bc_20.cells2
      clear hRc_14 bc_15 r3_16 r4_17 bt_18 hbT
      go_wp2_with fail
      go_ret
      exact ⟨rfl, bt_23⟩
    · have HE := Lib.hid (refsOut_ok hv)
      obtain ⟨hcb, hs3, hz3⟩ := refsOk_parts hv
      have hm34 : m3 = 4 := by rw [HE.out, refsQ_len] at hn3; exact hn3.symm
      subst hm34
      obtain ⟨zn, rfl⟩ := Int.eq_ofNat_of_zero_le hz0
      by_cases hzl : zn = m2
      · subst hzl
        go_wp2_with fail
        refine (sameInts_any _ _ _ _ _ _ _ _ _ r3_16 r4_17 (by simp only [maxLen]; omega) (by simp only [maxLen]; omega)).mono ?_
        rw [eqI_self]
        rintro e w6 ⟨rfl, hbT⟩
        clear ybc_15_0 ybc_15_1
        have hRc_19 := repCo.next hRc_14 hbT
        have bc_20 := bc_15.next hbT
        have r3_21 := r3_16.next hbT
        have r4_22 := r4_17.next hbT
        have bt_23 := below_ext bt_18 hbT
        obtain ⟨ybc_20_0, ybc_20_1⟩ := bc_20.cells2
        clear hRc_14 bc_15 r3_16 r4_17 bt_18 hbT
        go_wp2_with fail
        go_ret
        exact ⟨rfl, bt_23⟩
      · have hzlt : zn < m2 := by have := HM2.out; omega
        have hzb : ((zn : Int) == (m2 : Int)) = false := by simp; omega
        have hw1 : IntKind.i64.wrap ((zn : Int) + 1) = (zn : Int) + 1 := by rw [IntKind.wrap_i64]; omega
        obtain ⟨tz, htz⟩ : ∃ tz, q.ord[zn]? = some tz := ⟨_, List.getElem?_eq_getElem (by have := HM2.out; omega)⟩
        obtain ⟨tn, x, rfl, hx, hxm⟩ := ord_at hcb htz
        have htp := txB_parts ((coB_parts hcb).1 x hxm)
        have hpl := partsB_len htp.1
        have HE1 := Lib.hid (show refsOut q s ((zn : Int) + 1) = foldP s (refsOut q s (zn : Int)) x.ps by
          rw [refsOut_ok (refsOk_mk hcb hs3 ⟨by omega, by have := HM2.out; omega⟩), refsOut_ok hv, show ((zn : Int) + 1).toNat = zn + 1 by omega, Int.toNat_natCast, refsQ_succ htz, step_fold s _ htp.1 hx])
        have hl4e : (refsOut q s (zn : Int)).length = 4 := by rw [HE.out, refsQ_len]
        have HTP := Lib.hid (And.intro htp hpl)
        clear htp hpl
        go_wp2_with fail
        refine (implRefs_any A2 n2 c2 C2 m2 d2 q s ((zn : Int) + 1) _ hRc_14 (by omega) (by omega) hcap hnil).mono ?_
        rintro e w6 ⟨B5, m5, d5, rfl, hown5, hb5⟩
        clear ybc_15_0 ybc_15_1
        have hRc_19 := repCo.next hRc_14 hb5
        have bc_20 := bc_15.next hb5
        have r3_21 := r3_16.next hb5
        have r4_22 := r4_17.next hb5
        have bt_23 := below_ext bt_18 hb5
        obtain ⟨ybc_20_0, ybc_20_1⟩ := bc_20.cells2
        clear hRc_14 bc_15 r3_16 r4_17 bt_18 hb5
        rw [HE1.out] at hown5
        have r5_24 := RInts.of_ownL hown5
        have hn5 : m5 = 4 := by rw [← r5_24.1, foldP_len]; exact hl4e
        subst hn5
        clear hown5
        obtain ⟨_, _, _, _, _, _, e9, hr0, hm0, hr1, hm1⟩ := repCo_cells hRc_19
        obtain ⟨⟨rfl, rfl, rfl⟩, rfl, rfl, rfl⟩ : (_ ∧ _ ∧ _) ∧ _ ∧ _ ∧ _ := by simpa using e9
        clear e9
        obtain ⟨ad1, tz2, hA1, hbz, hz2, hcz⟩ := hr1.rints.at_ (k := zn) hzlt
        rw [htz] at hz2
        injection hz2 with hz2
        subst hz2
        have htn : tn < n2 := by have := (List.getElem?_eq_some_iff.1 hx).1; have := hr0.1; omega
        obtain ⟨bt, tq, x2, cst, hA0, hbt, hx2, hct, hvt⟩ := hr0.at_ htn
        rw [hx] at hx2
        injection hx2 with hx2
        subst hx2
        obtain ⟨P0, p0, f0, V0, v0, s0, rfl, hrp, hmp, hrv, hmv⟩ := repTx_cells hvt
        subst hA1 hA0
        have ct0 : w6.cell? ⟨bt, tq + tn * 3, none⟩ = some (.slice P0 p0 f0) := hct 0 _ rfl
        have htni : (tn : Int) < (n2 : Int) := by omega
        have hzni : (zn : Int) < (m2 : Int) := by omega
        clear hct hvt hx hxm htz hrv hr0 hr1
        have hadb : (ad1.add zn).block < w6.heap.size := by rw [block_of_add]; exact hbz
        unfold maxLen at hmp
        go_wp2_with fail
        go_region
        all_goals
          have eb9 : Below w6.heap.size w6 (w6.drew.alloc (.cells #[] 3)) := (Below.refl _ _).drew.trans (below_box w6.drew _)
          have x9 := Blk.new w6.drew 3 []
          have hRc_25 := repCo.next hRc_19 eb9
          have bc_26 := bc_20.next eb9
          have r3_27 := r3_21.next eb9
          have r4_28 := r4_22.next eb9
          have r5_29 := r5_24.next eb9
          have bt_30 := below_ext bt_23 eb9
          have hrp9 := hrp.next eb9
          go_wp2_with (at_builtin; go_loud (refine wpList_appS rfl (.tmp 64) (.tmp 65) 24 rfl w6.heap.size 3 Try.underlying24 int_info1 rfl (by omega) (by omega) _ 0 [] rfl (own_emp x9 (Nat.le_refl _)) _ 4 d3 (ints (refsOut q s (zn : Int))) rfl (by rw [length_ints]; omega) (fun hn => r3_27.newsI hn) (ints_one _) 4 (by omega) (by omega) eb9.size ?_; intro R2 e2 wa hownA _ hbA hgA; simp only [List.nil_append] at hownA))
          obtain ⟨g, rfl, hg1, hg2⟩ := own_addr hownA (by omega)
          have hbW := eb9.trans hbA
          go_loopw [11] (fun i wr => ∃ k : Nat, k ≤ p0 ∧ i = .int .i64 k ∧ wr.ownsRow w6.heap.size 3 1 (.slice (some ⟨g, 0, none⟩) 4 e2) 4 (ints (foldP s (refsOut q s (zn : Int)) (x.ps.take k))) ∧ Below w6.heap.size w6 wr) (fun i _ => p0 - (intOf i).toNat)
          case atStart => exact ⟨0, Nat.zero_le _, rfl, hownA, hbW⟩
          case round =>
            obtain ⟨k, hk, rfl, hoj, hbj⟩ := hrel
            by_cases hlt : k < p0
            · obtain ⟨bp, po, p, csp, hP, hbp, hp, hcp, hvp⟩ := hrp.at_ hlt
              obtain ⟨U, mu, du, rfl, hru, hmu⟩ := repPt_cells hvp
              subst hP
              have cp0 : w6.cell? ⟨bp, po + k * 2, none⟩ = some (.int .i64 p.shard) := hcp 0 _ rfl
              have cp1 : w6.cell? ⟨bp, po + k * 2 + 1, none⟩ = some (.slice U mu du) := hcp 1 _ rfl
              have hok := upds_ok (HTP.out.2.2.2 p (List.mem_of_getElem? hp)).2.1
              have HF := Lib.hid (foldP_succ s (refsOut q s (zn : Int)) hp)
              have hlu := hru.1
              have hkni : (k : Int) < (p0 : Int) := by omega
              unfold maxLen at hmu
              clear hcp hvp hp
              by_cases hsh : p.shard = s
              · have hshb : (p.shard == s) = true := by simp [hsh]
                go_wp2_with fail
                go_loopw [12] (fun i wj => ∃ j : Nat, j ≤ mu ∧ i = .int .i64 j ∧ wj.ownsRow w6.heap.size 3 1 (.slice (some ⟨g, 0, none⟩) 4 e2) 4 (ints (setR (foldP s (refsOut q s (zn : Int)) (x.ps.take k)) (p.us.take j))) ∧ Below w6.heap.size w6 wj) (fun i _ => mu - (intOf i).toNat)
                case atStart => exact ⟨0, Nat.zero_le _, rfl, by simpa [setR] using hoj, hbj⟩
                case round =>
                  obtain ⟨j, hj, rfl, hoj2, hbj2⟩ := hrel
                  have cp0j : wr.cell? ⟨bp, po + k * 2, none⟩ = some (.int .i64 p.shard) := (hbj2.cell (p := ⟨bp, po + k * 2, none⟩) hbp).trans cp0
                  have cp1j : wr.cell? ⟨bp, po + k * 2 + 1, none⟩ = some (.slice U mu du) := (hbj2.cell (p := ⟨bp, po + k * 2 + 1, none⟩) hbp).trans cp1
                  by_cases hlj : j < mu
                  · obtain ⟨bu, ou, uu, csu, hU, hbu, hu, hcu, hvu⟩ := hru.at_ hlj
                    obtain rfl := repUp_cells hvu
                    subst hU
                    have cu0 : wr.cell? ⟨bu, ou + j * 3, none⟩ = some (.int .i64 uu.ref) := (hbj2.cell (p := ⟨bu, ou + j * 3, none⟩) hbu).trans (hcu 0 _ rfl)
                    have cu2 : wr.cell? ⟨bu, ou + j * 3 + 1 + 1, none⟩ = some (.int .i64 uu.new) := (hbj2.cell (p := ⟨bu, ou + j * 3 + 1 + 1, none⟩) hbu).trans (hcu 2 _ rfl)
                    have cu2' : wr.cell? ⟨bu, ou + j * 3 + 2, none⟩ = some (.int .i64 uu.new) := cu2
                    have hru2 := (upOk_parts (hok uu (List.mem_of_getElem? hu))).1
                    unfold refB at hru2
                    simp only [Bool.and_eq_true, decide_eq_true_eq] at hru2
                    have HS := Lib.hid (setR_succ (foldP s (refsOut q s (zn : Int)) (x.ps.take k)) hu)
                    obtain ⟨u0, u1, u2⟩ := uu
                    dsimp only at cu0 cu2 cu2' hru2 HS
                    obtain ⟨r, rfl⟩ := Int.eq_ofNat_of_zero_le hru2.1
                    have hr4 : r < 4 := by omega
                    have hr4i : (r : Int) < 4 := by omega
                    have hjni : (j : Int) < (mu : Int) := by omega
                    rw [Int.toNat_natCast] at HS
                    have hlen : (setR (foldP s (refsOut q s (zn : Int)) (x.ps.take k)) (p.us.take j)).length = 4 := by rw [setR_len, foldP_len]; exact hl4e
                    obtain ⟨vv, hvv⟩ : ∃ vv, (setR (foldP s (refsOut q s (zn : Int)) (x.ps.take k)) (p.us.take j))[r]? = some vv := ⟨_, List.getElem?_eq_getElem (by omega)⟩
                    have cg : wr.cell? ⟨g, r, none⟩ = some (.int .i64 vv) := by
                      have := hoj2.cells (g := g) rfl r (.int .i64 vv) (by rw [ints, List.getElem?_map, hvv]; rfl)
                      rw [add_flat, Nat.zero_add] at this
                      exact this
                    obtain ⟨cur, hBg⟩ := own_blkS hoj2
                    have fg := hBg.frozen r
                    have ho2 := own_setP (w := wr.drew) hoj2 r (.int .i64 u2)
                    rw [show (ints (setR (foldP s (refsOut q s (zn : Int)) (x.ps.take k)) (p.us.take j))).set r (.int .i64 u2) = ints ((setR (foldP s (refsOut q s (zn : Int)) (x.ps.take k)) (p.us.take j)).set r u2) by simp [ints, List.map_set]] at ho2
                    have HO2 := Lib.hid ho2
                    have hb2' := hbj2.drew.setCell (p := ⟨g, r, none⟩) hg1 (.int .i64 u2)
                    clear hu hcu hvu hvv ho2
                    go_wp2_with fail
                    go_region
                    all_goals
                      go_wp2_with fail
                      go_roundw
                      case rel => exact ⟨j + 1, by omega, by go_num, by rw [HS.out]; exact HO2.out, hb2'⟩
                      case measure => simp [intOf]; omega
                  · obtain rfl : j = mu := by omega
                    rw [show p.us.take j = p.us from List.take_of_length_le (by omega)] at hoj2
                    go_wp2_with fail
                    go_roundw
                    case rel => exact ⟨k + 1, by omega, by go_num, by rw [HF.out, if_pos hsh]; exact hoj2, hbj2⟩
                    case measure => simp [intOf]; omega
              · have hshb : (p.shard == s) = false := by simp [hsh]
                go_wp2_with fail
                go_loopw [12] (fun i wj => i = .int .i64 0 ∧ wj.ownsRow w6.heap.size 3 1 (.slice (some ⟨g, 0, none⟩) 4 e2) 4 (ints (foldP s (refsOut q s (zn : Int)) (x.ps.take k))) ∧ Below w6.heap.size w6 wj) (fun _ _ => 0)
                case atStart => exact ⟨rfl, hoj, hbj⟩
                case round =>
                  obtain ⟨rfl, hoj2, hbj2⟩ := hrel
                  have cp0j : wr.cell? ⟨bp, po + k * 2, none⟩ = some (.int .i64 p.shard) := (hbj2.cell (p := ⟨bp, po + k * 2, none⟩) hbp).trans cp0
                  have cp1j : wr.cell? ⟨bp, po + k * 2 + 1, none⟩ = some (.slice U mu du) := (hbj2.cell (p := ⟨bp, po + k * 2 + 1, none⟩) hbp).trans cp1
                  by_cases hmu0 : 0 < mu
                  · have hmui : (0 : Int) < (mu : Int) := by omega
                    go_wp2_with fail
                    go_roundw
                    case rel => exact ⟨k + 1, by omega, by go_num, by rw [HF.out, if_neg hsh]; exact hoj2, hbj2⟩
                    case measure => simp [intOf]; omega
                  · obtain rfl : mu = 0 := by omega
                    go_wp2_with fail
                    go_roundw
                    case rel => exact ⟨k + 1, by omega, by go_num, by rw [HF.out, if_neg hsh]; exact hoj2, hbj2⟩
                    case measure => simp [intOf]; omega
            · obtain rfl : k = p0 := by omega
              rw [List.take_of_length_le (by have := hrp.1; omega)] at hoj
              go_wp2_with fail
              refine (sameInts_any _ _ _ _ _ _ _ _ _ (r5_24.next hbj) (RInts.of_ownL hoj) (by simp only [maxLen]; omega) (by simp only [maxLen]; omega)).mono ?_
              rw [eqI_self]
              rintro e wz ⟨rfl, hbZ⟩
              go_wp2_with fail
              go_ret
              exact ⟨rfl, below_ext (below_ext bt_23 hbj) hbZ⟩
end Go.Proofs.Ytlmcejpjhdaanaa
