/- Walks: the program's CoordinatorVote. -/
import Derived.Test.YtbgjidamhheekaaCoM
import Derived.Test.YtbgjidamhheekaaCopyI
import Derived.Test.YtbgjidamhheekaaCoI
import Derived.Test.YtbgjidamhheekaaWaits
import Derived.Test.YtbgjidamhheekaaPartAt
import Derived.Test.YtbgjidamhheekaaVotePlain
namespace Go.Proofs.Ytbgjidamhheekaa
open Go.RowKit Go.Sort

theorem all_or_zero {x : Tx} {k : Nat} (h : txB x = true) (hd : x.dec = 0) : hasI (x.vs.set k 1) 0 = !((x.vs.set k 1).all (· == 1)) := by
  have hc := (open_cnt h hd).1
  have h3 := (txB_parts h).2.2.1
  have hm : ∀ v ∈ x.vs.set k 1, v = 0 ∨ v = 1 := fun v hv' => by
    rcases List.mem_or_eq_of_mem_set hv' with h1 | h1
    · have h4 := List.all_eq_true.1 h3 v h1
      unfold cntV at hc
      have h5 := List.countP_eq_zero.1 hc v h1
      unfold voteB at h4
      simp at h4 h5
      omega
    · exact Or.inr h1
  cases ha : (x.vs.set k 1).all (· == 1)
  · have : ¬ ∀ v ∈ x.vs.set k 1, (v == 1) = true := fun hh => by rw [List.all_eq_true.2 hh] at ha; cases ha
    obtain ⟨v, hv1⟩ := Classical.not_forall.1 this
    obtain ⟨hv2, hv3⟩ := Classical.not_imp.1 hv1
    have hv4 : v = 0 := by
      rcases hm v hv2 with h1 | h1
      · exact h1
      · subst h1; exact absurd rfl hv3
    subst hv4
    simp [hasI, hv2]
  · have hall := List.all_eq_true.1 ha
    have : ¬ (0 : Int) ∈ x.vs.set k 1 := fun h0 => by have := hall 0 h0; simp at this
    simp [hasI, this]
set_option maxRecDepth 100000 in
set_option maxHeartbeats 6400000 in
theorem implVote_any (cs : List Value) (q : Co) (t s : Int) (yes : Bool) (w : World) (hv : repCo.V 0 w cs q) (hbig : q.ord.length ≤ 100000000) (hbig0 : q.ts.length ≤ 100000000) :
    Calls Try.prog 13 #[.agg cs.toArray, .int .i64 t, .int .i64 s, .bool yes] w (CoTo2 w (voteQ q t s yes)) := by
  obtain ⟨B0, m0, d0, B1, m1, d1, rfl, hr0, hm0, -, hm1⟩ := repCo_cells hv
  have b2 : Below w.heap.size w ((w.alloc (.cells #[.slice B0 m0 d0, .slice B1 m1 d1] 29)).alloc (.cells #[.slice none 0 0, .slice none 0 0] 29)) := below_ext (below_box w _) (below_box _ _)
  have x0 : Blk ((w.alloc (.cells #[.slice B0 m0 d0, .slice B1 m1 d1] 29)).alloc (.cells #[.slice none 0 0, .slice none 0 0] 29)) w.heap.size 29 [.slice B0 m0 d0, .slice B1 m1 d1] := (Blk.new w _ _).alloc _
  have x1 : Blk ((w.alloc (.cells #[.slice B0 m0 d0, .slice B1 m1 d1] 29)).alloc (.cells #[.slice none 0 0, .slice none 0 0] 29)) (w.heap.size + 1) 29 [.slice none 0 0, .slice none 0 0] := by simpa using Blk.new (w.alloc (.cells #[.slice B0 m0 d0, .slice B1 m1 d1] 29)) 29 [.slice none 0 0, .slice none 0 0]
  obtain ⟨y0, y1⟩ := x0.cells2
  have HZ0 := Lib.hid (show ((w.alloc (.cells #[.slice B0 m0 d0, .slice B1 m1 d1] 29)).alloc (.cells #[.slice none 0 0, .slice none 0 0] 29)).heap.size = w.heap.size + 2 by simp)
  go_enter Try.func13, Try.ntmps13
  go_wp2_with fail
  refine (implCoordinatorValid_any _ q _ (repCo.next hv b2) hbig hbig0).mono ?_
  rintro e1 w1 ⟨rfl, hb1⟩
  have x01 := x0.next hb1
  have x11 := x1.next hb1
  obtain ⟨y01, y11⟩ := x01.cells2
  obtain ⟨v01, v11⟩ := x11.cells2
  have fv01 := x11.frozen 0
  have fv11 := x11.frozen 1
  have hv1 := repCo.next (repCo.next hv b2) hb1
  have hz1 := b2.size
  have hz2 := hb1.size
  have hbe1 : Below w.heap.size w w1 := b2.trans (hb1.mono (by have := HZ0.out; omega))
  clear y0 y1 x0
  cases hb : coB q
  · have HB := Lib.hid (show voteQ q t s yes = (noQ, false) by unfold voteQ; rw [hb]; rfl)
    go_wp2_with fail
    have hRR := (x11.set_ 0 (.slice none 0 0)).set_ 1 (.slice none 0 0)
    simp only [List.set_cons_zero, List.set_cons_succ] at hRR
    obtain ⟨r0, r1⟩ := hRR.cells2
    refine bodyPost_ret (v := .tuple #[.agg #[.slice none 0 0, .slice none 0 0], .bool false]) (by simp [results, Try.results13, go_sem, r0, r1]) rfl ?_
    refine ⟨[.slice none 0 0, .slice none 0 0], by rw [HB.out], ?_, (hbe1.setCell (by dsimp only; omega) _).setCell (by dsimp only; omega) _⟩
    rw [HB.out]
    exact noQ_sep
  · go_wp2_with fail
    refine (copyCo_any _ q _ hv1 (coB_small hb)).mono ?_
    rintro e3 w2 ⟨csC, rfl, hC, hb2⟩
    have hCk := hC
    obtain ⟨Q0, k, c0, O0, k1, e0, S1, S2, rfl, q1, q2, q3, hSX, hSO⟩ := sepCo_cells hC
    have hkl := hSX.1
    have HKL := Lib.hid hkl
    clear hkl
    have hkm := hSX.small
    have b3 := below_box w2 (.cells #[.slice Q0 k c0, .slice O0 k1 e0] 29)
    have x13 := (x11.next hb2).next b3
    have hT3 := Blk.new w2 29 [.slice Q0 k c0, .slice O0 k1 e0]
    obtain ⟨t03, t13⟩ := hT3.cells2
    have hSX3 := hSX.next b3 (fun b hb2 => (q1 b hb2).2)
    have hz4 := hb2.size
    have hz5 := b3.size
    clear y01 y11 v01 v11 fv01 fv11 hv1 hC
    go_wp2_with fail
    refine (open_any Q0 k c0 _ q t _ (hSX3.reads.down (Nat.zero_le _)) (by omega) ⟨_, _, _, rfl⟩).mono ?_
    rintro e4 w4 ⟨hb4, ⟨hno, rfl⟩ | ⟨x, bq, off, tn, rfl, hx, hd, ho, hQ, rfl⟩⟩
    · have HB := Lib.hid (show voteQ q t s yes = (q, false) from vote_closed hb hno)
      clear hno t03 t13
      have x1_ := x13.next hb4
      have hT_ := hT3.next hb4
      have hb2_ := below_ext b3 hb4
      obtain ⟨z00, z01⟩ := hT_.cells2
      obtain ⟨z10, z11⟩ := x1_.cells2
      have z1f := x1_.frozen 0
      have z1g := x1_.frozen 1
      go_wp2_with fail
      have hz0 := HZ0.out
      have hzz := hb2_.size
      have hbe3 : Below w.heap.size w w4 := hbe1.trans ((hb2.mono (by omega)).trans (hb2_.mono (by omega)))
      have hRR := (x1_.set_ 0 (.slice Q0 k c0)).set_ 1 (.slice O0 k1 e0)
      simp only [List.set_cons_zero, List.set_cons_succ] at hRR
      obtain ⟨r0, r1⟩ := hRR.cells2
      refine bodyPost_ret (v := .tuple #[.agg #[.slice Q0 k c0, .slice O0 k1 e0], .bool false]) (by simp [results, Try.results13, go_sem, r0, r1]) rfl ?_
      refine ⟨[.slice Q0 k c0, .slice O0 k1 e0], by rw [HB.out], ?_, (hbe3.setCell (by dsimp only; omega) _).setCell (by dsimp only; omega) _⟩
      rw [HB.out]
      exact out_copy hCk (fun b n1 n2 => by rw [Below.heap_setCell _ _ _ b (by dsimp only; omega), Below.heap_setCell _ _ _ b (by dsimp only; omega)]; exact hb2_.block b n2) (by omega) (by simp only [sz_set]; omega)
    · have HX := Lib.hid hx
      have HD := Lib.hid hd
      have HO := Lib.hid ho
      have htx := (coB_parts hb).1 x (List.mem_of_getElem? hx)
      have HTX := Lib.hid htx
      have htp := txB_parts htx
      have hlv := htp.2.1
      have hl3 := (partsB_len htp.1).2.1
      clear ho hx hd htx htp
      have hS4 := hSX3.next hb4 (fun b hb2 => by have := (q1 b hb2).2; omega)
      obtain ⟨g, P4, p4, d4, V4, m4, e4', hAg, hSg, hlg, hgl, u0, u1, u2, fu, hml, hpl, hrp, hpm, -, -⟩ := hS4.txCells HX.out
      rw [hQ] at hAg
      injection hAg with hAg
      injection hAg with hA1 hA2
      subst hA1 hA2
      subst hQ
      simp only [Nat.zero_add] at *
      have HML := Lib.hid (And.intro hml hpl)
      clear hml hpl t03 t13 fu hS4
      go_wp2_with fail
      refine (partAt_any P4 p4 d4 _ _ x.ps s _ (hrp.down (Nat.zero_le _)) hpm rfl rfl).mono ?_
      rintro e5 w5 ⟨rfl, hb5⟩
      have x1_ := (x13.next hb4).next hb5
      have hT_ := (hT3.next hb4).next hb5
      have hb2_ := below_ext (below_ext b3 hb4) hb5
      clear u0 u1 u2 hrp hpm
      cases hs : shAt x.ps s with
      | none =>
        have HB := Lib.hid (show voteQ q (tn : Int) s yes = (q, false) from vote_nopart hb HO.out hs)
        have hidx : idxI (none : Option Nat) = -1 := rfl
        rw [hidx]
        clear hidx hs
        obtain ⟨z00, z01⟩ := hT_.cells2
        obtain ⟨z10, z11⟩ := x1_.cells2
        have z1f := x1_.frozen 0
        have z1g := x1_.frozen 1
        go_wp2_with fail
        have hz0 := HZ0.out
        have hzz := hb2_.size
        have hbe3 : Below w.heap.size w w5 := hbe1.trans ((hb2.mono (by omega)).trans (hb2_.mono (by omega)))
        have hRR := (x1_.set_ 0 (.slice (some ⟨bq, 0, none⟩) k c0)).set_ 1 (.slice O0 k1 e0)
        simp only [List.set_cons_zero, List.set_cons_succ] at hRR
        obtain ⟨r0, r1⟩ := hRR.cells2
        refine bodyPost_ret (v := .tuple #[.agg #[.slice (some ⟨bq, 0, none⟩) k c0, .slice O0 k1 e0], .bool false]) (by simp [results, Try.results13, go_sem, r0, r1]) rfl ?_
        refine ⟨[.slice (some ⟨bq, 0, none⟩) k c0, .slice O0 k1 e0], by rw [HB.out], ?_, (hbe3.setCell (by dsimp only; omega) _).setCell (by dsimp only; omega) _⟩
        rw [HB.out]
        exact out_copy hCk (fun b n1 n2 => by rw [Below.heap_setCell _ _ _ b (by dsimp only; omega), Below.heap_setCell _ _ _ b (by dsimp only; omega)]; exact hb2_.block b n2) (by omega) (by simp only [sz_set]; omega)
      | some kv =>
        have HSH := Lib.hid hs
        have hidx : idxI (some kv) = (kv : Int) := rfl
        rw [hidx]
        have hkv : kv < x.vs.length := by
          obtain ⟨p, hp, _⟩ := shAt_lt hs
          have := (List.getElem?_eq_some_iff.1 hp).1
          omega
        clear hidx hs
        have hS5 := (hSX3.next hb4 (fun b hb2 => by have := (q1 b hb2).2; omega)).next hb5 (fun b hb2 => by have := (q1 b hb2).2; have := hb4.size; omega)
        have hO5 := ((hSO.next b3 (fun b hb2 => (q2 b hb2).2)).next hb4 (fun b hb2 => by have := (q2 b hb2).2; omega)).next hb5 (fun b hb2 => by have := (q2 b hb2).2; have := hb4.size; omega)
        have hlt0 : decide ((kv : Int) < 0) = false := by simp
        have hz6 := hb4.size
        have hz7 := hb5.size
        by_cases hv0 : x.vs[kv] = 0
        · have hvk : x.vs[kv]? = some 0 := by rw [List.getElem?_eq_getElem hkv, hv0]
          have HVO := Lib.hid (vote_counts (y := yes) hb HO.out HSH.out hvk)
          have HAZ := Lib.hid (all_or_zero (k := kv) HTX.out HD.out)
          cases yes
          · obtain ⟨g', g2, m5, e5', hgq, hSg', hSg2, hg2g, hlg', hlg2, hgl', hgl2, hml5, a1, a2, ae, fge, hri, hS6, w1', w2', fw2, hri4⟩ := vote_store hS5 HX.out hkv (-1) (by unfold wf64; omega)
            injection hgq with hgq
            injection hgq with hgq
            subst hgq
            rw [hv0] at ae
            have HML5 := Lib.hid hml5
            have hkm : kv < m5 := by omega
            clear hml5
            have HB := Lib.hid (show voteQ q (tn : Int) s false = (⟨q.ts.set tn ⟨x.ps, x.vs.set kv (-1), 3⟩, q.ord⟩, true) from HVO.out)
            have hq2 := (q1 bq hSg).2
            have hq2' := (q1 g2 hSg2).2
            have hq1' := (q1 g2 hSg2).1
            have hq1 := (q1 bq hSg).1
            have hz0 := HZ0.out
            have n1 : w2.heap.size ≠ bq := by omega
            have n2 : w2.heap.size ≠ g2 := by omega
            have n3 : w.heap.size + 1 ≠ bq := by omega
            have n4 : w.heap.size + 1 ≠ g2 := by omega
            have hT6 := (hT_.far (p := ⟨g2, kv, none⟩) n2 (.int .i64 (-1))).far (p := ⟨bq, tn * 3 + 2, none⟩) n1 (.int .i64 3)
            have x16 := (x1_.far (p := ⟨g2, kv, none⟩) n4 (.int .i64 (-1))).far (p := ⟨bq, tn * 3 + 2, none⟩) n3 (.int .i64 3)
            obtain ⟨z00, z01⟩ := hT6.cells2
            obtain ⟨z10, z11⟩ := x16.cells2
            have z1f := x16.frozen 0
            have z1g := x16.frozen 1
            have w2s : (w5.setCell ⟨g2, kv, none⟩ (.int .i64 (-1))).cell? ⟨bq, tn * 3 + 2, none⟩ = some (.int .i64 x.dec) := w2'
            have fw2s : (w5.setCell ⟨g2, kv, none⟩ (.int .i64 (-1))).frozen? ⟨bq, tn * 3 + 2, none⟩ = false := fw2
            have htl : tn < q.ts.length := (List.getElem?_eq_some_iff.1 HX.out).1
            have HN := Lib.hid (And.intro hz0 htl)
            clear hz0 htl hv0 hvk
            go_wp2_with fail
            have hz0 := HN.out.1
            have hbe3 : Below w.heap.size w w5 := hbe1.trans ((hb2.mono (by omega)).trans (hb2_.mono (by omega)))
            have hS7 := hS6.setDec (k := tn) (x := ⟨x.ps, x.vs.set kv (-1), x.dec⟩) (by rw [List.getElem?_set_self HN.out.2]) rfl 3
            rw [List.set_set] at hS7
            have hO7 := hO5.kept (w' := (w5.setCell ⟨g2, kv, none⟩ (.int .i64 (-1))).setCell ⟨bq, tn * 3 + 1 + 1, none⟩ (.int .i64 3)) (fun b hb => by rw [Below.heap_setCell _ ⟨bq, tn * 3 + 1 + 1, none⟩ _ b (fun (e : b = bq) => q3 bq hSg (e ▸ hb)), Below.heap_setCell _ ⟨g2, kv, none⟩ _ b (fun (e : b = g2) => q3 g2 hSg2 (e ▸ hb))])
            have hbe5 := (hbe3.setCell (p := ⟨g2, kv, none⟩) (by dsimp only; omega) (.int .i64 (-1))).setCell (p := ⟨bq, tn * 3 + 1 + 1, none⟩) (by dsimp only; omega) (.int .i64 3)
            have hRR := (x16.set_ 0 (.slice (some ⟨bq, 0, none⟩) k c0)).set_ 1 (.slice O0 k1 e0)
            simp only [List.set_cons_zero, List.set_cons_succ] at hRR
            obtain ⟨r0, r1⟩ := hRR.cells2
            refine bodyPost_ret (v := .tuple #[.agg #[.slice (some ⟨bq, 0, none⟩) k c0, .slice O0 k1 e0], .bool true]) (by simp [results, Try.results13, go_sem, r0, r1]) rfl ?_
            refine ⟨[.slice (some ⟨bq, 0, none⟩) k c0, .slice O0 k1 e0], by rw [HB.out], ?_, (hbe5.setCell (by dsimp only; omega) _).setCell (by dsimp only; omega) _⟩
            rw [HB.out]
            exact out_set hS7 hO7 q1 q2 q3 (by omega) (fun b n1 n2 => by rw [Below.heap_setCell _ _ _ b (by dsimp only; omega), Below.heap_setCell _ _ _ b (by dsimp only; omega)]) (by rw [sz_set, sz_set, sz_set, sz_set]; omega)
          · obtain ⟨g', g2, m5, e5', hgq, hSg', hSg2, hg2g, hlg', hlg2, hgl', hgl2, hml5, a1, a2, ae, fge, hri, hS6, w1', w2', fw2, hri4⟩ := vote_store hS5 HX.out hkv 1 (by unfold wf64; omega)
            injection hgq with hgq
            injection hgq with hgq
            subst hgq
            rw [hv0] at ae
            have HML5 := Lib.hid hml5
            have hkm : kv < m5 := by omega
            clear hml5
            have hm5 : m5 ≤ 3 := by have := HML5.out; omega
            have hq2 := (q1 bq hSg).2
            have hq2' := (q1 g2 hSg2).2
            have hq1' := (q1 g2 hSg2).1
            have hq1 := (q1 bq hSg).1
            have hz0 := HZ0.out
            have n1 : w2.heap.size ≠ bq := by omega
            have n2 : w2.heap.size ≠ g2 := by omega
            have n3 : w.heap.size + 1 ≠ bq := by omega
            have n4 : w.heap.size + 1 ≠ g2 := by omega
            have n5 : w2.heap.size ≠ w.heap.size + 1 := by omega
            have hT6 := hT_.far (p := ⟨g2, kv, none⟩) n2 (.int .i64 1)
            have x16 := x1_.far (p := ⟨g2, kv, none⟩) n4 (.int .i64 1)
            obtain ⟨z00, z01⟩ := hT6.cells2
            obtain ⟨z10, z11⟩ := x16.cells2
            have z1f := x16.frozen 0
            have z1g := x16.frozen 1
            have w2s : (w5.setCell ⟨g2, kv, none⟩ (.int .i64 1)).cell? ⟨bq, tn * 3 + 2, none⟩ = some (.int .i64 x.dec) := w2'
            have fw2s : (w5.setCell ⟨g2, kv, none⟩ (.int .i64 1)).frozen? ⟨bq, tn * 3 + 2, none⟩ = false := fw2
            have htl : tn < q.ts.length := (List.getElem?_eq_some_iff.1 HX.out).1
            have HN := Lib.hid (And.intro hz0 (And.intro htl n5))
            have hbe3 : Below w.heap.size w w5 := hbe1.trans ((hb2.mono (by omega)).trans (hb2_.mono (by omega)))
            have hbe4 := hbe3.setCell (p := ⟨g2, kv, none⟩) (by dsimp only; omega) (.int .i64 1)
            have hO4 := hO5.kept (w' := w5.setCell ⟨g2, kv, none⟩ (.int .i64 1)) (fun b hb => Below.heap_setCell _ ⟨g2, kv, none⟩ _ b (fun (e : b = g2) => q3 g2 hSg2 (e ▸ hb)))
            have hsz4 : w5.heap.size ≤ (w5.setCell ⟨g2, kv, none⟩ (.int .i64 1)).heap.size := by rw [sz_set]; exact Nat.le_refl _
            clear hz0 htl hv0 hvk n5
            go_wp2_with fail
            generalize hWy : w5.setCell ⟨g2, kv, none⟩ (.int .i64 1) = w6 at *
            clear hWy
            refine (contains_any _ _ _ (x.vs.set kv 1) 0 _ hri4 (by simp only [maxLen]; omega)).mono ?_
            rintro e w6' ⟨rfl, rfl⟩
            rw [HAZ.out]
            cases hall : (x.vs.set kv 1).all (· == 1)
            · have HB := Lib.hid (show voteQ q (tn : Int) s true = (⟨q.ts.set tn ⟨x.ps, x.vs.set kv 1, x.dec⟩, q.ord⟩, true) by rw [HVO.out]; unfold vote1; rw [if_pos rfl, if_neg (by rw [hall]; simp)])
              clear hall
              go_wp2_with fail
              have hz0 := HN.out.1
              have hRR := (x16.set_ 0 (.slice (some ⟨bq, 0, none⟩) k c0)).set_ 1 (.slice O0 k1 e0)
              simp only [List.set_cons_zero, List.set_cons_succ] at hRR
              obtain ⟨r0, r1⟩ := hRR.cells2
              refine bodyPost_ret (v := .tuple #[.agg #[.slice (some ⟨bq, 0, none⟩) k c0, .slice O0 k1 e0], .bool true]) (by simp [results, Try.results13, go_sem, r0, r1]) rfl ?_
              refine ⟨[.slice (some ⟨bq, 0, none⟩) k c0, .slice O0 k1 e0], by rw [HB.out], ?_, (hbe4.setCell (by dsimp only; omega) _).setCell (by dsimp only; omega) _⟩
              rw [HB.out]
              exact out_set hS6 hO4 q1 q2 q3 (by omega) (fun b n1 n2 => by rw [Below.heap_setCell _ _ _ b (by dsimp only; omega), Below.heap_setCell _ _ _ b (by dsimp only; omega)]) (by rw [sz_set, sz_set]; omega)
            · have HB := Lib.hid (show voteQ q (tn : Int) s true = (⟨q.ts.set tn ⟨x.ps, x.vs.set kv 1, 2⟩, q.ord ++ [(tn : Int)]⟩, true) by rw [HVO.out]; unfold vote1; rw [if_pos rfl, if_pos hall])
              clear hall
              have hT5 := hT6.far (p := ⟨bq, tn * 3 + 2, none⟩) n1 (.int .i64 2)
              have x15 := x16.far (p := ⟨bq, tn * 3 + 2, none⟩) n3 (.int .i64 2)
              have hS7 := hS6.setDec (k := tn) (x := ⟨x.ps, x.vs.set kv 1, x.dec⟩) (by rw [List.getElem?_set_self HN.out.2.1]) rfl 2
              rw [List.set_set] at hS7
              have hO7 := hO4.kept (w' := w6.setCell ⟨bq, tn * 3 + 2, none⟩ (.int .i64 2)) (fun b hb => Below.heap_setCell _ ⟨bq, tn * 3 + 2, none⟩ _ b (fun (e : b = bq) => q3 bq hSg (e ▸ hb)))
              have hbe7 := hbe4.setCell (p := ⟨bq, tn * 3 + 2, none⟩) (by dsimp only; omega) (.int .i64 2)
              have hsz5 : w6.heap.size ≤ (w6.setCell ⟨bq, tn * 3 + 2, none⟩ (.int .i64 2)).heap.size := by rw [sz_set]; exact Nat.le_refl _
              go_upto_region 16 with fail
              clear fw2 hO4 hbe4 hT6 x16 z00 z01 z10 z11 z1f z1g w1' w2' w2s fw2s hri4 hS6
              generalize hWz : w6.setCell ⟨bq, tn * 3 + 2, none⟩ (.int .i64 2) = w7 at *
              clear hWz
              have n5 := HN.out.2.2
              have hkl1 := hO7.1
              obtain ⟨t50, t51⟩ := hT5.cells2
              have ba := below_box w7 (.cells #[.int .i64 tn] 3)
              have hneT : some w2.heap.size ≠ (Value.slice O0 k1 e0).ownBlock := fun e => by have := (q2 _ (hO7.ownS _ e.symm)).2; omega
              have hneR : some (w.heap.size + 1) ≠ (Value.slice O0 k1 e0).ownBlock := fun e => by have := (q2 _ (hO7.ownS _ e.symm)).1; have := HN.out.1; omega
              have hk1b : k1 ≤ 100000000 := by omega
              have HKL := Lib.hid hkl1
              clear hkl1
              go_wp2_with (at_builtin; go_loud (refine wpList_app rfl (.tmp 71) (.tmp 73) 23 rfl w1.heap.size 3 Try.underlying23 int_info1 rfl (by omega) (by omega) _ k1 (ints q.ord) rfl (own_belowS hO7.ints_own ba) ⟨w7.heap.size, 0, none⟩ 1 1 [.int .i64 tn] rfl rfl ((Blk.new w7 3 [.int .i64 tn]).cellsAtH (by simp)) (by simp [Value.oneCell']) (by omega) (by have := ba.size; omega) ?_; intro O9 d9 w9 hown9 _ hb9 hg9 hloc9; have hT9 : Blk w9 w2.heap.size 29 [.slice (some ⟨bq, 0, none⟩) k c0, .slice O0 k1 e0] := (hT5.next ba).grown hg9 hneT; have hT10 := hT9.set_ 1 (.slice O9 (k1 + 1) d9); simp only [List.set_cons_zero, List.set_cons_succ] at hT10; obtain ⟨t90, t91⟩ := hT9.cells2; obtain ⟨t100, t101⟩ := hT10.cells2; have ft9 := hT9.frozen 1; have x19 := ((x15.next ba).grown hg9 hneR); have x20 := x19.far (p := ⟨w2.heap.size, 1, none⟩) n5.symm (.slice O9 (k1 + 1) d9); obtain ⟨v90, v91⟩ := x20.cells2; have fv90 := x20.frozen 0; have fv91 := x20.frozen 1))
              have hz9 := hg9.size
              have hz0 := HN.out.1
              have hz8 : (w7.alloc (.cells #[.int .i64 tn] 3)).heap.size = w7.heap.size + 1 := by simp
              have hS9 := (hS7.next ba (fun b hb => by have := (q1 b hb).2; omega)).kept (w' := w9) (fun b hb => hg9.block b (by have := (q1 b hb).2; omega) (fun e => q3 b hb (hO7.ownS _ e.symm)))
              have hbe9 := (below_ext hbe7 (below_box w7 (.cells #[.int .i64 tn] 3))).trans (hb9.mono (by omega))
              have hnew : ∀ b, (Value.slice O9 (k1 + 1) d9).ownBlock = some b → S2 b ∨ b = w7.heap.size + 1 := fun b hb => by
                rcases hloc9 with e | e
                · exact Or.inl (hO7.ownS _ (e ▸ hb))
                · rw [e] at hb; injection hb with hb; right; omega
              have hRR := (x20.set_ 0 (.slice (some ⟨bq, 0, none⟩) k c0)).set_ 1 (.slice O9 (k1 + 1) d9)
              simp only [List.set_cons_zero, List.set_cons_succ] at hRR
              obtain ⟨r0, r1⟩ := hRR.cells2
              refine bodyPost_ret (v := .tuple #[.agg #[.slice (some ⟨bq, 0, none⟩) k c0, .slice O9 (k1 + 1) d9], .bool true]) (by simp [results, Try.results13, go_sem, r0, r1]) rfl ?_
              refine ⟨[.slice (some ⟨bq, 0, none⟩) k c0, .slice O9 (k1 + 1) d9], by rw [HB.out], ?_, ((hbe9.setCell (p := ⟨w2.heap.size, 1, none⟩) (by dsimp only; omega) _).setCell (by dsimp only; omega) _).setCell (by dsimp only; omega) _⟩
              rw [HB.out]
              exact out_order hS9 (by rw [← ints_snoc]; exact hown9) q1 (fun b hb => by rcases hnew b hb with h | h; (· exact fun h' => q3 b h' h); (· intro h'; have := (q1 b h').2; omega)) (by omega) (fun b n1 n2 => by rw [Below.heap_setCell _ _ _ b (by dsimp only; omega), Below.heap_setCell _ _ _ b (by dsimp only; omega), Below.heap_setCell _ _ _ b (fun (e : b = w2.heap.size) => n2 e)]) (fun b hb => by rcases hnew b hb with h | h; (· have := (q2 b h).2; omega); (· omega)) (by rw [sz_set, sz_set, sz_set]; omega) (by omega)
        · have HB := Lib.hid (show voteQ q (tn : Int) s yes = (q, false) from vote_known hb HO.out HSH.out (by rw [List.getElem?_eq_getElem hkv]; intro e; injection e with e; exact hv0 e))
          obtain ⟨g', g2, m5, e5', hgq, hSg', hSg2, hg2g, hlg', hlg2, hgl', hgl2, hml5, a1, a2, ae, fge, hri, -, -, -, -, -⟩ := vote_store hS5 HX.out hkv 1 (by unfold wf64; omega)
          injection hgq with hgq
          injection hgq with hgq
          subst hgq
          have HML5 := Lib.hid hml5
          have hvb : (x.vs[kv] != 0) = true := by simpa using hv0
          have hkm : kv < m5 := by omega
          clear hml5 hv0
          obtain ⟨z00, z01⟩ := hT_.cells2
          obtain ⟨z10, z11⟩ := x1_.cells2
          have z1f := x1_.frozen 0
          have z1g := x1_.frozen 1
          go_wp2_with fail
          have hz0 := HZ0.out
          have hzz := hb2_.size
          have hbe3 : Below w.heap.size w w5 := hbe1.trans ((hb2.mono (by omega)).trans (hb2_.mono (by omega)))
          have hRR := (x1_.set_ 0 (.slice (some ⟨bq, 0, none⟩) k c0)).set_ 1 (.slice O0 k1 e0)
          simp only [List.set_cons_zero, List.set_cons_succ] at hRR
          obtain ⟨r0, r1⟩ := hRR.cells2
          refine bodyPost_ret (v := .tuple #[.agg #[.slice (some ⟨bq, 0, none⟩) k c0, .slice O0 k1 e0], .bool false]) (by simp [results, Try.results13, go_sem, r0, r1]) rfl ?_
          refine ⟨[.slice (some ⟨bq, 0, none⟩) k c0, .slice O0 k1 e0], by rw [HB.out], ?_, (hbe3.setCell (by dsimp only; omega) _).setCell (by dsimp only; omega) _⟩
          rw [HB.out]
          exact out_copy hCk (fun b n1 n2 => by rw [Below.heap_setCell _ _ _ b (by dsimp only; omega), Below.heap_setCell _ _ _ b (by dsimp only; omega)]; exact hb2_.block b n2) (by omega) (by simp only [sz_set]; omega)
end Go.Proofs.Ytbgjidamhheekaa
