/- Walks: the program's refs after transactions: refsAfter, CoordinatorRefs. -/
import Derived.Test.YtlmcejpjhdaanaaRefsQ
import Derived.Test.YtlmcejpjhdaanaaCoI
import Derived.Deep.RegionHeld3
namespace Go.Proofs.Ytlmcejpjhdaanaa
open Go.RowKit Go.Sort

theorem len4 {l : List Int} (h : l.length = 4) : ∃ a b c d, l = [a, b, c, d] := by
  match l, h with
  | [a, b, c, d], _ => exact ⟨a, b, c, d, rfl⟩
theorem grownBelow {a b c : World} {B g : Nat} (h : Below B a b) (hg : b.grownBy c (some g)) (hB : B ≤ g ∧ B ≤ a.heap.size) : Below B a c :=
  ⟨hg.os.trans h.os, hg.tape.trans h.tape, hg.output.trans h.output, Nat.le_trans h.size hg.size, fun i hi => (hg.block i (Nat.lt_of_lt_of_le (Nat.lt_of_lt_of_le hi hB.2) h.size) (fun e => by injection e with e; omega)).trans (h.block i hi)⟩
set_option maxRecDepth 100000 in
set_option maxHeartbeats 6400000 in
theorem refsAfter_any (B0 : Option Addr) (m0 d0 : Nat) (B1 : Option Addr) (m1 d1 : Nat) (q : Co) (s : Int) (m : Nat) (w : World) (hv : repCo.V 0 w [.slice B0 m0 d0, .slice B1 m1 d1] q) (hb : coB q = true) (hm : m ≤ q.ord.length) (hcap : m1 ≤ d1) (hnil : B1 = none → d1 = 0) :
    Calls Try.prog 52 #[.agg #[.slice B0 m0 d0, .slice B1 m1 d1], .int .i64 s, .int .i64 (m : Int)] w fun e w' => e = .returned (.agg (ints (refsQ q s m)).toArray) ∧ Below w.heap.size w w' := by
  obtain ⟨_, _, _, _, _, _, e9, hr0, hm0, hr1, hm1⟩ := repCo_cells hv
  obtain ⟨⟨rfl, rfl, rfl⟩, rfl, rfl, rfl⟩ : (_ ∧ _ ∧ _) ∧ _ ∧ _ ∧ _ := by simpa using e9
  clear e9
  have hl0 := hr0.1
  have hl1 := hr1.1
  have hsm := (coB_parts hb).2.2.1
  have hcn := (coB_parts hb).2.2.2
  have hcl := cntC_le q.ts
  have hmm : m ≤ m1 := by omega
  have hm12 : m ≤ 12 := by omega
  have hmd : m ≤ d1 := by omega
  have HL := Lib.hid (And.intro hl0 hl1)
  clear hl0 hl1 hcn
  have b0 := below_box2 w (.cells #[.slice B0 m0 d0, .slice B1 m1 d1] 26) (.cells #[.int .i64 0, .int .i64 0, .int .i64 0, .int .i64 0] 77)
  have x0 := (Blk.new w 26 [.slice B0 m0 d0, .slice B1 m1 d1]).alloc (.cells #[.int .i64 0, .int .i64 0, .int .i64 0, .int .i64 0] 77)
  have r0 : Blk ((w.alloc (.cells #[.slice B0 m0 d0, .slice B1 m1 d1] 26)).alloc (.cells #[.int .i64 0, .int .i64 0, .int .i64 0, .int .i64 0] 77)) (w.heap.size + 1) 77 [.int .i64 0, .int .i64 0, .int .i64 0, .int .i64 0] := by simpa using Blk.new (w.alloc (.cells #[.slice B0 m0 d0, .slice B1 m1 d1] 26)) 77 [.int .i64 0, .int .i64 0, .int .i64 0, .int .i64 0]
  unfold maxLen at hm0 hm1
  go_enter Try.func52, Try.ntmps52
  go_wp2_with fail
  refine (noRefs_any _).mono ?_
  rintro e w1 ⟨rfl, hb1⟩
  have x1 := x0.next hb1
  have r1 := r0.next hb1
  have bb1 := below_ext b0 hb1
  have hg1 : w.heap.size + 1 < w1.heap.size := r1.lt
  have eb := below_box w1 (.cells #[.int .i64 (-1), .int .i64 (-1), .int .i64 (-1), .int .i64 (-1)] 77)
  have t2 := Blk.new w1 77 [.int .i64 (-1), .int .i64 (-1), .int .i64 (-1), .int .i64 (-1)]
  have x2 := x1.next eb
  have r2 := r1.next eb
  have bb2 := below_ext bb1 eb
  obtain ⟨y0, y1⟩ := x2.cells2
  clear x0 r0 b0 x1 r1 hb1 bb1 eb
  have hB1 : m1 = 0 ∨ ∃ ad, B1 = some ad := by
    by_cases h0 : 0 < m1
    · obtain ⟨b, off, e, _⟩ := hr1.2 h0
      exact Or.inr ⟨_, e⟩
    · exact Or.inl (by omega)
  cases B1 with
  | none =>
    obtain rfl : m1 = 0 := by
      rcases hB1 with h | ⟨ad, h⟩
      · exact h
      · cases h
    obtain rfl : m = 0 := by omega
    obtain rfl := hnil rfl
    go_wp2_with fail
    go_loopw [17] (fun i wr => i = .int .i64 0 ∧ Blk wr w1.heap.size 77 (ints (refsQ q s 0)) ∧ Blk wr (w.heap.size + 1) 77 [.int .i64 0, .int .i64 0, .int .i64 0, .int .i64 0] ∧ Below w.heap.size w wr) (fun _ _ => 0)
    case atStart => exact ⟨rfl, t2, r2, bb2⟩
    case round =>
      obtain ⟨rfl, tj, rj, bj⟩ := hrel
      obtain ⟨qa, qb, qc, qd, hq4⟩ := len4 (refsQ_len q s 0)
      rw [hq4] at tj
      have tj' : Blk wr w1.heap.size 77 [.int .i64 qa, .int .i64 qb, .int .i64 qc, .int .i64 qd] := tj
      obtain ⟨c0, c1, c2, c3⟩ := tj'.cells4
      obtain ⟨e0, e1, e2, e3⟩ := rj.cells4
      have f0 := rj.frozen 0
      have f1 := rj.frozen 1
      have f2 := rj.frozen 2
      have f3 := rj.frozen 3
      have hRR := (((rj.set_ 0 (.int .i64 qa)).set_ 1 (.int .i64 qb)).set_ 2 (.int .i64 qc)).set_ 3 (.int .i64 qd)
      simp only [List.set_cons_zero, List.set_cons_succ] at hRR
      obtain ⟨r0, r1, r2, r3⟩ := hRR.cells4
      go_wp2_with fail
      refine bodyPost_ret (v := .agg #[.int .i64 qa, .int .i64 qb, .int .i64 qc, .int .i64 qd]) (by simp [results, Try.results52, go_sem, r0, r1, r2, r3]) rfl ?_
      rw [hq4]
      exact ⟨rfl, (((bj.setCell (p := ⟨w.heap.size + 1, 0, none⟩) (Nat.le_succ _) _).setCell (p := ⟨w.heap.size + 1, 1, none⟩) (Nat.le_succ _) _).setCell (p := ⟨w.heap.size + 1, 2, none⟩) (Nat.le_succ _) _).setCell (p := ⟨w.heap.size + 1, 3, none⟩) (Nat.le_succ _) _⟩
  | some ad1 =>
    go_wp2_with fail
    go_loopw [17] (fun i wr => ∃ k : Nat, k ≤ m ∧ i = .int .i64 k ∧ Blk wr w1.heap.size 77 (ints (refsQ q s k)) ∧ Blk wr (w.heap.size + 1) 77 [.int .i64 0, .int .i64 0, .int .i64 0, .int .i64 0] ∧ Blk wr w.heap.size 26 [.slice B0 m0 d0, .slice (some ad1) m1 d1] ∧ Below w.heap.size w wr) (fun i _ => m - (intOf i).toNat)
    case atStart => exact ⟨0, Nat.zero_le _, rfl, t2, r2, x2, bb2⟩
    case round =>
      obtain ⟨k, hk, rfl, tj, rj, xj, bj⟩ := hrel
      by_cases hlt : k < m
      · obtain ⟨c0, c1⟩ := xj.cells2
        have xjl := xj.lt
        have tjl := tj.lt
        obtain ⟨ad, z, hA1, hbz, hz, hcz⟩ := hr1.rints.at_ (k := k) (by omega)
        injection hA1 with hA1
        subst hA1
        obtain ⟨tn, x, rfl, hx, hxm⟩ := ord_at hb hz
        have htn : tn < m0 := by have := (List.getElem?_eq_some_iff.1 hx).1; have := HL.out.1; omega
        obtain ⟨bt, tq, x2', cst, hA0, hbt, hx2, hct, hvt⟩ := hr0.at_ htn
        rw [hx] at hx2
        injection hx2 with hx2
        subst hx2
        obtain ⟨P0, p0, f0, V0, v0, s0, rfl, hrp, hmp, hrv, hmv⟩ := repTx_cells hvt
        subst hA0
        have hcz' : wr.cell? (ad1.add k) = some (.int .i64 (tn : Int)) := (bj.cell (p := ad1.add k) (by rw [block_of_add]; exact hbz)).trans hcz
        have ct0 : wr.cell? ⟨bt, tq + tn * 3, none⟩ = some (.slice P0 p0 f0) := (bj.cell (p := ⟨bt, tq + tn * 3, none⟩) hbt).trans (hct 0 _ rfl)
        have ct1 : wr.cell? ⟨bt, tq + tn * 3 + 1, none⟩ = some (.slice V0 v0 s0) := (bj.cell (p := ⟨bt, tq + tn * 3 + 1, none⟩) hbt).trans (hct 1 _ rfl)
        have ct2 : wr.cell? ⟨bt, tq + tn * 3 + 1 + 1, none⟩ = some (.int .i64 x.dec) := (bj.cell (p := ⟨bt, tq + tn * 3 + 1 + 1, none⟩) hbt).trans (hct 2 _ rfl)
        have ct2' : wr.cell? ⟨bt, tq + tn * 3 + 2, none⟩ = some (.int .i64 x.dec) := ct2
        have HST := Lib.hid (refsQ_succ (s := s) hz)
        have HX := Lib.hid (And.intro hx hxm)
        have htp := txB_parts ((coB_parts hb).1 x hxm)
        have hpl := partsB_len htp.1
        have HTP := Lib.hid (And.intro htp hpl)
        clear hct hvt hx hxm hz hcz htp hpl hrv
        have eb := below_box wr (.cells #[.slice P0 p0 f0, .slice V0 v0 s0, .int .i64 x.dec] 35)
        have xb := Blk.new wr 35 [.slice P0 p0 f0, .slice V0 v0 s0, .int .i64 x.dec]
        obtain ⟨g0, g1, g2⟩ := xb.cells3
        have hrpw := hrp.next (below_ext bj eb)
        go_wp2_with fail
        refine (partAt_any P0 p0 f0 _ _ x.ps s _ (hrpw.down (Nat.zero_le _)) hmp rfl rfl).mono ?_
        rintro e w5 ⟨rfl, hb5⟩
        have e5 := below_ext eb hb5
        have b5 := below_ext bj e5
        have x5 := xj.next e5
        have t5 := tj.next e5
        have r5 := rj.next e5
        have y5 := xb.next hb5
        clear g0 g1 g2 hrpw
        cases hs : shAt x.ps s with
        | none =>
          have hidx : idxI (none : Option Nat) = -1 := rfl
          have HN := Lib.hid (stepR_none (r := refsQ q s k) HX.out.1 hs)
          rw [hidx]
          clear hidx hs
          go_wp2_with fail
          go_roundw
          case rel => exact ⟨k + 1, by omega, by go_num, by rw [HST.out, HN.out]; exact t5, r5, x5, b5⟩
          case measure => simp [intOf]; omega
        | some kk =>
          have hidx : idxI (some kk) = (kk : Int) := rfl
          obtain ⟨p, hp, hps⟩ := shAt_lt hs
          have hkp : kk < p0 := by have := (List.getElem?_eq_some_iff.1 hp).1; have := hrp.1; omega
          obtain ⟨bp, po, p', csp, hP, hbp, hp', hcp, hvp⟩ := hrp.at_ hkp
          rw [hp] at hp'
          injection hp' with hp'
          subst hp'
          obtain ⟨U, mu, du, rfl, hru, hmu⟩ := repPt_cells hvp
          subst hP
          have cp1 : w.cell? ⟨bp, po + kk * 2 + 1, none⟩ = some (.slice U mu du) := hcp 1 _ rfl
          have hok := upds_ok (HTP.out.2.2.2 p (List.mem_of_getElem? hp)).2.1
          have HN := Lib.hid (stepR_some (r := refsQ q s k) HX.out.1 hs hp)
          have hge : decide ((kk : Int) ≥ 0) = true := by simp
          have HSH := Lib.hid (show idxI (shAt x.ps s) = (kk : Int) by rw [hs]; rfl)
          rw [hidx]
          clear hidx hs hp hps hcp hvp
          have HK := Lib.hid (fun (w' : World) (hb' : Below w5.heap.size w5 w') => (⟨(y5.next hb').cells3.1, (y5.next hb').cells3.2.1, (y5.next hb').cells3.2.2, ((below_ext b5 hb').cell (p := ⟨bp, po + kk * 2 + 1, none⟩) hbp).trans cp1⟩ : w'.cell? ⟨wr.heap.size, 0, none⟩ = some (.slice (some ⟨bp, po, none⟩) p0 f0) ∧ w'.cell? ⟨wr.heap.size, 1, none⟩ = some (.slice V0 v0 s0) ∧ w'.cell? ⟨wr.heap.size, 2, none⟩ = some (.int .i64 x.dec) ∧ w'.cell? ⟨bp, po + kk * 2 + 1, none⟩ = some (.slice U mu du)))
          have HT := Lib.hid t5
          have HRP := Lib.hid (hrp.next b5)
          have hd5 : Below w5.heap.size w5 w5.drew := (Below.refl _ _).drew
          have hny : some wr.heap.size ≠ some w1.heap.size := fun e => by injection e with e; omega
          have hnb : bp ≠ w1.heap.size := by have := bb2.size; have := t2.lt; omega
          go_wp2_with fail
          go_region_held3 (fun w' => w'.cell? ⟨wr.heap.size, 0, none⟩ = some (.slice (some ⟨bp, po, none⟩) p0 f0) ∧ w'.cell? ⟨wr.heap.size, 1, none⟩ = some (.slice V0 v0 s0) ∧ w'.cell? ⟨wr.heap.size, 2, none⟩ = some (.int .i64 x.dec) ∧ w'.cell? ⟨bp, po + kk * 2 + 1, none⟩ = some (.slice U mu du))
            (first
              | exact HK.out _ hd5
              | exact HK.out _ hd6
              | exact HK7.out)
            (first
              | (go_at_call 73; refine (partAt_any _ p0 f0 _ _ x.ps s _ ((HRP.out.next hd5).down (Nat.zero_le _)) hmp rfl rfl).mono ?_
                 rw [HSH.out]
                 rintro e w6 ⟨rfl, hb6⟩
                 have hd6 := below_ext hd5 hb6)
              | (go_at_call 74; refine (set_any w1.heap.size (refsQ q s k) U mu du p.us w _ (hru.down (Nat.zero_le _)) hmu (below_ext b5 hd6) (by omega) (HT.out.next hd6) (refsQ_len q s k) hok).mono ?_
                 rintro e w7 ⟨rfl, hB7, hg7⟩
                 have y7 := ((y5.next hd6).grown hg7 hny).cells3
                 have HK7 := Lib.hid (show w7.cell? ⟨wr.heap.size, 0, none⟩ = some (.slice (some ⟨bp, po, none⟩) p0 f0) ∧ w7.cell? ⟨wr.heap.size, 1, none⟩ = some (.slice V0 v0 s0) ∧ w7.cell? ⟨wr.heap.size, 2, none⟩ = some (.int .i64 x.dec) ∧ w7.cell? ⟨bp, po + kk * 2 + 1, none⟩ = some (.slice U mu du) from ⟨y7.1, y7.2.1, y7.2.2, (World.cell?_of_block (hg7.block bp (Nat.lt_of_lt_of_le hbp (below_ext b5 hd6).size) (fun e => hnb (by injection e)))).trans (HK.out _ hd6).2.2.2⟩)))
          have x7 := (x5.next hd6).grown hg7 (fun e => by injection e with e; omega)
          have r7 := (r5.next hd6).grown hg7 (fun e => by injection e with e; omega)
          have b7 := grownBelow (below_ext b5 hd6) hg7 (by omega)
          go_wp2_with fail
          go_roundw
          case rel => exact ⟨k + 1, by omega, by go_num, by rw [HST.out, HN.out]; exact hB7, r7, x7, b7⟩
          case measure => simp [intOf]; omega
      · obtain rfl : k = m := by omega
        obtain ⟨qa, qb, qc, qd, hq4⟩ := len4 (refsQ_len q s k)
        rw [hq4] at tj
        have tj' : Blk wr w1.heap.size 77 [.int .i64 qa, .int .i64 qb, .int .i64 qc, .int .i64 qd] := tj
        obtain ⟨c0, c1, c2, c3⟩ := tj'.cells4
        obtain ⟨e0, e1, e2, e3⟩ := rj.cells4
        have f0 := rj.frozen 0
        have f1 := rj.frozen 1
        have f2 := rj.frozen 2
        have f3 := rj.frozen 3
        have hRR := (((rj.set_ 0 (.int .i64 qa)).set_ 1 (.int .i64 qb)).set_ 2 (.int .i64 qc)).set_ 3 (.int .i64 qd)
        simp only [List.set_cons_zero, List.set_cons_succ] at hRR
        obtain ⟨r0, r1, r2, r3⟩ := hRR.cells4
        go_wp2_with fail
        refine bodyPost_ret (v := .agg #[.int .i64 qa, .int .i64 qb, .int .i64 qc, .int .i64 qd]) (by simp [results, Try.results52, go_sem, r0, r1, r2, r3]) rfl ?_
        rw [hq4]
        exact ⟨rfl, (((bj.setCell (p := ⟨w.heap.size + 1, 0, none⟩) (Nat.le_succ _) _).setCell (p := ⟨w.heap.size + 1, 1, none⟩) (Nat.le_succ _) _).setCell (p := ⟨w.heap.size + 1, 2, none⟩) (Nat.le_succ _) _).setCell (p := ⟨w.heap.size + 1, 3, none⟩) (Nat.le_succ _) _⟩
set_option maxRecDepth 100000 in
set_option maxHeartbeats 3200000 in
theorem implRefs_any (B0 : Option Addr) (m0 d0 : Nat) (B1 : Option Addr) (m1 d1 : Nat) (q : Co) (s m : Int) (w : World) (hv : repCo.V 0 w [.slice B0 m0 d0, .slice B1 m1 d1] q) (hbig : q.ord.length ≤ 100000000) (hbig0 : q.ts.length ≤ 100000000) (hcap : m1 ≤ d1) (hnil : B1 = none → d1 = 0) :
    Calls Try.prog 22 #[.agg #[.slice B0 m0 d0, .slice B1 m1 d1], .int .i64 s, .int .i64 m] w (RefsTo 77 w (refsOut q s m)) := by
  have hl1 : m1 = q.ord.length := by
    obtain ⟨_, _, _, _, _, _, e9, hr0, hm0, hr1, hm1⟩ := repCo_cells hv
    obtain ⟨⟨rfl, rfl, rfl⟩, rfl, rfl, rfl⟩ : (_ ∧ _ ∧ _) ∧ _ ∧ _ ∧ _ := by simpa using e9
    exact hr1.1.symm
  have HL1 := Lib.hid hl1
  have hm1b : m1 ≤ 100000000 := by omega
  clear hl1
  have b0 := below_box w (.cells #[.slice B0 m0 d0, .slice B1 m1 d1] 26)
  have x0 := Blk.new w 26 [.slice B0 m0 d0, .slice B1 m1 d1]
  obtain ⟨y0, y1⟩ := x0.cells2
  go_enter Try.func22, Try.ntmps22
  go_wp2_with fail
  refine (implCoordinatorValid_any _ q _ (repCo.next hv b0) hbig hbig0).mono ?_
  rintro e w1 ⟨rfl, hb1⟩
  have x1 := x0.next hb1
  have bb1 := below_ext b0 hb1
  obtain ⟨z0, z1⟩ := x1.cells2
  have hz := bb1.size
  clear y0 y1
  cases hb : coB q
  · have HB := Lib.hid (refsOut_bad (q := q) (s := s) (m := m) (by unfold refsOk; rw [hb]; rfl))
    go_wp2_with fail
    go_ret
    exact ⟨_, 0, _, rfl, by rw [HB.out]; exact own_nil, bb1⟩
  · go_wp2_with fail
    refine (inRange_any _ _ _ _).mono ?_
    cases hs : (decide ((0 : Int) ≤ s) && decide (s ≤ 2))
    · have HB := Lib.hid (refsOut_bad (q := q) (s := s) (m := m) (by unfold refsOk; rw [hs]; simp))
      rintro e w2 ⟨rfl, rfl⟩
      go_wp2_with fail
      go_ret
      exact ⟨_, 0, _, rfl, by rw [HB.out]; exact own_nil, bb1⟩
    · rintro e w2 ⟨rfl, rfl⟩
      go_wp2_with fail
      refine (inRange_any _ _ _ _).mono ?_
      cases hm : (decide ((0 : Int) ≤ m) && decide (m ≤ (m1 : Int)))
      · have HB := Lib.hid (refsOut_bad (q := q) (s := s) (m := m) (by unfold refsOk; rw [← HL1.out, hm]; simp))
        rintro e w2 ⟨rfl, rfl⟩
        go_wp2_with fail
        go_ret
        exact ⟨_, 0, _, rfl, by rw [HB.out]; exact own_nil, bb1⟩
      · have HB := Lib.hid (refsOut_ok (q := q) (s := s) (m := m) (by unfold refsOk; rw [← HL1.out, hb, hs, hm]; rfl))
        have hm2 : 0 ≤ m ∧ m ≤ (m1 : Int) := by simpa using hm
        obtain ⟨mn, rfl⟩ := Int.eq_ofNat_of_zero_le hm2.1
        have HM := Lib.hid (show mn ≤ q.ord.length by rw [← HL1.out]; omega)
        clear hm hs
        rintro e w2 ⟨rfl, rfl⟩
        go_wp2_with fail
        refine (refsAfter_any B0 m0 d0 B1 m1 d1 q s mn _ (repCo.next (repCo.next hv b0) hb1) hb HM.out hcap hnil).mono ?_
        rintro e w3 ⟨rfl, hb3⟩
        obtain ⟨qa, qb, qc, qd, hq4⟩ := len4 (refsQ_len q s mn)
        have HQ := Lib.hid hq4
        rw [hq4]
        clear hq4
        have e3 := below_box w3 (.cells #[.int .i64 qa, .int .i64 qb, .int .i64 qc, .int .i64 qd] 77)
        have t3 : Blk (w3.alloc (.cells #[.int .i64 qa, .int .i64 qb, .int .i64 qc, .int .i64 qd] 77)) w3.heap.size 77 (ints [qa, qb, qc, qd]) := Blk.new w3 77 [.int .i64 qa, .int .i64 qb, .int .i64 qc, .int .i64 qd]
        have hz3 := hb3.size
        simp only [ints, List.map_cons, List.map_nil]
        go_wp2_with fail
        go_ret
        exact ⟨_, 4, 4, rfl, by rw [HB.out, Int.toNat_natCast, HQ.out]; exact own_blk_ints t3 (by omega) (by simp [maxLen]), below_ext (below_ext bb1 hb3) e3⟩
end Go.Proofs.Ytlmcejpjhdaanaa
