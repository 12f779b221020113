/- Walks: the refs after transactions: l22Refs, refsAfter, CoordinatorRefs of the reference and of the program. -/
import Derived.Test.YtlmcejpjhdaanaaRefsS
import Derived.Test.YtlmcejpjhdaanaaCoPlain
namespace Go.Proofs.Ytlmcejpjhdaanaa
open Go.RowKit Go.Sort

/-- one more transaction -/
def stepR (q : Co) (s : Int) (r : List Int) (z : Int) : List Int := match q.ts[z.toNat]? with
  | some x => (match shAt x.ps s with
    | some k => (match x.ps[k]? with
      | some p => setR r p.us
      | none => r)
    | none => r)
  | none => r
def refsQ (q : Co) (s : Int) (m : Nat) : List Int := (q.ord.take m).foldl (stepR q s) no4
def refsOk (q : Co) (s m : Int) : Bool := coB q && (decide (0 ≤ s) && decide (s ≤ 2)) && (decide (0 ≤ m) && decide (m ≤ (q.ord.length : Int)))
def refsOut (q : Co) (s m : Int) : List Int := if refsOk q s m then refsQ q s m.toNat else []
theorem refsQ_zero (q : Co) (s : Int) : refsQ q s 0 = no4 := rfl
theorem refsQ_succ {q : Co} {s z : Int} {k : Nat} (h : q.ord[k]? = some z) : refsQ q s (k + 1) = stepR q s (refsQ q s k) z := by
  obtain ⟨h1, h2⟩ := List.getElem?_eq_some_iff.1 h
  unfold refsQ
  rw [List.take_succ_eq_append_getElem h1, List.foldl_append, h2]
  rfl
theorem stepR_len (q : Co) (s : Int) (r : List Int) (z : Int) : (stepR q s r z).length = r.length := by
  unfold stepR
  split
  · split
    · split
      · exact setR_len _ _
      · rfl
    · rfl
  · rfl
theorem refsQ_len (q : Co) (s : Int) (m : Nat) : (refsQ q s m).length = 4 := by
  unfold refsQ
  have : ∀ (l : List Int) (r : List Int), (l.foldl (stepR q s) r).length = r.length := by
    intro l
    induction l with
    | nil => intro r; rfl
    | cons z l ih => intro r; rw [List.foldl_cons, ih, stepR_len]
  rw [this]
  rfl
/-- the ordered ones exist -/
theorem ord_at {q : Co} (h : coB q = true) {k : Nat} {z : Int} (hz : q.ord[k]? = some z) : ∃ (tn : Nat) (x : Tx), z = (tn : Int) ∧ q.ts[tn]? = some x ∧ x ∈ q.ts := by
  have hs := (sort_eq q.ord (comI 0 q.ts) (comI_pw q.ts 0)).1 (by
    have := (coB_impl q).symm.trans h
    simp only [Bool.and_eq_true, decide_eq_true_eq] at this
    exact this.2.2)
  have hperm := perm_of_sub (comI 0 q.ts) q.ord (comI_pw q.ts 0) hs.1 hs.2
  obtain ⟨tn, x, g1, _, g3⟩ := (comI_mem q.ts 0 z).1 (hperm.mem_iff.1 (List.mem_of_getElem? hz))
  exact ⟨tn, x, by rw [g3, Nat.zero_add], g1, List.mem_of_getElem? g1⟩
theorem stepR_none {q : Co} {s : Int} {r : List Int} {tn : Nat} {x : Tx} (hx : q.ts[tn]? = some x) (hs : shAt x.ps s = none) : stepR q s r (tn : Int) = r := by
  unfold stepR
  rw [Int.toNat_natCast, hx]
  simp only [hs]
theorem stepR_some {q : Co} {s : Int} {r : List Int} {tn k : Nat} {x : Tx} {p : Pt} (hx : q.ts[tn]? = some x) (hs : shAt x.ps s = some k) (hp : x.ps[k]? = some p) : stepR q s r (tn : Int) = setR r p.us := by
  unfold stepR
  rw [Int.toNat_natCast, hx]
  simp only [hs, hp]
theorem upds_ok {us : List Up} (h : updB us = true) : ∀ u ∈ us, upOk u = true := by
  unfold updB ascU at h
  simp only [Bool.and_eq_true] at h
  exact chainB_mem _ _ h.1
def RefsTo (T : TypeId) (w : World) (l : List Int) (e : Ending) (w' : World) : Prop := ∃ B m d, e = .returned (.slice B m d) ∧ w'.ownsRow w.heap.size T 1 (.slice B m d) m (ints l) ∧ Below w.heap.size w w'
set_option maxRecDepth 100000 in
set_option maxHeartbeats 3200000 in
theorem l22Refs_any (cs : List Value) (q : Co) (s : Int) (m : Nat) (w : World) (hv : repCo.V 0 w cs q) (hb : coB q = true) (hm : m ≤ q.ord.length) :
    Calls Try.prog 53 #[.agg cs.toArray, .int .i64 s, .int .i64 (m : Int)] w fun e w' => ∃ R d, e = .returned (.slice R 4 d) ∧ w'.ownsRow w.heap.size 3 1 (.slice R 4 d) 4 (ints (refsQ q s m)) ∧ Below w.heap.size w w' := by
  obtain ⟨B0, m0, d0, B1, m1, d1, rfl, hr0, hm0, hr1, hm1⟩ := repCo_cells hv
  have hl0 := hr0.1
  have hl1 := hr1.1
  have hsm := (coB_parts hb).2.2.1
  have hcn := (coB_parts hb).2.2.2
  have hcl := cntC_le q.ts
  have hmm : m ≤ m1 := by omega
  have hm12 : m ≤ 12 := by omega
  have HL := Lib.hid (And.intro hl0 hl1)
  clear hl0 hl1 hcn
  have b0 := below_box w (.cells #[.slice B0 m0 d0, .slice B1 m1 d1] 26)
  have x0 := Blk.new w 26 [.slice B0 m0 d0, .slice B1 m1 d1]
  unfold maxLen at hm0 hm1
  have hfd : ∀ (R L : Option Addr) (d dl : Nat) (w : World), (Instr.field 104 (.agg #[.slice R 4 d, .slice L 4 dl]) 0).run Try.prog w = .ok (.slice R 4 d) w := fun _ _ _ _ _ => by kernel_rfl
  go_enter Try.func53, Try.ntmps53
  go_wp2_with fail
  refine (l21Begin_any _).mono ?_
  rintro e w1 ⟨R, d, L, dl, rfl, ho, hb1⟩
  have hz1 := b0.size
  have ho1 := own_baseR ho hz1
  have bb1 := below_ext b0 hb1
  have x1 := x0.next hb1
  clear ho
  go_wp2_with fail
  go_loopw [7, 8] (fun v i wr => ∃ (k : Nat) (R : Option Addr) (d : Nat), k ≤ m ∧ i = .int .i64 k ∧ v = .slice R 4 d ∧ wr.ownsRow w.heap.size 3 1 (.slice R 4 d) 4 (ints (refsQ q s k)) ∧ Blk wr w.heap.size 26 [.slice B0 m0 d0, .slice B1 m1 d1] ∧ Below w.heap.size w wr) (fun _ i _ => m - (intOf i).toNat)
  case atStart => exact ⟨0, R, d, Nat.zero_le _, rfl, rfl, ho1, x1, bb1⟩
  case round =>
    obtain ⟨k, R, d, hk, rfl, rfl, hoj, xj, hbj⟩ := hrel
    by_cases hlt : k < m
    · obtain ⟨y0, y1⟩ := xj.cells2
      have xjl := xj.lt
      obtain ⟨ad, z, hA1, hbz, hz, hcz⟩ := (hr1.next hbj).rints.at_ (k := k) (by omega)
      obtain ⟨tn, x, rfl, hx, hxm⟩ := ord_at hb hz
      have htn : tn < m0 := by have := (List.getElem?_eq_some_iff.1 hx).1; have := HL.out.1; omega
      obtain ⟨bt, to_, x2, cst, hA0, hbt, hx2, hct, hvt⟩ := (hr0.next hbj).at_ htn
      rw [hx] at hx2
      injection hx2 with hx2
      subst hx2
      obtain ⟨P0, p0, f0, V0, v0, s0, rfl, hrp, hmp, hrv, hmv⟩ := repTx_cells hvt
      subst hA1 hA0
      have ct0 : wr.cell? ⟨bt, to_ + tn * 3, none⟩ = some (.slice P0 p0 f0) := hct 0 _ rfl
      have ct1 : wr.cell? ⟨bt, to_ + tn * 3 + 1, none⟩ = some (.slice V0 v0 s0) := hct 1 _ rfl
      have ct2 : wr.cell? ⟨bt, to_ + tn * 3 + 1 + 1, none⟩ = some (.int .i64 x.dec) := hct 2 _ rfl
      have ct2' : wr.cell? ⟨bt, to_ + tn * 3 + 2, none⟩ = some (.int .i64 x.dec) := hct 2 _ rfl
      have hkm1 : k < m1 := by omega
      have hkm1i : (k : Int) < (m1 : Int) := by omega
      have htni : (tn : Int) < (m0 : Int) := by omega
      have hadb : (ad.add k).block < wr.heap.size := by rw [block_of_add]; exact hbz
      have HST := Lib.hid (refsQ_succ (s := s) hz)
      have HX := Lib.hid (And.intro hx hxm)
      have htp := txB_parts ((coB_parts hb).1 x hxm)
      have hpl := partsB_len htp.1
      have HTP := Lib.hid (And.intro htp hpl)
      clear hct hvt hx hxm hz htp hpl hrv
      go_wp2_with fail
      go_region
      all_goals
        have eb2 : Below wr.heap.size wr (wr.alloc (.cells #[.slice P0 p0 f0, .slice V0 v0 s0, .int .i64 x.dec] 35)).drew := (below_box wr _).drew
        have xb : Blk (wr.alloc (.cells #[.slice P0 p0 f0, .slice V0 v0 s0, .int .i64 x.dec] 35)).drew wr.heap.size 35 [.slice P0 p0 f0, .slice V0 v0 s0, .int .i64 x.dec] := (Blk.new wr _ _).drew
        obtain ⟨b0c, b1c, b2c⟩ := xb.cells3
        have hrp5 := hrp.next eb2
        have oj5 := own_belowL hoj eb2
        have xj5 := xj.next eb2
        have bj5 := below_ext hbj eb2
        go_wp2_with fail
        refine (l22Shard_any P0 p0 f0 x.ps s _ (hrp5.down (Nat.zero_le _)) hmp).mono ?_
        rintro e w5 ⟨rfl, rfl⟩
        cases hs : shAt x.ps s with
        | none =>
          have hidx : idxI (none : Option Nat) = -1 := rfl
          have HN := Lib.hid (stepR_none (r := refsQ q s k) HX.out.1 hs)
          rw [hidx]
          clear hidx hs
          go_wp2_with fail
          go_roundw
          case rel => exact ⟨k + 1, R, d, by omega, by go_num, rfl, by rw [HST.out, HN.out]; exact oj5, xj5, bj5⟩
          case measure => simp [intOf]; omega
        | some kk =>
          have hidx : idxI (some kk) = (kk : Int) := rfl
          obtain ⟨p, hp, hps⟩ := shAt_lt hs
          have hkp : kk < p0 := by have := (List.getElem?_eq_some_iff.1 hp).1; have := hrp.1; omega
          obtain ⟨bp, po, p', csp, hP, hbp, hp', hcp, hvp⟩ := hrp5.at_ hkp
          rw [hp] at hp'
          injection hp' with hp'
          subst hp'
          obtain ⟨U, mu, du, rfl, hru, hmu⟩ := repPt_cells hvp
          subst hP
          have cp1 : (wr.alloc (.cells #[.slice (some ⟨bp, po, none⟩) p0 f0, .slice V0 v0 s0, .int .i64 x.dec] 35)).drew.cell? ⟨bp, po + kk * 2 + 1, none⟩ = some (.slice U mu du) := hcp 1 _ rfl
          have hok := upds_ok (HTP.out.2.2.2 p (List.mem_of_getElem? hp)).2.1
          have HN := Lib.hid (stepR_some (r := refsQ q s k) HX.out.1 hs hp)
          have hge : decide ((kk : Int) ≥ 0) = true := by simp
          have hbp' : bp < wr.heap.size + 1 := by simpa using hbp
          rw [hidx]
          clear hidx hs hp hps hcp hvp
          go_wp2_with fail
          refine (l11Set_any R d (refsQ q s k) U mu du p.us _ (RInts.of_ownL oj5) (hru.down (Nat.zero_le _)) hmu hok).mono ?_
          rintro e w6 ⟨R2, d2, rfl, ho6, hb6⟩
          have xj6 := xj5.next hb6
          have bj6 := below_ext bj5 hb6
          have ho6' := own_baseR ho6 bj5.size
          go_wp2_with fail
          go_roundw
          case rel => exact ⟨k + 1, R2, d2, by omega, by go_num, rfl, by rw [HST.out, HN.out]; exact ho6', xj6, bj6⟩
          case measure => simp [intOf]; omega
    · obtain rfl : k = m := by omega
      go_wp2_with fail
      go_ret
      exact ⟨R, d, rfl, hoj, hbj⟩
theorem refsOut_bad {q : Co} {s m : Int} (h : refsOk q s m = false) : refsOut q s m = [] := by unfold refsOut; rw [h]; rfl
theorem refsOut_ok {q : Co} {s m : Int} (h : refsOk q s m = true) : refsOut q s m = refsQ q s m.toNat := by unfold refsOut; rw [h]; rfl
set_option maxRecDepth 100000 in
set_option maxHeartbeats 3200000 in
theorem specRefs_any (cs : List Value) (q : Co) (s m : Int) (w : World) (hv : repCo.V 0 w cs q) :
    Calls Try.prog 23 #[.agg cs.toArray, .int .i64 s, .int .i64 m] w (RefsTo 3 w (refsOut q s m)) := by
  obtain ⟨B0, m0, d0, B1, m1, d1, rfl, hr0, hm0, hr1, hm1⟩ := repCo_cells hv
  have HL1 := Lib.hid hr1.1
  have b0 := below_box w (.cells #[.slice B0 m0 d0, .slice B1 m1 d1] 26)
  have x0 := Blk.new w 26 [.slice B0 m0 d0, .slice B1 m1 d1]
  unfold maxLen at hm0 hm1
  clear hr0 hr1
  obtain ⟨y0, y1⟩ := x0.cells2
  go_enter Try.func23, Try.ntmps23
  go_wp2_with fail
  refine (specCoordinatorValid_any _ q _ (repCo.next hv b0)).mono ?_
  rintro e w1 ⟨rfl, hb1⟩
  have x1 := x0.next hb1
  have bb1 := below_ext b0 hb1
  obtain ⟨z0, z1⟩ := x1.cells2
  have hz := bb1.size
  clear y0 y1
  cases hb : coB q
  · have HB := Lib.hid (refsOut_bad (q := q) (s := s) (m := m) (by unfold refsOk; rw [hb]; rfl))
    go_wp2_with fail
    go_ret
    exact ⟨_, 0, _, rfl, by rw [HB.out]; exact own_emp (Blk.new w1 3 []) hz, below_ext bb1 (below_box _ _)⟩
  · go_wp2_with fail
    refine (l6In_any _ _ _ _).mono ?_
    cases hs : (decide ((0 : Int) ≤ s) && decide (s ≤ 2))
    · have HB := Lib.hid (refsOut_bad (q := q) (s := s) (m := m) (by unfold refsOk; rw [hs]; simp))
      rintro e w2 ⟨rfl, rfl⟩
      go_wp2_with fail
      go_ret
      exact ⟨_, 0, _, rfl, by rw [HB.out]; exact own_emp (Blk.new _ 3 []) hz, below_ext bb1 (below_box _ _)⟩
    · rintro e w2 ⟨rfl, rfl⟩
      go_wp2_with fail
      refine (l6In_any _ _ _ _).mono ?_
      cases hm : (decide ((0 : Int) ≤ m) && decide (m ≤ (m1 : Int)))
      · have HB := Lib.hid (refsOut_bad (q := q) (s := s) (m := m) (by unfold refsOk; rw [HL1.out, hm]; simp))
        rintro e w2 ⟨rfl, rfl⟩
        go_wp2_with fail
        go_ret
        exact ⟨_, 0, _, rfl, by rw [HB.out]; exact own_emp (Blk.new _ 3 []) hz, below_ext bb1 (below_box _ _)⟩
      · have HB := Lib.hid (refsOut_ok (q := q) (s := s) (m := m) (by unfold refsOk; rw [HL1.out, hb, hs, hm]; rfl))
        have hm2 : 0 ≤ m ∧ m ≤ (m1 : Int) := by simpa using hm
        obtain ⟨mn, rfl⟩ := Int.eq_ofNat_of_zero_le hm2.1
        have HM := Lib.hid (show mn ≤ q.ord.length by rw [HL1.out]; omega)
        clear hm hs
        rintro e w2 ⟨rfl, rfl⟩
        go_wp2_with fail
        refine (l22Refs_any _ q s mn _ (repCo.next (repCo.next hv b0) hb1) hb HM.out).mono ?_
        rintro e w3 ⟨R, d, rfl, ho, hb3⟩
        go_wp2_with fail
        go_ret
        exact ⟨R, 4, d, rfl, by rw [HB.out, Int.toNat_natCast]; exact own_baseR ho hz, below_ext bb1 hb3⟩
end Go.Proofs.Ytlmcejpjhdaanaa
