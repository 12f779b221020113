/- Walks: CoordinatorWaits, of the reference and of the program. -/
import Derived.Test.YtlmcejpjhdaanaaCoM
import Derived.Test.YtlmcejpjhdaanaaCoI
namespace Go.Proofs.Ytlmcejpjhdaanaa
open Go.RowKit Go.Sort

theorem missI_snoc : ∀ (ps : List Pt) (vs : List Int) (p : Pt) (v : Int), ps.length = vs.length → missI (ps ++ [p]) (vs ++ [v]) = missI ps vs ++ (if v = 0 then [p.shard] else [])
  | [], [], p, v, _ => by simp [missI]
  | a :: ps, b :: vs, p, v, h => by
    have := missI_snoc ps vs p v (by simpa using h)
    simp only [List.cons_append, missI, this, List.append_assoc]
  | [], _ :: _, _, _, h => by simp at h
  | _ :: _, [], _, _, h => by simp at h
theorem missI_succ (k : Nat) (ps : List Pt) (vs : List Int) (p : Pt) (v : Int) (hp : ps[k]? = some p) (hv : vs[k]? = some v) : missI (ps.take (k + 1)) (vs.take (k + 1)) = missI (ps.take k) (vs.take k) ++ (if v = 0 then [p.shard] else []) := by
  obtain ⟨h1, h2⟩ := List.getElem?_eq_some_iff.1 hp
  obtain ⟨h3, h4⟩ := List.getElem?_eq_some_iff.1 hv
  rw [List.take_succ_eq_append_getElem h1, List.take_succ_eq_append_getElem h3, h2, h4, missI_snoc _ _ _ _ (by rw [List.length_take, List.length_take]; omega)]
theorem missI_len : ∀ (ps : List Pt) (vs : List Int), (missI ps vs).length ≤ ps.length
  | p :: ps, v :: vs => by
    have := missI_len ps vs
    simp only [missI, List.length_append, List.length_cons]
    by_cases h : v = 0 <;> simp [h] <;> omega
  | [], _ => by simp [missI]
  | _ :: _, [] => by simp [missI]
/-- a slice of the missing shards in the call's own memory -/
def WaitsTo (w : World) (l : List Int) (e : Ending) (w' : World) : Prop := ∃ B m d, e = .returned (.slice B m d) ∧ w'.ownsRow w.heap.size 3 1 (.slice B m d) m (ints l) ∧ Below w.heap.size w w'
theorem own_len {w : World} {B m d : Nat} {A : Option Addr} {T : TypeId} {l : List Int} (h : w.ownsRow B T 1 (.slice A m d) m (ints l)) : l.length = m := by have := h.1; rw [length_ints] at this; omega

set_option maxRecDepth 100000 in
set_option maxHeartbeats 1600000 in
theorem open_any (B0 : Option Addr) (m0 d0 : Nat) (v1 : Value) (q : Co) (t : Int) (w : World) (hr0 : RSl repTx 0 w B0 m0 q.ts) (hm0 : m0 ≤ maxLen) (h1 : ∃ B1 m1 d1, v1 = .slice B1 m1 d1) :
    Calls Try.prog 33 #[.agg #[.slice B0 m0 d0, v1], .int .i64 t] w fun e w' => Below w.heap.size w w' ∧ ((openQ q t = none ∧ e = .returned (.pointer none)) ∨
      ∃ (x : Tx) (b off tn : Nat), t = (tn : Int) ∧ q.ts[tn]? = some x ∧ x.dec = 0 ∧ openQ q t = some x ∧ B0 = some ⟨b, off, none⟩ ∧ e = .returned (.pointer (some ⟨b, off + tn * 3, none⟩))) := by
  obtain ⟨B1, m1, d1, rfl⟩ := h1
  have hl0 := hr0.1
  have b0 := below_box w (.cells #[.slice B0 m0 d0, .slice B1 m1 d1] 26)
  have x0 := Blk.new w 26 [.slice B0 m0 d0, .slice B1 m1 d1]
  obtain ⟨y0, y1⟩ := x0.cells2
  have hmm : m0 ≤ maxLen := hm0
  unfold maxLen at hmm
  have hwr : IntKind.i64.wrap ((m0 : Int) - 1) = (m0 : Int) - 1 := by rw [IntKind.wrap_i64]; omega
  by_cases hin : 0 ≤ t ∧ t ≤ (m0 : Int) - 1
  · obtain ⟨tn, rfl⟩ : ∃ tn : Nat, t = (tn : Int) := ⟨t.toNat, by omega⟩
    have hlt : tn < m0 := by omega
    obtain ⟨bq, off, x, cs', rfl, hbq, hx, hcx, hvx⟩ := (hr0.next b0).at_ hlt
    obtain ⟨P0, p0, f0, P1, p1, f1, rfl, -, -, -, -⟩ := repTx_cells hvx
    have cd : (w.alloc (.cells #[.slice (some ⟨bq, off, none⟩) m0 d0, .slice B1 m1 d1] 26)).cell? ⟨bq, off + tn * 3 + 1 + 1, none⟩ = some (.int .i64 x.dec) := hcx 2 _ rfl
    have hin1 : decide ((0 : Int) ≤ (tn : Int)) = true := by simp
    have hin2 : decide ((tn : Int) ≤ (m0 : Int) - 1) = true := by simp; omega
    clear hcx hvx
    by_cases hd : x.dec = 0
    · have HB := Lib.hid (show openQ q (tn : Int) = some x by rw [openQ_in hx, if_pos hd])
      have HX := Lib.hid (And.intro hx hd)
      rw [hd] at cd
      clear hx
      go_enter Try.func33, Try.ntmps33
      go_wp2_with (go_at_call 51; refine (inRange_any _ _ _ _).mono ?_; rintro e w' ⟨rfl, rfl⟩)
      go_ret
      exact ⟨b0, Or.inr ⟨x, bq, off, tn, rfl, HX.out.1, HX.out.2, HB.out, rfl, rfl⟩⟩
    · have hdb : (x.dec != 0) = true := by simpa using hd
      have HB := Lib.hid (show openQ q (tn : Int) = none by rw [openQ_in hx, if_neg hd])
      clear hx
      go_enter Try.func33, Try.ntmps33
      go_wp2_with (go_at_call 51; refine (inRange_any _ _ _ _).mono ?_; rintro e w' ⟨rfl, rfl⟩)
      go_ret
      exact ⟨b0, Or.inl ⟨HB.out, rfl⟩⟩
  · have hin1 : (decide ((0 : Int) ≤ t) && decide (t ≤ (m0 : Int) - 1)) = false := by
      cases h1 : (decide ((0 : Int) ≤ t) && decide (t ≤ (m0 : Int) - 1))
      · rfl
      · exact absurd (by simpa using h1) hin
    have HB := Lib.hid (show openQ q t = none from openQ_out (by rw [hl0]; exact hin))
    clear hin
    go_enter Try.func33, Try.ntmps33
    go_wp2_with (go_at_call 51; refine (inRange_any _ _ _ _).mono ?_; rw [hin1]; rintro e w' ⟨rfl, rfl⟩)
    go_ret
    exact ⟨b0, Or.inl ⟨HB.out, rfl⟩⟩
set_option maxRecDepth 100000 in
set_option maxHeartbeats 1600000 in
theorem implWaits_any (cs : List Value) (q : Co) (t : Int) (w : World) (hv : repCo.V 0 w cs q) (hbig : q.ord.length ≤ 100000000) (hbig0 : q.ts.length ≤ 100000000) :
    Calls Try.prog 14 #[.agg cs.toArray, .int .i64 t] w (WaitsTo w (waitsQ q t)) := by
  obtain ⟨B0, m0, d0, B1, m1, d1, rfl, hr0, hm0, -, hm1⟩ := repCo_cells hv
  have hl0 := hr0.1
  have b2 := below_box w (.cells #[.slice B0 m0 d0, .slice B1 m1 d1] 26)
  have x0 := Blk.new w 26 [.slice B0 m0 d0, .slice B1 m1 d1]
  have hv2 := repCo.next hv b2
  have hr2 := hr0.next b2
  obtain ⟨y0, y1⟩ := x0.cells2
  go_enter Try.func14, Try.ntmps14
  go_wp2_with fail
  generalize (w.alloc (.cells #[.slice B0 m0 d0, .slice B1 m1 d1] 26)) = w2 at *
  refine (implCoordinatorValid_any _ q _ hv2 hbig hbig0).mono ?_
  rintro e w3 ⟨rfl, hb3⟩
  have b3 := below_ext b2 hb3
  have x03 := x0.next hb3
  have hr3 := hr2.next hb3
  obtain ⟨y03, y13⟩ := x03.cells2
  clear y0 y1 x0 hv2 hr2
  by_cases hb : coB q = true
  · rw [hb]
    go_wp2_with fail
    refine (open_any _ m0 d0 _ q t _ hr3 hm0 ⟨_, _, _, rfl⟩).mono ?_
    rintro e w4 ⟨hb4, ⟨hno, rfl⟩ | ⟨x, bq, off, tn, rfl, hx, hd, ho, rfl, rfl⟩⟩
    · have HB := Lib.hid (show waitsQ q t = [] by unfold waitsQ; rw [hb, if_pos rfl, hno])
      clear hno
      go_wp2_with fail
      go_ret
      exact ⟨_, 0, _, rfl, by rw [HB.out]; exact own_nil, below_ext b3 hb4⟩
    · have HB := Lib.hid (show waitsQ q (tn : Int) = missI x.ps x.vs by unfold waitsQ; rw [hb, if_pos rfl, ho])
      have hlt : tn < m0 := by
        have := (List.getElem?_eq_some_iff.1 hx).1
        omega
      obtain ⟨bq', off', x', cs', e9, hbq, hx', hcx, hvx⟩ := hr0.at_ hlt
      injection e9 with e9
      injection e9 with e8 e9
      subst e8 e9
      obtain rfl : x' = x := by rw [hx] at hx'; injection hx' with hx'; exact hx'.symm
      obtain ⟨P0, p0, f0, P1, p1, f1, rfl, hrp, hmp, hrv, hmv⟩ := repTx_cells hvx
      have cd0 : w.cell? ⟨bq, off + tn * 3, none⟩ = some (.slice P0 p0 f0) := hcx 0 _ rfl
      have cd1 : w.cell? ⟨bq, off + tn * 3 + 1, none⟩ = some (.slice P1 p1 f1) := hcx 1 _ rfl
      have hlv : x'.vs.length = x'.ps.length := (txB_parts ((coB_parts hb).1 x' (List.mem_of_getElem? hx))).2.1
      have hl1 := hrp.1
      have hl2 := hrv.1
      have e40 : w4.cell? ⟨bq, off + tn * 3, none⟩ = some (.slice P0 p0 f0) := ((below_ext b3 hb4).cell (p := ⟨bq, off + tn * 3, none⟩) hbq).trans cd0
      have e41 : w4.cell? ⟨bq, off + tn * 3 + 1, none⟩ = some (.slice P1 p1 f1) := ((below_ext b3 hb4).cell (p := ⟨bq, off + tn * 3 + 1, none⟩) hbq).trans cd1
      have hp3 : x'.ps.length ≤ 3 := (partsB_len (txB_parts ((coB_parts hb).1 x' (List.mem_of_getElem? hx))).1).2.1
      clear hmp hmv
      have b4 := below_ext b3 hb4
      clear hcx hvx hx hx' ho
      go_wp2_with fail
      go_loopw [6, 22] (fun s i wr => ∃ (k m : Nat) (B : Option Addr) (d : Nat), k ≤ p1 ∧ m ≤ k ∧ i = .int .i64 k ∧ s = .slice B m d ∧ wr.ownsRow w.heap.size 3 1 (.slice B m d) m (ints (missI (x'.ps.take k) (x'.vs.take k))) ∧ Below w.heap.size w wr) (fun _ i _ => p1 - (intOf i).toNat)
      case atStart => exact ⟨0, 0, _, _, Nat.zero_le _, Nat.zero_le _, rfl, rfl, own_nil, b4⟩
      case round =>
        obtain ⟨k, m, B, d, hk, hm, rfl, rfl, hownj, hbj⟩ := hrel
        have hz : w.heap.size ≤ wr.heap.size := hbj.size
        have z0 : wr.cell? ⟨bq, off + tn * 3, none⟩ = some (.slice P0 p0 f0) := (hbj.cell (p := ⟨bq, off + tn * 3, none⟩) hbq).trans cd0
        have z1 : wr.cell? ⟨bq, off + tn * 3 + 1, none⟩ = some (.slice P1 p1 f1) := (hbj.cell (p := ⟨bq, off + tn * 3 + 1, none⟩) hbq).trans cd1
        by_cases hlt : k < p1
        · obtain ⟨ad, v, rfl, hbv, hv, hcv⟩ := (hrv.next hbj).plain.rints.at_ (k := k) (by omega)
          obtain ⟨bp, po, p, csp, rfl, hbp, hp, hcp, hvp⟩ := (hrp.next hbj).at_ (k := k) (by omega)
          obtain ⟨P9, n9, c9, rfl, -, -⟩ := repPt_cells hvp
          have cp : wr.cell? ⟨bp, po + k * 2, none⟩ = some (.int .i64 p.shard) := hcp 0 _ rfl
          have HS := Lib.hid (missI_succ k x'.ps x'.vs p v hp hv)
          clear hcp hvp hp hv
          by_cases hv0 : v = 0
          · subst hv0
            go_wp2_with (at_builtin; go_loud (refine wpList_app rfl (.tmp 29) (.tmp 38) 24 rfl w.heap.size 3 Try.underlying24 int_info1 rfl (by omega) (by omega) _ m _ rfl (hownj.alloc _) ⟨wr.heap.size, 0, none⟩ 1 1 [.int .i64 p.shard] rfl rfl (cell_one_new _ _ _) (by simp [Value.oneCell']) (by omega) (Nat.le_trans hz (by simp)) ?_; intro B' d' w4 hown4 _ hb4 hg4 hloc4))
            go_roundw
            case rel => exact ⟨k + 1, m + 1, B', d', by omega, by omega, by go_num, rfl, by rw [HS.out, if_pos rfl, ← ints_snoc]; exact hown4, hbj.trans (((below_box wr (.cells #[.int .i64 p.shard] 3)).mono hz).trans hb4)⟩
            case measure => simp [intOf]; omega
          · have hv0b : (v == 0) = false := by simpa using hv0
            go_wp2_with fail
            go_roundw
            case rel => exact ⟨k + 1, m, B, d, by omega, by omega, by go_num, rfl, by rw [HS.out, if_neg hv0, List.append_nil]; exact hownj, hbj⟩
            case measure => simp [intOf]; omega
        · have hke : k = p1 := by omega
          subst hke
          rw [List.take_of_length_le (by omega), List.take_of_length_le (by omega)] at hownj
          go_wp2_with fail
          go_ret
          exact ⟨B, m, d, rfl, by rw [HB.out]; exact hownj, hbj⟩
  · have hbf : coB q = false := by simpa using hb
    rw [hbf]
    have HB := Lib.hid (show waitsQ q t = [] by unfold waitsQ; rw [hbf]; rfl)
    go_wp2_with fail
    go_ret
    exact ⟨_, 0, _, rfl, by rw [HB.out]; exact own_nil, b3⟩
set_option maxHeartbeats 800000 in
theorem sameInts_any (A B : Option Addr) (n c m d : Nat) (xs ys : List Int) (w : World) (hx : RInts w A n xs) (hy : RInts w B m ys) (hn : n ≤ maxLen) (hm : m ≤ maxLen) :
    Calls Try.prog 24 #[.slice A n c, .slice B m d] w fun e w' => e = .returned (.bool (eqI xs ys)) ∧ Below w.heap.size w w' := by
  unfold maxLen at hn hm
  by_cases hnm : n = m
  · subst hnm
    go_enter Try.func24, Try.ntmps24
    go_wp2
    go_loopw [5] (fun i wr => ∃ k : Nat, k ≤ n ∧ i = .int .i64 k ∧ Hid (xs.take k = ys.take k) ∧ Below w.heap.size w wr) (fun i _ => n - (intOf i).toNat)
    case atStart => exact ⟨0, Nat.zero_le _, rfl, by show _ = _; simp, Below.refl _ _⟩
    case round =>
      obtain ⟨k, hk, rfl, hasc, hbr⟩ := hrel
      by_cases hlt : k < n
      · obtain ⟨ad, x, rfl, hb, hxk, hc⟩ := (hx.below hbr (Nat.le_refl _)).at_ hlt
        obtain ⟨ad', y, rfl, hb', hyk, hc'⟩ := (hy.below hbr (Nat.le_refl _)).at_ hlt
        have hT := eq_take xs ys k (hx.1.trans hy.1.symm) x y hxk hyk
        have HT := Lib.hid hT
        have hcg := cell_regrown hc
        have hcg' := cell_regrown hc'
        clear hT hxk hyk
        cases he : (x != y)
        · have hxy : x = y := by simpa using he
          go_wp2
          refine wp_region_ext (by kernel_rfl) (by kernel_rfl) ?_
          repeat (go_big_quiet_step (fail))
          refine wpQuiet_nil ?_
          intro w1 hb1
          go_wp2
          go_roundw
          case rel => exact ⟨k + 1, by omega, by go_num, HT.out.2 ⟨hasc.out, hxy⟩, below_ext hbr hb1⟩
          case measure => simp [intOf]; omega
        · have hxy : x ≠ y := by simpa using he
          go_wp2
          refine wp_region_ext (by kernel_rfl) (by kernel_rfl) ?_
          repeat (go_big_quiet_step (fail))
          refine wpQuiet_nil ?_
          intro w1 hb1
          go_wp2
          go_ret
          exact ⟨ret_bool (by
            have : xs ≠ ys := fun hh => hxy ((HT.out.1 (by rw [hh])).2)
            simp [eqI, this]), below_ext hbr hb1⟩
      · obtain rfl : k = n := by omega
        rw [List.take_of_length_le (by rw [hx.1]; exact Nat.le_refl _), List.take_of_length_le (by rw [hy.1]; exact Nat.le_refl _)] at hasc
        go_wp2
        go_ret
        exact ⟨ret_bool (by simp [eqI, hasc.out]), hbr⟩
  · have hne : ((n : Int) != (m : Int)) = true := by simp; omega
    have : xs ≠ ys := fun hh => hnm (by rw [← hx.1, ← hy.1, hh])
    go_enter Try.func24, Try.ntmps24
    go_wp2
    go_ret
    exact ⟨ret_bool (by simp [eqI, this]), Below.refl _ _⟩
end Go.Proofs.Ytlmcejpjhdaanaa
