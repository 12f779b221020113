/- Walks: transactions: the program's Txn.ok: a channel and a map in one goroutine. -/
import Derived.Test.YtlmcejpjhdaanaaTxn
import Derived.Test.YtlmcejpjhdaanaaComm
import Derived.Maps.OwnOps
import Derived.Conc.SmallLaws
import Derived.Conc.EventLaws
namespace Go.Proofs.Ytlmcejpjhdaanaa
open Go.RowKit Go.Sort Go.Conc Go.Maps

theorem int_bytes : ∃ i, Try.prog.info? 3 = some i ∧ i.bytes = 8 := by
  have h : (Try.prog.info? 3).map (·.bytes) = some 8 := by kernel_rfl
  obtain ⟨i, hi, hb⟩ := Option.map_eq_some_iff.1 h
  exact ⟨i, hi, hb⟩
theorem mk_chan (n : Nat) (hn : n ≤ 1000) (w : World) : (Instr.makeChan 89 (.int .i64 n)).run Try.prog w = .ok (.chan (some w.heap.size)) (w.alloc (.chan n #[] false 0 0 false)) := by
  obtain ⟨i, hi, hb⟩ := int_bytes
  exact run_makeChan (P := Try.prog) (w := w) Try.underlying89 hi .i64 n (by omega) (by rw [hb]; omega)
theorem parts_len : ∀ (p : Pt) (l : List Pt), ascP (p :: l) = true → p.shard + ((p :: l).length : Int) ≤ 3
  | p, [], h => by
    unfold ascP at h
    simp only [chainB] at h
    unfold ptOk shardB at h
    simp only [Bool.and_eq_true, decide_eq_true_eq] at h
    simp
    omega
  | p, q :: l, h => by
    unfold ascP at h
    simp only [chainB, Bool.and_eq_true, decide_eq_true_eq] at h
    have := parts_len q l h.2
    simp only [List.length_cons] at this ⊢
    omega
theorem parts_le {ps : List Pt} (h : partsB ps = true) : ps.length ≤ 3 := by
  unfold partsB at h
  rw [Bool.and_eq_true] at h
  match ps, h.1 with
  | [], _ => simp
  | p :: l, h1 =>
    have h2 := parts_len p l h1
    have h3 : ptOk p = true := chainB_mem _ _ h1 p (by simp)
    unfold ptOk shardB at h3
    simp only [Bool.and_eq_true, decide_eq_true_eq] at h3
    omega
theorem cnt_sum : ∀ vs : List Int, (cntV 1 vs + cntV (-1) vs + cntV 0 vs ≤ vs.length) ∧ (cntV 1 vs + cntV (-1) vs + cntV 0 vs = vs.length ↔ votesB vs = true)
  | [] => by simp [cntV, votesB]
  | v :: vs => by
    obtain ⟨h1, h2⟩ := cnt_sum vs
    have e : ∀ z, cntV z (v :: vs) = cntV z vs + if v = z then 1 else 0 := fun z => by unfold cntV; rw [List.countP_cons]; simp
    have hv : votesB (v :: vs) = (voteB v && votesB vs) := by simp [votesB]
    rw [e, e, e, hv, List.length_cons, Bool.and_eq_true, ← h2]
    by_cases a1 : v = 1
    · subst a1; simp [voteB]; omega
    · by_cases a2 : v = -1
      · subst a2; simp [voteB]; omega
      · by_cases a3 : v = 0
        · subst a3; simp [voteB]; omega
        · have : voteB v = false := by
            cases hh : voteB v
            · rfl
            · unfold voteB at hh; simp only [Bool.and_eq_true, decide_eq_true_eq] at hh; omega
          rw [this, if_neg a1, if_neg a2, if_neg a3]
          simp
          omega
theorem law_int : Keyed Try.prog 3 := int_keyed Try.underlying3
theorem zero_int (w : World) : (zeroValue 3).run Try.prog w = .ok (.int .i64 0) w := by kernel_rfl
theorem wf_lit {x : Int} (h : wf64 x) : (Lit.int .i64 x).wf = true := WalkArith.wf_i64 h
theorem grown_chan (w : World) (c cap s r : Nat) (buf : Array Value) (cl tm : Bool) : w.grownBy (w.setChan c cap buf cl s r tm) (some c) :=
  ⟨rfl, rfl, rfl, by simp [World.setChan], fun i _ hne => by
    have hne' : i ≠ c := fun h => hne (by rw [h])
    simp only [World.setChan]
    rw [Array.getElem?_setIfInBounds_ne (by omega)]⟩
theorem ints_push (xs : List Int) (k : Nat) (x : Int) (h : xs[k]? = some x) : (ints (xs.take k)).toArray.push (.int .i64 x) = (ints (xs.take (k + 1))).toArray := by
  obtain ⟨h1, h2⟩ := List.getElem?_eq_some_iff.1 h
  rw [List.take_succ_eq_append_getElem h1, h2]
  simp [ints]
theorem chan_box {w : World} {g : Nat} {t : TypeId} {cs : List Value} {c cap s r : Nat} {buf : Array Value} {cl tm : Bool} (h : Blk w g t cs) (hc : w.heap[c]? = some (.chan cap buf cl s r tm)) : g ≠ c := by
  rintro rfl
  unfold Blk at h
  rw [h] at hc
  cases hc
theorem chan_lt {w : World} {c cap s r : Nat} {buf : Array Value} {cl tm : Bool} (hc : w.heap[c]? = some (.chan cap buf cl s r tm)) : c < w.heap.size := by
  rcases Nat.lt_or_ge c w.heap.size with h | h
  · exact h
  · rw [Array.getElem?_eq_none h] at hc; cases hc

set_option maxRecDepth 100000 in
set_option maxHeartbeats 6400000 in
theorem implTxn_any (cs : List Value) (t : Tx) (w : World) (hv : repTx.V 0 w cs t) :
    Calls Try.prog 39 #[.agg cs.toArray] w fun e w' => e = .returned (.bool (txB t)) ∧ Below w.heap.size w w' := by
  obtain ⟨B0, m0, d0, B1, m1, d1, rfl, hr0, hm0, hr1, hm1⟩ := repTx_cells hv
  unfold maxLen at hm1
  have hm0' := hm0
  unfold maxLen at hm0'
  have hl0 := hr0.1
  have hl := hr1.1
  have hbx := below_box w (.cells #[.slice B0 m0 d0, .slice B1 m1 d1, .int .i64 t.dec] 35)
  have bx := Blk.new w 35 [.slice B0 m0 d0, .slice B1 m1 d1, .int .i64 t.dec]
  obtain ⟨x0, x1, x2⟩ := bx.cells3
  have hri := hr1.plain.rints
  have hwf := hr1.wf
  refine calls_wpn Try.func39 rfl ?_
  simp only [Try.ntmps39, List.size_toArray, List.length_cons, List.length_nil, Nat.reduceAdd, Nat.reduceSub, Array.replicate_succ,
     Array.replicate_zero, List.push_toArray, List.append_toArray, List.nil_append, List.cons_append]
  refine wpn_seq (wpn_wp ?_)
  go_wp2
  refine wpn_seq (wpn_wp ?_)
  go_wp2_with fail
  refine (implParts_any B0 m0 d0 t.ps _ (hr0.next hbx) hm0).mono ?_
  rintro e w1 ⟨rfl, hb1⟩
  have hbb := below_ext hbx hb1
  have bx1 := bx.next hb1
  obtain ⟨z0, z1, z2⟩ := bx1.cells3
  cases h1 : partsB t.ps
  · go_wp2_with fail
    go_ret
    exact ⟨ret_bool (by unfold txB; rw [h1]; simp), hbb⟩
  · have h3 := parts_le h1
    by_cases h2 : (m1 : Int) = m0
    · have h2b : ((m1 : Int) != (m0 : Int)) = false := by simp; omega
      have hm3 : m1 ≤ 3 := by omega
      have HT := Lib.hid (show txB t = (votesB t.vs && decB t) by unfold txB; rw [h1, hl, hl0, decide_eq_true (by omega : m1 = m0)]; simp)
      have hmc := mk_chan m1 (by omega)
      clear h1 h2 h3
      have bc := heap_alloc_new w1 (.chan m1 #[] false 0 0 false)
      have ec := below_box w1 (.chan m1 #[] false 0 0 false)
      have bx2 := bx1.next ec
      have hbb2 := below_ext hbb ec
      go_wp2_with fail
      refine wpn_seq (wpn_wp ?_)
      go_wp2_with fail
      have hcc : w.heap.size < w1.heap.size := by have := hb1.size; simp at this; omega
      generalize hcs : w1.heap.size = cc at *
      have HCC := Lib.hid hcs
      clear hcs
      generalize hW : w1.alloc (.chan m1 #[] false 0 0 false) = w2 at *
      have HW := Lib.hid hW
      clear hW
      obtain ⟨y0, y1, y2⟩ := bx2.cells3
      refine wpn_seq_k fun K1 HK1 => ?_
      refine wpn_seq (wpn_wp ?_)
      go_wp2_with fail
      refine wpn_while_u m1 (fun k u => ⟨#[.agg #[.slice B0 m0 d0, .slice B1 m1 d1, .int .i64 t.dec], .pointer (some ⟨w.heap.size, 0, none⟩), .bool false, .chan (some cc), u 4, u 5, u 6, u 7, u 8, u 9, u 10, u 11, u 12, u 13, u 14, u 15, u 16, u 17, u 18, u 19, u 20, u 21, u 22, u 23, u 24, u 25, u 26, u 27, u 28, .slice B1 m1 d1, .int .i64 m1, .int .i64 k, u 32, u 33, u 34, u 35, u 36, u 37, u 38, u 39, u 40, u 41, u 42, u 43, u 44, u 45, u 46, u 47, u 48, u 49, u 50, u 51, u 52, u 53, u 54, u 55, u 56, u 57, u 58, u 59, u 60, u 61, u 62, u 63, u 64, u 65, u 66, u 67, u 68, u 69, u 70, u 71, u 72, u 73, u 74, u 75, u 76, u 77, u 78, u 79, u 80, u 81, u 82, u 83, u 84, u 85, u 86], []⟩) (fun k wr => wr.heap[cc]? = some (.chan m1 (ints (t.vs.take k)).toArray false k 0 false) ∧ Below w.heap.size w wr ∧ Blk wr w.heap.size 35 [.slice B0 m0 d0, .slice B1 m1 d1, .int .i64 t.dec])
        rfl ⟨by simpa [ints] using bc, hbb2, bx2⟩ ?_
      rintro k u wr hkm ⟨hch, hbr, hbo⟩ K2 X2 HK2 HX2
      dsimp only
      clear bc hbb2 bx2 bx1 hbb hb1 hmc
      by_cases hlt : k < m1
      · obtain ⟨ad, v, rfl, hb, hx, hc⟩ := (hri.next hbr).at_ hlt
        have HP := Lib.hid (ints_push t.vs k v hx)
        clear hx
        refine wpn_seq (wpn_wp ?_)
        go_wp2_with fail
        refine wpn_seq (wpn_wp ?_)
        go_wp2_with fail
        refine wpn_seq_k fun K3 HK3 => ?_
        refine wpn_block ?_
        refine wpn_seq (wpn_wp ?_)
        go_wp2_with fail
        refine wpn_region ?_
        refine opsn_value (v := .chan (some cc)) (w₁ := wr) rfl rfl rfl ?_
        refine opsn_value (v := .int .i64 v) (w₁ := wr) rfl rfl rfl ?_
        refine opsn_send (c := cc) (v := .int .i64 v) (z := .tuple #[]) (w₁ := wr) rfl rfl (by simp [execOp, scase, Act.eval, Act.put]) hch (by simp [length_ints]; omega) ?_
        refine opsn_nil (Or.inl ⟨Or.inr rfl, HK3.out _ _ (wpn_wp ?_)⟩)
        simp only [Act.put]
        go_wp2_with fail
        exact HK2.out _ _ rfl hlt ⟨by rw [← HP.out]; simpa using heap_setChan _ _ _ _ _ _ _ _ (chan_lt hch), below_setChan hbr (by omega) _ _ _ _ _ _, hbo.setChan (by omega)⟩
      · have hk : k = m1 := by omega
        subst hk
        refine wpn_seq (wpn_wp ?_)
        go_wp2_with fail
        refine wpn_seq (wpn_wp ?_)
        go_wp2_with fail
        refine Or.inr ⟨trivial, HX2.out _ _ (HK1.out _ _ ?_)⟩
        have hcl := fun ats ty => run_close_open (P := Try.prog) (w := wr) ats ty hch
        refine wpn_seq (wpn_wp ?_)
        go_wp2_with fail
        change WpN _ _ _ _ (wr.setChan cc k (ints (t.vs.take k)).toArray true k 0 false)
        rw [List.take_of_length_le (by omega)]
        rw [List.take_of_length_le (by omega)] at hch
        have hc4 : (wr.setChan cc k (ints t.vs).toArray true k 0 false).heap[cc]? = some (.chan k (ints t.vs).toArray true k 0 false) := heap_setChan _ _ _ _ _ _ _ _ (chan_lt hch)
        have hb4 := below_setChan hbr (c := cc) (by omega) k (ints t.vs).toArray true k 0 false
        have bx4 := hbo.setChan (c := cc) (cap := k) (buf := (ints t.vs).toArray) (cl := true) (s := k) (r := 0) (tm := false) (by omega)
        have hz4 := chan_lt hc4
        generalize wr.setChan cc k (ints t.vs).toArray true k 0 false = w4 at *
        clear hcl hch hbr hbo HK2 HX2 HK1
        have hmm := @run_makeMap Try.prog
        refine wpn_seq (wpn_wp ?_)
        go_wp2_with fail
        have e5 := below_box w4 (.map #[] 0)
        have hc5 : (w4.alloc (.map #[] 0)).heap[cc]? = some (.chan k (ints t.vs).toArray true k 0 false) := (e5.block cc hz4).trans hc4
        have hb5 := below_ext hb4 e5
        have bx5 := bx4.next e5
        have ho5 := World.ownsMap_made (H := Unit) w4 Try.prog 3 (plainElem Try.prog 3)
        have hmw : w.heap.size < w4.heap.size := bx4.lt
        generalize hmms : w4.heap.size = mm at *
        have hmc : mm ≠ cc := by omega
        generalize w4.alloc (.map #[] 0) = w5 at *
        clear e5 hc4 hb4 bx4
        refine wpn_seq_k fun K5 HK5 => ?_
        refine wpn_seq (wpn_wp ?_)
        go_wp2_with fail
        refine wpn_while_u k (fun q u => ⟨#[.agg #[.slice B0 m0 d0, .slice B1 k d1, .int .i64 t.dec], .pointer (some ⟨w.heap.size, 0, none⟩), .bool false, u 3, u 4, u 5, .map (some mm), u 7, u 8, u 9, u 10, u 11, u 12, u 13, u 14, u 15, u 16, u 17, u 18, u 19, u 20, u 21, u 22, u 23, u 24, u 25, u 26, u 27, u 28, u 29, u 30, u 31, u 32, u 33, u 34, u 35, u 36, u 37, u 38, u 39, .chan (some cc), u 41, u 42, u 43, u 44, u 45, u 46, u 47, u 48, u 49, u 50, u 51, u 52, u 53, u 54, u 55, u 56, u 57, u 58, u 59, u 60, u 61, u 62, u 63, u 64, u 65, u 66, u 67, u 68, u 69, u 70, u 71, u 72, u 73, u 74, u 75, u 76, u 77, u 78, u 79, u 80, u 81, u 82, u 83, u 84, u 85, u 86], []⟩) (fun q wr => wr.heap[cc]? = some (.chan k (ints (t.vs.drop q)).toArray true k q false) ∧ Below w.heap.size w wr ∧ Blk wr w.heap.size 35 [.slice B0 m0 d0, .slice B1 k d1, .int .i64 t.dec] ∧
            ∃ D : DataW Unit, wr.ownsMap Try.prog 3 (plainElem Try.prog 3) mm q D ∧ Hid (IsMap D ∧ ∀ z, wf64 z → D.atKey (.int .i64 z) (.lit (.int .i64 0)) = .lit (.int .i64 (cntV z (t.vs.take q) : Nat))))
          rfl ⟨by simpa using hc5, hb5, bx5, _, ho5, ⟨isMap_empty, fun z _ => rfl⟩⟩ ?_
        rintro q u wr hkm ⟨hch, hbr, hbo, D, hown, HD⟩ K6 X6 HK6 HX6
        dsimp only
        clear hc5 hb5 bx5 ho5 hmm
        by_cases hlt : q < k
        · obtain ⟨x, hx⟩ : ∃ x, t.vs[q]? = some x := ⟨_, List.getElem?_eq_getElem (by omega)⟩
          have hwx := hwf x (List.mem_of_getElem? hx)
          have HC := Lib.hid (fun z => cntV_succ z q t.vs x hx)
          have hdrop : ints (t.vs.drop q) = .int .i64 x :: ints (t.vs.drop (q + 1)) := by
            rw [List.drop_eq_getElem_cons (by omega), (List.getElem?_eq_some_iff.1 hx).2]; rfl
          rw [hdrop] at hch
          clear hx hdrop
          refine wpn_seq_k fun K7 HK7 => ?_
          refine wpn_region ?_
          refine opsn_recv (c := cc) (buf := (.int .i64 x :: ints (t.vs.drop (q + 1))).toArray) (z := .int .i64 0) (ok := true) (w₁ := wr) rfl rfl (by simp [go_sem, rcase]) hch (by simp) ?_
          refine opsn_value (v := .bool true) rfl rfl rfl ?_
          refine opsn_nil (HK7.out _ _ (wpn_wp ?_))
          have hch' := heap_setChan wr cc k ((Value.int .i64 x :: ints (t.vs.drop (q + 1))).toArray.extract 1 (Value.int .i64 x :: ints (t.vs.drop (q + 1))).toArray.size) true k (q + 1) false (chan_lt hch)
          have hg := grown_chan wr cc k k (q + 1) ((Value.int .i64 x :: ints (t.vs.drop (q + 1))).toArray.extract 1 (Value.int .i64 x :: ints (t.vs.drop (q + 1))).toArray.size) true false
          have hbr' := below_setChan hbr (c := cc) (by omega) k ((Value.int .i64 x :: ints (t.vs.drop (q + 1))).toArray.extract 1 (Value.int .i64 x :: ints (t.vs.drop (q + 1))).toArray.size) true k (q + 1) false
          have hbo' := hbo.setChan (c := cc) (cap := k) (buf := (Value.int .i64 x :: ints (t.vs.drop (q + 1))).toArray.extract 1 (Value.int .i64 x :: ints (t.vs.drop (q + 1))).toArray.size) (cl := true) (s := k) (r := q + 1) (tm := false) (by omega)
          have hown' := hown.kept hg (by intro e; injection e with e; exact hmc e)
          generalize wr.setChan cc k ((Value.int .i64 x :: ints (t.vs.drop (q + 1))).toArray.extract 1 (Value.int .i64 x :: ints (t.vs.drop (q + 1))).toArray.size) true k (q + 1) false = wq at *
          rw [show (Value.int .i64 x :: ints (t.vs.drop (q + 1))).toArray.extract 1 (Value.int .i64 x :: ints (t.vs.drop (q + 1))).toArray.size = (ints (t.vs.drop (q + 1))).toArray by simp] at hch'
          have hgot : got true ((Value.int .i64 x :: ints (t.vs.drop (q + 1))).toArray.getD 0 undef) true = .tuple #[.int .i64 x, .bool true] := rfl
          rw [hgot]
          simp only [Act.put]
          clear hch hg hbr hbo hown hgot
          have hkey : keyOf Try.prog 3 (.int .i64 x) = some (.int .i64 x) := keyOf_int_mk Try.underlying3 (wf_lit hwx)
          have hcle : cntV x (t.vs.take q) ≤ q := by have := cntV_le x (t.vs.take q); simp at this; omega
          have hatx := HD.out.2 x hwx
          go_wp2_with (first
            | (at_lookup; refine wpList_lookup_own_int _ rfl _ _ 90 rfl 3 3 .i64 law_int Try.underlying90 Try.underlying3 (zero_int _) mm q D rfl hown' _ _ rfl hkey ?_
               intro c hat hwc
               obtain rfl : ((cntV x (t.vs.take q) : Nat) : Int) = c := by
                 rw [hatx] at hat
                 injection hat with hat
                 injection hat with _ hat)
            | (at_mapUpdate; refine wpList_mapUpdate_own _ rfl _ _ _ 90 rfl 3 3 law_int Try.underlying90 _ mm q D rfl hown' (by unfold maxLen; omega) _ _ _ rfl rfl hkey _ [] (plainElem_int Try.underlying3 (WalkArith.wf_i64 (by omega))) ?_
               intro w6 hown6 hgrow6))
          have hne : cc ≠ mm := fun h => hmc h.symm
          have hwq := hbo'.lt
          refine HK6.out _ _ rfl hlt ⟨(hgrow6.block cc (chan_lt hch') (by intro e; injection e with e; exact hne e)).trans hch', hbr'.trans ⟨hgrow6.os, hgrow6.tape, hgrow6.output, hgrow6.size, fun i hi => hgrow6.block i (by omega) (by intro e; injection e with e; omega)⟩, hbo'.grown hgrow6 (by intro e; injection e with e; omega), _, hown6, ⟨HD.out.1.put _ _, fun z hz => ?_⟩⟩
          have hc2 := HC.out z
          by_cases hzx : x = z
          · subst hzx
            rw [atKey_put_same HD.out.1 (by trivial), hc2, if_pos rfl]
            rfl
          · rw [atKey_put_other (by intro h; injection h with _ h; exact hzx h.symm), HD.out.2 z hz, hc2, if_neg hzx]
            rfl
        · have hk : q = k := by omega
          subst hk
          rw [List.take_of_length_le (by omega)] at HD
          rw [List.drop_of_length_le (by omega)] at hch
          refine wpn_seq_k fun K7 HK7 => ?_
          refine wpn_region ?_
          refine opsn_shut (c := cc) (z := .int .i64 0) (ok := true) (w₁ := wr) rfl rfl (by simp [go_sem, rcase]) (by simpa [ints] using hch) ?_
          refine opsn_value (v := .bool false) rfl rfl rfl ?_
          refine opsn_nil (HK7.out _ _ (wpn_wp ?_))
          have hgot : got true (.int .i64 0) false = .tuple #[.int .i64 0, .bool false] := rfl
          rw [hgot]
          simp only [Act.put]
          go_wp2_with fail
          refine HX6.out _ _ (HK5.out _ _ (wpn_wp ?_))
          have h3 := cnt_sum t.vs
          have HV := Lib.hid h3.2
          have hsum := h3.1
          clear h3 HX6 HK6 HK7 HK5 hkm hch
          have hk1 := keyOf_int_mk (a := 1) Try.underlying3 (by decide)
          have hkm := keyOf_int_mk (a := -1) Try.underlying3 (by decide)
          have hk0 := keyOf_int_mk (a := 0) Try.underlying3 (by decide)
          have hlook : ∀ z : Int, wf64 z → keyOf Try.prog 3 (.int .i64 z) = some (.int .i64 z) → ∀ (d : Nat) (os : Array Obj), (Instr.lookup 90 (.map (some mm)) (.int .i64 z) false).run Try.prog (grow (redrawn wr d) os) = .ok (.int .i64 (cntV z t.vs : Nat)) (grow (redrawn wr d) os) := fun z hz hk d os => by
            have hb := below_regrown wr d os
            have hown2 := hown.kept (row := none) ⟨hb.os, hb.tape, hb.output, hb.size, fun i hi _ => hb.block i hi⟩ (by intro e; cases e)
            obtain ⟨c, hrun, hat, _⟩ := hown2.lookup_int law_int Try.underlying90 Try.underlying3 (zero_int _) hk
            rw [HD.out.2 z hz] at hat
            injection hat with hat
            injection hat with _ hat
            rw [hrun, hat]
          have l1 := hlook 1 (by unfold wf64; omega) hk1
          have l2 := hlook (-1) (by unfold wf64; omega) hkm
          have l3 := hlook 0 (by unfold wf64; omega) hk0
          clear hlook hk1 hkm hk0
          obtain ⟨y0, y1, y2⟩ := hbo.cells3
          go_wp2_with fail
          refine wp_region_ext (by kernel_rfl) (by kernel_rfl) ?_
          repeat (go_big_quiet_step (fail))
          refine wpQuiet_nil ?_
          intro w7 hb7
          have hbb7 := below_ext hbr hb7
          obtain ⟨y0, y1, y2⟩ := (hbo.next hb7).cells3
          have hc1 := cntV_le 1 t.vs
          have hc2 := cntV_le (-1) t.vs
          have hc3 := cntV_le 0 t.vs
          have HY := Lib.hid (show decB t = if t.dec = 0 then decide (cntV (-1) t.vs = 0) && decide (cntV 1 t.vs < q) else if t.dec = 2 then decide (cntV 1 t.vs = q) else if t.dec = 3 then decide (cntV 1 t.vs < q) else false by unfold decB; rw [hl])
          rw [hl] at hsum hc1 hc2 hc3
          have HV2 := Lib.hid (show cntV 1 t.vs + cntV (-1) t.vs + cntV 0 t.vs = q ↔ votesB t.vs = true by have := HV.out; rw [hl] at this; exact this)
          generalize cntV 1 t.vs = y at *
          generalize cntV (-1) t.vs = n at *
          generalize cntV 0 t.vs = z at *
          clear l1 l2 l3 HV
          by_cases hs : y + n + z = q
          · have hsb : (((y : Int) + (n : Int) + (z : Int)) != (q : Int)) = false := by simp; omega
            have HVT := Lib.hid (HV2.out.1 hs)
            have HTT := Lib.hid (show txB t = decB t by rw [HT.out, HVT.out]; rfl)
            clear HT HV2 HVT
            by_cases d0 : t.dec = 0
            · rw [d0] at y2
              have HD := Lib.hid (show decB t = (decide (n = 0) && decide (y < q)) by rw [HY.out, if_pos d0])
              by_cases hn0 : n = 0
              · subst hn0
                have HS := Lib.hid hs
                clear hs
                go_wp2_with fail
                go_ret
                exact ⟨ret_bool (by have := HS.out; rw [HTT.out, HD.out]; simp; omega), hbb7⟩
              · have hnb : ((n : Int) == 0) = false := by simp; omega
                clear hs
                go_wp2_with fail
                go_ret
                exact ⟨ret_bool (by rw [HTT.out, HD.out]; simp [hn0]), hbb7⟩
            · have d0b : (t.dec == 0) = false := by simpa using d0
              by_cases d2 : t.dec = 2
              · rw [d2] at y2
                have HD := Lib.hid (show decB t = decide (y = q) by rw [HY.out, if_neg d0, if_pos d2])
                clear hs
                go_wp2_with fail
                go_ret
                exact ⟨ret_bool (by rw [HTT.out, HD.out]; rw [Bool.eq_iff_iff]; simp; omega), hbb7⟩
              · have d2b : (t.dec == 2) = false := by simpa using d2
                by_cases d3 : t.dec = 3
                · rw [d3] at y2
                  have HD := Lib.hid (show decB t = decide (y < q) by rw [HY.out, if_neg d0, if_neg d2, if_pos d3])
                  clear hs
                  go_wp2_with fail
                  go_ret
                  exact ⟨ret_bool (by rw [HTT.out, HD.out]), hbb7⟩
                · have d3b : (t.dec == 3) = false := by simpa using d3
                  have HD := Lib.hid (show decB t = false by rw [HY.out, if_neg d0, if_neg d2, if_neg d3])
                  clear hs
                  go_wp2_with fail
                  go_ret
                  exact ⟨ret_bool (by rw [HTT.out, HD.out]), hbb7⟩
          · have hsb : (((y : Int) + (n : Int) + (z : Int)) != (q : Int)) = true := by simp; omega
            have HF := Lib.hid (show txB t = false by
              rw [HT.out]
              cases hh : votesB t.vs
              · rfl
              · exact absurd (HV2.out.2 hh) hs)
            clear HT HV2 hs
            go_wp2_with fail
            go_ret
            exact ⟨ret_bool HF.out.symm, hbb7⟩
    · have h2b : ((m1 : Int) != (m0 : Int)) = true := by simp; omega
      go_wp2_with fail
      go_ret
      exact ⟨ret_bool (by unfold txB; rw [hl, hl0, decide_eq_false (by omega : ¬ m1 = m0)]; simp), hbb⟩
end Go.Proofs.Ytlmcejpjhdaanaa
