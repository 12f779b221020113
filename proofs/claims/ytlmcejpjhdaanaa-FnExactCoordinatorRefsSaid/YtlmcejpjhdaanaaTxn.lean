/- Walks: transactions: the reference's l22Txn. -/
import Derived.Test.YtlmcejpjhdaanaaParts
namespace Go.Proofs.Ytlmcejpjhdaanaa
open Go.RowKit Go.Sort

def cntV (z : Int) (vs : List Int) : Nat := vs.countP fun v => v == z
def voteB (v : Int) : Bool := decide (-1 ≤ v) && decide (v ≤ 1)
def votesB (vs : List Int) : Bool := vs.all voteB
def decB (t : Tx) : Bool := if t.dec = 0 then decide (cntV (-1) t.vs = 0) && decide (cntV 1 t.vs < t.vs.length) else if t.dec = 2 then decide (cntV 1 t.vs = t.vs.length) else if t.dec = 3 then decide (cntV 1 t.vs < t.vs.length) else false
def txB (t : Tx) : Bool := votesB t.vs && (partsB t.ps && decide (t.vs.length = t.ps.length)) && decB t
theorem cntV_succ (z : Int) (k : Nat) (xs : List Int) (x : Int) (h : xs[k]? = some x) : cntV z (xs.take (k + 1)) = cntV z (xs.take k) + if x = z then 1 else 0 := by
  obtain ⟨h1, h2⟩ := List.getElem?_eq_some_iff.1 h
  unfold cntV
  rw [List.take_succ_eq_append_getElem h1, List.countP_append, h2]
  by_cases hx : x = z <;> simp [hx]
theorem votesB_succ (k : Nat) (xs : List Int) (x : Int) (h : xs[k]? = some x) : votesB (xs.take (k + 1)) = (votesB (xs.take k) && voteB x) := by
  obtain ⟨h1, h2⟩ := List.getElem?_eq_some_iff.1 h
  unfold votesB
  rw [List.take_succ_eq_append_getElem h1, List.all_append, h2]
  simp
theorem cntV_le (z : Int) (xs : List Int) : cntV z xs ≤ xs.length := List.countP_le_length

set_option maxHeartbeats 3200000 in
theorem specTxn_any (cs : List Value) (t : Tx) (w : World) (hv : repTx.V 0 w cs t) :
    Calls Try.prog 37 #[.agg cs.toArray] w fun e w' => e = .returned (.bool (txB t)) ∧ Below w.heap.size w w' := by
  obtain ⟨B0, m0, d0, B1, m1, d1, rfl, hr0, hm0, hr1, hm1⟩ := repTx_cells hv
  unfold maxLen at hm1
  have hm0' := hm0
  unfold maxLen at hm0'
  have hl0 := hr0.1
  have hl := hr1.1
  have hbx := below_box w (.cells #[.slice B0 m0 d0, .slice B1 m1 d1, .int .i64 t.dec] 35)
  have bx := Blk.new w 35 [.slice B0 m0 d0, .slice B1 m1 d1, .int .i64 t.dec]
  have hri := hr1.plain.rints
  go_enter Try.func37, Try.ntmps37
  go_wp2
  go_loopw [3, 4, 5] (fun s z i wr => ∃ k y n : Nat, k ≤ m1 ∧ y ≤ k ∧ n ≤ k ∧ s = .int .i64 y ∧ z = .int .i64 n ∧ i = .int .i64 k ∧ Hid (votesB (t.vs.take k) = true ∧ y = cntV 1 (t.vs.take k) ∧ n = cntV (-1) (t.vs.take k)) ∧ Below w.heap.size w wr ∧ Blk wr w.heap.size 35 [.slice B0 m0 d0, .slice B1 m1 d1, .int .i64 t.dec]) (fun _ _ i _ => m1 - (intOf i).toNat)
  case atStart => exact ⟨0, 0, 0, Nat.zero_le _, Nat.zero_le _, Nat.zero_le _, rfl, rfl, rfl, ⟨rfl, rfl, rfl⟩, hbx, bx⟩
  case round =>
    obtain ⟨k, y, n, hk, hy, hn, rfl, rfl, rfl, hH, hbr, hbo⟩ := hrel
    obtain ⟨z0, z1, z2⟩ := hbo.cells3
    by_cases hlt : k < m1
    · obtain ⟨ad, v, rfl, hb, hx, hc⟩ := (hri.next hbr).at_ hlt
      have HV := Lib.hid (votesB_succ k t.vs v hx)
      have HY := Lib.hid (cntV_succ 1 k t.vs v hx)
      have HN := Lib.hid (cntV_succ (-1) k t.vs v hx)
      have hmem := List.mem_of_getElem? hx
      clear hx
      by_cases hin : voteB v = true
      · have hcall : ∀ W, Calls Try.prog 35 #[.int .i64 v, .int .i64 (-1), .int .i64 1] W fun e w' => e = .returned (.bool true) ∧ W = w' := fun W => (l6In_any v (-1) 1 W).mono fun e w' ⟨he, hw⟩ => ⟨by rw [he]; exact congrArg (fun b => Ending.returned (.bool b)) hin, hw⟩
        have hv3 : v = 1 ∨ v = -1 ∨ v = 0 := by unfold voteB at hin; simp only [Bool.and_eq_true, decide_eq_true_eq] at hin; omega
        have HIN := Lib.hid hin
        clear hin hmem
        rcases hv3 with rfl | rfl | rfl
        · go_wp2_with (go_at_call 35; refine (hcall _).mono ?_; rintro e w' ⟨rfl, rfl⟩)
          go_roundw
          case rel => exact ⟨k + 1, y + 1, n, by omega, by omega, by omega, by go_num, rfl, by go_num, ⟨by rw [HV.out, hH.out.1]; exact HIN.out, by rw [HY.out, hH.out.2.1]; rfl, by rw [HN.out, hH.out.2.2]; rfl⟩, hbr, hbo⟩
          case measure => simp [intOf]; omega
        · go_wp2_with (go_at_call 35; refine (hcall _).mono ?_; rintro e w' ⟨rfl, rfl⟩)
          go_roundw
          case rel => exact ⟨k + 1, y, n + 1, by omega, by omega, by omega, rfl, by go_num, by go_num, ⟨by rw [HV.out, hH.out.1]; exact HIN.out, by rw [HY.out, hH.out.2.1]; rfl, by rw [HN.out, hH.out.2.2]; rfl⟩, hbr, hbo⟩
          case measure => simp [intOf]; omega
        · go_wp2_with (go_at_call 35; refine (hcall _).mono ?_; rintro e w' ⟨rfl, rfl⟩)
          go_roundw
          case rel => exact ⟨k + 1, y, n, by omega, by omega, by omega, rfl, rfl, by go_num, ⟨by rw [HV.out, hH.out.1]; exact HIN.out, by rw [HY.out, hH.out.2.1]; rfl, by rw [HN.out, hH.out.2.2]; rfl⟩, hbr, hbo⟩
          case measure => simp [intOf]; omega
      · have hin' : voteB v = false := by simpa using hin
        have hcall : ∀ W, Calls Try.prog 35 #[.int .i64 v, .int .i64 (-1), .int .i64 1] W fun e w' => e = .returned (.bool false) ∧ W = w' := fun W => (l6In_any v (-1) 1 W).mono fun e w' ⟨he, hw⟩ => ⟨by rw [he]; exact congrArg (fun b => Ending.returned (.bool b)) hin', hw⟩
        have HBAD := Lib.hid (show txB t = false by
          have : votesB t.vs = false := by
            cases hh : votesB t.vs
            · rfl
            · have := List.all_eq_true.1 hh v hmem
              rw [hin'] at this; cases this
          unfold txB; rw [this]; rfl)
        clear hin hin' hmem
        go_wp2_with (go_at_call 35; refine (hcall _).mono ?_; rintro e w' ⟨rfl, rfl⟩)
        go_ret
        exact ⟨ret_bool HBAD.out.symm, hbr⟩
    · obtain rfl : k = m1 := by omega
      rw [List.take_of_length_le (by omega)] at hH
      have HH := Lib.hid hH.out
      clear hH
      go_wp2_with fail
      refine (specParts_any B0 m0 d0 t.ps _ (hr0.next hbr) hm0).mono ?_
      rintro e w2 ⟨rfl, hb2⟩
      have hbb := below_ext hbr hb2
      obtain ⟨z0, z1, z2⟩ := (hbo.next hb2).cells3
      cases h1 : partsB t.ps
      · go_wp2_with fail
        go_ret
        exact ⟨ret_bool (by unfold txB; rw [h1]; simp), hbb⟩
      · by_cases h2 : (k : Int) = m0
        · have h2b : ((k : Int) != (m0 : Int)) = false := by simp; omega
          have HT := Lib.hid (show txB t = decB t by unfold txB; rw [HH.out.1, h1, hl, hl0, decide_eq_true (by omega : k = m0)]; rfl)
          clear h1 h2
          by_cases d0 : t.dec = 0
          · have HD := Lib.hid (show decB t = (decide (n = 0) && decide (y < k)) by unfold decB; rw [if_pos d0, ← HH.out.2.1, ← HH.out.2.2, hl])
            rw [d0] at z2
            by_cases hn0 : n = 0
            · subst hn0
              go_wp2_with fail
              go_ret
              exact ⟨ret_bool (by rw [HT.out, HD.out]; simp), hbb⟩
            · have hnb : ((n : Int) == 0) = false := by simp; omega
              go_wp2_with fail
              go_ret
              exact ⟨ret_bool (by rw [HT.out, HD.out]; simp [hn0]), hbb⟩
          · have d0b : (t.dec == 0) = false := by simpa using d0
            by_cases d2 : t.dec = 2
            · have HD := Lib.hid (show decB t = decide (y = k) by unfold decB; rw [if_neg d0, if_pos d2, ← HH.out.2.1, hl])
              rw [d2] at z2
              go_wp2_with fail
              go_ret
              exact ⟨ret_bool (by rw [HT.out, HD.out]; rw [Bool.eq_iff_iff]; simp; omega), hbb⟩
            · have d2b : (t.dec == 2) = false := by simpa using d2
              by_cases d3 : t.dec = 3
              · have HD := Lib.hid (show decB t = decide (y < k) by unfold decB; rw [if_neg d0, if_neg d2, if_pos d3, ← HH.out.2.1, hl])
                rw [d3] at z2
                go_wp2_with fail
                go_ret
                exact ⟨ret_bool (by rw [HT.out, HD.out]), hbb⟩
              · have d3b : (t.dec == 3) = false := by simpa using d3
                have HD := Lib.hid (show decB t = false by unfold decB; rw [if_neg d0, if_neg d2, if_neg d3])
                go_wp2_with fail
                go_ret
                exact ⟨ret_bool (by rw [HT.out, HD.out]), hbb⟩
        · have h2b : ((k : Int) != (m0 : Int)) = true := by simp; omega
          go_wp2_with fail
          go_ret
          exact ⟨ret_bool (by unfold txB; rw [hl, hl0, decide_eq_false (by omega : ¬ k = m0)]; simp), hbb⟩
end Go.Proofs.Ytlmcejpjhdaanaa
