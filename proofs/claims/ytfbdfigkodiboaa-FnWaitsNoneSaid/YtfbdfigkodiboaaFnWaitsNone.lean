/- The law FnWaitsNone, walked: for every code it answers true. -/
import Derived.Test.YtfbdfigkodiboaaDrawCo3
import Derived.Test.YtfbdfigkodiboaaWaits
namespace Go.Proofs.Ytfbdfigkodiboaa
open Go.RowKit Go.Sort

def ascI (xs : List Int) : Prop := xs.Pairwise (· < ·)
theorem chain_pw (p : Pt → Bool) : ∀ ps : List Pt, chainB p (fun a b => decide (a.shard < b.shard)) ps = true → (ps.map (·.shard)).Pairwise (· < ·)
  | [], _ => .nil
  | [x], _ => by simp
  | x :: y :: l, h => by
    simp only [chainB, Bool.and_eq_true, decide_eq_true_eq] at h
    have ih := chain_pw p (y :: l) h.2
    refine List.Pairwise.cons (fun z hz => ?_) ih
    simp only [List.map_cons, List.mem_cons] at hz
    rcases hz with rfl | hz
    · exact h.1.2
    · have := (List.pairwise_cons.1 ih).1 z hz
      have h8 := h.1.2
      dsimp only at this ⊢
      omega
theorem missI_sub : ∀ (ps : List Pt) (vs : List Int), (missI ps vs).Sublist (ps.map (·.shard))
  | [], _ => by simp [missI]
  | _ :: _, [] => by simp [missI]
  | p :: ps, v :: vs => by
    have ih := missI_sub ps vs
    simp only [missI, List.map_cons]
    by_cases h : v = 0
    · rw [if_pos h]; exact ih.cons_cons _
    · rw [if_neg h]; exact ih.cons _
theorem missI_asc {ps : List Pt} {vs : List Int} (h : partsB ps = true) : ascI (missI ps vs) := by
  unfold partsB ascP at h
  simp only [Bool.and_eq_true] at h
  exact (chain_pw _ _ h.1).sublist (missI_sub ps vs)
theorem missI_pos : ∀ (ps : List Pt) (vs : List Int), vs.length = ps.length → (0 : Int) ∈ vs → 0 < (missI ps vs).length
  | [], [], _, h => by cases h
  | p :: ps, v :: vs, hl, h => by
    simp only [missI, List.length_append]
    by_cases hv : v = 0
    · rw [if_pos hv]; simp; omega
    · rcases List.mem_cons.1 h with h | h
      · exact absurd h.symm hv
      · have := missI_pos ps vs (by simpa using hl) h
        omega
  | [], _ :: _, hl, _ => by simp at hl
  | _ :: _, [], hl, _ => by simp at hl
theorem open_miss {x : Tx} (h : txB x = true) (hd : x.dec = 0) : (0 : Int) ∈ x.vs := by
  obtain ⟨_, _, h3, h4⟩ := txB_parts h
  unfold decB at h4
  rw [hd] at h4
  simp at h4
  obtain ⟨h5, h6⟩ := h4
  refine Classical.byContradiction fun hn => ?_
  have : cntV 1 x.vs = x.vs.length := by
    unfold cntV
    rw [List.countP_eq_length]
    intro v hv
    unfold votesB at h3
    have h7 := List.all_eq_true.1 h3 v hv
    unfold cntV at h5
    rw [List.countP_eq_zero] at h5
    have h8 := h5 v hv
    unfold voteB at h7
    have h9 : v ≠ 0 := fun e => hn (e ▸ hv)
    simp at h7 h8 ⊢
    omega
  omega
/-- what is waited for, and whether anything is -/
theorem waits_law {q : Co} {t : Int} (h : coB q = true) : ascI (waitsQ q t) ∧ (0 < (waitsQ q t).length ↔ openQ q t ≠ none) := by
  unfold waitsQ
  rw [h, if_pos rfl]
  cases ho : openQ q t with
  | none => exact ⟨.nil, by simp⟩
  | some x =>
    unfold openQ at ho
    by_cases h0 : 0 ≤ t
    · rw [if_pos h0] at ho
      have h1 := Option.filter_eq_some_iff.1 ho
      have hx : x ∈ q.ts := List.mem_of_getElem? h1.1
      have hd : x.dec = 0 := by simpa using h1.2
      have ht := (coB_parts h).1 x hx
      obtain ⟨a1, a2, _⟩ := txB_parts ht
      exact ⟨missI_asc a1, by simpa using missI_pos x.ps x.vs a2 (open_miss ht hd)⟩
    · rw [if_neg h0] at ho; cases ho
set_option maxHeartbeats 800000 in
theorem ascending_any (A : Option Addr) (n c : Nat) (xs : List Int) (w : World) (h : RInts w A n xs) (hn : n ≤ maxLen) (hp : ascI xs) :
    Calls Try.prog 23 #[.slice A n c] w fun e w' => e = .returned (.bool true) ∧ Below w.heap.size w w' := by
  unfold maxLen at hn
  have hl := h.1
  go_enter Try.func23, Try.ntmps23
  go_wp2
  go_loopw [3] (fun i wr => ∃ k : Nat, 1 ≤ k ∧ k ≤ n + 1 ∧ i = .int .i64 k ∧ Below w.heap.size w wr) (fun i _ => n + 1 - (intOf i).toNat)
  case atStart => exact ⟨1, Nat.le_refl _, by omega, rfl, Below.refl _ _⟩
  case round =>
    obtain ⟨k, hk1, hk, rfl, hbr⟩ := hrel
    by_cases hlt : k < n
    · obtain ⟨ad, x, rfl, hb, hxk, hc⟩ := (h.below hbr (Nat.le_refl _)).at_ (k := k - 1) (by omega)
      obtain ⟨ad', y, e9, hb', hyk, hc'⟩ := (h.below hbr (Nat.le_refl _)).at_ hlt
      injection e9 with e9
      subst e9
      have hxy : x < y := by
        obtain ⟨u1, u2⟩ := List.getElem?_eq_some_iff.1 hxk
        obtain ⟨u3, u4⟩ := List.getElem?_eq_some_iff.1 hyk
        have := List.pairwise_iff_getElem.1 hp (k - 1) k u1 u3 (by omega)
        omega
      have hge : decide (x ≥ y) = false := by simp; omega
      have hge2 : decide (y ≤ x) = false := by simp; omega
      have hcg := cell_regrown hc
      have hcg' := cell_regrown hc'
      have hkk : IntKind.i64.wrap ((k : Int) - 1) = ((k - 1 : Nat) : Int) := by rw [IntKind.wrap_i64]; omega
      have hkk2 : (k : Int) - 1 = ((k - 1 : Nat) : Int) := by omega
      clear hxk hyk hp
      go_wp2
      refine wp_region_ext (by kernel_rfl) (by kernel_rfl) ?_
      repeat (go_big_quiet_step (fail))
      refine wpQuiet_nil ?_
      intro w1 hb1
      go_wp2
      go_roundw
      case rel => exact ⟨k + 1, by omega, by omega, by go_num, below_ext hbr hb1⟩
      case measure => simp [intOf]; omega
    · go_wp2
      go_ret
      exact ⟨rfl, hbr⟩

set_option maxRecDepth 100000 in
set_option maxHeartbeats 1600000 in
theorem FnWaitsNone_walk (A : Option Addr) (n c : Nat) (w : World) (h : RBytes w w.heap.size A n ∧ n ≤ c) (hn : n ≤ maxLen) :
    Calls Try.prog 6 #[.slice A n c] w fun e w' => e = .returned (.bool true) ∧ Below w.heap.size w w' := by
  have hn0 := hn
  unfold maxLen at hn0
  by_cases hs : 1048576 < n
  · go_enter Try.func6, Try.ntmps6
    go_wp2_with fail
    go_ret
    exact ⟨rfl, Below.refl _ _⟩
  · go_enter Try.func6, Try.ntmps6
    go_wp2_with fail
    refine (DrawCoordinatorWaits_any A n c w h.1 hn h.2).mono ?_
    rintro e w1 ⟨cs, q, t, rfl, ht0, ht1, hQ, hb1⟩
    obtain ⟨A2, n2, c2, C2, m2, d2, rfl⟩ := hQ.two
    have htn := hQ.tiny
    have htn1 := htn.1
    have htn2 := htn.2.1
    have eb := below_box w1 (.cells #[.slice A2 n2 c2, .slice C2 m2 d2] 30)
    have bx := Blk.new w1 30 [.slice A2 n2 c2, .slice C2 m2 d2]
    obtain ⟨c0, c1⟩ := bx.cells2
    have hQ1 := hQ.next eb
    go_wp2_with fail
    refine (implWaits_any _ q t _ hQ1.rep0 (by omega) (by omega)).mono ?_
    rintro e w2 ⟨B3, m3, d3, rfl, hown3, hb2⟩
    have bx2 := bx.next hb2
    have hQ2 := hQ1.next hb2
    obtain ⟨c20, c21⟩ := bx2.cells2
    go_wp2_with fail
    refine (specWaits_any _ q t _ hQ2.rep0).mono ?_
    rintro e w3 ⟨B4, m4, d4, rfl, hown4, hb3⟩
    have bx3 := bx2.next hb3
    have hQ3 := hQ2.next hb3
    have b3 := below_ext (below_ext (below_ext hb1 eb) hb2) hb3
    have hr3 : RInts w3 B3 m3 (waitsQ q t) := (RInts.of_ownL hown3).next hb3
    have hr4 : RInts w3 B4 m4 (waitsQ q t) := RInts.of_ownL hown4
    have hl3 := hr3.1
    have hl4 := hr4.1
    have hm34 : m4 = m3 := by omega
    subst hm34
    obtain ⟨c30, c31⟩ := bx3.cells2
    have hwl : (waitsQ q t).length ≤ 100 := by
      unfold waitsQ
      split
      · split
        · rename_i x hx
          have hxm : x ∈ q.ts := by
            unfold openQ at hx
            split at hx
            · exact List.mem_of_getElem? (Option.filter_eq_some_iff.1 hx).1
            · cases hx
          have := missI_len x.ps x.vs
          have := (htn.2.2 x hxm).1
          omega
        · simp
      · simp
    clear c0 c1 c20 c21 bx bx2 hQ hQ1 hQ2 eb hb1 hb2 hb3 hown3 hown4
    generalize w1.heap.size = g at *
    go_wp2_with fail
    refine (sameInts_any _ _ _ _ _ _ (waitsQ q t) (waitsQ q t) _ hr3 hr4 (by simp only [maxLen]; omega) (by simp only [maxLen]; omega)).mono ?_
    rw [eqI_self]
    rintro e w4 ⟨rfl, hb4⟩
    have bx4 := bx3.next hb4
    have hQ4 := hQ3.next hb4
    have b4 := below_ext b3 hb4
    obtain ⟨c40, c41⟩ := bx4.cells2
    have hr34 := hr3.next hb4
    have hr44 := hr4.next hb4
    clear c30 c31 bx3 hQ3 b3 hr3 hr4
    go_wp2_with fail
    refine (specCoordinatorValid_any _ q _ hQ4.rep0).mono ?_
    rintro e w5 ⟨rfl, hb5⟩
    have bx5 := bx4.next hb5
    have hQ5 := hQ4.next hb5
    have b5 := below_ext b4 hb5
    obtain ⟨c50, c51⟩ := bx5.cells2
    have hr35 := hr34.next hb5
    have hr45 := hr44.next hb5
    clear c40 c41 bx4 hQ4 b4 hr34 hr44
    cases hv : coB q
    · go_wp2_with fail
      refine (sameInts_any _ _ _ _ _ _ (waitsQ q t) (waitsQ q t) _ hr35 hr45 (by simp only [maxLen]; omega) (by simp only [maxLen]; omega)).mono ?_
      rw [eqI_self]
      rintro e w6 ⟨rfl, hb6⟩
      go_wp2_with fail
      go_ret
      exact ⟨rfl, below_ext b5 hb6⟩
    · obtain ⟨hasc, hpos⟩ := waits_law (t := t) hv
      obtain ⟨_, _, _, _, _, _, e9, hr0, hm0, hr1, hm1⟩ := repCo_cells hQ5.rep0
      obtain ⟨⟨rfl, rfl, rfl⟩, rfl, rfl, rfl⟩ : (_ ∧ _ ∧ _) ∧ _ ∧ _ ∧ _ := by simpa using e9
      clear e9
      have hl0 := hr0.1
      unfold maxLen at hm0 hm1
      by_cases hin : 0 ≤ t ∧ t ≤ (q.ts.length : Int) - 1
      · obtain ⟨tn, rfl⟩ : ∃ tn : Nat, t = (tn : Int) := ⟨t.toNat, by omega⟩
        have hlt : tn < n2 := by omega
        obtain ⟨b, off, x, cs', rfl, hb, hx, hcx, hvx⟩ := hr0.at_ hlt
        obtain ⟨P0, q0, e0, P1, q1, e1, rfl, hrp, hmp, hrv, hmv⟩ := repTx_cells hvx
        have a2 : w5.cell? ⟨b, off + tn * 3 + 1 + 1, none⟩ = some (.int .i64 x.dec) := hcx 2 _ rfl
        rw [openQ_in hx] at hpos
        clear hcx hvx hrp hrv hx
        by_cases hd : x.dec = 0
        · rw [hd] at a2
          have hm3 : 0 < m4 := by
            have := hpos.2 (by rw [if_pos hd]; simp)
            omega
          clear hpos
          go_wp2_with fail
          refine (ascending_any _ _ _ _ _ hr35 (by simp only [maxLen]; omega) hasc).mono ?_
          rintro e w6 ⟨rfl, hb6⟩
          go_wp2_with fail
          go_ret
          exact ⟨rfl, below_ext b5 hb6⟩
        · have hdb : (x.dec == 0) = false := by simpa using hd
          have hm3 : m4 = 0 := by
            have : ¬ 0 < (waitsQ q (tn : Int)).length := fun hh => by
              have := hpos.1 hh
              rw [if_neg hd] at this
              exact this rfl
            omega
          subst hm3
          clear hpos
          go_wp2_with fail
          refine (ascending_any _ _ _ _ _ hr35 (by simp only [maxLen]; omega) hasc).mono ?_
          rintro e w6 ⟨rfl, hb6⟩
          go_wp2_with fail
          go_ret
          exact ⟨rfl, below_ext b5 hb6⟩
      · rw [openQ_out hin] at hpos
        have hm3 : m4 = 0 := by
          have : ¬ 0 < (waitsQ q t).length := fun hh => hpos.1 hh rfl
          omega
        subst hm3
        clear hpos
        have HI : (t < 0 ∨ (0 ≤ t ∧ (n2 : Int) ≤ t)) := by omega
        clear hin
        rcases HI with hi | ⟨hi1, hi2⟩
        · have hi3 : decide (t ≥ 0) = false := by simp; omega
          have hi4 : decide (0 ≤ t) = false := by simp; omega
          go_wp2_with fail
          refine (ascending_any _ _ _ _ _ hr35 (by simp only [maxLen]; omega) hasc).mono ?_
          rintro e w6 ⟨rfl, hb6⟩
          go_wp2_with fail
          go_ret
          exact ⟨rfl, below_ext b5 hb6⟩
        · have hi3 : decide (t < (n2 : Int)) = false := by simp; omega
          go_wp2_with fail
          refine (ascending_any _ _ _ _ _ hr35 (by simp only [maxLen]; omega) hasc).mono ?_
          rintro e w6 ⟨rfl, hb6⟩
          go_wp2_with fail
          go_ret
          exact ⟨rfl, below_ext b5 hb6⟩
end Go.Proofs.Ytfbdfigkodiboaa
