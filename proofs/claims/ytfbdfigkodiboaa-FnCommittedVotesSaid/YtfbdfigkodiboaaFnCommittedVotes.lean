/- The law FnCommittedVotes, walked: for every code it answers true. -/
import Derived.Test.YtfbdfigkodiboaaDrawCo3
import Derived.Test.YtfbdfigkodiboaaCoI
import Derived.Test.YtfbdfigkodiboaaCoP
namespace Go.Proofs.Ytfbdfigkodiboaa
open Go.RowKit Go.Sort

theorem committed_ok {x : Tx} (h : txB x = true) : ∀ v ∈ x.vs, (x.dec = 2 → v = 1) ∧ (x.dec = 0 → v ≠ -1) := by
  obtain ⟨_, _, h3, h4⟩ := txB_parts h
  unfold decB at h4
  intro v hv
  refine ⟨fun hd => ?_, fun hd hv1 => ?_⟩
  · rw [hd] at h4
    simp at h4
    unfold cntV at h4
    rw [List.countP_eq_length] at h4
    simpa using h4 v hv
  · rw [hd] at h4
    simp at h4
    have := h4.1
    unfold cntV at this
    rw [List.countP_eq_zero] at this
    exact this v hv (by simp [hv1])

set_option maxRecDepth 100000 in
set_option maxHeartbeats 1600000 in
theorem FnCommittedVotes_walk (A : Option Addr) (n c : Nat) (w : World) (h : RBytes w w.heap.size A n ∧ n ≤ c) (hn : n ≤ maxLen) :
    Calls Try.prog 4 #[.slice A n c] w fun e w' => e = .returned (.bool true) ∧ Below w.heap.size w w' := by
  have hn0 := hn
  unfold maxLen at hn0
  by_cases hs : 1048576 < n
  · go_enter Try.func4, Try.ntmps4
    go_wp2_with fail
    go_ret
    exact ⟨rfl, Below.refl _ _⟩
  · go_enter Try.func4, Try.ntmps4
    go_wp2_with fail
    refine (DrawCoordinatorValid_any A n c w h.1 hn h.2).mono ?_
    rintro e w1 ⟨cs, q, rfl, hQ, hb1⟩
    obtain ⟨A2, n2, c2, C2, m2, d2, rfl⟩ := hQ.two
    have ht := hQ.tiny
    have ht1 := ht.1
    have ht2 := ht.2.1
    have eb := below_box w1 (.cells #[.slice A2 n2 c2, .slice C2 m2 d2] 30)
    have bx := Blk.new w1 30 [.slice A2 n2 c2, .slice C2 m2 d2]
    obtain ⟨c0, c1⟩ := bx.cells2
    have hQ1 := hQ.next eb
    go_wp2_with fail
    refine (implCoordinatorValid_any _ q _ hQ1.rep0 (by omega) (by omega)).mono ?_
    rintro e w2 ⟨rfl, hb2⟩
    have bx2 := bx.next hb2
    have hQ2 := hQ1.next hb2
    obtain ⟨c20, c21⟩ := bx2.cells2
    go_wp2_with fail
    refine (specCoordinatorValid_any _ q _ hQ2.rep0).mono ?_
    rintro e w3 ⟨rfl, hb3⟩
    have bx3 := bx2.next hb3
    have hQ3 := hQ2.next hb3
    have b3 := below_ext (below_ext (below_ext hb1 eb) hb2) hb3
    obtain ⟨c30, c31⟩ := bx3.cells2
    clear c0 c1 c20 c21 bx bx2 hQ hQ1 hQ2 eb hb1 hb2 hb3
    generalize w1.heap.size = g at *
    cases hv : coB q
    · go_wp2_with fail
      go_ret
      exact ⟨rfl, b3⟩
    · obtain ⟨p1, p2, p3, p4⟩ := coB_parts hv
      obtain ⟨_, _, _, _, _, _, e9, hr0, hm0, hr1, hm1⟩ := repCo_cells hQ3.rep0
      obtain ⟨⟨rfl, rfl, rfl⟩, rfl, rfl, rfl⟩ : (_ ∧ _ ∧ _) ∧ _ ∧ _ ∧ _ := by simpa using e9
      unfold maxLen at hm0 hm1
      clear e9
      go_wp2_with fail
      go_loop [6] (fun i => ∃ k : Nat, k ≤ n2 ∧ i = .int .i64 k) (fun i => n2 - (intOf i).toNat)
      case atStart => exact ⟨0, Nat.zero_le _, rfl⟩
      case round =>
        obtain ⟨k, hk, rfl⟩ := hrel
        by_cases hlt : k < n2
        · obtain ⟨b, off, x, cs', rfl, hb, hx, hcx, hvx⟩ := hr0.at_ hlt
          have hokx := committed_ok (p1 x (List.mem_of_getElem? hx))
          obtain ⟨P0, q0, e0, P1, q1, e1, rfl, hrp, hmp, hrv, hmv⟩ := repTx_cells hvx
          have a0 : w3.cell? ⟨b, off + k * 3, none⟩ = some (.slice P0 q0 e0) := hcx 0 _ rfl
          have a1 : w3.cell? ⟨b, off + k * 3 + 1, none⟩ = some (.slice P1 q1 e1) := hcx 1 _ rfl
          have a2 : w3.cell? ⟨b, off + k * 3 + 1 + 1, none⟩ = some (.int .i64 x.dec) := hcx 2 _ rfl
          have hlv := hrv.1
          have hrvI := hrv.plain.rints
          unfold maxLen at hmv
          clear hcx hvx hx hrp
          go_wp2_with fail
          go_loop [7] (fun i => ∃ j : Nat, j ≤ q1 ∧ i = .int .i64 j) (fun i => q1 - (intOf i).toNat)
          case atStart => exact ⟨0, Nat.zero_le _, rfl⟩
          case round =>
            obtain ⟨j, hj, rfl⟩ := hrel
            by_cases hlj : j < q1
            · obtain ⟨ad, v, rfl, hb', hvj, hcv⟩ := hrvI.at_ hlj
              obtain ⟨k1, k2⟩ := hokx v (List.mem_of_getElem? hvj)
              clear hvj
              by_cases hd2 : x.dec = 2
              · have hv1 := k1 hd2
                rw [hd2] at a2
                subst hv1
                go_wp2_with fail
                go_round
                case rel => exact ⟨j + 1, by omega, by go_num⟩
                case measure => simp [intOf]; omega
              · have hd2b : (x.dec == 2) = false := by simpa using hd2
                by_cases hd0 : x.dec = 0
                · have hv1 := k2 hd0
                  have hv1b : (v == -1) = false := by simpa using hv1
                  rw [hd0] at a2 hd2b
                  go_wp2_with fail
                  go_round
                  case rel => exact ⟨j + 1, by omega, by go_num⟩
                  case measure => simp [intOf]; omega
                · have hd0b : (x.dec == 0) = false := by simpa using hd0
                  go_wp2_with fail
                  go_round
                  case rel => exact ⟨j + 1, by omega, by go_num⟩
                  case measure => simp [intOf]; omega
            · have hje : j = q1 := by omega
              subst hje
              go_wp2_with fail
              go_round
              case rel => exact ⟨k + 1, by omega, by go_num⟩
              case measure => simp [intOf]; omega
        · have hke : k = n2 := by omega
          subst hke
          go_wp2_with fail
          go_ret
          exact ⟨rfl, b3⟩
end Go.Proofs.Ytfbdfigkodiboaa
