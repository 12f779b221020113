/- The law FnOrderCommitted, walked: for every code it answers true. -/
import Derived.Test.YtfbdfigkodiboaaDrawCo3
import Derived.Test.YtfbdfigkodiboaaCoI
import Derived.Test.YtfbdfigkodiboaaCoP
namespace Go.Proofs.Ytfbdfigkodiboaa
open Go.RowKit Go.Sort

theorem hasInt_any (A : Option Addr) (n c : Nat) (xs : List Int) (z : Int) (w : World) (h : RInts w A n xs) (hn : n ≤ maxLen) :
    Calls Try.prog 18 #[.slice A n c, .int .i64 z] w fun e w' => e = .returned (.bool (hasI xs z)) ∧ w = w' := by
  unfold maxLen at hn
  go_enter Try.func18, Try.ntmps18
  go_wp2
  go_loop [5] (fun i => ∃ k : Nat, k ≤ n ∧ i = .int .i64 k ∧ Hid (¬ z ∈ xs.take k)) (fun i => n - (intOf i).toNat)
  case atStart => exact ⟨0, Nat.zero_le _, rfl, by show ¬ _; simp⟩
  case round =>
    obtain ⟨k, hk, rfl, hno⟩ := hrel
    by_cases hlt : k < n
    · obtain ⟨ad, x, rfl, hb, hx, hc⟩ := h.at_ hlt
      have HT := Lib.hid (mem_take_succ xs k x z hx)
      have HM := Lib.hid (List.mem_of_getElem? hx)
      clear hx
      cases he : (x == z)
      · have hne : x ≠ z := by simpa using he
        go_wp2
        go_round
        case rel => exact ⟨k + 1, by omega, by go_num, fun hh => by rcases HT.out.1 hh with h1 | h1; (· exact hno.out h1); exact hne h1⟩
        case measure => simp [intOf]; omega
      · have heq : x = z := by simpa using he
        go_wp2
        go_ret
        exact ⟨ret_bool (by have := HM.out; rw [heq] at this; simp [hasI, this]), rfl⟩
    · obtain rfl : k = n := by omega
      rw [List.take_of_length_le (by rw [h.1]; exact Nat.le_refl _)] at hno
      go_wp2
      go_ret
      exact ⟨ret_bool (by simp [hasI, hno.out]), rfl⟩

set_option maxRecDepth 100000 in
set_option maxHeartbeats 1600000 in
theorem FnOrderCommitted_walk (A : Option Addr) (n c : Nat) (w : World) (h : RBytes w w.heap.size A n ∧ n ≤ c) (hn : n ≤ maxLen) :
    Calls Try.prog 5 #[.slice A n c] w fun e w' => e = .returned (.bool true) ∧ Below w.heap.size w w' := by
  have hn0 := hn
  unfold maxLen at hn0
  by_cases hs : 1048576 < n
  · go_enter Try.func5, Try.ntmps5
    go_wp2_with fail
    go_ret
    exact ⟨rfl, Below.refl _ _⟩
  · go_enter Try.func5, Try.ntmps5
    go_wp2_with fail
    refine (DrawCoordinatorValid_any A n c w h.1 hn h.2).mono ?_
    rintro e w1 ⟨cs, q, rfl, hQ, hb1⟩
    obtain ⟨A2, n2, c2, C2, m2, d2, rfl⟩ := hQ.two
    have ht := hQ.tiny
    have ht1 := ht.1
    have ht2 := ht.2.1
    have eb := below_box w1 (.cells #[.slice A2 n2 c2, .slice C2 m2 d2] 30)
    have bx := Blk.new w1 30 [.slice A2 n2 c2, .slice C2 m2 d2]
    obtain ⟨c0, c1⟩ := bx.cells2
    have hQ1 := hQ.next eb
    go_wp2_with fail
    refine (implCoordinatorValid_any _ q _ hQ1.rep0 (by omega) (by omega)).mono ?_
    rintro e w2 ⟨rfl, hb2⟩
    have bx2 := bx.next hb2
    have hQ2 := hQ1.next hb2
    obtain ⟨c20, c21⟩ := bx2.cells2
    go_wp2_with fail
    refine (specCoordinatorValid_any _ q _ hQ2.rep0).mono ?_
    rintro e w3 ⟨rfl, hb3⟩
    have bx3 := bx2.next hb3
    have hQ3 := hQ2.next hb3
    have b3 := below_ext (below_ext (below_ext hb1 eb) hb2) hb3
    obtain ⟨c30, c31⟩ := bx3.cells2
    clear c0 c1 c20 c21 bx bx2 hQ hQ1 hQ2 eb hb1 hb2 hb3
    generalize w1.heap.size = g at *
    cases hv : coB q
    · go_wp2_with fail
      go_ret
      exact ⟨rfl, b3⟩
    · obtain ⟨p1, p2, p3, p4⟩ := coB_parts hv
      obtain ⟨_, _, _, _, _, _, e9, hr0, hm0, hr1, hm1⟩ := repCo_cells hQ3.rep0
      obtain ⟨⟨rfl, rfl, rfl⟩, rfl, rfl, rfl⟩ : (_ ∧ _ ∧ _) ∧ _ ∧ _ ∧ _ := by simpa using e9
      unfold maxLen at hm0 hm1
      clear e9
      have hrI := hr1.rints
      go_wp2_with fail
      go_loop [6, 7] (fun s i => ∃ k : Nat, k ≤ n2 ∧ i = .int .i64 k ∧ s = .int .i64 (cntC (q.ts.take k)) ∧ cntC (q.ts.take k) ≤ k) (fun _ i => n2 - (intOf i).toNat)
      case atStart => exact ⟨0, Nat.zero_le _, rfl, rfl, Nat.le_refl _⟩
      case round =>
        obtain ⟨k, hk, rfl, rfl, hck⟩ := hrel
        by_cases hlt : k < n2
        · obtain ⟨b, off, x, cs', rfl, hb, hx, hcx, hvx⟩ := hr0.at_ hlt
          have hh := Lib.hid (p2 k x hx)
          have HS := Lib.hid (cntC_succ q.ts k x hx)
          obtain ⟨P0, q0, e0, P1, q1, e1, rfl, hrp, hmp, hrv, hmv⟩ := repTx_cells hvx
          have a2 : w3.cell? ⟨b, off + k * 3 + 1 + 1, none⟩ = some (.int .i64 x.dec) := hcx 2 _ rfl
          clear hcx hvx hx hrp hrv
          by_cases hd : x.dec = 2
          · rw [hd] at a2
            have hd2 : (x.dec == 2) = true := by simpa using hd
            go_wp2_with fail
            refine (hasInt_any C2 m2 d2 q.ord (k : Int) _ hrI (by simp only [maxLen]; omega)).mono ?_
            rw [← hh.out, hd2]
            rintro e w' ⟨rfl, rfl⟩
            go_wp2_with fail
            go_round
            case rel => exact ⟨k + 1, by omega, by go_num, by rw [HS.out, if_pos hd]; go_num, by rw [HS.out, if_pos hd]; omega⟩
            case measure => simp [intOf]; omega
          · have hd2 : (x.dec == 2) = false := by simpa using hd
            go_wp2_with fail
            refine (hasInt_any C2 m2 d2 q.ord (k : Int) _ hrI (by simp only [maxLen]; omega)).mono ?_
            rw [← hh.out, hd2]
            rintro e w' ⟨rfl, rfl⟩
            go_wp2_with fail
            go_round
            case rel => exact ⟨k + 1, by omega, by go_num, by rw [HS.out, if_neg hd]; rfl, by rw [HS.out, if_neg hd]; omega⟩
            case measure => simp [intOf]; omega
        · have hke : k = n2 := by omega
          subst hke
          have hl0 := hr0.1
          rw [List.take_of_length_le (by omega)] at hck ⊢
          have hl1 := hr1.1
          have he : cntC q.ts = m2 := by omega
          rw [he]
          go_wp2_with fail
          go_ret
          exact ⟨rfl, b3⟩
end Go.Proofs.Ytfbdfigkodiboaa
