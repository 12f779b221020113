/- The law FnReachAgain, walked: for every code it answers true. -/
import Derived.Test.YteldghgdpklkfaaSGet
namespace Go.Proofs.Yteldghgdpklkfaa
open Go.RowKit Go.Sort

theorem one_ok {z : Int} (h : inR z) : idsOkB [z] = true := by
  obtain ⟨h1, h2⟩ := h
  unfold idsOkB ascB idB
  simp [h1, h2]
theorem rch_one {os : List Ob} {fs : List Int} {z : Int} (h : Rch os fs z) : ∀ x, Rch os [z] x → Rch os fs x := Rch.closed (S := fun x => Rch os fs x) (fun x hx => by rw [List.mem_singleton.1 hx]; exact h) (fun _ h1 _ h2 => .step h1 h2)
set_option maxRecDepth 100000 in
set_option maxHeartbeats 1600000 in
theorem FnReachAgain_walk (A : Option Addr) (n c : Nat) (A2 : Option Addr) (n2 c2 : Nat) (w : World) (h : RBytes w w.heap.size A n ∧ n ≤ c) (hn : n ≤ maxLen) (_h2 : RBytes w w.heap.size A2 n2 ∧ n2 ≤ c2) (hn2 : n2 ≤ maxLen) :
    Calls Try.prog 6 #[.slice A n c, .slice A2 n2 c2] w fun e w' => e = .returned (.bool true) ∧ Below w.heap.size w w' := by
  have hn0 := hn
  unfold maxLen at hn0
  have hn20 := hn2
  unfold maxLen at hn20
  by_cases hs0 : 1048576 < n
  · go_enter Try.func6, Try.ntmps6
    go_wp2_with fail
    go_ret
    exact ⟨rfl, Below.refl _ _⟩
  by_cases hs2 : 1048576 < n2
  · go_enter Try.func6, Try.ntmps6
    go_wp2_with fail
    go_ret
    exact ⟨rfl, Below.refl _ _⟩
  go_enter Try.func6, Try.ntmps6
  go_wp2_with fail
  refine (DrawStoreReach_any A n c w h.1 hn h.2).mono ?_
  rintro e w1 ⟨v, F, nf, cf, fs, rfl, ⟨m, os, hO, hm, hok⟩, hownF, hnf, hb1⟩
  obtain ⟨LA, ld, rfl, hmd⟩ := hO.form
  have hF1 := RInts.of_own hownF
  clear hownF
  go_wp2_with fail
  refine (implStoreReach_any LA m ld os F nf cf fs w1 hO.reads (by simp only [maxLen]; omega) hF1 (by simp only [maxLen]; omega)).mono ?_
  rintro e w2 ⟨B, d, L, rfl, hL, hownL, hb2⟩
  have hO2 := hO.next hb2
  have hF2 := hF1.below hb2 (Nat.le_refl _)
  have hR2 := RInts.of_own hownL
  have bb2 := below_ext hb1 hb2
  clear hO hF1 hownL hb1 hb2
  go_wp2_with fail
  refine (specStoreReach_any LA m ld os F nf cf fs w2 hO2.reads (by simp only [maxLen]; omega) hF2 (by simp only [maxLen]; omega)).mono ?_
  rintro e w3 ⟨B3, d3, L3, rfl, hL3, hownL3, hb3⟩
  obtain rfl := hL.uniq hL3
  have hll := hL.len
  have hO3 := hO2.next hb3
  have hF3 := hF2.below hb3 (Nat.le_refl _)
  have hR3 := hR2.below hb3 (Nat.le_refl _)
  have hW3 := RInts.of_own hownL3
  have bb3 := below_ext bb2 hb3
  clear hO2 hF2 hR2 bb2 hb3 hownL3 hL3
  go_wp2_with fail
  refine (sameInts_any B B3 L.length d L.length d3 L L w3 hR3 hW3 (by simp only [maxLen]; omega) (by simp only [maxLen]; omega)).mono ?_
  rw [eqI_same]
  rintro e w4 ⟨rfl, hb4⟩
  have hO4 := (hO3.next hb4).reads
  have hF4 := hF3.below hb4 (Nat.le_refl _)
  have hR4 := hR3.below hb4 (Nat.le_refl _)
  have hW4 := hW3.below hb4 (Nat.le_refl _)
  have bb4 := below_ext bb3 hb4
  have HFL := Lib.hid hF4.1
  clear hO3 hF3 hR3 hW3 bb3 hb4
  by_cases hL0 : L.length = 0
  · have h0b : ((L.length : Int) == 0) = true := by simp [hL0]
    clear hL0
    go_wp2_with fail
    refine (sameInts_any B B3 L.length d L.length d3 L L w4 hR4 hW4 (by simp only [maxLen]; omega) (by simp only [maxLen]; omega)).mono ?_
    rw [eqI_same]
    rintro e w5 ⟨rfl, hb5⟩
    go_wp2_with fail
    go_ret
    exact ⟨rfl, below_ext bb4 hb5⟩
  have h0b : ((L.length : Int) == 0) = false := by rw [beq_eq_false_iff_ne]; omega
  obtain ⟨hs, hi, hA⟩ := hL.good (fun e => hL0 (by rw [e]; rfl))
  have HA := Lib.hid hA
  have hpos : 0 < L.length := Nat.pos_of_ne_zero hL0
  clear hL hA hL0
  have hkm : n2 % L.length < L.length := Nat.mod_lt _ hpos
  have hke : (n2 : Int) % (L.length : Int) = ((n2 % L.length : Nat) : Int) := by omega
  generalize n2 % L.length = k at *
  obtain ⟨ad, z, rfl, hbl, hz, hcz⟩ := hR4.at_ hkm
  have hki : (k : Int) < (L.length : Int) := by omega
  have hk0 : (0 : Int) ≤ (k : Int) := by omega
  have hzA := (HA.out.2 z).1 (List.mem_of_getElem? hz)
  have hzr : inR z := Rch.range (storeB_all hs).1 (idsOk_facts hi).2.1 z hzA.1
  have HZ := Lib.hid hzA
  clear hz hzA
  have eb := below_box w4 (.cells #[.int .i64 z] 3)
  have xb := Blk.new w4 3 [.int .i64 z]
  have hz1 : RInts (w4.alloc (.cells #[.int .i64 z] 3)) (some ⟨w4.heap.size, 0, none⟩) 1 [z] := RInts.of_blk (by simpa [ints] using xb) rfl
  have hO5 := hO4.next eb
  go_wp2_with fail
  refine (implStoreReach_any LA m ld os _ 1 1 [z] _ hO5 (by simp only [maxLen]; omega) hz1 (by simp only [maxLen]; omega)).mono ?_
  rintro e w6 ⟨C, dX, X, rfl, hX, hownX, hb6⟩
  have hRX := RInts.of_own hownX
  have hxl := hX.len
  have b46 := below_ext eb hb6
  have bb6 := below_ext bb4 b46
  have hXA : AscMem X (fun x => Rch os [z] x ∧ isSt os x = true) := by
    unfold IsRch at hX
    rwa [hs, one_ok hzr, if_pos (by simp)] at hX
  have hzX : z ∈ X := (hXA.2 z).2 ⟨.base (by simp), HZ.out.2⟩
  have hXp : decide ((X.length : Int) > 0) = true := by
    have := List.length_pos_of_mem hzX
    exact decide_eq_true (by omega)
  have hXp2 : decide (0 < X.length) = true := decide_eq_true (List.length_pos_of_mem hzX)
  have HX := Lib.hid hXA
  clear hownX hX hXA hzX hz1 hcz
  go_wp2_with fail
  go_loopw [10] (fun i wr => ∃ k : Nat, k ≤ X.length ∧ i = .int .i64 (k : Int) ∧ Below w6.heap.size w6 wr) (fun i _ => X.length - (intOf i).toNat)
  case atStart => exact ⟨0, Nat.zero_le _, rfl, Below.refl _ _⟩
  case round =>
    obtain ⟨k, hk, rfl, hbr⟩ := hrel
    by_cases hlt : k < X.length
    · obtain ⟨ad2, x, rfl, hbl2, hx, hcx⟩ := (hRX.below hbr (Nat.le_refl _)).at_ hlt
      have hki2 : (k : Int) < (X.length : Int) := by omega
      have hxX := (HX.out.2 x).1 (List.mem_of_getElem? hx)
      have hxL : hasI L x = true := has_mem ((HA.out.2 x).2 ⟨rch_one HZ.out.1 x hxX.1, hxX.2⟩)
      clear hx hxX
      go_wp2_with fail
      refine (hasInt_any _ L.length d L x wr (hR4.below (below_ext b46 hbr) (Nat.le_refl _)) (by simp only [maxLen]; omega)).mono ?_
      rw [hxL]
      rintro e w9 ⟨rfl, rfl⟩
      go_wp2_with fail
      go_roundw
      case rel => exact ⟨k + 1, by omega, by go_num, hbr⟩
      case measure => simp [intOf]; omega
    · obtain rfl : k = X.length := by omega
      go_wp2_with fail
      go_ret
      exact ⟨rfl, below_ext bb6 hbr⟩
end Go.Proofs.Yteldghgdpklkfaa
