/- The law FnReachSelf, walked: for every code it answers true. -/
import Derived.Test.YteldghgdpklkfaaSGet
namespace Go.Proofs.Yteldghgdpklkfaa
open Go.RowKit Go.Sort

theorem one_okS {z : Int} (h : inR z) : idsOkB [z] = true := by
  obtain ⟨h1, h2⟩ := h
  unfold idsOkB ascB idB
  simp [h1, h2]
set_option maxRecDepth 100000 in
set_option maxHeartbeats 1600000 in
theorem FnReachSelf_walk (A : Option Addr) (n c : Nat) (A2 : Option Addr) (n2 c2 : Nat) (w : World) (h : RBytes w w.heap.size A n ∧ n ≤ c) (hn : n ≤ maxLen) (_h2 : RBytes w w.heap.size A2 n2 ∧ n2 ≤ c2) (hn2 : n2 ≤ maxLen) :
    Calls Try.prog 3 #[.slice A n c, .slice A2 n2 c2] w fun e w' => e = .returned (.bool true) ∧ Below w.heap.size w w' := by
  have hn0 := hn
  unfold maxLen at hn0
  have hn20 := hn2
  unfold maxLen at hn20
  by_cases hs0 : 1048576 < n
  · go_enter Try.func3, Try.ntmps3
    go_wp2_with fail
    go_ret
    exact ⟨rfl, Below.refl _ _⟩
  by_cases hs2 : 1048576 < n2
  · go_enter Try.func3, Try.ntmps3
    go_wp2_with fail
    go_ret
    exact ⟨rfl, Below.refl _ _⟩
  go_enter Try.func3, Try.ntmps3
  go_wp2_with fail
  refine (DrawStoreValid_any A n c w h.1 hn h.2).mono ?_
  rintro e w1 ⟨v, rfl, ⟨m, os, hO, hm, hok⟩, hb1⟩
  obtain ⟨LA, ld, rfl, hmd⟩ := hO.form
  go_wp2_with fail
  refine (implStoreValid_any LA m ld os w1 hO.reads (by simp only [maxLen]; omega)).mono ?_
  rintro e w2 ⟨rfl, hb2⟩
  have hO2 := hO.next hb2
  have bb2 := below_ext hb1 hb2
  go_wp2_with fail
  refine (specStoreValid_any LA m ld os w2 hO2.reads (by simp only [maxLen]; omega)).mono ?_
  rintro e w3 ⟨rfl, hb3⟩
  have hO3 := (hO2.next hb3).reads
  have bb3 := below_ext bb2 hb3
  have HM := Lib.hid hO3.1
  clear hO hO2 hb1 hb2 hb3 bb2
  cases hs : storeB os
  · have hne : ((false : Bool) != false) = false := rfl
    go_wp2_with fail
    go_ret
    exact ⟨rfl, bb3⟩
  · have hne : ((true : Bool) != true) = false := rfl
    by_cases h0 : m = 0
    · have h0b : ((m : Int) == 0) = true := by simp [h0]
      clear h0
      go_wp2_with fail
      go_ret
      exact ⟨rfl, bb3⟩
    · have h0b : ((m : Int) == 0) = false := by rw [beq_eq_false_iff_ne]; omega
      have hkm : n2 % m < m := Nat.mod_lt _ (Nat.pos_of_ne_zero h0)
      have hke : (n2 : Int) % (m : Int) = ((n2 % m : Nat) : Int) := by omega
      generalize n2 % m = k at *
      clear h0
      obtain ⟨b, off, o, rfl, hb, ho, hob⟩ := hO3.at_ hkm
      obtain ⟨B5, m5, d5, c0, c1, c2', hri, hom, hot⟩ := hob
      have hoo : o.ok = true := (storeB_all hs).1 o (List.mem_of_getElem? ho)
      have hki : (k : Int) < (m : Int) := by omega
      have hk0 : (0 : Int) ≤ (k : Int) := by omega
      have hgo : isSt os o.id = true := by
        unfold isSt getO
        rw [List.find?_isSome]
        exact ⟨o, List.mem_of_getElem? ho, by simp⟩
      have hidr : inR o.id := idV_bd (ObjOk.of hoo)
      clear ho
      go_wp2_with fail
      refine (implId_any o.k B5 m5 d5 o.xs o.t w3 hri hom).mono ?_
      rintro e w4 ⟨rfl, hb4⟩
      have hoid : idR o.k o.xs o.t = o.id := by unfold idR; exact if_pos hoo
      rw [hoid]
      generalize o.id = z at *
      have eb := below_box w4 (.cells #[.int .i64 z] 3)
      have xb := Blk.new w4 3 [.int .i64 z]
      have hz1 : RInts (w4.alloc (.cells #[.int .i64 z] 3)) (some ⟨w4.heap.size, 0, none⟩) 1 [z] := RInts.of_blk (by simpa [ints] using xb) rfl
      have hO5 := (hO3.next hb4).next eb
      clear hoid
      go_wp2_with fail
      refine (implStoreReach_any _ m ld os _ 1 1 [z] _ hO5 (by simp only [maxLen]; omega) hz1 (by simp only [maxLen]; omega)).mono ?_
      rintro e w6 ⟨C, dX, X, rfl, hX, hownX, hb6⟩
      have hRX := RInts.of_own hownX
      have hxl := hX.len
      have bb6 := below_ext (below_ext (below_ext bb3 hb4) eb) hb6
      have hXA : AscMem X (fun x => Rch os [z] x ∧ isSt os x = true) := by
        unfold IsRch at hX
        rwa [hs, one_okS hidr, if_pos (by simp)] at hX
      have hzX : hasI X z = true := has_mem ((hXA.2 z).2 ⟨.base (by simp), hgo⟩)
      clear hX hXA hownX
      go_wp2_with fail
      refine (hasInt_any _ X.length dX X z w6 hRX (by simp only [maxLen]; omega)).mono ?_
      rw [hzX]
      rintro e w7 ⟨rfl, rfl⟩
      go_wp2_with fail
      go_ret
      exact ⟨rfl, bb6⟩
end Go.Proofs.Yteldghgdpklkfaa
