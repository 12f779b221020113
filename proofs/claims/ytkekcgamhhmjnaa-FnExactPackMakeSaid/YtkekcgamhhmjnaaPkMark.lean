/- Walks: the laws' marks on packs, written and looked for. -/
import Derived.Test.YtkekcgamhhmjnaaPkEq
import Derived.Test.YtkekcgamhhmjnaaMark
namespace Go.Proofs.Ytkekcgamhhmjnaa
open Go.RowKit Go.Sort

set_option maxHeartbeats 1600000 in
theorem markIntS_s (S : Nat → Prop) (lo : Nat) (A : Option Addr) (n c : Nat) (xs : List Int) (k : Nat) (w : World) (h : SSl 3 sepInt lo S w A n c xs) (_hS : ∀ b, S b → b < w.heap.size) (hk : k + szL szI1 xs ≤ 9000000000000000000) :
    Calls Try.prog 45 #[.slice A n c, .int .i64 (k : Int)] w fun e w' => e = .returned (.int .i64 ((k + szL szI1 xs : Nat) : Int)) ∧ SSl 3 sepInt lo S w' A n c (markL mkI szI1 k xs) ∧ Only S w w' := by
  have hl := h.1
  have hnm := h.small
  unfold maxLen at hnm
  go_enter Try.func45, Try.ntmps45
  go_wp2_with fail
  go_loopw [1, 5] (fun q i wr => ∃ j : Nat, j ≤ n ∧ i = .int .i64 j ∧ q = .int .i64 ((cnL szI1 k xs j : Nat) : Int) ∧ SSl 3 sepInt lo S wr A n c (stL mkI szI1 k xs j) ∧ Only S w wr) (fun _ i _ => n - (intOf i).toNat)
  case atStart => exact ⟨0, Nat.zero_le _, rfl, by rw [cnL_zero], by rw [stL_zero]; exact h, Only.refl _ _⟩
  case round =>
    obtain ⟨j, hj, rfl, rfl, h0, hO0⟩ := hrel
    by_cases hlt : j < n
    · obtain ⟨g, rfl⟩ : ∃ g, A = some ⟨g, 0, none⟩ := by
        obtain ⟨g, _, _, _, e, _⟩ := h0.inner hlt
        exact ⟨g, e⟩
      obtain ⟨x, hx⟩ : ∃ x, xs[j]? = some x := ⟨_, List.getElem?_eq_getElem (by omega)⟩
      have HX0 := Lib.hid (show (stL mkI szI1 k xs j)[j]? = some x by rw [stL_get]; exact hx)
      have HST := Lib.hid (stL_set (mk := mkI) (sz := szI1) (k := k) hx)
      have HCN := Lib.hid (cnL_succ (sz := szI1) (k := k) hx)
      have hroom := cnL_room (sz := szI1) (k := k) hx
      rw [show szI1 x = 1 from rfl] at hroom
      clear hx
      generalize stL mkI szI1 k xs j = L0 at *
      generalize cnL szI1 k xs j = q0 at *
      obtain ⟨cs, N, hSg, -, hgl, hN, hNg, hv, hc, hf, -⟩ := h0.inn rfl HX0.out
      have hv' : cs = [.int .i64 x] := hv
      subst hv'
      have c0 : wr.cell? ⟨g, j, none⟩ = some (.int .i64 x) := by
        have := hc 0 _ rfl
        simpa [sepInt, repInt] using this
      have f0 := hf j
      have hEnd : SSl 3 sepInt lo S (wr.setCell ⟨g, j, none⟩ (.int .i64 (q0 : Int))) (some ⟨g, 0, none⟩) n c (stL mkI szI1 k xs (j + 1)) := by
        have hh := h0.own rfl HX0.out 0 (.int .i64 (q0 : Int)) (mkI q0 x) (by decide) (fun N cs hv hg => by
          have hv' : cs = [.int .i64 x] := hv
          subst hv'
          rfl)
        rw [HST.out] at hh
        simpa [sepInt, repInt] using hh
      have HEND := Lib.hid hEnd
      have hO1 := hO0.set (i := j) hSg (.int .i64 (q0 : Int))
      have hw1 : IntKind.i64.wrap ((q0 : Int) + 1) = ((q0 + 1 : Nat) : Int) := by rw [IntKind.wrap_i64]; omega
      clear hc hf hv hEnd
      go_wp2_with fail
      go_roundw
      case rel => exact ⟨j + 1, by omega, by go_num, by rw [HCN.out]; rfl, HEND.out, hO1⟩
      case measure => simp [intOf]; omega
    · obtain rfl : j = n := by omega
      go_wp2_with fail
      go_ret
      exact ⟨by rw [cnL_all hl]; rfl, by rw [← stL_all hl]; exact h0, hO0⟩
set_option maxHeartbeats 1600000 in
theorem heldIntS_s (A : Option Addr) (n c : Nat) (xs : List Int) (k : Nat) (w : World) (h : RSl repInt 0 w A n (markL mkI szI1 k xs)) (hn : n ≤ maxLen) (hk : k + szL szI1 xs ≤ 9000000000000000000) :
    Calls Try.prog 48 #[.slice A n c, .int .i64 (k : Int)] w fun e w' => e = .returned (.int .i64 ((k + szL szI1 xs : Nat) : Int)) ∧ Below w.heap.size w w' := by
  have hl : xs.length = n := by have := h.1; rwa [markL_len] at this
  have hr := h.rints
  unfold maxLen at hn
  go_enter Try.func48, Try.ntmps48
  go_wp2_with fail
  go_loopw [1, 5] (fun q i wr => ∃ j : Nat, j ≤ n ∧ i = .int .i64 j ∧ q = .int .i64 ((cnL szI1 k xs j : Nat) : Int) ∧ Below w.heap.size w wr) (fun _ i _ => n - (intOf i).toNat)
  case atStart => exact ⟨0, Nat.zero_le _, rfl, by rw [cnL_zero], Below.refl _ _⟩
  case round =>
    obtain ⟨j, hj, rfl, rfl, hbr⟩ := hrel
    by_cases hlt : j < n
    · obtain ⟨x, hx⟩ : ∃ x, xs[j]? = some x := ⟨_, List.getElem?_eq_getElem (by omega)⟩
      obtain ⟨ad, y, rfl, hb, hy, hc⟩ := (hr.next hbr).at_ hlt
      have hy2 : y = ((cnL szI1 k xs j : Nat) : Int) := by
        rw [markL_get hx] at hy
        injection hy with hy
        exact hy.symm
      subst hy2
      have HCN := Lib.hid (cnL_succ (sz := szI1) (k := k) hx)
      have hroom := cnL_room (sz := szI1) (k := k) hx
      rw [show szI1 x = 1 from rfl] at hroom
      clear hx hy
      generalize cnL szI1 k xs j = q0 at *
      have hw1 : IntKind.i64.wrap ((q0 : Int) + 1) = ((q0 + 1 : Nat) : Int) := by rw [IntKind.wrap_i64]; omega
      have hx0 : ((q0 : Int) != (q0 : Int)) = false := by simp
      go_wp2_with fail
      go_roundw
      case rel => exact ⟨j + 1, by omega, by go_num, by rw [HCN.out]; rfl, hbr⟩
      case measure => simp [intOf]; omega
    · obtain rfl : j = n := by omega
      go_wp2_with fail
      go_ret
      exact ⟨by rw [cnL_all hl]; rfl, hbr⟩
theorem mdg_size : ∀ (f k : Nat) (acc : ByteArray), (mdg f k acc).size ≤ f + acc.size
  | 0, _, acc => by simp [mdg]
  | f + 1, k, acc => by
    unfold mdg
    split
    · omega
    · have := mdg_size f (k / 10) (⟨#[48 + UInt8.ofNat (k % 10)]⟩ ++ acc)
      rw [ByteArray.size_append] at this
      have h1 : (ByteArray.mk #[48 + UInt8.ofNat (k % 10)]).size = 1 := rfl
      omega
theorem mtext_size (k : Nat) : (mtext k).size ≤ k + 2 := by
  unfold mtext
  split
  · show 2 ≤ _
    omega
  · have := mdg_size k k ⟨#[]⟩
    rw [ByteArray.size_append]
    have h1 : (ByteArray.mk #[109]).size = 1 := rfl
    have h2 : (ByteArray.mk #[]).size = 0 := rfl
    omega
def mkDp (k : Nat) (_ : Dp) : Dp := ⟨((k : Nat) : Int), ((k + 1 : Nat) : Int), mtext (k + 1 + 1)⟩
def szDp (_ : Dp) : Nat := 1 + 1 + 1
section
variable {lo g o : Nat} {N : Nat → Prop} {w : World} {cs : List Value} {x : Dp}
theorem sepDp_put0 (u : Int) (h : sepDp.V lo N w cs x) (_hg : ¬ N g) : sepDp.V lo N (w.setCell ⟨g, o, none⟩ (.int .i64 u)) (cs.set 0 (.int .i64 u)) ⟨u, x.sz, x.tx⟩ := by
  obtain ⟨rfl, ht⟩ := sepDp_cells h
  exact sepDp_mk (x := ⟨u, x.sz, x.tx⟩) ht
theorem sepDp_put1 (u : Int) (h : sepDp.V lo N w cs x) (_hg : ¬ N g) : sepDp.V lo N (w.setCell ⟨g, o, none⟩ (.int .i64 u)) (cs.set 1 (.int .i64 u)) ⟨x.at_, u, x.tx⟩ := by
  obtain ⟨rfl, ht⟩ := sepDp_cells h
  exact sepDp_mk (x := ⟨x.at_, u, x.tx⟩) ht
theorem sepDp_put2 (u : ByteArray) (hu : u.size ≤ maxLen) (h : sepDp.V lo N w cs x) (_hg : ¬ N g) : sepDp.V lo N (w.setCell ⟨g, o, none⟩ (.string u)) (cs.set 2 (.string u)) ⟨x.at_, x.sz, u⟩ := by
  obtain ⟨rfl, ht⟩ := sepDp_cells h
  exact sepDp_mk (x := ⟨x.at_, x.sz, u⟩) hu
end
set_option maxRecDepth 100000 in
set_option maxHeartbeats 3200000 in
theorem markOpS_s (S : Nat → Prop) (lo : Nat) (A : Option Addr) (n c : Nat) (xs : List Dp) (k : Nat) (w : World) (h : SSl 62 sepDp lo S w A n c xs) (hS : ∀ b, S b → b < w.heap.size) (hk : k + szL szDp xs ≤ 9000000000000000000) :
    Calls Try.prog 47 #[.slice A n c, .int .i64 (k : Int)] w fun e w' => e = .returned (.int .i64 ((k + szL szDp xs : Nat) : Int)) ∧ SSl 62 sepDp lo S w' A n c (markL mkDp szDp k xs) ∧ Only S w w' := by
  have hl := h.1
  have hnm := h.small
  unfold maxLen at hnm
  go_enter Try.func47, Try.ntmps47
  go_wp2_with fail
  go_loopw [1, 5] (fun q i wr => ∃ j : Nat, j ≤ n ∧ i = .int .i64 j ∧ q = .int .i64 ((cnL szDp k xs j : Nat) : Int) ∧ SSl 62 sepDp lo S wr A n c (stL mkDp szDp k xs j) ∧ Only S w wr) (fun _ i _ => n - (intOf i).toNat)
  case atStart => exact ⟨0, Nat.zero_le _, rfl, by rw [cnL_zero], by rw [stL_zero]; exact h, Only.refl _ _⟩
  case round =>
    obtain ⟨j, hj, rfl, rfl, h0, hO0⟩ := hrel
    by_cases hlt : j < n
    · obtain ⟨g, rfl⟩ : ∃ g, A = some ⟨g, 0, none⟩ := by
        obtain ⟨g, _, _, _, e, _⟩ := h0.inner hlt
        exact ⟨g, e⟩
      obtain ⟨x, hx⟩ : ∃ x, xs[j]? = some x := ⟨_, List.getElem?_eq_getElem (by omega)⟩
      have HX0 := Lib.hid (show (stL mkDp szDp k xs j)[j]? = some x by rw [stL_get]; exact hx)
      have HST := Lib.hid (stL_set (mk := mkDp) (sz := szDp) (k := k) hx)
      have HCN := Lib.hid (cnL_succ (sz := szDp) (k := k) hx)
      have hroom := cnL_room (sz := szDp) (k := k) hx
      rw [show szDp x = 1 + 1 + 1 from rfl] at hroom
      have hS0 := fun b hb => Nat.lt_of_lt_of_le (hS b hb) hO0.size
      clear hx
      generalize stL mkDp szDp k xs j = L0 at *
      generalize cnL szDp k xs j = q0 at *
      obtain ⟨cs0, N0, hSg0, -, hgl0, hN0, hNg0, hv0, hc0, hf0, hu0⟩ := h0.inn rfl HX0.out
      obtain ⟨rfl, htx0⟩ := sepDp_cells hv0
      have c0 : (wr).cell? ⟨g, j * 3, none⟩ = some (.int .i64 x.at_) := hc0 0 _ rfl
      have f0 := hf0 (j * 3)
      have h1 : SSl 62 sepDp lo S ((wr).setCell ⟨g, j * 3, none⟩ (.int .i64 (q0 : Int))) (some ⟨g, 0, none⟩) n c (L0.set j ⟨(q0 : Int), x.sz, x.tx⟩) := h0.own rfl HX0.out 0 (.int .i64 (q0 : Int)) ⟨(q0 : Int), x.sz, x.tx⟩ (by decide) (fun N cs hv hg => sepDp_put0 _ hv hg)
      have HX1 := Lib.hid (show (L0.set j (⟨(q0 : Int), x.sz, x.tx⟩ : Dp))[j]? = some ⟨(q0 : Int), x.sz, x.tx⟩ by rw [List.getElem?_set_self (List.getElem?_eq_some_iff.1 HX0.out).1])
      have hO1 : Only S w ((wr).setCell ⟨g, j * 3, none⟩ (.int .i64 (q0 : Int))) := hO0.set hSg0 _
      have hS1 : ∀ b, S b → b < ((wr).setCell ⟨g, j * 3, none⟩ (.int .i64 (q0 : Int))).heap.size := fun b hb => Nat.lt_of_lt_of_le (hS b hb) hO1.size
      obtain ⟨q1, HQ1⟩ : ∃ q1 : Nat, Hid (q1 = q0 + 1) := ⟨_, Lib.hid rfl⟩
      have hw1 : IntKind.i64.wrap ((q0 : Int) + 1) = (q1 : Int) := by have e1 := HQ1.out; rw [IntKind.wrap_i64]; omega
      clear hc0 hf0 hu0 hv0
      obtain ⟨cs1, N1, hSg1, -, hgl1, hN1, hNg1, hv1, hc1, hf1, hu1⟩ := h1.inn rfl HX1.out
      obtain ⟨rfl, htx1⟩ := sepDp_cells hv1
      have c1 : (((wr).setCell ⟨g, j * 3, none⟩ (.int .i64 (q0 : Int)))).cell? ⟨g, j * 3 + 1, none⟩ = some (.int .i64 x.sz) := hc1 1 _ rfl
      have f1 := hf1 (j * 3 + 1)
      have h2 : SSl 62 sepDp lo S ((((wr).setCell ⟨g, j * 3, none⟩ (.int .i64 (q0 : Int)))).setCell ⟨g, j * 3 + 1, none⟩ (.int .i64 (q1 : Int))) (some ⟨g, 0, none⟩) n c ((L0.set j (⟨(q0 : Int), x.sz, x.tx⟩ : Dp)).set j ⟨(q0 : Int), (q1 : Int), x.tx⟩) := h1.own rfl HX1.out 1 (.int .i64 (q1 : Int)) ⟨(q0 : Int), (q1 : Int), x.tx⟩ (by decide) (fun N cs hv hg => sepDp_put1 _ hv hg)
      have HX2 := Lib.hid (show ((L0.set j (⟨(q0 : Int), x.sz, x.tx⟩ : Dp)).set j (⟨(q0 : Int), (q1 : Int), x.tx⟩ : Dp))[j]? = some ⟨(q0 : Int), (q1 : Int), x.tx⟩ by rw [List.getElem?_set_self (List.getElem?_eq_some_iff.1 HX1.out).1])
      have hO2 : Only S w ((((wr).setCell ⟨g, j * 3, none⟩ (.int .i64 (q0 : Int)))).setCell ⟨g, j * 3 + 1, none⟩ (.int .i64 (q1 : Int))) := hO1.set hSg1 _
      have hS2 : ∀ b, S b → b < ((((wr).setCell ⟨g, j * 3, none⟩ (.int .i64 (q0 : Int)))).setCell ⟨g, j * 3 + 1, none⟩ (.int .i64 (q1 : Int))).heap.size := fun b hb => Nat.lt_of_lt_of_le (hS b hb) hO2.size
      obtain ⟨q2, HQ2⟩ : ∃ q2 : Nat, Hid (q2 = q1 + 1) := ⟨_, Lib.hid rfl⟩
      have hw2 : IntKind.i64.wrap ((q1 : Int) + 1) = (q2 : Int) := by have e1 := HQ1.out; have e2 := HQ2.out; rw [IntKind.wrap_i64]; omega
      clear hc1 hf1 hu1 hv1
      go_wp2_with fail
      generalize hWW : ((((wr).setCell ⟨g, j * 3, none⟩ (.int .i64 (q0 : Int)))).setCell ⟨g, j * 3 + 1, none⟩ (.int .i64 (q1 : Int))) = wq at *
      clear hWW
      refine (markText_any q2 wq (by have e1 := HQ1.out; have e2 := HQ2.out; omega)).mono ?_
      rintro e v2 ⟨rfl, hbv⟩
      have h2b := h2.next hbv hS2
      have hO2b := hO2.trans (Only.of_below hbv)
      obtain ⟨cs2, N2, hSg2, -, hgl2, hN2, hNg2, hv2, hc2, hf2, hu2⟩ := h2b.inn rfl HX2.out
      obtain ⟨rfl, htx2⟩ := sepDp_cells hv2
      have c2 : v2.cell? ⟨g, j * 3 + 2, none⟩ = some (.string x.tx) := hc2 2 _ rfl
      have f2 := hf2 (j * 3 + 2)
      have hsz2 : (mtext q2).size ≤ maxLen := by
        have e1 := HQ1.out
        have e2 := HQ2.out
        have := mtext_size q2
        simp only [maxLen]
        omega
      have h3 : SSl 62 sepDp lo S (v2.setCell ⟨g, j * 3 + 2, none⟩ (.string (mtext q2))) (some ⟨g, 0, none⟩) n c (((L0.set j (⟨(q0 : Int), x.sz, x.tx⟩ : Dp)).set j (⟨(q0 : Int), (q1 : Int), x.tx⟩ : Dp)).set j ⟨(q0 : Int), (q1 : Int), mtext q2⟩) := h2b.own rfl HX2.out 2 (.string (mtext q2)) ⟨(q0 : Int), (q1 : Int), mtext q2⟩ (by decide) (fun N cs hv hg => sepDp_put2 _ hsz2 hv hg)
      have hO3 : Only S w (v2.setCell ⟨g, j * 3 + 2, none⟩ (.string (mtext q2))) := hO2b.set hSg2 _
      obtain ⟨q3, HQ3⟩ : ∃ q3 : Nat, Hid (q3 = q2 + 1) := ⟨_, Lib.hid rfl⟩
      have hw3 : IntKind.i64.wrap ((q2 : Int) + 1) = (q3 : Int) := by have e1 := HQ1.out; have e2 := HQ2.out; have e3 := HQ3.out; rw [IntKind.wrap_i64]; omega
      clear hc2 hf2 hu2 hv2
      have hX : (⟨(q0 : Int), (q1 : Int), mtext q2⟩ : Dp) = mkDp q0 x := by have e1 := HQ1.out; have e2 := HQ2.out; have e3 := HQ3.out; subst e1; subst e2; subst e3; rfl
      have hE : q3 = q0 + szDp x := by have e1 := HQ1.out; have e2 := HQ2.out; have e3 := HQ3.out; unfold szDp; omega
      have hEnd : SSl 62 sepDp lo S (v2.setCell ⟨g, j * 3 + 2, none⟩ (.string (mtext q2))) (some ⟨g, 0, none⟩) n c (stL mkDp szDp k xs (j + 1)) := by
        have hh := h3
        simp only [List.set_set, hX, HST.out] at hh
        exact hh
      have HEND := Lib.hid hEnd
      have HE := Lib.hid hE
      clear hEnd hE hX
      go_wp2_with fail
      go_roundw
      case rel => exact ⟨j + 1, by omega, by go_num, by rw [HCN.out, ← HE.out], HEND.out, hO3⟩
      case measure => simp [intOf]; omega
    · obtain rfl : j = n := by omega
      go_wp2_with fail
      go_ret
      exact ⟨by rw [cnL_all hl]; rfl, by rw [← stL_all hl]; exact h0, hO0⟩
set_option maxRecDepth 100000 in
set_option maxHeartbeats 3200000 in
theorem heldOpS_s (A : Option Addr) (n c : Nat) (xs : List Dp) (k : Nat) (w : World) (h : RSl repDp 0 w A n (markL mkDp szDp k xs)) (hn : n ≤ maxLen) (hk : k + szL szDp xs ≤ 9000000000000000000) :
    Calls Try.prog 49 #[.slice A n c, .int .i64 (k : Int)] w fun e w' => e = .returned (.int .i64 ((k + szL szDp xs : Nat) : Int)) ∧ Below w.heap.size w w' := by
  have hl : xs.length = n := by have := h.1; rwa [markL_len] at this
  unfold maxLen at hn
  go_enter Try.func49, Try.ntmps49
  go_wp2_with fail
  go_loopw [1, 5] (fun q i wr => ∃ j : Nat, j ≤ n ∧ i = .int .i64 j ∧ q = .int .i64 ((cnL szDp k xs j : Nat) : Int) ∧ Below w.heap.size w wr) (fun _ i _ => n - (intOf i).toNat)
  case atStart => exact ⟨0, Nat.zero_le _, rfl, by rw [cnL_zero], Below.refl _ _⟩
  case round =>
    obtain ⟨j, hj, rfl, rfl, hbr⟩ := hrel
    by_cases hlt : j < n
    · obtain ⟨x, hx⟩ : ∃ x, xs[j]? = some x := ⟨_, List.getElem?_eq_getElem (by omega)⟩
      obtain ⟨b, off, y, cs, rfl, hb, hy, hc, hv⟩ := (h.next hbr).at_ hlt
      have hy2 : y = mkDp (cnL szDp k xs j) x := by
        rw [markL_get hx] at hy
        injection hy with hy
        exact hy.symm
      subst hy2
      have HCN := Lib.hid (cnL_succ (sz := szDp) (k := k) hx)
      have hroom := cnL_room (sz := szDp) (k := k) hx
      rw [show szDp x = 1 + 1 + 1 from rfl] at hroom
      clear hx hy
      generalize cnL szDp k xs j = q0 at *
      obtain ⟨rfl, htx⟩ := repDp_cells hv
      have c0 : wr.cell? ⟨b, off + j * 3, none⟩ = some (.int .i64 ((q0 : Nat) : Int)) := hc 0 _ rfl
      have c1 : wr.cell? ⟨b, off + j * 3 + 1, none⟩ = some (.int .i64 ((q0 + 1 : Nat) : Int)) := hc 1 _ rfl
      have c2 : wr.cell? ⟨b, off + j * 3 + 1 + 1, none⟩ = some (.string (mtext (q0 + 1 + 1))) := hc 2 _ rfl
      obtain ⟨q1, hq1⟩ : ∃ q1 : Nat, q1 = q0 + 1 := ⟨_, rfl⟩
      obtain ⟨q2, hq2⟩ : ∃ q2 : Nat, q2 = q1 + 1 := ⟨_, rfl⟩
      obtain ⟨q3, hq3⟩ : ∃ q3 : Nat, q3 = q2 + 1 := ⟨_, rfl⟩
      rw [show q0 + 1 = q1 by omega] at c1
      rw [show q0 + 1 + 1 = q2 by omega] at c2
      have hw1 : IntKind.i64.wrap ((q0 : Int) + 1) = (q1 : Int) := by rw [IntKind.wrap_i64]; omega
      have hx0 : ((q0 : Int) != (q0 : Int)) = false := by simp
      have hw2 : IntKind.i64.wrap ((q1 : Int) + 1) = (q2 : Int) := by rw [IntKind.wrap_i64]; omega
      have hx1 : ((q1 : Int) != (q1 : Int)) = false := by simp
      have hw3 : IntKind.i64.wrap ((q2 : Int) + 1) = (q3 : Int) := by rw [IntKind.wrap_i64]; omega
      have HE := Lib.hid (show q3 = q0 + szDp x by unfold szDp; omega)
      have HQ1 := Lib.hid hq1
      have HQ2 := Lib.hid hq2
      have HQ3 := Lib.hid hq3
      have hbnd : q3 ≤ 9000000000000000000 := by omega
      clear hc hv hroom hq1 hq2 hq3
      have g2 := cell_regrown c2
      have g2' := cell_regrown (show wr.cell? ⟨b, off + j * 3 + 2, none⟩ = some (.string (mtext q2)) from c2)
      have hq2b : q2 ≤ 9000000000000000000 := by have e3 := HQ3.out; omega
      clear c2
      go_wp2_with fail
      refine wp_region_ext (by kernel_rfl) (by kernel_rfl) ?_
      repeat (go_big_quiet_step ((go_at_call 46; exact rg_below (markText_any q2 _ hq2b))))
      refine wpQuiet_nil ?_
      intro w5 hb5
      go_wp2_with fail
      go_roundw
      case rel => exact ⟨j + 1, by omega, by go_num, by rw [HCN.out, ← HE.out], below_ext hbr hb5⟩
      case measure => simp [intOf]; omega
    · obtain rfl : j = n := by omega
      go_wp2_with fail
      go_ret
      exact ⟨by rw [cnL_all hl]; rfl, hbr⟩
def mkPe (k : Nat) (x : Pe) : Pe := ⟨((k : Nat) : Int), markL mkI szI1 (k + 1) x.xs, ((k + 1 + szL szI1 x.xs : Nat) : Int), markL mkDp szDp (k + 1 + szL szI1 x.xs + 1) x.ops⟩
def szPe (x : Pe) : Nat := 1 + szL szI1 x.xs + 1 + szL szDp x.ops
theorem sepPe_put0 {lo g o : Nat} {N : Nat → Prop} {w : World} {cs : List Value} {x : Pe} (u : Int) (h : sepPe.V lo N w cs x) (hg : ¬ N g) : sepPe.V lo N (w.setCell ⟨g, o, none⟩ (.int .i64 u)) (cs.set 0 (.int .i64 u)) ⟨u, x.xs, x.b, x.ops⟩ := by
  obtain ⟨U0, m0, d0, U1, m1, d1, S1, S2, rfl, q1, q2, q3, x0, x1⟩ := sepPe_cells h
  exact sepPe_mk (x := ⟨u, x.xs, x.b, x.ops⟩) q1 q2 q3 (x0.kept (fun b hb => Below.heap_setCell _ ⟨g, o, none⟩ _ b (fun e => hg (by have e' : b = g := e; exact e' ▸ q1 b hb)))) (x1.kept (fun b hb => Below.heap_setCell _ ⟨g, o, none⟩ _ b (fun e => hg (by have e' : b = g := e; exact e' ▸ q2 b hb))))
theorem sepPe_put2 {lo g o : Nat} {N : Nat → Prop} {w : World} {cs : List Value} {x : Pe} (u : Int) (h : sepPe.V lo N w cs x) (hg : ¬ N g) : sepPe.V lo N (w.setCell ⟨g, o, none⟩ (.int .i64 u)) (cs.set 2 (.int .i64 u)) ⟨x.k, x.xs, u, x.ops⟩ := by
  obtain ⟨U0, m0, d0, U1, m1, d1, S1, S2, rfl, q1, q2, q3, x0, x1⟩ := sepPe_cells h
  exact sepPe_mk (x := ⟨x.k, x.xs, u, x.ops⟩) q1 q2 q3 (x0.kept (fun b hb => Below.heap_setCell _ ⟨g, o, none⟩ _ b (fun e => hg (by have e' : b = g := e; exact e' ▸ q1 b hb)))) (x1.kept (fun b hb => Below.heap_setCell _ ⟨g, o, none⟩ _ b (fun e => hg (by have e' : b = g := e; exact e' ▸ q2 b hb))))
set_option maxRecDepth 100000 in
set_option maxHeartbeats 3200000 in
theorem markPackEntryS_s (S : Nat → Prop) (lo : Nat) (A : Option Addr) (n c : Nat) (xs : List Pe) (k : Nat) (w : World) (h : SSl 32 sepPe lo S w A n c xs) (hS : ∀ b, S b → b < w.heap.size) (hk : k + szL szPe xs ≤ 9000000000000000000) :
    Calls Try.prog 24 #[.slice A n c, .int .i64 (k : Int)] w fun e w' => e = .returned (.int .i64 ((k + szL szPe xs : Nat) : Int)) ∧ SSl 32 sepPe lo S w' A n c (markL mkPe szPe k xs) ∧ Only S w w' := by
  have hl := h.1
  have hnm := h.small
  unfold maxLen at hnm
  go_enter Try.func24, Try.ntmps24
  go_wp2_with fail
  go_loopw [1, 5] (fun q i wr => ∃ j : Nat, j ≤ n ∧ i = .int .i64 j ∧ q = .int .i64 ((cnL szPe k xs j : Nat) : Int) ∧ SSl 32 sepPe lo S wr A n c (stL mkPe szPe k xs j) ∧ Only S w wr) (fun _ i _ => n - (intOf i).toNat)
  case atStart => exact ⟨0, Nat.zero_le _, rfl, by rw [cnL_zero], by rw [stL_zero]; exact h, Only.refl _ _⟩
  case round =>
    obtain ⟨j, hj, rfl, rfl, h0, hO0⟩ := hrel
    by_cases hlt : j < n
    · obtain ⟨g, rfl⟩ : ∃ g, A = some ⟨g, 0, none⟩ := by
        obtain ⟨g, _, _, _, e, _⟩ := h0.inner hlt
        exact ⟨g, e⟩
      obtain ⟨x, hx⟩ : ∃ x, xs[j]? = some x := ⟨_, List.getElem?_eq_getElem (by omega)⟩
      have HX0 := Lib.hid (show (stL mkPe szPe k xs j)[j]? = some x by rw [stL_get]; exact hx)
      have HST := Lib.hid (stL_set (mk := mkPe) (sz := szPe) (k := k) hx)
      have HCN := Lib.hid (cnL_succ (sz := szPe) (k := k) hx)
      have hroom := cnL_room (sz := szPe) (k := k) hx
      rw [show szPe x = 1 + szL szI1 x.xs + 1 + szL szDp x.ops from rfl] at hroom
      have hS0 := fun b hb => Nat.lt_of_lt_of_le (hS b hb) hO0.size
      clear hx
      generalize stL mkPe szPe k xs j = L0 at *
      generalize cnL szPe k xs j = q0 at *
      obtain ⟨cs0, N0, hSg0, -, hgl0, hN0, hNg0, hv0, hc0, hf0, hu0⟩ := h0.inn rfl HX0.out
      obtain ⟨U0_0, m0_0, d0_0, U1_0, m1_0, d1_0, S1_0, S2_0, rfl, q1_0, q2_0, q3_0, y0_0, y0_1⟩ := sepPe_cells hv0
      have c0 : (wr).cell? ⟨g, j * 4, none⟩ = some (.int .i64 x.k) := hc0 0 _ rfl
      have f0 := hf0 (j * 4)
      have h1 : SSl 32 sepPe lo S ((wr).setCell ⟨g, j * 4, none⟩ (.int .i64 (q0 : Int))) (some ⟨g, 0, none⟩) n c (L0.set j ⟨(q0 : Int), x.xs, x.b, x.ops⟩) := h0.own rfl HX0.out 0 (.int .i64 (q0 : Int)) ⟨(q0 : Int), x.xs, x.b, x.ops⟩ (by decide) (fun N cs hv hg => sepPe_put0 _ hv hg)
      have HX1 := Lib.hid (show (L0.set j (⟨(q0 : Int), x.xs, x.b, x.ops⟩ : Pe))[j]? = some ⟨(q0 : Int), x.xs, x.b, x.ops⟩ by rw [List.getElem?_set_self (List.getElem?_eq_some_iff.1 HX0.out).1])
      have hO1 : Only S w ((wr).setCell ⟨g, j * 4, none⟩ (.int .i64 (q0 : Int))) := hO0.set hSg0 _
      have hS1 : ∀ b, S b → b < ((wr).setCell ⟨g, j * 4, none⟩ (.int .i64 (q0 : Int))).heap.size := fun b hb => Nat.lt_of_lt_of_le (hS b hb) hO1.size
      obtain ⟨q1, HQ1⟩ : ∃ q1 : Nat, Hid (q1 = q0 + 1) := ⟨_, Lib.hid rfl⟩
      have hw1 : IntKind.i64.wrap ((q0 : Int) + 1) = (q1 : Int) := by have e1 := HQ1.out; rw [IntKind.wrap_i64]; omega
      clear hc0 hf0 hu0 hv0
      obtain ⟨cs1, N1, hSg1, -, hgl1, hN1, hNg1, hv1, hc1, hf1, hu1⟩ := h1.inn rfl HX1.out
      obtain ⟨U0_1, m0_1, d0_1, U1_1, m1_1, d1_1, S1_1, S2_1, rfl, q1_1, q2_1, q3_1, y1_0, y1_1⟩ := sepPe_cells hv1
      have c1 : (((wr).setCell ⟨g, j * 4, none⟩ (.int .i64 (q0 : Int)))).cell? ⟨g, j * 4 + 1, none⟩ = some (.slice U0_1 m0_1 d0_1) := hc1 1 _ rfl
      clear hc1 hf1
      go_wp2_with fail
      generalize hWW1 : ((wr).setCell ⟨g, j * 4, none⟩ (.int .i64 (q0 : Int))) = w1 at *
      clear hWW1
      refine (markIntS_s S1_1 lo U0_1 m0_1 d0_1 x.xs q1 w1 y1_0 (fun b hb => hS1 b ((fun b hb => hN1 b (q1_1 b hb)) b hb)) (by have e1 := HQ1.out; omega)).mono ?_
      rintro e v1 ⟨rfl, hP1, hR1⟩
      have h2 := hu1 v1 ⟨(q0 : Int), markL mkI szI1 q1 x.xs, x.b, x.ops⟩ (fun b hb hn => hR1.block b (hS1 b hb) (fun h => hn (q1_1 b h))) (sepPe_mk (x := ⟨(q0 : Int), markL mkI szI1 q1 x.xs, x.b, x.ops⟩) q1_1 q2_1 q3_1 hP1 (y1_1.only hR1 (fun b h1 h2 => q3_1 b h2 h1) (fun b hb => hS1 b (hN1 b (q2_1 b hb)))))
      have HX2 := Lib.hid (show ((L0.set j (⟨(q0 : Int), x.xs, x.b, x.ops⟩ : Pe)).set j (⟨(q0 : Int), markL mkI szI1 q1 x.xs, x.b, x.ops⟩ : Pe))[j]? = some ⟨(q0 : Int), markL mkI szI1 q1 x.xs, x.b, x.ops⟩ by rw [List.getElem?_set_self (List.getElem?_eq_some_iff.1 HX1.out).1])
      have hO2 := hO1.trans (hR1.wide (fun b hb => hN1 b (q1_1 b hb)))
      have hS2 : ∀ b, S b → b < v1.heap.size := fun b hb => Nat.lt_of_lt_of_le (hS b hb) hO2.size
      obtain ⟨q2, HQ2⟩ : ∃ q2 : Nat, Hid (q2 = q1 + szL szI1 x.xs) := ⟨_, Lib.hid rfl⟩
      rw [← HQ2.out]
      clear hu1 hv1 hP1 c1
      obtain ⟨cs2, N2, hSg2, -, hgl2, hN2, hNg2, hv2, hc2, hf2, hu2⟩ := h2.inn rfl HX2.out
      obtain ⟨U0_2, m0_2, d0_2, U1_2, m1_2, d1_2, S1_2, S2_2, rfl, q1_2, q2_2, q3_2, y2_0, y2_1⟩ := sepPe_cells hv2
      have c2 : (v1).cell? ⟨g, j * 4 + 2, none⟩ = some (.int .i64 x.b) := hc2 2 _ rfl
      have f2 := hf2 (j * 4 + 2)
      have h3 : SSl 32 sepPe lo S ((v1).setCell ⟨g, j * 4 + 2, none⟩ (.int .i64 (q2 : Int))) (some ⟨g, 0, none⟩) n c (((L0.set j (⟨(q0 : Int), x.xs, x.b, x.ops⟩ : Pe)).set j (⟨(q0 : Int), markL mkI szI1 q1 x.xs, x.b, x.ops⟩ : Pe)).set j ⟨(q0 : Int), markL mkI szI1 q1 x.xs, (q2 : Int), x.ops⟩) := h2.own rfl HX2.out 2 (.int .i64 (q2 : Int)) ⟨(q0 : Int), markL mkI szI1 q1 x.xs, (q2 : Int), x.ops⟩ (by decide) (fun N cs hv hg => sepPe_put2 _ hv hg)
      have HX3 := Lib.hid (show (((L0.set j (⟨(q0 : Int), x.xs, x.b, x.ops⟩ : Pe)).set j (⟨(q0 : Int), markL mkI szI1 q1 x.xs, x.b, x.ops⟩ : Pe)).set j (⟨(q0 : Int), markL mkI szI1 q1 x.xs, (q2 : Int), x.ops⟩ : Pe))[j]? = some ⟨(q0 : Int), markL mkI szI1 q1 x.xs, (q2 : Int), x.ops⟩ by rw [List.getElem?_set_self (List.getElem?_eq_some_iff.1 HX2.out).1])
      have hO3 : Only S w ((v1).setCell ⟨g, j * 4 + 2, none⟩ (.int .i64 (q2 : Int))) := hO2.set hSg2 _
      have hS3 : ∀ b, S b → b < ((v1).setCell ⟨g, j * 4 + 2, none⟩ (.int .i64 (q2 : Int))).heap.size := fun b hb => Nat.lt_of_lt_of_le (hS b hb) hO3.size
      obtain ⟨q3, HQ3⟩ : ∃ q3 : Nat, Hid (q3 = q2 + 1) := ⟨_, Lib.hid rfl⟩
      have hw3 : IntKind.i64.wrap ((q2 : Int) + 1) = (q3 : Int) := by have e1 := HQ1.out; have e2 := HQ2.out; have e3 := HQ3.out; rw [IntKind.wrap_i64]; omega
      clear hc2 hf2 hu2 hv2
      obtain ⟨cs3, N3, hSg3, -, hgl3, hN3, hNg3, hv3, hc3, hf3, hu3⟩ := h3.inn rfl HX3.out
      obtain ⟨U0_3, m0_3, d0_3, U1_3, m1_3, d1_3, S1_3, S2_3, rfl, q1_3, q2_3, q3_3, y3_0, y3_1⟩ := sepPe_cells hv3
      have c3 : (((v1).setCell ⟨g, j * 4 + 2, none⟩ (.int .i64 (q2 : Int)))).cell? ⟨g, j * 4 + 3, none⟩ = some (.slice U1_3 m1_3 d1_3) := hc3 3 _ rfl
      have c3_ : (((v1).setCell ⟨g, j * 4 + 2, none⟩ (.int .i64 (q2 : Int)))).cell? ⟨g, j * 4 + 1 + 1 + 1, none⟩ = some (.slice U1_3 m1_3 d1_3) := hc3 3 _ rfl
      clear hc3 hf3
      go_wp2_with fail
      generalize hWW3 : ((v1).setCell ⟨g, j * 4 + 2, none⟩ (.int .i64 (q2 : Int))) = w3 at *
      clear hWW3
      refine (markOpS_s S2_3 lo U1_3 m1_3 d1_3 x.ops q3 w3 y3_1 (fun b hb => hS3 b ((fun b hb => hN3 b (q2_3 b hb)) b hb)) (by have e1 := HQ1.out; have e2 := HQ2.out; have e3 := HQ3.out; omega)).mono ?_
      rintro e v3 ⟨rfl, hP3, hR3⟩
      have h4 := hu3 v3 ⟨(q0 : Int), markL mkI szI1 q1 x.xs, (q2 : Int), markL mkDp szDp q3 x.ops⟩ (fun b hb hn => hR3.block b (hS3 b hb) (fun h => hn (q2_3 b h))) (sepPe_mk (x := ⟨(q0 : Int), markL mkI szI1 q1 x.xs, (q2 : Int), markL mkDp szDp q3 x.ops⟩) q1_3 q2_3 q3_3 (y3_0.only hR3 (fun b h1 h2 => q3_3 b h1 h2) (fun b hb => hS3 b (hN3 b (q1_3 b hb)))) hP3)
      have HX4 := Lib.hid (show ((((L0.set j (⟨(q0 : Int), x.xs, x.b, x.ops⟩ : Pe)).set j (⟨(q0 : Int), markL mkI szI1 q1 x.xs, x.b, x.ops⟩ : Pe)).set j (⟨(q0 : Int), markL mkI szI1 q1 x.xs, (q2 : Int), x.ops⟩ : Pe)).set j (⟨(q0 : Int), markL mkI szI1 q1 x.xs, (q2 : Int), markL mkDp szDp q3 x.ops⟩ : Pe))[j]? = some ⟨(q0 : Int), markL mkI szI1 q1 x.xs, (q2 : Int), markL mkDp szDp q3 x.ops⟩ by rw [List.getElem?_set_self (List.getElem?_eq_some_iff.1 HX3.out).1])
      have hO4 := hO3.trans (hR3.wide (fun b hb => hN3 b (q2_3 b hb)))
      have hS4 : ∀ b, S b → b < v3.heap.size := fun b hb => Nat.lt_of_lt_of_le (hS b hb) hO4.size
      obtain ⟨q4, HQ4⟩ : ∃ q4 : Nat, Hid (q4 = q3 + szL szDp x.ops) := ⟨_, Lib.hid rfl⟩
      rw [← HQ4.out]
      clear hu3 hv3 hP3 c3
      have hX : (⟨(q0 : Int), markL mkI szI1 q1 x.xs, (q2 : Int), markL mkDp szDp q3 x.ops⟩ : Pe) = mkPe q0 x := by have e1 := HQ1.out; have e2 := HQ2.out; have e3 := HQ3.out; have e4 := HQ4.out; subst e1; subst e2; subst e3; subst e4; rfl
      have hE : q4 = q0 + szPe x := by have e1 := HQ1.out; have e2 := HQ2.out; have e3 := HQ3.out; have e4 := HQ4.out; unfold szPe; omega
      have hEnd : SSl 32 sepPe lo S v3 (some ⟨g, 0, none⟩) n c (stL mkPe szPe k xs (j + 1)) := by
        have hh := h4
        simp only [List.set_set, hX, HST.out] at hh
        exact hh
      have HEND := Lib.hid hEnd
      have HE := Lib.hid hE
      clear hEnd hE hX
      go_wp2_with fail
      go_roundw
      case rel => exact ⟨j + 1, by omega, by go_num, by rw [HCN.out, ← HE.out], HEND.out, hO4⟩
      case measure => simp [intOf]; omega
    · obtain rfl : j = n := by omega
      go_wp2_with fail
      go_ret
      exact ⟨by rw [cnL_all hl]; rfl, by rw [← stL_all hl]; exact h0, hO0⟩
set_option maxRecDepth 100000 in
set_option maxHeartbeats 3200000 in
theorem heldPackEntryS_s (A : Option Addr) (n c : Nat) (xs : List Pe) (k : Nat) (w : World) (h : RSl repPe 0 w A n (markL mkPe szPe k xs)) (hn : n ≤ maxLen) (hk : k + szL szPe xs ≤ 9000000000000000000) :
    Calls Try.prog 25 #[.slice A n c, .int .i64 (k : Int)] w fun e w' => e = .returned (.int .i64 ((k + szL szPe xs : Nat) : Int)) ∧ Below w.heap.size w w' := by
  have hl : xs.length = n := by have := h.1; rwa [markL_len] at this
  unfold maxLen at hn
  go_enter Try.func25, Try.ntmps25
  go_wp2_with fail
  go_loopw [1, 5] (fun q i wr => ∃ j : Nat, j ≤ n ∧ i = .int .i64 j ∧ q = .int .i64 ((cnL szPe k xs j : Nat) : Int) ∧ Below w.heap.size w wr) (fun _ i _ => n - (intOf i).toNat)
  case atStart => exact ⟨0, Nat.zero_le _, rfl, by rw [cnL_zero], Below.refl _ _⟩
  case round =>
    obtain ⟨j, hj, rfl, rfl, hbr⟩ := hrel
    by_cases hlt : j < n
    · obtain ⟨x, hx⟩ : ∃ x, xs[j]? = some x := ⟨_, List.getElem?_eq_getElem (by omega)⟩
      obtain ⟨b, off, y, cs, rfl, hb, hy, hc, hv⟩ := (h.next hbr).at_ hlt
      have hy2 : y = mkPe (cnL szPe k xs j) x := by
        rw [markL_get hx] at hy
        injection hy with hy
        exact hy.symm
      subst hy2
      have HCN := Lib.hid (cnL_succ (sz := szPe) (k := k) hx)
      have hroom := cnL_room (sz := szPe) (k := k) hx
      rw [show szPe x = 1 + szL szI1 x.xs + 1 + szL szDp x.ops from rfl] at hroom
      clear hx hy
      generalize cnL szPe k xs j = q0 at *
      obtain ⟨B1, m1, d1, B3, m3, d3, rfl, hr1, hm1, hr3, hm3⟩ := repPe_cells hv
      have c0 : wr.cell? ⟨b, off + j * 4, none⟩ = some (.int .i64 ((q0 : Nat) : Int)) := hc 0 _ rfl
      have c1 : wr.cell? ⟨b, off + j * 4 + 1, none⟩ = some (.slice B1 m1 d1) := hc 1 _ rfl
      have c2 : wr.cell? ⟨b, off + j * 4 + 1 + 1, none⟩ = some (.int .i64 ((q0 + 1 + szL szI1 x.xs : Nat) : Int)) := hc 2 _ rfl
      have c3 : wr.cell? ⟨b, off + j * 4 + 1 + 1 + 1, none⟩ = some (.slice B3 m3 d3) := hc 3 _ rfl
      obtain ⟨q1, hq1⟩ : ∃ q1 : Nat, q1 = q0 + 1 := ⟨_, rfl⟩
      obtain ⟨q2, hq2⟩ : ∃ q2 : Nat, q2 = q1 + szL szI1 x.xs := ⟨_, rfl⟩
      obtain ⟨q3, hq3⟩ : ∃ q3 : Nat, q3 = q2 + 1 := ⟨_, rfl⟩
      obtain ⟨q4, hq4⟩ : ∃ q4 : Nat, q4 = q3 + szL szDp x.ops := ⟨_, rfl⟩
      rw [show q0 + 1 + szL szI1 x.xs = q2 by omega] at c2
      have hr1_ : RSl repInt 0 wr B1 m1 (markL mkI szI1 q1 x.xs) := by have hh := hr1; unfold mkPe at hh; simpa only [show q0 + 1 = q1 by omega] using hh
      have hr3_ : RSl repDp 0 wr B3 m3 (markL mkDp szDp q3 x.ops) := by have hh := hr3; unfold mkPe at hh; simpa only [show q0 + 1 + szL szI1 x.xs + 1 = q3 by omega] using hh
      have hw1 : IntKind.i64.wrap ((q0 : Int) + 1) = (q1 : Int) := by rw [IntKind.wrap_i64]; omega
      have hx0 : ((q0 : Int) != (q0 : Int)) = false := by simp
      have hg2 : decide ((q2 : Int) < 0) = false := by simp
      have hw3 : IntKind.i64.wrap ((q2 : Int) + 1) = (q3 : Int) := by rw [IntKind.wrap_i64]; omega
      have hx2 : ((q2 : Int) != (q2 : Int)) = false := by simp
      have hg4 : decide ((q4 : Int) < 0) = false := by simp
      have HE := Lib.hid (show q4 = q0 + szPe x by unfold szPe; omega)
      have HQ1 := Lib.hid hq1
      have HQ2 := Lib.hid hq2
      have HQ3 := Lib.hid hq3
      have HQ4 := Lib.hid hq4
      have hbnd : q4 ≤ 9000000000000000000 := by omega
      clear hc hv hroom hr1 hr3 hq1 hq2 hq3 hq4
      go_wp2_with fail
      refine (heldIntS_s B1 m1 d1 x.xs q1 _ hr1_ hm1 (by have := HQ2.out; have e2 := HQ2.out; have e3 := HQ3.out; have e4 := HQ4.out; omega)).mono ?_
      rw [← HQ2.out]
      rintro e w0 ⟨rfl, hb0⟩
      have c2_0 : w0.cell? ⟨b, off + j * 4 + 1 + 1, none⟩ = some (.int .i64 (q2 : Int)) := (hb0.cell (p := ⟨b, off + j * 4 + 1 + 1, none⟩) (by exact hb)).trans c2
      have c3_0 : w0.cell? ⟨b, off + j * 4 + 1 + 1 + 1, none⟩ = some (.slice B3 m3 d3) := (hb0.cell (p := ⟨b, off + j * 4 + 1 + 1 + 1, none⟩) (by exact hb)).trans c3
      have hbr0 := below_ext hbr hb0
      go_wp2_with fail
      refine (heldOpS_s B3 m3 d3 x.ops q3 _ (hr3_.next hb0) hm3 (by have := HQ4.out; have e4 := HQ4.out; omega)).mono ?_
      rw [← HQ4.out]
      rintro e w1 ⟨rfl, hb1⟩
      have hbr1 := below_ext hbr0 hb1
      go_wp2_with fail
      go_roundw
      case rel => exact ⟨j + 1, by omega, by go_num, by rw [HCN.out, ← HE.out], hbr1⟩
      case measure => simp [intOf]; omega
    · obtain rfl : j = n := by omega
      go_wp2_with fail
      go_ret
      exact ⟨by rw [cnL_all hl]; rfl, hbr⟩
end Go.Proofs.Ytkekcgamhhmjnaa
