/- Walks: the laws' marks, written and looked for. -/
import Derived.Test.YtlmcejpjhdaanaaMarkG
import Derived.Test.YtlmcejpjhdaanaaSepC
import Derived.Test.YtlmcejpjhdaanaaDataC
namespace Go.Proofs.Ytlmcejpjhdaanaa
open Go.RowKit Go.Sort

set_option maxHeartbeats 1600000 in
theorem markIntS_s (S : Nat → Prop) (lo : Nat) (A : Option Addr) (n c : Nat) (xs : List Int) (k : Nat) (w : World) (h : SSl 3 sepInt lo S w A n c xs) (_hS : ∀ b, S b → b < w.heap.size) (hk : k + szL szI1 xs ≤ 9000000000000000000) :
    Calls Try.prog 27 #[.slice A n c, .int .i64 (k : Int)] w fun e w' => e = .returned (.int .i64 ((k + szL szI1 xs : Nat) : Int)) ∧ SSl 3 sepInt lo S w' A n c (markL mkI szI1 k xs) ∧ Only S w w' := by
  have hl := h.1
  have hnm := h.small
  unfold maxLen at hnm
  go_enter Try.func27, Try.ntmps27
  go_wp2_with fail
  go_loopw [1, 5] (fun q i wr => ∃ j : Nat, j ≤ n ∧ i = .int .i64 j ∧ q = .int .i64 ((cnL szI1 k xs j : Nat) : Int) ∧ SSl 3 sepInt lo S wr A n c (stL mkI szI1 k xs j) ∧ Only S w wr) (fun _ i _ => n - (intOf i).toNat)
  case atStart => exact ⟨0, Nat.zero_le _, rfl, by rw [cnL_zero], by rw [stL_zero]; exact h, Only.refl _ _⟩
  case round =>
    obtain ⟨j, hj, rfl, rfl, h0, hO0⟩ := hrel
    by_cases hlt : j < n
    · obtain ⟨g, rfl⟩ : ∃ g, A = some ⟨g, 0, none⟩ := by
        obtain ⟨g, _, _, _, e, _⟩ := h0.inner hlt
        exact ⟨g, e⟩
      obtain ⟨x, hx⟩ : ∃ x, xs[j]? = some x := ⟨_, List.getElem?_eq_getElem (by omega)⟩
      have HX0 := Lib.hid (show (stL mkI szI1 k xs j)[j]? = some x by rw [stL_get]; exact hx)
      have HST := Lib.hid (stL_set (mk := mkI) (sz := szI1) (k := k) hx)
      have HCN := Lib.hid (cnL_succ (sz := szI1) (k := k) hx)
      have hroom := cnL_room (sz := szI1) (k := k) hx
      rw [show szI1 x = 1 from rfl] at hroom
      clear hx
      generalize stL mkI szI1 k xs j = L0 at *
      generalize cnL szI1 k xs j = q0 at *
      obtain ⟨cs, N, hSg, -, hgl, hN, hNg, hv, hc, hf, -⟩ := h0.inn rfl HX0.out
      have hv' : cs = [.int .i64 x] := hv
      subst hv'
      have c0 : wr.cell? ⟨g, j, none⟩ = some (.int .i64 x) := by
        have := hc 0 _ rfl
        simpa [sepInt, repInt] using this
      have f0 := hf j
      have hEnd : SSl 3 sepInt lo S (wr.setCell ⟨g, j, none⟩ (.int .i64 (q0 : Int))) (some ⟨g, 0, none⟩) n c (stL mkI szI1 k xs (j + 1)) := by
        have hh := h0.own rfl HX0.out 0 (.int .i64 (q0 : Int)) (mkI q0 x) (by decide) (fun N cs hv hg => by
          have hv' : cs = [.int .i64 x] := hv
          subst hv'
          rfl)
        rw [HST.out] at hh
        simpa [sepInt, repInt] using hh
      have HEND := Lib.hid hEnd
      have hO1 := hO0.set (i := j) hSg (.int .i64 (q0 : Int))
      have hw1 : IntKind.i64.wrap ((q0 : Int) + 1) = ((q0 + 1 : Nat) : Int) := by rw [IntKind.wrap_i64]; omega
      clear hc hf hv hEnd
      go_wp2_with fail
      go_roundw
      case rel => exact ⟨j + 1, by omega, by go_num, by rw [HCN.out]; rfl, HEND.out, hO1⟩
      case measure => simp [intOf]; omega
    · obtain rfl : j = n := by omega
      go_wp2_with fail
      go_ret
      exact ⟨by rw [cnL_all hl]; rfl, by rw [← stL_all hl]; exact h0, hO0⟩
theorem markIntWS_s (S : Nat → Prop) (lo : Nat) (A : Option Addr) (n c : Nat) (xs : List Int) (k : Nat) (w : World) (h : SSl 3 sepIntW lo S w A n c xs) (hS : ∀ b, S b → b < w.heap.size) (hk : k + szL szI1 xs ≤ 9000000000000000000) :
    Calls Try.prog 27 #[.slice A n c, .int .i64 (k : Int)] w fun e w' => e = .returned (.int .i64 ((k + szL szI1 xs : Nat) : Int)) ∧ SSl 3 sepIntW lo S w' A n c (markL mkI szI1 k xs) ∧ Only S w w' :=
  (markIntS_s S lo A n c xs k w h.plainW.1 hS hk).mono fun _ _ ⟨h1, h2, h3⟩ => ⟨h1, h2.withW (markI_wf hk), h3⟩
set_option maxHeartbeats 1600000 in
theorem heldIntS_s (A : Option Addr) (n c : Nat) (xs : List Int) (k : Nat) (w : World) (h : RSl repInt 0 w A n (markL mkI szI1 k xs)) (hn : n ≤ maxLen) (hk : k + szL szI1 xs ≤ 9000000000000000000) :
    Calls Try.prog 28 #[.slice A n c, .int .i64 (k : Int)] w fun e w' => e = .returned (.int .i64 ((k + szL szI1 xs : Nat) : Int)) ∧ Below w.heap.size w w' := by
  have hl : xs.length = n := by have := h.1; rwa [markL_len] at this
  have hr := h.rints
  unfold maxLen at hn
  go_enter Try.func28, Try.ntmps28
  go_wp2_with fail
  go_loopw [1, 5] (fun q i wr => ∃ j : Nat, j ≤ n ∧ i = .int .i64 j ∧ q = .int .i64 ((cnL szI1 k xs j : Nat) : Int) ∧ Below w.heap.size w wr) (fun _ i _ => n - (intOf i).toNat)
  case atStart => exact ⟨0, Nat.zero_le _, rfl, by rw [cnL_zero], Below.refl _ _⟩
  case round =>
    obtain ⟨j, hj, rfl, rfl, hbr⟩ := hrel
    by_cases hlt : j < n
    · obtain ⟨x, hx⟩ : ∃ x, xs[j]? = some x := ⟨_, List.getElem?_eq_getElem (by omega)⟩
      obtain ⟨ad, y, rfl, hb, hy, hc⟩ := (hr.next hbr).at_ hlt
      have hy2 : y = ((cnL szI1 k xs j : Nat) : Int) := by
        rw [markL_get hx] at hy
        injection hy with hy
        exact hy.symm
      subst hy2
      have HCN := Lib.hid (cnL_succ (sz := szI1) (k := k) hx)
      have hroom := cnL_room (sz := szI1) (k := k) hx
      rw [show szI1 x = 1 from rfl] at hroom
      clear hx hy
      generalize cnL szI1 k xs j = q0 at *
      have hw1 : IntKind.i64.wrap ((q0 : Int) + 1) = ((q0 + 1 : Nat) : Int) := by rw [IntKind.wrap_i64]; omega
      have hx0 : ((q0 : Int) != (q0 : Int)) = false := by simp
      go_wp2_with fail
      go_roundw
      case rel => exact ⟨j + 1, by omega, by go_num, by rw [HCN.out]; rfl, hbr⟩
      case measure => simp [intOf]; omega
    · obtain rfl : j = n := by omega
      go_wp2_with fail
      go_ret
      exact ⟨by rw [cnL_all hl]; rfl, hbr⟩
theorem heldIntWS_s (A : Option Addr) (n c : Nat) (xs : List Int) (k : Nat) (w : World) (h : RSl repIntW 0 w A n (markL mkI szI1 k xs)) (hn : n ≤ maxLen) (hk : k + szL szI1 xs ≤ 9000000000000000000) :
    Calls Try.prog 28 #[.slice A n c, .int .i64 (k : Int)] w fun e w' => e = .returned (.int .i64 ((k + szL szI1 xs : Nat) : Int)) ∧ Below w.heap.size w w' := heldIntS_s A n c xs k w h.plain hn hk
def mkUp (k : Nat) (_ : Up) : Up := ⟨((k : Nat) : Int), ((k + 1 : Nat) : Int), ((k + 1 + 1 : Nat) : Int)⟩
def szUp (_ : Up) : Nat := 1 + 1 + 1
theorem sepUp_cells {lo : Nat} {S : Nat → Prop} {w : World} {cs : List Value} {x : Up} (h : sepUp.V lo S w cs x) : cs = [.int .i64 x.ref, .int .i64 x.old, .int .i64 x.new] := repUp_cells (sepUp.reads h)
theorem sepUp_put0 {lo g o : Nat} {N : Nat → Prop} {w : World} {cs : List Value} {x : Up} (u : Int) (h : sepUp.V lo N w cs x) (_hg : ¬ N g) : sepUp.V lo N (w.setCell ⟨g, o, none⟩ (.int .i64 u)) (cs.set 0 (.int .i64 u)) ⟨u, x.old, x.new⟩ := by
  obtain rfl := sepUp_cells h
  exact sepUp_mk ⟨u, x.old, x.new⟩
theorem sepUp_put1 {lo g o : Nat} {N : Nat → Prop} {w : World} {cs : List Value} {x : Up} (u : Int) (h : sepUp.V lo N w cs x) (_hg : ¬ N g) : sepUp.V lo N (w.setCell ⟨g, o, none⟩ (.int .i64 u)) (cs.set 1 (.int .i64 u)) ⟨x.ref, u, x.new⟩ := by
  obtain rfl := sepUp_cells h
  exact sepUp_mk ⟨x.ref, u, x.new⟩
theorem sepUp_put2 {lo g o : Nat} {N : Nat → Prop} {w : World} {cs : List Value} {x : Up} (u : Int) (h : sepUp.V lo N w cs x) (_hg : ¬ N g) : sepUp.V lo N (w.setCell ⟨g, o, none⟩ (.int .i64 u)) (cs.set 2 (.int .i64 u)) ⟨x.ref, x.old, u⟩ := by
  obtain rfl := sepUp_cells h
  exact sepUp_mk ⟨x.ref, x.old, u⟩
set_option maxRecDepth 100000 in
set_option maxHeartbeats 3200000 in
theorem markUpdateS_s (S : Nat → Prop) (lo : Nat) (A : Option Addr) (n c : Nat) (xs : List Up) (k : Nat) (w : World) (h : SSl 53 sepUp lo S w A n c xs) (hS : ∀ b, S b → b < w.heap.size) (hk : k + szL szUp xs ≤ 9000000000000000000) :
    Calls Try.prog 99 #[.slice A n c, .int .i64 (k : Int)] w fun e w' => e = .returned (.int .i64 ((k + szL szUp xs : Nat) : Int)) ∧ SSl 53 sepUp lo S w' A n c (markL mkUp szUp k xs) ∧ Only S w w' := by
  have hl := h.1
  have hnm := h.small
  unfold maxLen at hnm
  go_enter Try.func99, Try.ntmps99
  go_wp2_with fail
  go_loopw [1, 5] (fun q i wr => ∃ j : Nat, j ≤ n ∧ i = .int .i64 j ∧ q = .int .i64 ((cnL szUp k xs j : Nat) : Int) ∧ SSl 53 sepUp lo S wr A n c (stL mkUp szUp k xs j) ∧ Only S w wr) (fun _ i _ => n - (intOf i).toNat)
  case atStart => exact ⟨0, Nat.zero_le _, rfl, by rw [cnL_zero], by rw [stL_zero]; exact h, Only.refl _ _⟩
  case round =>
    obtain ⟨j, hj, rfl, rfl, h0, hO0⟩ := hrel
    by_cases hlt : j < n
    · obtain ⟨g, rfl⟩ : ∃ g, A = some ⟨g, 0, none⟩ := by
        obtain ⟨g, _, _, _, e, _⟩ := h0.inner hlt
        exact ⟨g, e⟩
      obtain ⟨x, hx⟩ : ∃ x, xs[j]? = some x := ⟨_, List.getElem?_eq_getElem (by omega)⟩
      have HX0 := Lib.hid (show (stL mkUp szUp k xs j)[j]? = some x by rw [stL_get]; exact hx)
      have HST := Lib.hid (stL_set (mk := mkUp) (sz := szUp) (k := k) hx)
      have HCN := Lib.hid (cnL_succ (sz := szUp) (k := k) hx)
      have hroom := cnL_room (sz := szUp) (k := k) hx
      rw [show szUp x = 1 + 1 + 1 from rfl] at hroom
      have hS0 := fun b hb => Nat.lt_of_lt_of_le (hS b hb) hO0.size
      clear hx
      generalize stL mkUp szUp k xs j = L0 at *
      generalize cnL szUp k xs j = q0 at *
      obtain ⟨cs0, N0, hSg0, -, hgl0, hN0, hNg0, hv0, hc0, hf0, hu0⟩ := h0.inn rfl HX0.out
      obtain rfl := sepUp_cells hv0
      have c0 : (wr).cell? ⟨g, j * 3, none⟩ = some (.int .i64 x.ref) := hc0 0 _ rfl
      have f0 := hf0 (j * 3)
      have h1 : SSl 53 sepUp lo S ((wr).setCell ⟨g, j * 3, none⟩ (.int .i64 (q0 : Int))) (some ⟨g, 0, none⟩) n c (L0.set j ⟨(q0 : Int), x.old, x.new⟩) := h0.own rfl HX0.out 0 (.int .i64 (q0 : Int)) ⟨(q0 : Int), x.old, x.new⟩ (by decide) (fun N cs hv hg => sepUp_put0 _ hv hg)
      have HX1 := Lib.hid (show (L0.set j (⟨(q0 : Int), x.old, x.new⟩ : Up))[j]? = some ⟨(q0 : Int), x.old, x.new⟩ by rw [List.getElem?_set_self (List.getElem?_eq_some_iff.1 HX0.out).1])
      have hO1 : Only S w ((wr).setCell ⟨g, j * 3, none⟩ (.int .i64 (q0 : Int))) := hO0.set hSg0 _
      have hS1 : ∀ b, S b → b < ((wr).setCell ⟨g, j * 3, none⟩ (.int .i64 (q0 : Int))).heap.size := fun b hb => Nat.lt_of_lt_of_le (hS b hb) hO1.size
      obtain ⟨q1, HQ1⟩ : ∃ q1 : Nat, Hid (q1 = q0 + 1) := ⟨_, Lib.hid rfl⟩
      have hw1 : IntKind.i64.wrap ((q0 : Int) + 1) = (q1 : Int) := by have e1 := HQ1.out; rw [IntKind.wrap_i64]; omega
      clear hc0 hf0 hu0 hv0
      obtain ⟨cs1, N1, hSg1, -, hgl1, hN1, hNg1, hv1, hc1, hf1, hu1⟩ := h1.inn rfl HX1.out
      obtain rfl := sepUp_cells hv1
      have c1 : (((wr).setCell ⟨g, j * 3, none⟩ (.int .i64 (q0 : Int)))).cell? ⟨g, j * 3 + 1, none⟩ = some (.int .i64 x.old) := hc1 1 _ rfl
      have f1 := hf1 (j * 3 + 1)
      have h2 : SSl 53 sepUp lo S ((((wr).setCell ⟨g, j * 3, none⟩ (.int .i64 (q0 : Int)))).setCell ⟨g, j * 3 + 1, none⟩ (.int .i64 (q1 : Int))) (some ⟨g, 0, none⟩) n c ((L0.set j (⟨(q0 : Int), x.old, x.new⟩ : Up)).set j ⟨(q0 : Int), (q1 : Int), x.new⟩) := h1.own rfl HX1.out 1 (.int .i64 (q1 : Int)) ⟨(q0 : Int), (q1 : Int), x.new⟩ (by decide) (fun N cs hv hg => sepUp_put1 _ hv hg)
      have HX2 := Lib.hid (show ((L0.set j (⟨(q0 : Int), x.old, x.new⟩ : Up)).set j (⟨(q0 : Int), (q1 : Int), x.new⟩ : Up))[j]? = some ⟨(q0 : Int), (q1 : Int), x.new⟩ by rw [List.getElem?_set_self (List.getElem?_eq_some_iff.1 HX1.out).1])
      have hO2 : Only S w ((((wr).setCell ⟨g, j * 3, none⟩ (.int .i64 (q0 : Int)))).setCell ⟨g, j * 3 + 1, none⟩ (.int .i64 (q1 : Int))) := hO1.set hSg1 _
      have hS2 : ∀ b, S b → b < ((((wr).setCell ⟨g, j * 3, none⟩ (.int .i64 (q0 : Int)))).setCell ⟨g, j * 3 + 1, none⟩ (.int .i64 (q1 : Int))).heap.size := fun b hb => Nat.lt_of_lt_of_le (hS b hb) hO2.size
      obtain ⟨q2, HQ2⟩ : ∃ q2 : Nat, Hid (q2 = q1 + 1) := ⟨_, Lib.hid rfl⟩
      have hw2 : IntKind.i64.wrap ((q1 : Int) + 1) = (q2 : Int) := by have e1 := HQ1.out; have e2 := HQ2.out; rw [IntKind.wrap_i64]; omega
      clear hc1 hf1 hu1 hv1
      obtain ⟨cs2, N2, hSg2, -, hgl2, hN2, hNg2, hv2, hc2, hf2, hu2⟩ := h2.inn rfl HX2.out
      obtain rfl := sepUp_cells hv2
      have c2 : (((((wr).setCell ⟨g, j * 3, none⟩ (.int .i64 (q0 : Int)))).setCell ⟨g, j * 3 + 1, none⟩ (.int .i64 (q1 : Int)))).cell? ⟨g, j * 3 + 2, none⟩ = some (.int .i64 x.new) := hc2 2 _ rfl
      have f2 := hf2 (j * 3 + 2)
      have h3 : SSl 53 sepUp lo S ((((((wr).setCell ⟨g, j * 3, none⟩ (.int .i64 (q0 : Int)))).setCell ⟨g, j * 3 + 1, none⟩ (.int .i64 (q1 : Int)))).setCell ⟨g, j * 3 + 2, none⟩ (.int .i64 (q2 : Int))) (some ⟨g, 0, none⟩) n c (((L0.set j (⟨(q0 : Int), x.old, x.new⟩ : Up)).set j (⟨(q0 : Int), (q1 : Int), x.new⟩ : Up)).set j ⟨(q0 : Int), (q1 : Int), (q2 : Int)⟩) := h2.own rfl HX2.out 2 (.int .i64 (q2 : Int)) ⟨(q0 : Int), (q1 : Int), (q2 : Int)⟩ (by decide) (fun N cs hv hg => sepUp_put2 _ hv hg)
      have HX3 := Lib.hid (show (((L0.set j (⟨(q0 : Int), x.old, x.new⟩ : Up)).set j (⟨(q0 : Int), (q1 : Int), x.new⟩ : Up)).set j (⟨(q0 : Int), (q1 : Int), (q2 : Int)⟩ : Up))[j]? = some ⟨(q0 : Int), (q1 : Int), (q2 : Int)⟩ by rw [List.getElem?_set_self (List.getElem?_eq_some_iff.1 HX2.out).1])
      have hO3 : Only S w ((((((wr).setCell ⟨g, j * 3, none⟩ (.int .i64 (q0 : Int)))).setCell ⟨g, j * 3 + 1, none⟩ (.int .i64 (q1 : Int)))).setCell ⟨g, j * 3 + 2, none⟩ (.int .i64 (q2 : Int))) := hO2.set hSg2 _
      have hS3 : ∀ b, S b → b < ((((((wr).setCell ⟨g, j * 3, none⟩ (.int .i64 (q0 : Int)))).setCell ⟨g, j * 3 + 1, none⟩ (.int .i64 (q1 : Int)))).setCell ⟨g, j * 3 + 2, none⟩ (.int .i64 (q2 : Int))).heap.size := fun b hb => Nat.lt_of_lt_of_le (hS b hb) hO3.size
      obtain ⟨q3, HQ3⟩ : ∃ q3 : Nat, Hid (q3 = q2 + 1) := ⟨_, Lib.hid rfl⟩
      have hw3 : IntKind.i64.wrap ((q2 : Int) + 1) = (q3 : Int) := by have e1 := HQ1.out; have e2 := HQ2.out; have e3 := HQ3.out; rw [IntKind.wrap_i64]; omega
      clear hc2 hf2 hu2 hv2
      have hX : (⟨(q0 : Int), (q1 : Int), (q2 : Int)⟩ : Up) = mkUp q0 x := by have e1 := HQ1.out; have e2 := HQ2.out; have e3 := HQ3.out; subst e1; subst e2; subst e3; rfl
      have hE : q3 = q0 + szUp x := by have e1 := HQ1.out; have e2 := HQ2.out; have e3 := HQ3.out; unfold szUp; omega
      have hEnd : SSl 53 sepUp lo S ((((((wr).setCell ⟨g, j * 3, none⟩ (.int .i64 (q0 : Int)))).setCell ⟨g, j * 3 + 1, none⟩ (.int .i64 (q1 : Int)))).setCell ⟨g, j * 3 + 2, none⟩ (.int .i64 (q2 : Int))) (some ⟨g, 0, none⟩) n c (stL mkUp szUp k xs (j + 1)) := by
        have hh := h3
        simp only [List.set_set, hX, HST.out] at hh
        exact hh
      have HEND := Lib.hid hEnd
      have HE := Lib.hid hE
      clear hEnd hE hX
      go_wp2_with fail
      go_roundw
      case rel => exact ⟨j + 1, by omega, by go_num, by rw [HCN.out, ← HE.out], HEND.out, hO3⟩
      case measure => simp [intOf]; omega
    · obtain rfl : j = n := by omega
      go_wp2_with fail
      go_ret
      exact ⟨by rw [cnL_all hl]; rfl, by rw [← stL_all hl]; exact h0, hO0⟩
set_option maxRecDepth 100000 in
set_option maxHeartbeats 3200000 in
theorem heldUpdateS_s (A : Option Addr) (n c : Nat) (xs : List Up) (k : Nat) (w : World) (h : RSl repUp 0 w A n (markL mkUp szUp k xs)) (hn : n ≤ maxLen) (hk : k + szL szUp xs ≤ 9000000000000000000) :
    Calls Try.prog 100 #[.slice A n c, .int .i64 (k : Int)] w fun e w' => e = .returned (.int .i64 ((k + szL szUp xs : Nat) : Int)) ∧ Below w.heap.size w w' := by
  have hl : xs.length = n := by have := h.1; rwa [markL_len] at this
  unfold maxLen at hn
  go_enter Try.func100, Try.ntmps100
  go_wp2_with fail
  go_loopw [1, 5] (fun q i wr => ∃ j : Nat, j ≤ n ∧ i = .int .i64 j ∧ q = .int .i64 ((cnL szUp k xs j : Nat) : Int) ∧ Below w.heap.size w wr) (fun _ i _ => n - (intOf i).toNat)
  case atStart => exact ⟨0, Nat.zero_le _, rfl, by rw [cnL_zero], Below.refl _ _⟩
  case round =>
    obtain ⟨j, hj, rfl, rfl, hbr⟩ := hrel
    by_cases hlt : j < n
    · obtain ⟨x, hx⟩ : ∃ x, xs[j]? = some x := ⟨_, List.getElem?_eq_getElem (by omega)⟩
      obtain ⟨b, off, y, cs, rfl, hb, hy, hc, hv⟩ := (h.next hbr).at_ hlt
      have hy2 : y = mkUp (cnL szUp k xs j) x := by
        rw [markL_get hx] at hy
        injection hy with hy
        exact hy.symm
      subst hy2
      have HCN := Lib.hid (cnL_succ (sz := szUp) (k := k) hx)
      have hroom := cnL_room (sz := szUp) (k := k) hx
      rw [show szUp x = 1 + 1 + 1 from rfl] at hroom
      clear hx hy
      generalize cnL szUp k xs j = q0 at *
      obtain rfl := repUp_cells hv
      have c0 : wr.cell? ⟨b, off + j * 3, none⟩ = some (.int .i64 ((q0 : Nat) : Int)) := hc 0 _ rfl
      have c1 : wr.cell? ⟨b, off + j * 3 + 1, none⟩ = some (.int .i64 ((q0 + 1 : Nat) : Int)) := hc 1 _ rfl
      have c2 : wr.cell? ⟨b, off + j * 3 + 1 + 1, none⟩ = some (.int .i64 ((q0 + 1 + 1 : Nat) : Int)) := hc 2 _ rfl
      obtain ⟨q1, hq1⟩ : ∃ q1 : Nat, q1 = q0 + 1 := ⟨_, rfl⟩
      obtain ⟨q2, hq2⟩ : ∃ q2 : Nat, q2 = q1 + 1 := ⟨_, rfl⟩
      obtain ⟨q3, hq3⟩ : ∃ q3 : Nat, q3 = q2 + 1 := ⟨_, rfl⟩
      rw [show q0 + 1 = q1 by omega] at c1
      rw [show q0 + 1 + 1 = q2 by omega] at c2
      have hw1 : IntKind.i64.wrap ((q0 : Int) + 1) = (q1 : Int) := by rw [IntKind.wrap_i64]; omega
      have hx0 : ((q0 : Int) != (q0 : Int)) = false := by simp
      have hw2 : IntKind.i64.wrap ((q1 : Int) + 1) = (q2 : Int) := by rw [IntKind.wrap_i64]; omega
      have hx1 : ((q1 : Int) != (q1 : Int)) = false := by simp
      have hw3 : IntKind.i64.wrap ((q2 : Int) + 1) = (q3 : Int) := by rw [IntKind.wrap_i64]; omega
      have hx2 : ((q2 : Int) != (q2 : Int)) = false := by simp
      have HE := Lib.hid (show q3 = q0 + szUp x by unfold szUp; omega)
      have HQ1 := Lib.hid hq1
      have HQ2 := Lib.hid hq2
      have HQ3 := Lib.hid hq3
      have hbnd : q3 ≤ 9000000000000000000 := by omega
      clear hc hv hroom hq1 hq2 hq3
      go_wp2_with fail
      go_roundw
      case rel => exact ⟨j + 1, by omega, by go_num, by rw [HCN.out, ← HE.out], hbr⟩
      case measure => simp [intOf]; omega
    · obtain rfl : j = n := by omega
      go_wp2_with fail
      go_ret
      exact ⟨by rw [cnL_all hl]; rfl, hbr⟩
def mkPt (k : Nat) (x : Pt) : Pt := ⟨((k : Nat) : Int), markL mkUp szUp (k + 1) x.us⟩
def szPt (x : Pt) : Nat := 1 + szL szUp x.us
theorem sepPt_put0 {lo g o : Nat} {N : Nat → Prop} {w : World} {cs : List Value} {x : Pt} (u : Int) (h : sepPt.V lo N w cs x) (hg : ¬ N g) : sepPt.V lo N (w.setCell ⟨g, o, none⟩ (.int .i64 u)) (cs.set 0 (.int .i64 u)) ⟨u, x.us⟩ := by
  obtain ⟨U0, m0, d0, rfl, x0⟩ := sepPt_cells h
  exact sepPt_mk (p := ⟨u, x.us⟩) (x0.kept (fun b hb => Below.heap_setCell _ ⟨g, o, none⟩ _ b (fun e => hg (by have e' : b = g := e; exact e' ▸ hb))))
set_option maxRecDepth 100000 in
set_option maxHeartbeats 3200000 in
theorem markPartS_s (S : Nat → Prop) (lo : Nat) (A : Option Addr) (n c : Nat) (xs : List Pt) (k : Nat) (w : World) (h : SSl 51 sepPt lo S w A n c xs) (hS : ∀ b, S b → b < w.heap.size) (hk : k + szL szPt xs ≤ 9000000000000000000) :
    Calls Try.prog 70 #[.slice A n c, .int .i64 (k : Int)] w fun e w' => e = .returned (.int .i64 ((k + szL szPt xs : Nat) : Int)) ∧ SSl 51 sepPt lo S w' A n c (markL mkPt szPt k xs) ∧ Only S w w' := by
  have hl := h.1
  have hnm := h.small
  unfold maxLen at hnm
  go_enter Try.func70, Try.ntmps70
  go_wp2_with fail
  go_loopw [1, 5] (fun q i wr => ∃ j : Nat, j ≤ n ∧ i = .int .i64 j ∧ q = .int .i64 ((cnL szPt k xs j : Nat) : Int) ∧ SSl 51 sepPt lo S wr A n c (stL mkPt szPt k xs j) ∧ Only S w wr) (fun _ i _ => n - (intOf i).toNat)
  case atStart => exact ⟨0, Nat.zero_le _, rfl, by rw [cnL_zero], by rw [stL_zero]; exact h, Only.refl _ _⟩
  case round =>
    obtain ⟨j, hj, rfl, rfl, h0, hO0⟩ := hrel
    by_cases hlt : j < n
    · obtain ⟨g, rfl⟩ : ∃ g, A = some ⟨g, 0, none⟩ := by
        obtain ⟨g, _, _, _, e, _⟩ := h0.inner hlt
        exact ⟨g, e⟩
      obtain ⟨x, hx⟩ : ∃ x, xs[j]? = some x := ⟨_, List.getElem?_eq_getElem (by omega)⟩
      have HX0 := Lib.hid (show (stL mkPt szPt k xs j)[j]? = some x by rw [stL_get]; exact hx)
      have HST := Lib.hid (stL_set (mk := mkPt) (sz := szPt) (k := k) hx)
      have HCN := Lib.hid (cnL_succ (sz := szPt) (k := k) hx)
      have hroom := cnL_room (sz := szPt) (k := k) hx
      rw [show szPt x = 1 + szL szUp x.us from rfl] at hroom
      have hS0 := fun b hb => Nat.lt_of_lt_of_le (hS b hb) hO0.size
      clear hx
      generalize stL mkPt szPt k xs j = L0 at *
      generalize cnL szPt k xs j = q0 at *
      obtain ⟨cs0, N0, hSg0, -, hgl0, hN0, hNg0, hv0, hc0, hf0, hu0⟩ := h0.inn rfl HX0.out
      obtain ⟨U0_0, m0_0, d0_0, rfl, y0_0⟩ := sepPt_cells hv0
      have c0 : (wr).cell? ⟨g, j * 2, none⟩ = some (.int .i64 x.shard) := hc0 0 _ rfl
      have f0 := hf0 (j * 2)
      have h1 : SSl 51 sepPt lo S ((wr).setCell ⟨g, j * 2, none⟩ (.int .i64 (q0 : Int))) (some ⟨g, 0, none⟩) n c (L0.set j ⟨(q0 : Int), x.us⟩) := h0.own rfl HX0.out 0 (.int .i64 (q0 : Int)) ⟨(q0 : Int), x.us⟩ (by decide) (fun N cs hv hg => sepPt_put0 _ hv hg)
      have HX1 := Lib.hid (show (L0.set j (⟨(q0 : Int), x.us⟩ : Pt))[j]? = some ⟨(q0 : Int), x.us⟩ by rw [List.getElem?_set_self (List.getElem?_eq_some_iff.1 HX0.out).1])
      have hO1 : Only S w ((wr).setCell ⟨g, j * 2, none⟩ (.int .i64 (q0 : Int))) := hO0.set hSg0 _
      have hS1 : ∀ b, S b → b < ((wr).setCell ⟨g, j * 2, none⟩ (.int .i64 (q0 : Int))).heap.size := fun b hb => Nat.lt_of_lt_of_le (hS b hb) hO1.size
      obtain ⟨q1, HQ1⟩ : ∃ q1 : Nat, Hid (q1 = q0 + 1) := ⟨_, Lib.hid rfl⟩
      have hw1 : IntKind.i64.wrap ((q0 : Int) + 1) = (q1 : Int) := by have e1 := HQ1.out; rw [IntKind.wrap_i64]; omega
      clear hc0 hf0 hu0 hv0
      obtain ⟨cs1, N1, hSg1, -, hgl1, hN1, hNg1, hv1, hc1, hf1, hu1⟩ := h1.inn rfl HX1.out
      obtain ⟨U0_1, m0_1, d0_1, rfl, y1_0⟩ := sepPt_cells hv1
      have c1 : (((wr).setCell ⟨g, j * 2, none⟩ (.int .i64 (q0 : Int)))).cell? ⟨g, j * 2 + 1, none⟩ = some (.slice U0_1 m0_1 d0_1) := hc1 1 _ rfl
      clear hc1 hf1
      go_wp2_with fail
      generalize hWW1 : ((wr).setCell ⟨g, j * 2, none⟩ (.int .i64 (q0 : Int))) = w1 at *
      clear hWW1
      refine (markUpdateS_s N1 lo U0_1 m0_1 d0_1 x.us q1 w1 y1_0 (fun b hb => hS1 b ((fun b hb => hN1 b hb) b hb)) (by have e1 := HQ1.out; omega)).mono ?_
      rintro e v1 ⟨rfl, hP1, hR1⟩
      have h2 := hu1 v1 ⟨(q0 : Int), markL mkUp szUp q1 x.us⟩ (fun b hb hn => hR1.block b (hS1 b hb) hn) (sepPt_mk (p := ⟨(q0 : Int), markL mkUp szUp q1 x.us⟩) hP1)
      have HX2 := Lib.hid (show ((L0.set j (⟨(q0 : Int), x.us⟩ : Pt)).set j (⟨(q0 : Int), markL mkUp szUp q1 x.us⟩ : Pt))[j]? = some ⟨(q0 : Int), markL mkUp szUp q1 x.us⟩ by rw [List.getElem?_set_self (List.getElem?_eq_some_iff.1 HX1.out).1])
      have hO2 := hO1.trans (hR1.wide (fun b hb => hN1 b hb))
      have hS2 : ∀ b, S b → b < v1.heap.size := fun b hb => Nat.lt_of_lt_of_le (hS b hb) hO2.size
      obtain ⟨q2, HQ2⟩ : ∃ q2 : Nat, Hid (q2 = q1 + szL szUp x.us) := ⟨_, Lib.hid rfl⟩
      rw [← HQ2.out]
      clear hu1 hv1 hP1 c1
      have hX : (⟨(q0 : Int), markL mkUp szUp q1 x.us⟩ : Pt) = mkPt q0 x := by have e1 := HQ1.out; have e2 := HQ2.out; subst e1; subst e2; rfl
      have hE : q2 = q0 + szPt x := by have e1 := HQ1.out; have e2 := HQ2.out; unfold szPt; omega
      have hEnd : SSl 51 sepPt lo S v1 (some ⟨g, 0, none⟩) n c (stL mkPt szPt k xs (j + 1)) := by
        have hh := h2
        simp only [List.set_set, hX, HST.out] at hh
        exact hh
      have HEND := Lib.hid hEnd
      have HE := Lib.hid hE
      clear hEnd hE hX
      go_wp2_with fail
      go_roundw
      case rel => exact ⟨j + 1, by omega, by go_num, by rw [HCN.out, ← HE.out], HEND.out, hO2⟩
      case measure => simp [intOf]; omega
    · obtain rfl : j = n := by omega
      go_wp2_with fail
      go_ret
      exact ⟨by rw [cnL_all hl]; rfl, by rw [← stL_all hl]; exact h0, hO0⟩
set_option maxRecDepth 100000 in
set_option maxHeartbeats 3200000 in
theorem heldPartS_s (A : Option Addr) (n c : Nat) (xs : List Pt) (k : Nat) (w : World) (h : RSl repPt 0 w A n (markL mkPt szPt k xs)) (hn : n ≤ maxLen) (hk : k + szL szPt xs ≤ 9000000000000000000) :
    Calls Try.prog 71 #[.slice A n c, .int .i64 (k : Int)] w fun e w' => e = .returned (.int .i64 ((k + szL szPt xs : Nat) : Int)) ∧ Below w.heap.size w w' := by
  have hl : xs.length = n := by have := h.1; rwa [markL_len] at this
  unfold maxLen at hn
  go_enter Try.func71, Try.ntmps71
  go_wp2_with fail
  go_loopw [1, 5] (fun q i wr => ∃ j : Nat, j ≤ n ∧ i = .int .i64 j ∧ q = .int .i64 ((cnL szPt k xs j : Nat) : Int) ∧ Below w.heap.size w wr) (fun _ i _ => n - (intOf i).toNat)
  case atStart => exact ⟨0, Nat.zero_le _, rfl, by rw [cnL_zero], Below.refl _ _⟩
  case round =>
    obtain ⟨j, hj, rfl, rfl, hbr⟩ := hrel
    by_cases hlt : j < n
    · obtain ⟨x, hx⟩ : ∃ x, xs[j]? = some x := ⟨_, List.getElem?_eq_getElem (by omega)⟩
      obtain ⟨b, off, y, cs, rfl, hb, hy, hc, hv⟩ := (h.next hbr).at_ hlt
      have hy2 : y = mkPt (cnL szPt k xs j) x := by
        rw [markL_get hx] at hy
        injection hy with hy
        exact hy.symm
      subst hy2
      have HCN := Lib.hid (cnL_succ (sz := szPt) (k := k) hx)
      have hroom := cnL_room (sz := szPt) (k := k) hx
      rw [show szPt x = 1 + szL szUp x.us from rfl] at hroom
      clear hx hy
      generalize cnL szPt k xs j = q0 at *
      obtain ⟨B1, m1, d1, rfl, hr1, hm1⟩ := repPt_cells hv
      have c0 : wr.cell? ⟨b, off + j * 2, none⟩ = some (.int .i64 ((q0 : Nat) : Int)) := hc 0 _ rfl
      have c1 : wr.cell? ⟨b, off + j * 2 + 1, none⟩ = some (.slice B1 m1 d1) := hc 1 _ rfl
      obtain ⟨q1, hq1⟩ : ∃ q1 : Nat, q1 = q0 + 1 := ⟨_, rfl⟩
      obtain ⟨q2, hq2⟩ : ∃ q2 : Nat, q2 = q1 + szL szUp x.us := ⟨_, rfl⟩
      have hr1_ : RSl repUp 0 wr B1 m1 (markL mkUp szUp q1 x.us) := by have hh := hr1; unfold mkPt at hh; simpa only [show q0 + 1 = q1 by omega] using hh
      have hw1 : IntKind.i64.wrap ((q0 : Int) + 1) = (q1 : Int) := by rw [IntKind.wrap_i64]; omega
      have hx0 : ((q0 : Int) != (q0 : Int)) = false := by simp
      have hg2 : decide ((q2 : Int) < 0) = false := by simp
      have HE := Lib.hid (show q2 = q0 + szPt x by unfold szPt; omega)
      have HQ1 := Lib.hid hq1
      have HQ2 := Lib.hid hq2
      have hbnd : q2 ≤ 9000000000000000000 := by omega
      clear hc hv hroom hr1 hq1 hq2
      go_wp2_with fail
      refine (heldUpdateS_s B1 m1 d1 x.us q1 _ hr1_ hm1 (by have := HQ2.out; have e2 := HQ2.out; omega)).mono ?_
      rw [← HQ2.out]
      rintro e w0 ⟨rfl, hb0⟩
      have hbr0 := below_ext hbr hb0
      go_wp2_with fail
      go_roundw
      case rel => exact ⟨j + 1, by omega, by go_num, by rw [HCN.out, ← HE.out], hbr0⟩
      case measure => simp [intOf]; omega
    · obtain rfl : j = n := by omega
      go_wp2_with fail
      go_ret
      exact ⟨by rw [cnL_all hl]; rfl, hbr⟩
def mkTx (k : Nat) (x : Tx) : Tx := ⟨markL mkPt szPt (k) x.ps, markL mkI szI1 (k + szL szPt x.ps) x.vs, ((k + szL szPt x.ps + szL szI1 x.vs : Nat) : Int)⟩
def szTx (x : Tx) : Nat := szL szPt x.ps + szL szI1 x.vs + 1
theorem sepTx_put2 {lo g o : Nat} {N : Nat → Prop} {w : World} {cs : List Value} {x : Tx} (u : Int) (h : sepTx.V lo N w cs x) (hg : ¬ N g) : sepTx.V lo N (w.setCell ⟨g, o, none⟩ (.int .i64 u)) (cs.set 2 (.int .i64 u)) ⟨x.ps, x.vs, u⟩ := by
  obtain ⟨U0, m0, d0, U1, m1, d1, S1, S2, rfl, q1, q2, q3, x0, x1⟩ := sepTx_cells h
  exact sepTx_mk (t := ⟨x.ps, x.vs, u⟩) q1 q2 q3 (x0.kept (fun b hb => Below.heap_setCell _ ⟨g, o, none⟩ _ b (fun e => hg (by have e' : b = g := e; exact e' ▸ q1 b hb)))) (x1.kept (fun b hb => Below.heap_setCell _ ⟨g, o, none⟩ _ b (fun e => hg (by have e' : b = g := e; exact e' ▸ q2 b hb))))
set_option maxRecDepth 100000 in
set_option maxHeartbeats 3200000 in
theorem markTxnS_s (S : Nat → Prop) (lo : Nat) (A : Option Addr) (n c : Nat) (xs : List Tx) (k : Nat) (w : World) (h : SSl 35 sepTx lo S w A n c xs) (hS : ∀ b, S b → b < w.heap.size) (hk : k + szL szTx xs ≤ 9000000000000000000) :
    Calls Try.prog 48 #[.slice A n c, .int .i64 (k : Int)] w fun e w' => e = .returned (.int .i64 ((k + szL szTx xs : Nat) : Int)) ∧ SSl 35 sepTx lo S w' A n c (markL mkTx szTx k xs) ∧ Only S w w' := by
  have hl := h.1
  have hnm := h.small
  unfold maxLen at hnm
  go_enter Try.func48, Try.ntmps48
  go_wp2_with fail
  go_loopw [1, 5] (fun q i wr => ∃ j : Nat, j ≤ n ∧ i = .int .i64 j ∧ q = .int .i64 ((cnL szTx k xs j : Nat) : Int) ∧ SSl 35 sepTx lo S wr A n c (stL mkTx szTx k xs j) ∧ Only S w wr) (fun _ i _ => n - (intOf i).toNat)
  case atStart => exact ⟨0, Nat.zero_le _, rfl, by rw [cnL_zero], by rw [stL_zero]; exact h, Only.refl _ _⟩
  case round =>
    obtain ⟨j, hj, rfl, rfl, h0, hO0⟩ := hrel
    by_cases hlt : j < n
    · obtain ⟨g, rfl⟩ : ∃ g, A = some ⟨g, 0, none⟩ := by
        obtain ⟨g, _, _, _, e, _⟩ := h0.inner hlt
        exact ⟨g, e⟩
      obtain ⟨x, hx⟩ : ∃ x, xs[j]? = some x := ⟨_, List.getElem?_eq_getElem (by omega)⟩
      have HX0 := Lib.hid (show (stL mkTx szTx k xs j)[j]? = some x by rw [stL_get]; exact hx)
      have HST := Lib.hid (stL_set (mk := mkTx) (sz := szTx) (k := k) hx)
      have HCN := Lib.hid (cnL_succ (sz := szTx) (k := k) hx)
      have hroom := cnL_room (sz := szTx) (k := k) hx
      rw [show szTx x = szL szPt x.ps + szL szI1 x.vs + 1 from rfl] at hroom
      have hS0 := fun b hb => Nat.lt_of_lt_of_le (hS b hb) hO0.size
      clear hx
      generalize stL mkTx szTx k xs j = L0 at *
      generalize cnL szTx k xs j = q0 at *
      obtain ⟨cs0, N0, hSg0, -, hgl0, hN0, hNg0, hv0, hc0, hf0, hu0⟩ := h0.inn rfl HX0.out
      obtain ⟨U0_0, m0_0, d0_0, U1_0, m1_0, d1_0, S1_0, S2_0, rfl, q1_0, q2_0, q3_0, y0_0, y0_1⟩ := sepTx_cells hv0
      have c0 : (wr).cell? ⟨g, j * 3, none⟩ = some (.slice U0_0 m0_0 d0_0) := hc0 0 _ rfl
      clear hc0 hf0
      go_wp2_with fail
      refine (markPartS_s S1_0 lo U0_0 m0_0 d0_0 x.ps q0 wr y0_0 (fun b hb => hS0 b ((fun b hb => hN0 b (q1_0 b hb)) b hb)) (by omega)).mono ?_
      rintro e v0 ⟨rfl, hP0, hR0⟩
      have h1 := hu0 v0 ⟨markL mkPt szPt q0 x.ps, x.vs, x.dec⟩ (fun b hb hn => hR0.block b (hS0 b hb) (fun h => hn (q1_0 b h))) (sepTx_mk (t := ⟨markL mkPt szPt q0 x.ps, x.vs, x.dec⟩) q1_0 q2_0 q3_0 hP0 (y0_1.only hR0 (fun b h1 h2 => q3_0 b h2 h1) (fun b hb => hS0 b (hN0 b (q2_0 b hb)))))
      have HX1 := Lib.hid (show (L0.set j (⟨markL mkPt szPt q0 x.ps, x.vs, x.dec⟩ : Tx))[j]? = some ⟨markL mkPt szPt q0 x.ps, x.vs, x.dec⟩ by rw [List.getElem?_set_self (List.getElem?_eq_some_iff.1 HX0.out).1])
      have hO1 := hO0.trans (hR0.wide (fun b hb => hN0 b (q1_0 b hb)))
      have hS1 : ∀ b, S b → b < v0.heap.size := fun b hb => Nat.lt_of_lt_of_le (hS b hb) hO1.size
      obtain ⟨q1, HQ1⟩ : ∃ q1 : Nat, Hid (q1 = q0 + szL szPt x.ps) := ⟨_, Lib.hid rfl⟩
      rw [← HQ1.out]
      clear hu0 hv0 hP0 c0
      obtain ⟨cs1, N1, hSg1, -, hgl1, hN1, hNg1, hv1, hc1, hf1, hu1⟩ := h1.inn rfl HX1.out
      obtain ⟨U0_1, m0_1, d0_1, U1_1, m1_1, d1_1, S1_1, S2_1, rfl, q1_1, q2_1, q3_1, y1_0, y1_1⟩ := sepTx_cells hv1
      have c1 : (v0).cell? ⟨g, j * 3 + 1, none⟩ = some (.slice U1_1 m1_1 d1_1) := hc1 1 _ rfl
      clear hc1 hf1
      go_wp2_with fail
      refine (markIntWS_s S2_1 lo U1_1 m1_1 d1_1 x.vs q1 v0 y1_1 (fun b hb => hS1 b ((fun b hb => hN1 b (q2_1 b hb)) b hb)) (by have e1 := HQ1.out; omega)).mono ?_
      rintro e v1 ⟨rfl, hP1, hR1⟩
      have h2 := hu1 v1 ⟨markL mkPt szPt q0 x.ps, markL mkI szI1 q1 x.vs, x.dec⟩ (fun b hb hn => hR1.block b (hS1 b hb) (fun h => hn (q2_1 b h))) (sepTx_mk (t := ⟨markL mkPt szPt q0 x.ps, markL mkI szI1 q1 x.vs, x.dec⟩) q1_1 q2_1 q3_1 (y1_0.only hR1 (fun b h1 h2 => q3_1 b h1 h2) (fun b hb => hS1 b (hN1 b (q1_1 b hb)))) hP1)
      have HX2 := Lib.hid (show ((L0.set j (⟨markL mkPt szPt q0 x.ps, x.vs, x.dec⟩ : Tx)).set j (⟨markL mkPt szPt q0 x.ps, markL mkI szI1 q1 x.vs, x.dec⟩ : Tx))[j]? = some ⟨markL mkPt szPt q0 x.ps, markL mkI szI1 q1 x.vs, x.dec⟩ by rw [List.getElem?_set_self (List.getElem?_eq_some_iff.1 HX1.out).1])
      have hO2 := hO1.trans (hR1.wide (fun b hb => hN1 b (q2_1 b hb)))
      have hS2 : ∀ b, S b → b < v1.heap.size := fun b hb => Nat.lt_of_lt_of_le (hS b hb) hO2.size
      obtain ⟨q2, HQ2⟩ : ∃ q2 : Nat, Hid (q2 = q1 + szL szI1 x.vs) := ⟨_, Lib.hid rfl⟩
      rw [← HQ2.out]
      clear hu1 hv1 hP1 c1
      obtain ⟨cs2, N2, hSg2, -, hgl2, hN2, hNg2, hv2, hc2, hf2, hu2⟩ := h2.inn rfl HX2.out
      obtain ⟨U0_2, m0_2, d0_2, U1_2, m1_2, d1_2, S1_2, S2_2, rfl, q1_2, q2_2, q3_2, y2_0, y2_1⟩ := sepTx_cells hv2
      have c2 : (v1).cell? ⟨g, j * 3 + 2, none⟩ = some (.int .i64 x.dec) := hc2 2 _ rfl
      have f2 := hf2 (j * 3 + 2)
      have h3 : SSl 35 sepTx lo S ((v1).setCell ⟨g, j * 3 + 2, none⟩ (.int .i64 (q2 : Int))) (some ⟨g, 0, none⟩) n c (((L0.set j (⟨markL mkPt szPt q0 x.ps, x.vs, x.dec⟩ : Tx)).set j (⟨markL mkPt szPt q0 x.ps, markL mkI szI1 q1 x.vs, x.dec⟩ : Tx)).set j ⟨markL mkPt szPt q0 x.ps, markL mkI szI1 q1 x.vs, (q2 : Int)⟩) := h2.own rfl HX2.out 2 (.int .i64 (q2 : Int)) ⟨markL mkPt szPt q0 x.ps, markL mkI szI1 q1 x.vs, (q2 : Int)⟩ (by decide) (fun N cs hv hg => sepTx_put2 _ hv hg)
      have HX3 := Lib.hid (show (((L0.set j (⟨markL mkPt szPt q0 x.ps, x.vs, x.dec⟩ : Tx)).set j (⟨markL mkPt szPt q0 x.ps, markL mkI szI1 q1 x.vs, x.dec⟩ : Tx)).set j (⟨markL mkPt szPt q0 x.ps, markL mkI szI1 q1 x.vs, (q2 : Int)⟩ : Tx))[j]? = some ⟨markL mkPt szPt q0 x.ps, markL mkI szI1 q1 x.vs, (q2 : Int)⟩ by rw [List.getElem?_set_self (List.getElem?_eq_some_iff.1 HX2.out).1])
      have hO3 : Only S w ((v1).setCell ⟨g, j * 3 + 2, none⟩ (.int .i64 (q2 : Int))) := hO2.set hSg2 _
      have hS3 : ∀ b, S b → b < ((v1).setCell ⟨g, j * 3 + 2, none⟩ (.int .i64 (q2 : Int))).heap.size := fun b hb => Nat.lt_of_lt_of_le (hS b hb) hO3.size
      obtain ⟨q3, HQ3⟩ : ∃ q3 : Nat, Hid (q3 = q2 + 1) := ⟨_, Lib.hid rfl⟩
      have hw3 : IntKind.i64.wrap ((q2 : Int) + 1) = (q3 : Int) := by have e1 := HQ1.out; have e2 := HQ2.out; have e3 := HQ3.out; rw [IntKind.wrap_i64]; omega
      clear hc2 hf2 hu2 hv2
      have hX : (⟨markL mkPt szPt q0 x.ps, markL mkI szI1 q1 x.vs, (q2 : Int)⟩ : Tx) = mkTx q0 x := by have e1 := HQ1.out; have e2 := HQ2.out; have e3 := HQ3.out; subst e1; subst e2; subst e3; rfl
      have hE : q3 = q0 + szTx x := by have e1 := HQ1.out; have e2 := HQ2.out; have e3 := HQ3.out; unfold szTx; omega
      have hEnd : SSl 35 sepTx lo S ((v1).setCell ⟨g, j * 3 + 2, none⟩ (.int .i64 (q2 : Int))) (some ⟨g, 0, none⟩) n c (stL mkTx szTx k xs (j + 1)) := by
        have hh := h3
        simp only [List.set_set, hX, HST.out] at hh
        exact hh
      have HEND := Lib.hid hEnd
      have HE := Lib.hid hE
      clear hEnd hE hX
      go_wp2_with fail
      go_roundw
      case rel => exact ⟨j + 1, by omega, by go_num, by rw [HCN.out, ← HE.out], HEND.out, hO3⟩
      case measure => simp [intOf]; omega
    · obtain rfl : j = n := by omega
      go_wp2_with fail
      go_ret
      exact ⟨by rw [cnL_all hl]; rfl, by rw [← stL_all hl]; exact h0, hO0⟩
set_option maxRecDepth 100000 in
set_option maxHeartbeats 3200000 in
theorem heldTxnS_s (A : Option Addr) (n c : Nat) (xs : List Tx) (k : Nat) (w : World) (h : RSl repTx 0 w A n (markL mkTx szTx k xs)) (hn : n ≤ maxLen) (hk : k + szL szTx xs ≤ 9000000000000000000) :
    Calls Try.prog 49 #[.slice A n c, .int .i64 (k : Int)] w fun e w' => e = .returned (.int .i64 ((k + szL szTx xs : Nat) : Int)) ∧ Below w.heap.size w w' := by
  have hl : xs.length = n := by have := h.1; rwa [markL_len] at this
  unfold maxLen at hn
  go_enter Try.func49, Try.ntmps49
  go_wp2_with fail
  go_loopw [1, 5] (fun q i wr => ∃ j : Nat, j ≤ n ∧ i = .int .i64 j ∧ q = .int .i64 ((cnL szTx k xs j : Nat) : Int) ∧ Below w.heap.size w wr) (fun _ i _ => n - (intOf i).toNat)
  case atStart => exact ⟨0, Nat.zero_le _, rfl, by rw [cnL_zero], Below.refl _ _⟩
  case round =>
    obtain ⟨j, hj, rfl, rfl, hbr⟩ := hrel
    by_cases hlt : j < n
    · obtain ⟨x, hx⟩ : ∃ x, xs[j]? = some x := ⟨_, List.getElem?_eq_getElem (by omega)⟩
      obtain ⟨b, off, y, cs, rfl, hb, hy, hc, hv⟩ := (h.next hbr).at_ hlt
      have hy2 : y = mkTx (cnL szTx k xs j) x := by
        rw [markL_get hx] at hy
        injection hy with hy
        exact hy.symm
      subst hy2
      have HCN := Lib.hid (cnL_succ (sz := szTx) (k := k) hx)
      have hroom := cnL_room (sz := szTx) (k := k) hx
      rw [show szTx x = szL szPt x.ps + szL szI1 x.vs + 1 from rfl] at hroom
      clear hx hy
      generalize cnL szTx k xs j = q0 at *
      obtain ⟨B0, m0, d0, B1, m1, d1, rfl, hr0, hm0, hr1, hm1⟩ := repTx_cells hv
      have c0 : wr.cell? ⟨b, off + j * 3, none⟩ = some (.slice B0 m0 d0) := hc 0 _ rfl
      have c1 : wr.cell? ⟨b, off + j * 3 + 1, none⟩ = some (.slice B1 m1 d1) := hc 1 _ rfl
      have c2 : wr.cell? ⟨b, off + j * 3 + 1 + 1, none⟩ = some (.int .i64 ((q0 + szL szPt x.ps + szL szI1 x.vs : Nat) : Int)) := hc 2 _ rfl
      obtain ⟨q1, hq1⟩ : ∃ q1 : Nat, q1 = q0 + szL szPt x.ps := ⟨_, rfl⟩
      obtain ⟨q2, hq2⟩ : ∃ q2 : Nat, q2 = q1 + szL szI1 x.vs := ⟨_, rfl⟩
      obtain ⟨q3, hq3⟩ : ∃ q3 : Nat, q3 = q2 + 1 := ⟨_, rfl⟩
      rw [show q0 + szL szPt x.ps + szL szI1 x.vs = q2 by omega] at c2
      have hr0_ : RSl repPt 0 wr B0 m0 (markL mkPt szPt q0 x.ps) := by have hh := hr0; unfold mkTx at hh; simpa only [show q0 = q0 by omega] using hh
      have hr1_ : RSl repIntW 0 wr B1 m1 (markL mkI szI1 q1 x.vs) := by have hh := hr1; unfold mkTx at hh; simpa only [show q0 + szL szPt x.ps = q1 by omega] using hh
      have hg1 : decide ((q1 : Int) < 0) = false := by simp
      have hg2 : decide ((q2 : Int) < 0) = false := by simp
      have hw3 : IntKind.i64.wrap ((q2 : Int) + 1) = (q3 : Int) := by rw [IntKind.wrap_i64]; omega
      have hx2 : ((q2 : Int) != (q2 : Int)) = false := by simp
      have HE := Lib.hid (show q3 = q0 + szTx x by unfold szTx; omega)
      have HQ1 := Lib.hid hq1
      have HQ2 := Lib.hid hq2
      have HQ3 := Lib.hid hq3
      have hbnd : q3 ≤ 9000000000000000000 := by omega
      clear hc hv hroom hr0 hr1 hq1 hq2 hq3
      go_wp2_with fail
      refine (heldPartS_s B0 m0 d0 x.ps q0 _ hr0_ hm0 (by have := HQ1.out; have e1 := HQ1.out; have e2 := HQ2.out; have e3 := HQ3.out; omega)).mono ?_
      rw [← HQ1.out]
      rintro e w0 ⟨rfl, hb0⟩
      have c1_0 : w0.cell? ⟨b, off + j * 3 + 1, none⟩ = some (.slice B1 m1 d1) := (hb0.cell (p := ⟨b, off + j * 3 + 1, none⟩) (by exact hb)).trans c1
      have c2_0 : w0.cell? ⟨b, off + j * 3 + 1 + 1, none⟩ = some (.int .i64 (q2 : Int)) := (hb0.cell (p := ⟨b, off + j * 3 + 1 + 1, none⟩) (by exact hb)).trans c2
      have hbr0 := below_ext hbr hb0
      go_wp2_with fail
      refine (heldIntWS_s B1 m1 d1 x.vs q1 _ (hr1_.next hb0) hm1 (by have := HQ2.out; have e2 := HQ2.out; have e3 := HQ3.out; omega)).mono ?_
      rw [← HQ2.out]
      rintro e w1 ⟨rfl, hb1⟩
      have c2_1 : w1.cell? ⟨b, off + j * 3 + 1 + 1, none⟩ = some (.int .i64 (q2 : Int)) := (hb1.cell (p := ⟨b, off + j * 3 + 1 + 1, none⟩) (by have := hb0.size; have := hb0.size; dsimp only; omega)).trans c2_0
      have hbr1 := below_ext hbr0 hb1
      go_wp2_with fail
      go_roundw
      case rel => exact ⟨j + 1, by omega, by go_num, by rw [HCN.out, ← HE.out], hbr1⟩
      case measure => simp [intOf]; omega
    · obtain rfl : j = n := by omega
      go_wp2_with fail
      go_ret
      exact ⟨by rw [cnL_all hl]; rfl, hbr⟩
def mkCo (k : Nat) (x : Co) : Co := ⟨markL mkTx szTx (k) x.ts, markL mkI szI1 (k + szL szTx x.ts) x.ord⟩
def szCo (x : Co) : Nat := szL szTx x.ts + szL szI1 x.ord
set_option maxHeartbeats 1600000 in
theorem markCoordinator_s (S : Nat → Prop) (lo : Nat) (cs : List Value) (x : Co) (k : Nat) (w : World) (h : sepCo.V lo S w cs x) (hS : ∀ b, S b → b < w.heap.size) (hk : k + szCo x ≤ 9000000000000000000) :
    Calls Try.prog 19 #[.agg cs.toArray, .int .i64 (k : Int)] w fun e w' => e = .returned (.int .i64 ((k + szCo x : Nat) : Int)) ∧ sepCo.V lo S w' cs (mkCo k x) ∧ Only S w w' := by
  obtain ⟨U0, m0, d0, U1, m1, d1, S1, S2, rfl, q1, q2, q3, y0, y1⟩ := sepCo_cells h
  have eb := below_box w (.cells #[.slice U0 m0 d0, .slice U1 m1 d1] 26)
  have hz := eb.size
  have bx := Blk.new w 26 [.slice U0 m0 d0, .slice U1 m1 d1]
  obtain ⟨c0, c1⟩ := bx.cells2
  have z0 := y0.next eb (fun b hb => hS b (q1 b hb))
  have z1 := y1.next eb (fun b hb => hS b (q2 b hb))
  unfold szCo at hk
  go_enter Try.func19, Try.ntmps19
  go_wp2_with fail
  refine (markTxnS_s S1 lo U0 m0 d0 x.ts k _ z0 (fun b hb => by have := hS b (q1 b hb); omega) (by omega)).mono ?_
  rintro e w1 ⟨rfl, p0, o1⟩
  have bx1 := o1.blk bx (fun hh => by have := hS _ (q1 _ hh); omega)
  obtain ⟨c10, c11⟩ := bx1.cells2
  have z11 := z1.only o1 (fun b h1 h2 => q3 b h2 h1) (fun b hb => by have := hS b (q2 b hb); omega)
  obtain ⟨ka, HA⟩ : ∃ ka : Nat, Hid (ka = k + szL szTx x.ts) := ⟨_, Lib.hid rfl⟩
  rw [← HA.out]
  go_wp2_with fail
  refine (markIntS_s S2 lo U1 m1 d1 x.ord ka _ z11 (fun b hb => by have := hS b (q2 b hb); have := o1.size; omega) (by have := HA.out; omega)).mono ?_
  obtain ⟨kb, HB⟩ : ∃ kb : Nat, Hid (kb = ka + szL szI1 x.ord) := ⟨_, Lib.hid rfl⟩
  rw [← HB.out]
  rintro e w2 ⟨rfl, p1, o2⟩
  have p02 := p0.only o2 (fun b h1 h2 => q3 b h1 h2) (fun b hb => by have := hS b (q1 b hb); have := o1.size; omega)
  go_wp2_with fail
  go_ret
  refine ⟨by show Ending.returned (.int .i64 (kb : Int)) = _; rw [HB.out, HA.out]; unfold szCo; rw [Nat.add_assoc], ?_, (Only.of_below eb).trans ((o1.wide q1).trans (o2.wide q2))⟩
  rw [HA.out] at p1
  exact sepCo_mk (q := mkCo k x) q1 q2 q3 p02 p1
set_option maxHeartbeats 1600000 in
theorem heldCoordinator_s (cs : List Value) (x : Co) (k : Nat) (w : World) (h : repCo.V 0 w cs (mkCo k x)) (hk : k + szCo x ≤ 9000000000000000000) :
    Calls Try.prog 20 #[.agg cs.toArray, .int .i64 (k : Int)] w fun e w' => e = .returned (.int .i64 ((k + szCo x : Nat) : Int)) ∧ Below w.heap.size w w' := by
  obtain ⟨U0, m0, d0, U1, m1, d1, rfl, y0, n0, y1, n1⟩ := repCo_cells h
  have eb := below_box w (.cells #[.slice U0 m0 d0, .slice U1 m1 d1] 26)
  have bx := Blk.new w 26 [.slice U0 m0 d0, .slice U1 m1 d1]
  obtain ⟨c0, c1⟩ := bx.cells2
  have z0 := y0.next eb
  have z1 := y1.next eb
  unfold szCo at hk
  unfold mkCo at z0 z1
  obtain ⟨ka, HA⟩ : ∃ ka : Nat, Hid (ka = k + szL szTx x.ts) := ⟨_, Lib.hid rfl⟩
  obtain ⟨kb, HB⟩ : ∃ kb : Nat, Hid (kb = ka + szL szI1 x.ord) := ⟨_, Lib.hid rfl⟩
  have hg1 : decide ((ka : Int) < 0) = false := by simp
  have hg2 : decide ((kb : Int) < 0) = false := by simp
  rw [← HA.out] at z1
  go_enter Try.func20, Try.ntmps20
  go_wp2_with fail
  refine (heldTxnS_s U0 m0 d0 x.ts k _ z0 n0 (by omega)).mono ?_
  rw [← HA.out]
  rintro e w1 ⟨rfl, b1⟩
  obtain ⟨c10, c11⟩ := (bx.next b1).cells2
  go_wp2_with fail
  refine (heldIntS_s U1 m1 d1 x.ord ka _ (z1.next b1) n1 (by have := HA.out; omega)).mono ?_
  rw [← HB.out]
  rintro e w2 ⟨rfl, b2⟩
  go_wp2_with fail
  go_ret
  exact ⟨by show Ending.returned (.int .i64 (kb : Int)) = _; rw [HB.out, HA.out]; unfold szCo; rw [Nat.add_assoc], below_ext (below_ext eb b1) b2⟩
end Go.Proofs.Ytlmcejpjhdaanaa
