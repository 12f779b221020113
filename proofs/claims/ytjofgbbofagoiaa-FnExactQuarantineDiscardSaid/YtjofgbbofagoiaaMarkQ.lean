/- Walks: the laws' marks, written and looked for. -/
import Derived.Test.YtjofgbbofagoiaaMarkOb
namespace Go.Proofs.Ytjofgbbofagoiaa
open Go.RowKit Go.Sort

set_option maxHeartbeats 1600000 in
theorem markIntS_s (S : Nat → Prop) (lo : Nat) (A : Option Addr) (n c : Nat) (xs : List Int) (k : Nat) (w : World) (h : SSl 3 sepInt lo S w A n c xs) (_hS : ∀ b, S b → b < w.heap.size) (hk : k + szL szI1 xs ≤ 9000000000000000000) :
    Calls Try.prog 30 #[.slice A n c, .int .i64 (k : Int)] w fun e w' => e = .returned (.int .i64 ((k + szL szI1 xs : Nat) : Int)) ∧ SSl 3 sepInt lo S w' A n c (markL mkI szI1 k xs) ∧ Only S w w' := by
  have hl := h.1
  have hnm := h.small
  unfold maxLen at hnm
  go_enter Try.func30, Try.ntmps30
  go_wp2_with fail
  go_loopw [1, 5] (fun q i wr => ∃ j : Nat, j ≤ n ∧ i = .int .i64 j ∧ q = .int .i64 ((cnL szI1 k xs j : Nat) : Int) ∧ SSl 3 sepInt lo S wr A n c (stL mkI szI1 k xs j) ∧ Only S w wr) (fun _ i _ => n - (intOf i).toNat)
  case atStart => exact ⟨0, Nat.zero_le _, rfl, by rw [cnL_zero], by rw [stL_zero]; exact h, Only.refl _ _⟩
  case round =>
    obtain ⟨j, hj, rfl, rfl, h0, hO0⟩ := hrel
    by_cases hlt : j < n
    · obtain ⟨g, rfl⟩ : ∃ g, A = some ⟨g, 0, none⟩ := by
        obtain ⟨g, _, _, _, e, _⟩ := h0.inner hlt
        exact ⟨g, e⟩
      obtain ⟨x, hx⟩ : ∃ x, xs[j]? = some x := ⟨_, List.getElem?_eq_getElem (by omega)⟩
      have HX0 := Lib.hid (show (stL mkI szI1 k xs j)[j]? = some x by rw [stL_get]; exact hx)
      have HST := Lib.hid (stL_set (mk := mkI) (sz := szI1) (k := k) hx)
      have HCN := Lib.hid (cnL_succ (sz := szI1) (k := k) hx)
      have hroom := cnL_room (sz := szI1) (k := k) hx
      rw [show szI1 x = 1 from rfl] at hroom
      clear hx
      generalize stL mkI szI1 k xs j = L0 at *
      generalize cnL szI1 k xs j = q0 at *
      obtain ⟨cs, N, hSg, -, hgl, hN, hNg, hv, hc, hf, -⟩ := h0.inn rfl HX0.out
      have hv' : cs = [.int .i64 x] := hv
      subst hv'
      have c0 : wr.cell? ⟨g, j, none⟩ = some (.int .i64 x) := by
        have := hc 0 _ rfl
        simpa [sepInt, repInt] using this
      have f0 := hf j
      have hEnd : SSl 3 sepInt lo S (wr.setCell ⟨g, j, none⟩ (.int .i64 (q0 : Int))) (some ⟨g, 0, none⟩) n c (stL mkI szI1 k xs (j + 1)) := by
        have hh := h0.own rfl HX0.out 0 (.int .i64 (q0 : Int)) (mkI q0 x) (by decide) (fun N cs hv hg => by
          have hv' : cs = [.int .i64 x] := hv
          subst hv'
          rfl)
        rw [HST.out] at hh
        simpa [sepInt, repInt] using hh
      have HEND := Lib.hid hEnd
      have hO1 := hO0.set (i := j) hSg (.int .i64 (q0 : Int))
      have hw1 : IntKind.i64.wrap ((q0 : Int) + 1) = ((q0 + 1 : Nat) : Int) := by rw [IntKind.wrap_i64]; omega
      clear hc hf hv hEnd
      go_wp2_with fail
      go_roundw
      case rel => exact ⟨j + 1, by omega, by go_num, by rw [HCN.out]; rfl, HEND.out, hO1⟩
      case measure => simp [intOf]; omega
    · obtain rfl : j = n := by omega
      go_wp2_with fail
      go_ret
      exact ⟨by rw [cnL_all hl]; rfl, by rw [← stL_all hl]; exact h0, hO0⟩
theorem markIntWS_s (S : Nat → Prop) (lo : Nat) (A : Option Addr) (n c : Nat) (xs : List Int) (k : Nat) (w : World) (h : SSl 3 sepIntW lo S w A n c xs) (hS : ∀ b, S b → b < w.heap.size) (hk : k + szL szI1 xs ≤ 9000000000000000000) :
    Calls Try.prog 30 #[.slice A n c, .int .i64 (k : Int)] w fun e w' => e = .returned (.int .i64 ((k + szL szI1 xs : Nat) : Int)) ∧ SSl 3 sepIntW lo S w' A n c (markL mkI szI1 k xs) ∧ Only S w w' :=
  (markIntS_s S lo A n c xs k w h.plainW.1 hS hk).mono fun _ _ ⟨h1, h2, h3⟩ => ⟨h1, h2.withW (markI_wf hk), h3⟩
set_option maxHeartbeats 1600000 in
theorem heldIntS_s (A : Option Addr) (n c : Nat) (xs : List Int) (k : Nat) (w : World) (h : RSl repInt 0 w A n (markL mkI szI1 k xs)) (hn : n ≤ maxLen) (hk : k + szL szI1 xs ≤ 9000000000000000000) :
    Calls Try.prog 31 #[.slice A n c, .int .i64 (k : Int)] w fun e w' => e = .returned (.int .i64 ((k + szL szI1 xs : Nat) : Int)) ∧ Below w.heap.size w w' := by
  have hl : xs.length = n := by have := h.1; rwa [markL_len] at this
  have hr := h.rints
  unfold maxLen at hn
  go_enter Try.func31, Try.ntmps31
  go_wp2_with fail
  go_loopw [1, 5] (fun q i wr => ∃ j : Nat, j ≤ n ∧ i = .int .i64 j ∧ q = .int .i64 ((cnL szI1 k xs j : Nat) : Int) ∧ Below w.heap.size w wr) (fun _ i _ => n - (intOf i).toNat)
  case atStart => exact ⟨0, Nat.zero_le _, rfl, by rw [cnL_zero], Below.refl _ _⟩
  case round =>
    obtain ⟨j, hj, rfl, rfl, hbr⟩ := hrel
    by_cases hlt : j < n
    · obtain ⟨x, hx⟩ : ∃ x, xs[j]? = some x := ⟨_, List.getElem?_eq_getElem (by omega)⟩
      obtain ⟨ad, y, rfl, hb, hy, hc⟩ := (hr.next hbr).at_ hlt
      have hy2 : y = ((cnL szI1 k xs j : Nat) : Int) := by
        rw [markL_get hx] at hy
        injection hy with hy
        exact hy.symm
      subst hy2
      have HCN := Lib.hid (cnL_succ (sz := szI1) (k := k) hx)
      have hroom := cnL_room (sz := szI1) (k := k) hx
      rw [show szI1 x = 1 from rfl] at hroom
      clear hx hy
      generalize cnL szI1 k xs j = q0 at *
      have hw1 : IntKind.i64.wrap ((q0 : Int) + 1) = ((q0 + 1 : Nat) : Int) := by rw [IntKind.wrap_i64]; omega
      have hx0 : ((q0 : Int) != (q0 : Int)) = false := by simp
      go_wp2_with fail
      go_roundw
      case rel => exact ⟨j + 1, by omega, by go_num, by rw [HCN.out]; rfl, hbr⟩
      case measure => simp [intOf]; omega
    · obtain rfl : j = n := by omega
      go_wp2_with fail
      go_ret
      exact ⟨by rw [cnL_all hl]; rfl, hbr⟩
theorem heldIntWS_s (A : Option Addr) (n c : Nat) (xs : List Int) (k : Nat) (w : World) (h : RSl repIntW 0 w A n (markL mkI szI1 k xs)) (hn : n ≤ maxLen) (hk : k + szL szI1 xs ≤ 9000000000000000000) :
    Calls Try.prog 31 #[.slice A n c, .int .i64 (k : Int)] w fun e w' => e = .returned (.int .i64 ((k + szL szI1 xs : Nat) : Int)) ∧ Below w.heap.size w w' := heldIntS_s A n c xs k w h.plain hn hk
def mkAr (k : Nat) (x : Ar) : Ar := ⟨((k : Nat) : Int), markL mkOb szOb (k + 1) x.os⟩
def szAr (x : Ar) : Nat := 1 + szL szOb x.os
theorem sepAr_put0 {lo g o : Nat} {N : Nat → Prop} {w : World} {cs : List Value} {x : Ar} (u : Int) (h : sepAr.V lo N w cs x) (hg : ¬ N g) : sepAr.V lo N (w.setCell ⟨g, o, none⟩ (.int .i64 u)) (cs.set 0 (.int .i64 u)) ⟨u, x.os⟩ := by
  obtain ⟨U0, m0, d0, rfl, x0⟩ := sepAr_cells h
  exact sepAr_mk (x := ⟨u, x.os⟩) (x0.kept (fun b hb => Below.heap_setCell _ ⟨g, o, none⟩ _ b (fun e => hg (by have e' : b = g := e; exact e' ▸ hb))))
set_option maxRecDepth 100000 in
set_option maxHeartbeats 3200000 in
theorem markAreaS_s (S : Nat → Prop) (lo : Nat) (A : Option Addr) (n c : Nat) (xs : List Ar) (k : Nat) (w : World) (h : SSl 70 sepAr lo S w A n c xs) (hS : ∀ b, S b → b < w.heap.size) (hk : k + szL szAr xs ≤ 9000000000000000000) :
    Calls Try.prog 72 #[.slice A n c, .int .i64 (k : Int)] w fun e w' => e = .returned (.int .i64 ((k + szL szAr xs : Nat) : Int)) ∧ SSl 70 sepAr lo S w' A n c (markL mkAr szAr k xs) ∧ Only S w w' := by
  have hl := h.1
  have hnm := h.small
  unfold maxLen at hnm
  go_enter Try.func72, Try.ntmps72
  go_wp2_with fail
  go_loopw [1, 5] (fun q i wr => ∃ j : Nat, j ≤ n ∧ i = .int .i64 j ∧ q = .int .i64 ((cnL szAr k xs j : Nat) : Int) ∧ SSl 70 sepAr lo S wr A n c (stL mkAr szAr k xs j) ∧ Only S w wr) (fun _ i _ => n - (intOf i).toNat)
  case atStart => exact ⟨0, Nat.zero_le _, rfl, by rw [cnL_zero], by rw [stL_zero]; exact h, Only.refl _ _⟩
  case round =>
    obtain ⟨j, hj, rfl, rfl, h0, hO0⟩ := hrel
    by_cases hlt : j < n
    · obtain ⟨g, rfl⟩ : ∃ g, A = some ⟨g, 0, none⟩ := by
        obtain ⟨g, _, _, _, e, _⟩ := h0.inner hlt
        exact ⟨g, e⟩
      obtain ⟨x, hx⟩ : ∃ x, xs[j]? = some x := ⟨_, List.getElem?_eq_getElem (by omega)⟩
      have HX0 := Lib.hid (show (stL mkAr szAr k xs j)[j]? = some x by rw [stL_get]; exact hx)
      have HST := Lib.hid (stL_set (mk := mkAr) (sz := szAr) (k := k) hx)
      have HCN := Lib.hid (cnL_succ (sz := szAr) (k := k) hx)
      have hroom := cnL_room (sz := szAr) (k := k) hx
      rw [show szAr x = 1 + szL szOb x.os from rfl] at hroom
      have hS0 := fun b hb => Nat.lt_of_lt_of_le (hS b hb) hO0.size
      clear hx
      generalize stL mkAr szAr k xs j = L0 at *
      generalize cnL szAr k xs j = q0 at *
      obtain ⟨cs0, N0, hSg0, -, hgl0, hN0, hNg0, hv0, hc0, hf0, hu0⟩ := h0.inn rfl HX0.out
      obtain ⟨U0_0, m0_0, d0_0, rfl, y0_0⟩ := sepAr_cells hv0
      have c0 : (wr).cell? ⟨g, j * 2, none⟩ = some (.int .i64 x.t) := hc0 0 _ rfl
      have f0 := hf0 (j * 2)
      have h1 : SSl 70 sepAr lo S ((wr).setCell ⟨g, j * 2, none⟩ (.int .i64 (q0 : Int))) (some ⟨g, 0, none⟩) n c (L0.set j ⟨(q0 : Int), x.os⟩) := h0.own rfl HX0.out 0 (.int .i64 (q0 : Int)) ⟨(q0 : Int), x.os⟩ (by decide) (fun N cs hv hg => sepAr_put0 _ hv hg)
      have HX1 := Lib.hid (show (L0.set j (⟨(q0 : Int), x.os⟩ : Ar))[j]? = some ⟨(q0 : Int), x.os⟩ by rw [List.getElem?_set_self (List.getElem?_eq_some_iff.1 HX0.out).1])
      have hO1 : Only S w ((wr).setCell ⟨g, j * 2, none⟩ (.int .i64 (q0 : Int))) := hO0.set hSg0 _
      have hS1 : ∀ b, S b → b < ((wr).setCell ⟨g, j * 2, none⟩ (.int .i64 (q0 : Int))).heap.size := fun b hb => Nat.lt_of_lt_of_le (hS b hb) hO1.size
      obtain ⟨q1, HQ1⟩ : ∃ q1 : Nat, Hid (q1 = q0 + 1) := ⟨_, Lib.hid rfl⟩
      have hw1 : IntKind.i64.wrap ((q0 : Int) + 1) = (q1 : Int) := by have e1 := HQ1.out; rw [IntKind.wrap_i64]; omega
      clear hc0 hf0 hu0 hv0
      obtain ⟨cs1, N1, hSg1, -, hgl1, hN1, hNg1, hv1, hc1, hf1, hu1⟩ := h1.inn rfl HX1.out
      obtain ⟨U0_1, m0_1, d0_1, rfl, y1_0⟩ := sepAr_cells hv1
      have c1 : (((wr).setCell ⟨g, j * 2, none⟩ (.int .i64 (q0 : Int)))).cell? ⟨g, j * 2 + 1, none⟩ = some (.slice U0_1 m0_1 d0_1) := hc1 1 _ rfl
      clear hc1 hf1
      go_wp2_with fail
      generalize hWW1 : ((wr).setCell ⟨g, j * 2, none⟩ (.int .i64 (q0 : Int))) = w1 at *
      clear hWW1
      refine (markObjectS_s N1 lo U0_1 m0_1 d0_1 x.os q1 w1 y1_0 (fun b hb => hS1 b ((fun b hb => hN1 b hb) b hb)) (by have e1 := HQ1.out; omega)).mono ?_
      rintro e v1 ⟨rfl, hP1, hR1⟩
      have h2 := hu1 v1 ⟨(q0 : Int), markL mkOb szOb q1 x.os⟩ (fun b hb hn => hR1.block b (hS1 b hb) hn) (sepAr_mk (x := ⟨(q0 : Int), markL mkOb szOb q1 x.os⟩) hP1)
      have HX2 := Lib.hid (show ((L0.set j (⟨(q0 : Int), x.os⟩ : Ar)).set j (⟨(q0 : Int), markL mkOb szOb q1 x.os⟩ : Ar))[j]? = some ⟨(q0 : Int), markL mkOb szOb q1 x.os⟩ by rw [List.getElem?_set_self (List.getElem?_eq_some_iff.1 HX1.out).1])
      have hO2 := hO1.trans (hR1.wide (fun b hb => hN1 b hb))
      have hS2 : ∀ b, S b → b < v1.heap.size := fun b hb => Nat.lt_of_lt_of_le (hS b hb) hO2.size
      obtain ⟨q2, HQ2⟩ : ∃ q2 : Nat, Hid (q2 = q1 + szL szOb x.os) := ⟨_, Lib.hid rfl⟩
      rw [← HQ2.out]
      clear hu1 hv1 hP1 c1
      have hX : (⟨(q0 : Int), markL mkOb szOb q1 x.os⟩ : Ar) = mkAr q0 x := by have e1 := HQ1.out; have e2 := HQ2.out; subst e1; subst e2; rfl
      have hE : q2 = q0 + szAr x := by have e1 := HQ1.out; have e2 := HQ2.out; unfold szAr; omega
      have hEnd : SSl 70 sepAr lo S v1 (some ⟨g, 0, none⟩) n c (stL mkAr szAr k xs (j + 1)) := by
        have hh := h2
        simp only [List.set_set, hX, HST.out] at hh
        exact hh
      have HEND := Lib.hid hEnd
      have HE := Lib.hid hE
      clear hEnd hE hX
      go_wp2_with fail
      go_roundw
      case rel => exact ⟨j + 1, by omega, by go_num, by rw [HCN.out, ← HE.out], HEND.out, hO2⟩
      case measure => simp [intOf]; omega
    · obtain rfl : j = n := by omega
      go_wp2_with fail
      go_ret
      exact ⟨by rw [cnL_all hl]; rfl, by rw [← stL_all hl]; exact h0, hO0⟩
set_option maxRecDepth 100000 in
set_option maxHeartbeats 3200000 in
theorem heldAreaS_s (A : Option Addr) (n c : Nat) (xs : List Ar) (k : Nat) (w : World) (h : RSl repAr 0 w A n (markL mkAr szAr k xs)) (hn : n ≤ maxLen) (hk : k + szL szAr xs ≤ 9000000000000000000) :
    Calls Try.prog 74 #[.slice A n c, .int .i64 (k : Int)] w fun e w' => e = .returned (.int .i64 ((k + szL szAr xs : Nat) : Int)) ∧ Below w.heap.size w w' := by
  have hl : xs.length = n := by have := h.1; rwa [markL_len] at this
  unfold maxLen at hn
  go_enter Try.func74, Try.ntmps74
  go_wp2_with fail
  go_loopw [1, 5] (fun q i wr => ∃ j : Nat, j ≤ n ∧ i = .int .i64 j ∧ q = .int .i64 ((cnL szAr k xs j : Nat) : Int) ∧ Below w.heap.size w wr) (fun _ i _ => n - (intOf i).toNat)
  case atStart => exact ⟨0, Nat.zero_le _, rfl, by rw [cnL_zero], Below.refl _ _⟩
  case round =>
    obtain ⟨j, hj, rfl, rfl, hbr⟩ := hrel
    by_cases hlt : j < n
    · obtain ⟨x, hx⟩ : ∃ x, xs[j]? = some x := ⟨_, List.getElem?_eq_getElem (by omega)⟩
      obtain ⟨b, off, y, cs, rfl, hb, hy, hc, hv⟩ := (h.next hbr).at_ hlt
      have hy2 : y = mkAr (cnL szAr k xs j) x := by
        rw [markL_get hx] at hy
        injection hy with hy
        exact hy.symm
      subst hy2
      have HCN := Lib.hid (cnL_succ (sz := szAr) (k := k) hx)
      have hroom := cnL_room (sz := szAr) (k := k) hx
      rw [show szAr x = 1 + szL szOb x.os from rfl] at hroom
      clear hx hy
      generalize cnL szAr k xs j = q0 at *
      obtain ⟨B1, m1, d1, rfl, hr1, hm1⟩ := repAr_cells hv
      have c0 : wr.cell? ⟨b, off + j * 2, none⟩ = some (.int .i64 ((q0 : Nat) : Int)) := hc 0 _ rfl
      have c1 : wr.cell? ⟨b, off + j * 2 + 1, none⟩ = some (.slice B1 m1 d1) := hc 1 _ rfl
      obtain ⟨q1, hq1⟩ : ∃ q1 : Nat, q1 = q0 + 1 := ⟨_, rfl⟩
      obtain ⟨q2, hq2⟩ : ∃ q2 : Nat, q2 = q1 + szL szOb x.os := ⟨_, rfl⟩
      have hr1_ : RSl repOb 0 wr B1 m1 (markL mkOb szOb q1 x.os) := by have hh := hr1; unfold mkAr at hh; simpa only [show q0 + 1 = q1 by omega] using hh
      have hw1 : IntKind.i64.wrap ((q0 : Int) + 1) = (q1 : Int) := by rw [IntKind.wrap_i64]; omega
      have hx0 : ((q0 : Int) != (q0 : Int)) = false := by simp
      have hg2 : decide ((q2 : Int) < 0) = false := by simp
      have HE := Lib.hid (show q2 = q0 + szAr x by unfold szAr; omega)
      have HQ1 := Lib.hid hq1
      have HQ2 := Lib.hid hq2
      have hbnd : q2 ≤ 9000000000000000000 := by omega
      clear hc hv hroom hr1 hq1 hq2
      go_wp2_with fail
      refine (heldObjectS_s B1 m1 d1 x.os q1 _ hr1_ hm1 (by have := HQ2.out; have e2 := HQ2.out; omega)).mono ?_
      rw [← HQ2.out]
      rintro e w0 ⟨rfl, hb0⟩
      have hbr0 := below_ext hbr hb0
      go_wp2_with fail
      go_roundw
      case rel => exact ⟨j + 1, by omega, by go_num, by rw [HCN.out, ← HE.out], hbr0⟩
      case measure => simp [intOf]; omega
    · obtain rfl : j = n := by omega
      go_wp2_with fail
      go_ret
      exact ⟨by rw [cnL_all hl]; rfl, hbr⟩
def mkQu (k : Nat) (x : Qu) : Qu := ⟨markL mkOb szOb (k) x.main, markL mkAr szAr (k + szL szOb x.main) x.ars⟩
def szQu (x : Qu) : Nat := szL szOb x.main + szL szAr x.ars
set_option maxHeartbeats 1600000 in
theorem markQuarantine_s (S : Nat → Prop) (lo : Nat) (cs : List Value) (x : Qu) (k : Nat) (w : World) (h : sepQu.V lo S w cs x) (hS : ∀ b, S b → b < w.heap.size) (hk : k + szQu x ≤ 9000000000000000000) :
    Calls Try.prog 29 #[.agg cs.toArray, .int .i64 (k : Int)] w fun e w' => e = .returned (.int .i64 ((k + szQu x : Nat) : Int)) ∧ sepQu.V lo S w' cs (mkQu k x) ∧ Only S w w' := by
  obtain ⟨U0, m0, d0, U1, m1, d1, S1, S2, rfl, q1, q2, q3, y0, y1⟩ := sepQu_cells h
  have eb := below_box w (.cells #[.slice U0 m0 d0, .slice U1 m1 d1] 26)
  have hz := eb.size
  have bx := Blk.new w 26 [.slice U0 m0 d0, .slice U1 m1 d1]
  obtain ⟨c0, c1⟩ := bx.cells2
  have z0 := y0.next eb (fun b hb => hS b (q1 b hb))
  have z1 := y1.next eb (fun b hb => hS b (q2 b hb))
  unfold szQu at hk
  go_enter Try.func29, Try.ntmps29
  go_wp2_with fail
  refine (markObjectS_s S1 lo U0 m0 d0 x.main k _ z0 (fun b hb => by have := hS b (q1 b hb); omega) (by omega)).mono ?_
  rintro e w1 ⟨rfl, p0, o1⟩
  have bx1 := o1.blk bx (fun hh => by have := hS _ (q1 _ hh); omega)
  obtain ⟨c10, c11⟩ := bx1.cells2
  have z11 := z1.only o1 (fun b h1 h2 => q3 b h2 h1) (fun b hb => by have := hS b (q2 b hb); omega)
  obtain ⟨ka, HA⟩ : ∃ ka : Nat, Hid (ka = k + szL szOb x.main) := ⟨_, Lib.hid rfl⟩
  rw [← HA.out]
  go_wp2_with fail
  refine (markAreaS_s S2 lo U1 m1 d1 x.ars ka _ z11 (fun b hb => by have := hS b (q2 b hb); have := o1.size; omega) (by have := HA.out; omega)).mono ?_
  obtain ⟨kb, HB⟩ : ∃ kb : Nat, Hid (kb = ka + szL szAr x.ars) := ⟨_, Lib.hid rfl⟩
  rw [← HB.out]
  rintro e w2 ⟨rfl, p1, o2⟩
  have p02 := p0.only o2 (fun b h1 h2 => q3 b h1 h2) (fun b hb => by have := hS b (q1 b hb); have := o1.size; omega)
  go_wp2_with fail
  go_ret
  refine ⟨by show Ending.returned (.int .i64 (kb : Int)) = _; rw [HB.out, HA.out]; unfold szQu; rw [Nat.add_assoc], ?_, (Only.of_below eb).trans ((o1.wide q1).trans (o2.wide q2))⟩
  rw [HA.out] at p1
  exact sepQu_mk (x := mkQu k x) q1 q2 q3 p02 p1
set_option maxHeartbeats 1600000 in
theorem heldQuarantine_s (cs : List Value) (x : Qu) (k : Nat) (w : World) (h : repQu.V 0 w cs (mkQu k x)) (hk : k + szQu x ≤ 9000000000000000000) :
    Calls Try.prog 34 #[.agg cs.toArray, .int .i64 (k : Int)] w fun e w' => e = .returned (.int .i64 ((k + szQu x : Nat) : Int)) ∧ Below w.heap.size w w' := by
  obtain ⟨U0, m0, d0, U1, m1, d1, rfl, y0, n0, y1, n1⟩ := repQu_cells h
  have eb := below_box w (.cells #[.slice U0 m0 d0, .slice U1 m1 d1] 26)
  have bx := Blk.new w 26 [.slice U0 m0 d0, .slice U1 m1 d1]
  obtain ⟨c0, c1⟩ := bx.cells2
  have z0 := y0.next eb
  have z1 := y1.next eb
  unfold szQu at hk
  unfold mkQu at z0 z1
  obtain ⟨ka, HA⟩ : ∃ ka : Nat, Hid (ka = k + szL szOb x.main) := ⟨_, Lib.hid rfl⟩
  obtain ⟨kb, HB⟩ : ∃ kb : Nat, Hid (kb = ka + szL szAr x.ars) := ⟨_, Lib.hid rfl⟩
  have hg1 : decide ((ka : Int) < 0) = false := by simp
  have hg2 : decide ((kb : Int) < 0) = false := by simp
  rw [← HA.out] at z1
  go_enter Try.func34, Try.ntmps34
  go_wp2_with fail
  refine (heldObjectS_s U0 m0 d0 x.main k _ z0 n0 (by omega)).mono ?_
  rw [← HA.out]
  rintro e w1 ⟨rfl, b1⟩
  obtain ⟨c10, c11⟩ := (bx.next b1).cells2
  go_wp2_with fail
  refine (heldAreaS_s U1 m1 d1 x.ars ka _ (z1.next b1) n1 (by have := HA.out; omega)).mono ?_
  rw [← HB.out]
  rintro e w2 ⟨rfl, b2⟩
  go_wp2_with fail
  go_ret
  exact ⟨by show Ending.returned (.int .i64 (kb : Int)) = _; rw [HB.out, HA.out]; unfold szQu; rw [Nat.add_assoc], below_ext (below_ext eb b1) b2⟩
end Go.Proofs.Ytjofgbbofagoiaa
