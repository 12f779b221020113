/- Walk: markIntS on a list of numbers in a block of any type; the coordinator's order slice. -/
import Derived.Test.YtlmcejpjhdaanaaMarkP
import Derived.Test.YtlmcejpjhdaanaaRefsI
namespace Go.Proofs.Ytlmcejpjhdaanaa
open Go.RowKit Go.Sort

theorem own_sslT {T : TypeId} {lo n c : Nat} {w : World} {A : Option Addr} {xs : List Int} (h : w.ownsRow lo T 1 (.slice A n c) n (ints xs)) : SSl T sepInt lo (Iv lo w.heap.size) w A n c xs :=
  SSl.of_ints h fun _ h1 h2 _ => ⟨h1, h2⟩
theorem sepCo_ord {lo : Nat} {S : Nat → Prop} {w : World} {cs : List Value} {q : Co} (h : sepCo.V lo S w cs q) : ∃ A n c C m d, cs = [.slice A n c, .slice C m d] ∧ m ≤ d ∧ (C = none → d = 0) := by
  obtain ⟨A, n, c, C, m, d, S1, S2, rfl, _, _, _, h4, h5⟩ := sepCo_cells h
  refine ⟨A, n, c, C, m, d, rfl, h5.small.1, fun hC => ?_⟩
  obtain ⟨_, ⟨_, _, rfl⟩ | ⟨g, css, hA, _⟩⟩ := h5
  · rfl
  · rw [hC] at hA; cases hA
theorem refsOut_len (q : Co) (s z : Int) : (refsOut q s z).length ≤ 4 := by
  unfold refsOut
  split
  · rw [refsQ_len]; exact Nat.le_refl 4
  · simp
set_option maxHeartbeats 1600000 in
theorem markIntS_t (T : TypeId) (S : Nat → Prop) (lo : Nat) (A : Option Addr) (n c : Nat) (xs : List Int) (k : Nat) (w : World) (h : SSl T sepInt lo S w A n c xs) (_hS : ∀ b, S b → b < w.heap.size) (hk : k + szL szI1 xs ≤ 9000000000000000000) :
    Calls Try.prog 27 #[.slice A n c, .int .i64 (k : Int)] w fun e w' => e = .returned (.int .i64 ((k + szL szI1 xs : Nat) : Int)) ∧ SSl T sepInt lo S w' A n c (markL mkI szI1 k xs) ∧ Only S w w' := by
  have hl := h.1
  have hnm := h.small
  unfold maxLen at hnm
  go_enter Try.func27, Try.ntmps27
  go_wp2_with fail
  go_loopw [1, 5] (fun q i wr => ∃ j : Nat, j ≤ n ∧ i = .int .i64 j ∧ q = .int .i64 ((cnL szI1 k xs j : Nat) : Int) ∧ SSl T sepInt lo S wr A n c (stL mkI szI1 k xs j) ∧ Only S w wr) (fun _ i _ => n - (intOf i).toNat)
  case atStart => exact ⟨0, Nat.zero_le _, rfl, by rw [cnL_zero], by rw [stL_zero]; exact h, Only.refl _ _⟩
  case round =>
    obtain ⟨j, hj, rfl, rfl, h0, hO0⟩ := hrel
    by_cases hlt : j < n
    · obtain ⟨g, rfl⟩ : ∃ g, A = some ⟨g, 0, none⟩ := by
        obtain ⟨g, _, _, _, e, _⟩ := h0.inner hlt
        exact ⟨g, e⟩
      obtain ⟨x, hx⟩ : ∃ x, xs[j]? = some x := ⟨_, List.getElem?_eq_getElem (by omega)⟩
      have HX0 := Lib.hid (show (stL mkI szI1 k xs j)[j]? = some x by rw [stL_get]; exact hx)
      have HST := Lib.hid (stL_set (mk := mkI) (sz := szI1) (k := k) hx)
      have HCN := Lib.hid (cnL_succ (sz := szI1) (k := k) hx)
      have hroom := cnL_room (sz := szI1) (k := k) hx
      rw [show szI1 x = 1 from rfl] at hroom
      clear hx
      generalize stL mkI szI1 k xs j = L0 at *
      generalize cnL szI1 k xs j = q0 at *
      obtain ⟨cs, N, hSg, -, hgl, hN, hNg, hv, hc, hf, -⟩ := h0.inn rfl HX0.out
      have hv' : cs = [.int .i64 x] := hv
      subst hv'
      have c0 : wr.cell? ⟨g, j, none⟩ = some (.int .i64 x) := by
        have := hc 0 _ rfl
        simpa [sepInt, repInt] using this
      have f0 := hf j
      have hEnd : SSl T sepInt lo S (wr.setCell ⟨g, j, none⟩ (.int .i64 (q0 : Int))) (some ⟨g, 0, none⟩) n c (stL mkI szI1 k xs (j + 1)) := by
        have hh := h0.own rfl HX0.out 0 (.int .i64 (q0 : Int)) (mkI q0 x) (by decide) (fun N cs hv hg => by
          have hv' : cs = [.int .i64 x] := hv
          subst hv'
          rfl)
        rw [HST.out] at hh
        simpa [sepInt, repInt] using hh
      have HEND := Lib.hid hEnd
      have hO1 := hO0.set (i := j) hSg (.int .i64 (q0 : Int))
      have hw1 : IntKind.i64.wrap ((q0 : Int) + 1) = ((q0 + 1 : Nat) : Int) := by rw [IntKind.wrap_i64]; omega
      clear hc hf hv hEnd
      go_wp2_with fail
      go_roundw
      case rel => exact ⟨j + 1, by omega, by go_num, by rw [HCN.out]; rfl, HEND.out, hO1⟩
      case measure => simp [intOf]; omega
    · obtain rfl : j = n := by omega
      go_wp2_with fail
      go_ret
      exact ⟨by rw [cnL_all hl]; rfl, by rw [← stL_all hl]; exact h0, hO0⟩
end Go.Proofs.Ytlmcejpjhdaanaa
