/- Walks: longest: the first longest part of a base with which a text begins. -/
import Derived.Test.YtkekcgamhhmjnaaPkP
import Derived.Test.YtkekcgamhhmjnaaPkIx
import Derived.Test.YtkekcgamhhmjnaaMem
import Derived.BigQuiet
namespace Go.Proofs.Ytkekcgamhhmjnaa
open Go.RowKit

set_option maxHeartbeats 1600000 in
theorem longest_any (b t : ByteArray) (w : World) (hg : Gl w) (hb : b.size ≤ 8) (ht : t.size ≤ 8) :
    Calls Try.prog 37 #[.string b, .string t] w fun e w' => ∃ a n : Nat, e = .returned (.tuple #[.int .i64 a, .int .i64 n]) ∧ IsLong b t a n ∧ w = w' := by
  go_enter Try.func37, Try.ntmps37
  go_wp2_with fail
  have hmin : (min (b.size : Int) (t.size : Int)) = ((min b.size t.size : Nat) : Int) := by omega
  have hm0 : min b.size t.size ≤ t.size := Nat.min_le_right _ _
  have hno : ∀ k, ¬ Occ b t k (min b.size t.size + 1) := fun k hk => by
    have h1 := hk.1
    have h2 := hk.2.1
    omega
  rw [hmin]
  generalize min b.size t.size = n0 at *
  clear hmin
  have HN := Lib.hid hno
  clear hno
  go_loop [6] (fun i => ∃ n : Nat, n ≤ t.size ∧ i = .int .i64 n ∧ Hid (∀ k, ¬ Occ b t k (n + 1))) (fun i => (intOf i).toNat)
  case atStart => exact ⟨n0, hm0, rfl, HN⟩
  case round =>
    obtain ⟨n, hn, rfl, HK⟩ := hrel
    by_cases h0 : 0 < n
    · have hgt : decide ((n : Int) > 0) = true := decide_eq_true (by omega)
      have hn0 : (0 : Int) ≤ (n : Int) := by omega
      have hni : (n : Int) ≤ (t.size : Int) := by omega
      have hwr : IntKind.i64.wrap ((n : Int) - 1) = ((n - 1 : Nat) : Int) := by rw [IntKind.wrap_i64]; omega
      go_wp2_with fail
      refine (index_any b _ _ hg (by omega)).mono ?_
      rintro e w1 ⟨rfl, rfl⟩
      generalize hI : Lib.index b.data.toList _ = I at *
      have HI := Lib.hid hI
      clear hI
      by_cases hneg : I < 0
      · have hge : decide (I ≥ 0) = false := decide_eq_false (by omega)
        have hge2 : decide (0 ≤ I) = false := decide_eq_false (by omega)
        go_wp2_with fail
        go_round
        case rel => exact ⟨n - 1, by omega, by go_num, Lib.hid (by rw [Nat.sub_add_cancel h0]; exact long_miss hn h0 (by rw [HI.out]; exact hneg))⟩
        case measure => simp [intOf]; omega
      · obtain ⟨a, rfl⟩ : ∃ a : Nat, I = a := ⟨I.toNat, by omega⟩
        have hge : decide ((a : Int) ≥ 0) = true := decide_eq_true (by omega)
        have hge2 : decide (0 ≤ (a : Int)) = true := decide_eq_true (by omega)
        go_wp2_with fail
        refine bodyPost_ret (v := .tuple #[.int .i64 a, .int .i64 n]) (by simp [results, Try.results37, go_sem]) rfl ?_
        exact ⟨a, n, rfl, long_hit HK.out hn h0 HI.out, rfl⟩
    · have hgt : decide ((n : Int) > 0) = false := decide_eq_false (by omega)
      go_wp2_with fail
      refine bodyPost_ret (v := .tuple #[.int .i64 0, .int .i64 0]) (by simp [results, Try.results37, go_sem]) rfl ?_
      exact ⟨0, 0, rfl, .inl ⟨rfl, rfl, fun k hk => HK.out k (by rwa [show n = 0 by omega])⟩, rfl⟩
end Go.Proofs.Ytkekcgamhhmjnaa
