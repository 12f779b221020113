/- Walks: l2Longest: the first longest part of a base with which a text begins. -/
import Derived.Test.YtkekcgamhhmjnaaPkP
import Derived.Test.YtkekcgamhhmjnaaMem
import Derived.Test.YtkekcgamhhmjnaaProg
import Derived.BigQuiet
namespace Go.Proofs.Ytkekcgamhhmjnaa
open Go.RowKit

set_option maxHeartbeats 1600000 in
theorem l2Longest_any (b t : ByteArray) (w : World) (hb : b.size ≤ 8) (ht : t.size ≤ 8) :
    Calls Try.prog 57 #[.string b, .string t] w fun e w' => ∃ a n : Nat, e = .returned (.tuple #[.int .i64 a, .int .i64 n]) ∧ IsLong b t a n ∧ Below w.heap.size w w' := by
  go_enter Try.func57, Try.ntmps57
  go_wp2_with fail
  go_loopw [6, 7, 8] (fun a m i wr => ∃ A M I : Nat, I ≤ b.size ∧ a = .int .i64 A ∧ m = .int .i64 M ∧ i = .int .i64 I ∧ M ≤ 8 ∧ Hid (LongTo b t I A M) ∧ Below w.heap.size w wr) (fun _ _ i _ => b.size - (intOf i).toNat)
  case atStart => exact ⟨0, 0, 0, Nat.zero_le _, rfl, rfl, rfl, by omega, Lib.hid LongTo.start, Below.refl _ _⟩
  case round =>
    obtain ⟨A, M, I, hI, rfl, rfl, rfl, hM, HL, hbr⟩ := hrel
    by_cases hlt : I < b.size
    · go_wp2_with fail
      go_loopw [9] (fun n wr2 => ∃ q : Nat, n = .int .i64 q ∧ Hid (Occ b t I q) ∧ Below w.heap.size w wr2) (fun n _ => t.size - (intOf n).toNat)
      case atStart => exact ⟨0, rfl, Lib.hid (Occ.zero hI), hbr⟩
      case round =>
        obtain ⟨q, rfl, HO, hbr2⟩ := hrel
        have hqt := HO.out.2.1
        have hqb := HO.out.1
        by_cases h1 : q < t.size
        · have hd1 : decide ((q : Int) < (t.size : Int)) = true := decide_eq_true (by omega)
          by_cases h2 : I + q < b.size
          · have hd2 : decide ((I : Int) + (q : Int) < (b.size : Int)) = true := decide_eq_true (by omega)
            have hi0 : (0 : Int) ≤ (I : Int) + (q : Int) := by omega
            have hi1 : (I : Int) + (q : Int) < (b.size : Int) := by omega
            have hi2 : (q : Int) < (t.size : Int) := by omega
            have e1 : b.data[I + q]? = some b[I + q] := Array.getElem?_eq_getElem h2
            have e2 : t.data[q]? = some t[q] := Array.getElem?_eq_getElem h1
            have HE := Lib.hid (And.intro e1 e2)
            clear e1 e2
            by_cases hc : b[I + q] = t[q]
            · have HS := Lib.hid (HO.out.succ h2 h1 (by rw [HE.out.1, HE.out.2, hc]))
              have hcb : (((b[I + q]).toNat : Int) == ((t[q]).toNat : Int)) = true := by rw [hc]; simp
              clear hc
              go_wp2_with fail
              refine wp_region_ext (by kernel_rfl) (by kernel_rfl) ?_
              repeat (go_big_quiet_step (fail))
              refine wpQuiet_nil ?_
              intro wz hbz
              go_wp2_with fail
              go_roundw
              case rel => exact ⟨q + 1, by go_num, HS, below_ext hbr2 hbz⟩
              case measure => simp [intOf]; omega
            · have hcb : (((b[I + q]).toNat : Int) == ((t[q]).toNat : Int)) = false := by
                rw [beq_eq_false_iff_ne]
                intro e
                exact hc (UInt8.toNat_inj.1 (by omega))
              have hx : ¬ Occ b t I (q + 1) := fun h => hc (by have h3 := h.2.2 q (by omega); rw [HE.out.1, HE.out.2] at h3; injection h3)
              by_cases hm : M < q
              · have hmd : decide ((q : Int) > (M : Int)) = true := decide_eq_true (by omega)
                have hmd2 : decide ((M : Int) < (q : Int)) = true := decide_eq_true (by omega)
                go_wp2_with fail
                refine wp_region_ext (by kernel_rfl) (by kernel_rfl) ?_
                repeat (go_big_quiet_step (fail))
                refine wpQuiet_nil ?_
                intro wz hbz
                go_wp2_with fail
                go_roundw
                case rel => exact ⟨I, q, I + 1, by omega, rfl, rfl, by go_num, by omega, Lib.hid (HL.out.better hm HO.out hx), below_ext hbr2 hbz⟩
                case measure => simp [intOf]; omega
              · have hmd : decide ((q : Int) > (M : Int)) = false := decide_eq_false (by omega)
                have hmd2 : decide ((M : Int) < (q : Int)) = false := decide_eq_false (by omega)
                go_wp2_with fail
                refine wp_region_ext (by kernel_rfl) (by kernel_rfl) ?_
                repeat (go_big_quiet_step (fail))
                refine wpQuiet_nil ?_
                intro wz hbz
                go_wp2_with fail
                go_roundw
                case rel => exact ⟨A, M, I + 1, by omega, rfl, rfl, by go_num, hM, Lib.hid (HL.out.worse (by omega) hx), below_ext hbr2 hbz⟩
                case measure => simp [intOf]; omega
          · have hd2 : decide ((I : Int) + (q : Int) < (b.size : Int)) = false := decide_eq_false (by omega)
            have hx : ¬ Occ b t I (q + 1) := fun h => h2 (by have := h.1; omega)
            by_cases hm : M < q
            · have hmd : decide ((q : Int) > (M : Int)) = true := decide_eq_true (by omega)
              have hmd2 : decide ((M : Int) < (q : Int)) = true := decide_eq_true (by omega)
              go_wp2_with fail
              refine wp_region_ext (by kernel_rfl) (by kernel_rfl) ?_
              repeat (go_big_quiet_step (fail))
              refine wpQuiet_nil ?_
              intro wz hbz
              go_wp2_with fail
              go_roundw
              case rel => exact ⟨I, q, I + 1, by omega, rfl, rfl, by go_num, by omega, Lib.hid (HL.out.better hm HO.out hx), below_ext hbr2 hbz⟩
              case measure => simp [intOf]; omega
            · have hmd : decide ((q : Int) > (M : Int)) = false := decide_eq_false (by omega)
              have hmd2 : decide ((M : Int) < (q : Int)) = false := decide_eq_false (by omega)
              go_wp2_with fail
              refine wp_region_ext (by kernel_rfl) (by kernel_rfl) ?_
              repeat (go_big_quiet_step (fail))
              refine wpQuiet_nil ?_
              intro wz hbz
              go_wp2_with fail
              go_roundw
              case rel => exact ⟨A, M, I + 1, by omega, rfl, rfl, by go_num, hM, Lib.hid (HL.out.worse (by omega) hx), below_ext hbr2 hbz⟩
              case measure => simp [intOf]; omega
        · have hd1 : decide ((q : Int) < (t.size : Int)) = false := decide_eq_false (by omega)
          have hx : ¬ Occ b t I (q + 1) := fun h => h1 (by have := h.2.1; omega)
          by_cases hm : M < q
          · have hmd : decide ((q : Int) > (M : Int)) = true := decide_eq_true (by omega)
            have hmd2 : decide ((M : Int) < (q : Int)) = true := decide_eq_true (by omega)
            go_wp2_with fail
            refine wp_region_ext (by kernel_rfl) (by kernel_rfl) ?_
            repeat (go_big_quiet_step (fail))
            refine wpQuiet_nil ?_
            intro wz hbz
            go_wp2_with fail
            go_roundw
            case rel => exact ⟨I, q, I + 1, by omega, rfl, rfl, by go_num, by omega, Lib.hid (HL.out.better hm HO.out hx), below_ext hbr2 hbz⟩
            case measure => simp [intOf]; omega
          · have hmd : decide ((q : Int) > (M : Int)) = false := decide_eq_false (by omega)
            have hmd2 : decide ((M : Int) < (q : Int)) = false := decide_eq_false (by omega)
            go_wp2_with fail
            refine wp_region_ext (by kernel_rfl) (by kernel_rfl) ?_
            repeat (go_big_quiet_step (fail))
            refine wpQuiet_nil ?_
            intro wz hbz
            go_wp2_with fail
            go_roundw
            case rel => exact ⟨A, M, I + 1, by omega, rfl, rfl, by go_num, hM, Lib.hid (HL.out.worse (by omega) hx), below_ext hbr2 hbz⟩
            case measure => simp [intOf]; omega
    · obtain rfl : I = b.size := by omega
      go_wp2_with fail
      refine bodyPost_ret (v := .tuple #[.int .i64 A, .int .i64 M]) (by simp [results, Try.results57, go_sem]) rfl ?_
      exact ⟨A, M, rfl, HL.out.done, hbr⟩
end Go.Proofs.Ytkekcgamhhmjnaa
