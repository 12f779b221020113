/- Walks: DrawStoreReach, DrawStoreMissing; the laws' hasInt and ascending. -/
import Derived.Test.YteldghgdpklkfaaRchT
import Derived.Test.YteldghgdpklkfaaStoreTop
import Derived.Test.YteldghgdpklkfaaDrawPut
import Derived.Test.YteldghgdpklkfaaGet
import Derived.Test.YteldghgdpklkfaaSame
namespace Go.Proofs.Yteldghgdpklkfaa
open Go.RowKit Go.Sort

def DrewSR (w : World) (e : Ending) (w' : World) : Prop := ∃ v F nf cf fs, e = .returned (.tuple #[v, .slice F nf cf]) ∧ IsStore w.heap.size 21 v w' ∧ w'.ownsRow w.heap.size 3 1 (.slice F nf cf) nf (ints fs) ∧ nf ≤ 10 ∧ Below w.heap.size w w'
set_option maxHeartbeats 1600000 in
theorem DrawStoreReach_any (A : Option Addr) (n c : Nat) (w : World) (h : RBytes w w.heap.size A n) (hn : n ≤ maxLen) (hc : n ≤ c) :
    Calls Try.prog 28 #[.slice A n c] w (DrewSR w) := by
  go_enter Try.func28, Try.ntmps28
  go_wp2_with fail
  refine (l6Open_any _ _ _ _ h hn hc).mono ?_
  rintro e w1 ⟨rfl, hrd, hb1⟩
  go_wp2_with fail
  refine (l91Spoilt_any w.heap.size 0 _ hrd (by omega)).mono ?_
  rintro e w2 ⟨v, q, rfl, ⟨m, os, hO, hm, hok⟩, hq, hr2, hg2⟩
  have hlt1 : w.heap.size < w1.heap.size := hrd.lt
  obtain ⟨A2, c2, rfl, hmc⟩ := hO.form
  go_wp2_with fail
  refine (l91Ids_any w.heap.size q A2 m c2 w1.heap.size os _ hr2 (by omega) hO hlt1 (by omega) hok).mono ?_
  rintro e w3 ⟨_, q3, rfl, ⟨A3, n3, c3, is, rfl, hown3, hn3⟩, hq3, hr3, hg3⟩
  go_wp2_with fail
  refine bodyPost_ret (v := .tuple #[.slice A2 m c2, .slice A3 n3 c3]) (by simp [results, Try.results28, go_sem]) rfl ?_
  exact ⟨_, A3, n3, c3, is, rfl, ⟨m, os, (hO.grown hg3 hlt1).base hb1.size, hm, hok⟩, own_base hown3 (Nat.le_trans hb1.size hg2.size), hn3, below_grown hb1 (grown_trans hg2 hg3) (Nat.le_refl _) hb1.size⟩
set_option maxHeartbeats 1600000 in
theorem DrawStoreMissing_any (A : Option Addr) (n c : Nat) (w : World) (h : RBytes w w.heap.size A n) (hn : n ≤ maxLen) (hc : n ≤ c) :
    Calls Try.prog 32 #[.slice A n c] w (DrewSR w) := by
  go_enter Try.func32, Try.ntmps32
  go_wp2_with fail
  refine (DrawStoreReach_any A n c w h hn hc).mono ?_
  rintro e w1 ⟨v, F, nf, cf, fs, rfl, h1, h2, h3, h4⟩
  go_wp2_with fail
  refine bodyPost_ret (v := .tuple #[v, .slice F nf cf]) (by simp [results, Try.results32, go_sem]) rfl ?_
  exact ⟨_, F, nf, cf, fs, rfl, h1, h2, h3, h4⟩
set_option maxHeartbeats 1600000 in
theorem hasInt_any (A : Option Addr) (n c : Nat) (xs : List Int) (z : Int) (w : World) (h : RInts w A n xs) (hn : n ≤ maxLen) :
    Calls Try.prog 15 #[.slice A n c, .int .i64 z] w fun e w' => e = .returned (.bool (hasI xs z)) ∧ w = w' := by
  unfold maxLen at hn
  go_enter Try.func15, Try.ntmps15
  go_wp2
  go_loop [5] (fun i => ∃ k : Nat, k ≤ n ∧ i = .int .i64 k ∧ Hid (¬ z ∈ xs.take k)) (fun i => n - (intOf i).toNat)
  case atStart => exact ⟨0, Nat.zero_le _, rfl, by show ¬ _; simp⟩
  case round =>
    obtain ⟨k, hk, rfl, hno⟩ := hrel
    by_cases hlt : k < n
    · obtain ⟨ad, x, rfl, hb, hx, hc⟩ := h.at_ hlt
      have HT := Lib.hid (mem_take_succ xs k x z hx)
      have HM := Lib.hid (List.mem_of_getElem? hx)
      clear hx
      cases he : (x == z)
      · have hne : x ≠ z := by simpa using he
        go_wp2
        go_round
        case rel => exact ⟨k + 1, by omega, by go_num, fun hh => by rcases HT.out.1 hh with h1 | h1; (· exact hno.out h1); exact hne h1⟩
        case measure => simp [intOf]; omega
      · have heq : x = z := by simpa using he
        go_wp2
        go_ret
        exact ⟨ret_bool (by have := HM.out; rw [heq] at this; simp [hasI, this]), rfl⟩
    · obtain rfl : k = n := by omega
      rw [List.take_of_length_le (by rw [h.1]; exact Nat.le_refl _)] at hno
      go_wp2
      go_ret
      exact ⟨ret_bool (by simp [hasI, hno.out]), rfl⟩
def ascI (xs : List Int) : Prop := xs.Pairwise (· < ·)
set_option maxHeartbeats 1600000 in
theorem ascending_any (A : Option Addr) (n c : Nat) (xs : List Int) (w : World) (h : RInts w A n xs) (hn : n ≤ maxLen) (hp : ascI xs) :
    Calls Try.prog 31 #[.slice A n c] w fun e w' => e = .returned (.bool true) ∧ Below w.heap.size w w' := by
  unfold maxLen at hn
  have hl := h.1
  go_enter Try.func31, Try.ntmps31
  go_wp2
  go_loopw [3] (fun i wr => ∃ k : Nat, 1 ≤ k ∧ k ≤ n + 1 ∧ i = .int .i64 k ∧ Below w.heap.size w wr) (fun i _ => n + 1 - (intOf i).toNat)
  case atStart => exact ⟨1, Nat.le_refl _, by omega, rfl, Below.refl _ _⟩
  case round =>
    obtain ⟨k, hk1, hk, rfl, hbr⟩ := hrel
    by_cases hlt : k < n
    · obtain ⟨ad, x, rfl, hb, hxk, hc⟩ := (h.below hbr (Nat.le_refl _)).at_ (k := k - 1) (by omega)
      obtain ⟨ad', y, e9, hb', hyk, hc'⟩ := (h.below hbr (Nat.le_refl _)).at_ hlt
      injection e9 with e9
      subst e9
      have hxy : x < y := by
        obtain ⟨u1, u2⟩ := List.getElem?_eq_some_iff.1 hxk
        obtain ⟨u3, u4⟩ := List.getElem?_eq_some_iff.1 hyk
        have := List.pairwise_iff_getElem.1 hp (k - 1) k u1 u3 (by omega)
        omega
      have hge : decide (x ≥ y) = false := by simp; omega
      have hge2 : decide (y ≤ x) = false := by simp; omega
      have hcg := cell_regrown hc
      have hcg' := cell_regrown hc'
      have hkk : IntKind.i64.wrap ((k : Int) - 1) = ((k - 1 : Nat) : Int) := by rw [IntKind.wrap_i64]; omega
      have hkk2 : (k : Int) - 1 = ((k - 1 : Nat) : Int) := by omega
      clear hxk hyk hp
      go_wp2
      refine wp_region_ext (by kernel_rfl) (by kernel_rfl) ?_
      repeat (go_big_quiet_step (fail))
      refine wpQuiet_nil ?_
      intro w1 hb1
      go_wp2
      go_roundw
      case rel => exact ⟨k + 1, by omega, by omega, by go_num, below_ext hbr hb1⟩
      case measure => simp [intOf]; omega
    · go_wp2
      go_ret
      exact ⟨rfl, hbr⟩
theorem getR_eq {os : List Ob} (hs : storeB os = true) (z : Int) : getR os z = getO os z := by
  have ha : ascO os = true := by unfold storeB at hs; rw [Bool.and_eq_true] at hs; exact hs.1
  cases hg : getO os z with
  | some o =>
    obtain ⟨k, hk⟩ := List.mem_iff_getElem?.1 (List.mem_of_find?_eq_some hg)
    have he : o.id = z := by
      have := List.find?_some hg
      exact of_decide_eq_true this
    have hl := locO_at ha hk he
    exact getR_some hs hl.1 (by rw [hl.2]; exact hk)
  | none =>
    cases hh : hasO os z with
    | false => exact getR_none hh
    | true =>
      obtain ⟨x, hx, he⟩ := hasO_at hh
      have := List.find?_eq_none.1 hg x (List.mem_of_getElem? hx)
      exact absurd (decide_eq_true he) this
theorem eqI_same (xs : List Int) : eqI xs xs = true := by simp [eqI]
theorem IsRch.len {os : List Ob} {fs L : List Int} {b : Bool} (h : IsRch os fs b L) : L.length ≤ 991 := by
  unfold IsRch at h
  split at h
  · rename_i hv
    rw [Bool.and_eq_true] at hv
    exact nodup_len (asc_nodup h.1) fun x hx => Rch.range (storeB_all hv.1).1 (idsOk_facts hv.2).2.1 x ((h.2 x).1 hx).1
  · rw [h]; simp
theorem IsRch.good {os : List Ob} {fs L : List Int} {b : Bool} (h : IsRch os fs b L) (hne : L ≠ []) : storeB os = true ∧ idsOkB fs = true ∧ AscMem L (fun x => Rch os fs x ∧ isSt os x = b) := by
  unfold IsRch at h
  split at h
  · rename_i hv
    have hv' := hv
    rw [Bool.and_eq_true] at hv'
    exact ⟨hv'.1, hv'.2, h⟩
  · exact absurd h hne
theorem IsRch.asc {os : List Ob} {fs L : List Int} {b : Bool} (h : IsRch os fs b L) : ascI L := by
  unfold IsRch at h
  split at h
  · exact h.1
  · rw [h]; exact List.Pairwise.nil
end Go.Proofs.Yteldghgdpklkfaa
