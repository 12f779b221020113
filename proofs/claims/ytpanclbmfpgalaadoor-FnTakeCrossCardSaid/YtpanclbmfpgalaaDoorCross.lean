/- Walks: UpdatesCross: do two lists of updates have a common ref. -/
import Derived.Test.YtpanclbmfpgalaaDoorLock
namespace Go.Proofs.YtpanclbmfpgalaaDoor
open Go.RowKit Go.Sort

def hasRef (us : List Up) (r : Int) : Bool := us.any fun v => r == v.ref
def crossR (us vs : List Up) : Bool := us.any fun u => hasRef vs u.ref

set_option maxHeartbeats 800000 in
theorem eqRef_any (r : Int) (v : Up) (g : Nat) (w : World) (hc : w.cell? ⟨g, 0, none⟩ = some (.int .i64 r)) :
    Calls Tryd.prog 29 #[.agg #[.int .i64 v.ref, .int .i64 v.old, .int .i64 v.new], .pointer (some ⟨g, 0, none⟩)] w fun e w' => e = .returned (.bool (r == v.ref)) ∧ Below w.heap.size w w' := by
  have hg := block_lt_of_cellL hc
  have bo := Blk.new w 50 [.int .i64 v.ref, .int .i64 v.old, .int .i64 v.new]
  have hb := below_box w (.cells #[.int .i64 v.ref, .int .i64 v.old, .int .i64 v.new] 50)
  have hc1 := (hb.cell (p := ⟨g, 0, none⟩) hg).trans hc
  obtain ⟨c0, c1, c2⟩ := bo.cells3
  go_enter Tryd.func29, Tryd.ntmps29
  go_wp2
  go_ret
  exact ⟨rfl, hb⟩

set_option maxHeartbeats 1600000 in
theorem idx0_any (A : Option Addr) (n c : Nat) (us : List Up) (w : World) (h : RUps w A n us) (hn : n ≤ maxLen) (r : Int) (g : Nat) (hcell : w.cell? ⟨g, 0, none⟩ = some (.int .i64 r)) :
    Calls Tryd.prog 41 #[.slice A n c, .func (.func 29) #[] #[.pointer (some ⟨g, 0, none⟩)]] w fun e w' => (∃ z : Int, e = .returned (.int .i64 z) ∧ decide (z ≥ 0) = us.any (fun v : Up => r == v.ref)) ∧ Below w.heap.size w w' := by
  unfold maxLen at hn
  go_enter Tryd.func41, Tryd.ntmps41
  go_wp2
  go_loopw [8] (fun i wr => ∃ k : Nat, k ≤ n ∧ i = .int .i64 k ∧ Hid ((us.take k).any (fun v : Up => r == v.ref) = false) ∧ Below w.heap.size w wr) (fun i _ => n - (intOf i).toNat)
  case atStart => exact ⟨0, Nat.zero_le _, rfl, (show (us.take 0).any (fun v : Up => r == v.ref) = false by simp), Below.refl _ _⟩
  case round =>
    obtain ⟨k, hk, rfl, hall, hbr⟩ := hrel
    by_cases hlt : k < n
    · obtain ⟨b, off, u, rfl, hb, hx, c0, c1, c2'⟩ := (h.next hbr).at_ hlt
      have HX := Lib.hid hx
      have hkl : k < us.length := by have := h.1; omega
      have hxe : us[k] = u := (List.getElem?_eq_some_iff.1 hx).2
      have HXE := Lib.hid hxe
      clear hx hxe
      have hcl := eqRef_any r u g _ ((hbr.cell (p := ⟨g, 0, none⟩) (block_lt_of_cellL hcell)).trans hcell)
      cases hx1 : (fun v : Up => r == v.ref) u
      · simp only at hx1
        rw [hx1] at hcl
        go_wp2_with (refine hcl.mono ?_; rintro e w2 ⟨rfl, hb2⟩)
        go_roundw
        case rel => exact ⟨k + 1, by omega, by go_num, (show (us.take (k + 1)).any (fun v : Up => r == v.ref) = false by
          rw [List.take_succ_eq_append_getElem hkl, List.any_append, hall.out, HXE.out]; simp [hx1]), below_ext hbr hb2⟩
        case measure => simp [intOf]; omega
      · simp only at hx1
        rw [hx1] at hcl
        go_wp2_with (refine hcl.mono ?_; rintro e w2 ⟨rfl, hb2⟩)
        go_ret
        refine ⟨⟨k, rfl, ?_⟩, below_ext hbr hb2⟩
        have h1 : us.any (fun v : Up => r == v.ref) = true := List.any_eq_true.2 ⟨u, List.mem_of_getElem? HX.out, hx1⟩
        rw [h1]
        exact decide_eq_true (by omega)
    · obtain rfl : k = n := by omega
      rw [List.take_of_length_le (by have := h.1; omega)] at hall
      go_wp2
      go_ret
      exact ⟨⟨-1, rfl, by rw [hall.out]; rfl⟩, hbr⟩

set_option maxHeartbeats 800000 in
theorem con0_any (A : Option Addr) (n c : Nat) (us : List Up) (w : World) (h : RUps w A n us) (hn : n ≤ maxLen) (r : Int) (g : Nat) (hcell : w.cell? ⟨g, 0, none⟩ = some (.int .i64 r)) :
    Calls Tryd.prog 27 #[.slice A n c, .func (.func 29) #[] #[.pointer (some ⟨g, 0, none⟩)]] w fun e w' => e = .returned (.bool (us.any (fun v : Up => r == v.ref))) ∧ Below w.heap.size w w' := by
  go_enter Tryd.func27, Tryd.ntmps27
  go_wp2_with fail
  refine (idx0_any A n c us w h hn r g hcell).mono ?_
  rintro e w' ⟨⟨z, rfl, hz⟩, hb⟩
  go_wp2_with fail
  go_ret
  exact ⟨ret_bool (by rw [← hz]), hb⟩

set_option maxHeartbeats 800000 in
theorem crossIn_any (u : Up) (g : Nat) (A2 : Option Addr) (n2 c2 : Nat) (vs : List Up) (w : World) (hv : RUps w A2 n2 vs) (hn2 : n2 ≤ maxLen) (hc : w.cell? ⟨g, 0, none⟩ = some (.slice A2 n2 c2)) :
    Calls Tryd.prog 28 #[.agg #[.int .i64 u.ref, .int .i64 u.old, .int .i64 u.new], .pointer (some ⟨g, 0, none⟩)] w fun e w' => e = .returned (.bool (hasRef vs u.ref)) ∧ Below w.heap.size w w' := by
  have hg := block_lt_of_cellL hc
  have bo := Blk.new w 50 [.int .i64 u.ref, .int .i64 u.old, .int .i64 u.new]
  have hb := below_box w (.cells #[.int .i64 u.ref, .int .i64 u.old, .int .i64 u.new] 50)
  have hc1 := (hb.cell (p := ⟨g, 0, none⟩) hg).trans hc
  obtain ⟨c0, c1, c2'⟩ := bo.cells3
  have h2 := hv.next hb
  go_enter Tryd.func28, Tryd.ntmps28
  go_wp2_with fail
  refine (con0_any A2 n2 c2 vs _ h2 hn2 u.ref w.heap.size c0).mono ?_
  rintro e w2 ⟨rfl, hb2⟩
  go_wp2_with fail
  go_ret
  exact ⟨rfl, below_ext hb hb2⟩

set_option maxHeartbeats 1600000 in
theorem idx1_any (A : Option Addr) (n c : Nat) (us : List Up) (w : World) (h : RUps w A n us) (hn : n ≤ maxLen) (g : Nat) (A2 : Option Addr) (n2 c2 : Nat) (vs : List Up) (hv : RUps w A2 n2 vs) (hn2 : n2 ≤ maxLen) (hcell : w.cell? ⟨g, 0, none⟩ = some (.slice A2 n2 c2)) :
    Calls Tryd.prog 41 #[.slice A n c, .func (.func 28) #[] #[.pointer (some ⟨g, 0, none⟩)]] w fun e w' => (∃ z : Int, e = .returned (.int .i64 z) ∧ decide (z ≥ 0) = us.any (fun u : Up => hasRef vs u.ref)) ∧ Below w.heap.size w w' := by
  unfold maxLen at hn
  go_enter Tryd.func41, Tryd.ntmps41
  go_wp2
  go_loopw [8] (fun i wr => ∃ k : Nat, k ≤ n ∧ i = .int .i64 k ∧ Hid ((us.take k).any (fun u : Up => hasRef vs u.ref) = false) ∧ Below w.heap.size w wr) (fun i _ => n - (intOf i).toNat)
  case atStart => exact ⟨0, Nat.zero_le _, rfl, (show (us.take 0).any (fun u : Up => hasRef vs u.ref) = false by simp), Below.refl _ _⟩
  case round =>
    obtain ⟨k, hk, rfl, hall, hbr⟩ := hrel
    by_cases hlt : k < n
    · obtain ⟨b, off, u, rfl, hb, hx, c0, c1, c2'⟩ := (h.next hbr).at_ hlt
      have HX := Lib.hid hx
      have hkl : k < us.length := by have := h.1; omega
      have hxe : us[k] = u := (List.getElem?_eq_some_iff.1 hx).2
      have HXE := Lib.hid hxe
      clear hx hxe
      have hcl := crossIn_any u g A2 n2 c2 vs _ (hv.next hbr) hn2 ((hbr.cell (p := ⟨g, 0, none⟩) (block_lt_of_cellL hcell)).trans hcell)
      cases hx1 : (fun u : Up => hasRef vs u.ref) u
      · simp only at hx1
        rw [hx1] at hcl
        go_wp2_with (refine hcl.mono ?_; rintro e w2 ⟨rfl, hb2⟩)
        go_roundw
        case rel => exact ⟨k + 1, by omega, by go_num, (show (us.take (k + 1)).any (fun u : Up => hasRef vs u.ref) = false by
          rw [List.take_succ_eq_append_getElem hkl, List.any_append, hall.out, HXE.out]; simp [hx1]), below_ext hbr hb2⟩
        case measure => simp [intOf]; omega
      · simp only at hx1
        rw [hx1] at hcl
        go_wp2_with (refine hcl.mono ?_; rintro e w2 ⟨rfl, hb2⟩)
        go_ret
        refine ⟨⟨k, rfl, ?_⟩, below_ext hbr hb2⟩
        have h1 : us.any (fun u : Up => hasRef vs u.ref) = true := List.any_eq_true.2 ⟨u, List.mem_of_getElem? HX.out, hx1⟩
        rw [h1]
        exact decide_eq_true (by omega)
    · obtain rfl : k = n := by omega
      rw [List.take_of_length_le (by have := h.1; omega)] at hall
      go_wp2
      go_ret
      exact ⟨⟨-1, rfl, by rw [hall.out]; rfl⟩, hbr⟩

set_option maxHeartbeats 800000 in
theorem con1_any (A : Option Addr) (n c : Nat) (us : List Up) (w : World) (h : RUps w A n us) (hn : n ≤ maxLen) (g : Nat) (A2 : Option Addr) (n2 c2 : Nat) (vs : List Up) (hv : RUps w A2 n2 vs) (hn2 : n2 ≤ maxLen) (hcell : w.cell? ⟨g, 0, none⟩ = some (.slice A2 n2 c2)) :
    Calls Tryd.prog 27 #[.slice A n c, .func (.func 28) #[] #[.pointer (some ⟨g, 0, none⟩)]] w fun e w' => e = .returned (.bool (us.any (fun u : Up => hasRef vs u.ref))) ∧ Below w.heap.size w w' := by
  go_enter Tryd.func27, Tryd.ntmps27
  go_wp2_with fail
  refine (idx1_any A n c us w h hn g A2 n2 c2 vs hv hn2 hcell).mono ?_
  rintro e w' ⟨⟨z, rfl, hz⟩, hb⟩
  go_wp2_with fail
  go_ret
  exact ⟨ret_bool (by rw [← hz]), hb⟩

set_option maxHeartbeats 1600000 in
theorem updatesCross_any (A : Option Addr) (n c : Nat) (us : List Up) (A2 : Option Addr) (n2 c2 : Nat) (vs : List Up) (w : World) (h : RUps w A n us) (hn : n ≤ maxLen) (hv : RUps w A2 n2 vs) (hn2 : n2 ≤ maxLen) :
    Calls Tryd.prog 10 #[.slice A n c, .slice A2 n2 c2] w fun e w' => e = .returned (.bool (updB us && updB vs && crossR us vs)) ∧ Below w.heap.size w w' := by
  have hb := below_box w (.cells #[.slice A2 n2 c2] 24)
  have bo := Blk.new w 24 [.slice A2 n2 c2]
  have c0 : (w.alloc (.cells #[.slice A2 n2 c2] 24)).cell? ⟨w.heap.size, 0, none⟩ = some (.slice A2 n2 c2) := by rw [bo.cell]; rfl
  have h1 := h.next hb
  have h2 := hv.next hb
  go_enter Tryd.func10, Tryd.ntmps10
  cases hu : updB us
  · go_wp2_with (go_at_call 19; refine (implUpdatesValid_any A n c us _ h1 hn).mono ?_; rw [hu]; rintro e w2 ⟨rfl, hb2⟩)
    go_ret
    exact ⟨rfl, below_ext hb hb2⟩
  · cases hq : updB vs
    · go_wp2_with fail
      refine (implUpdatesValid_any A n c us _ h1 hn).mono ?_
      rw [hu]
      rintro e w2 ⟨rfl, hb2⟩
      have c1 := (hb2.cell (p := ⟨w.heap.size, 0, none⟩) (block_lt_of_cellL c0)).trans c0
      go_wp2_with fail
      refine (implUpdatesValid_any A2 n2 c2 vs _ (h2.next hb2) hn2).mono ?_
      rw [hq]
      rintro e w3 ⟨rfl, hb3⟩
      go_wp2_with fail
      go_ret
      exact ⟨rfl, below_ext (below_ext hb hb2) hb3⟩
    · go_wp2_with fail
      refine (implUpdatesValid_any A n c us _ h1 hn).mono ?_
      rw [hu]
      rintro e w2 ⟨rfl, hb2⟩
      have c1 := (hb2.cell (p := ⟨w.heap.size, 0, none⟩) (block_lt_of_cellL c0)).trans c0
      go_wp2_with fail
      refine (implUpdatesValid_any A2 n2 c2 vs _ (h2.next hb2) hn2).mono ?_
      rw [hq]
      rintro e w3 ⟨rfl, hb3⟩
      have c2' := (hb3.cell (p := ⟨w.heap.size, 0, none⟩) (block_lt_of_cellL c1)).trans c1
      go_wp2_with fail
      refine (con1_any A n c us _ ((h1.next hb2).next hb3) hn w.heap.size A2 n2 c2 vs ((h2.next hb2).next hb3) hn2 c2').mono ?_
      rintro e w4 ⟨rfl, hb4⟩
      go_wp2_with fail
      go_ret
      exact ⟨rfl, below_ext (below_ext (below_ext hb hb2) hb3) hb4⟩
end Go.Proofs.YtpanclbmfpgalaaDoor
