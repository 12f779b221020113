/- Walks: the laws' copies of their arguments, every slice in memory of its own. -/
import Derived.Test.YtjofgbbofagoiaaMarkQ
import Derived.Test.YtjofgbbofagoiaaToOb
namespace Go.Proofs.Ytjofgbbofagoiaa
open Go.RowKit Go.Sort

theorem toIntS_s (A : Option Addr) (n c : Nat) (xs : List Int) (w : World) (h : RSl repInt 0 w A n xs) (hs : smallI xs) :
    Calls Try.prog 27 #[.slice A n c] w fun e w' => ∃ B, e = .returned (.slice B n n) ∧ SSl 3 sepInt w.heap.size (Iv w.heap.size w'.heap.size) w' B n n xs ∧ Below w.heap.size w w' := by
  have hl := h.1
  unfold smallI at hs
  refine (toIntS_any A n c xs w h.rints (by omega)).mono ?_
  rintro e w' ⟨rfl, hb, hw⟩
  refine ⟨_, rfl, ?_, hw⟩
  have ho := own_blk_ints (lo := w.heap.size) hb (Nat.le_refl _) (by simp only [maxLen]; omega)
  rw [hl] at ho
  exact SSl.of_ints ho fun b h1 h2 _ => ⟨h1, h2⟩
theorem toIntWS_s (A : Option Addr) (n c : Nat) (xs : List Int) (w : World) (h : RSl repIntW 0 w A n xs) (hs : smallI xs) :
    Calls Try.prog 27 #[.slice A n c] w fun e w' => ∃ B, e = .returned (.slice B n n) ∧ SSl 3 sepIntW w.heap.size (Iv w.heap.size w'.heap.size) w' B n n xs ∧ Below w.heap.size w w' :=
  (toIntS_s A n c xs w h.plain hs).mono fun _ _ ⟨B, he, hb, hw⟩ => ⟨B, he, hb.withW h.wf, hw⟩
set_option maxRecDepth 100000 in
set_option maxHeartbeats 3200000 in
theorem toArea_s (cs : List Value) (x : Ar) (w : World) (hv : repAr.V 0 w cs x) (hs : smallAr x) :
    Calls Try.prog 99 #[.agg cs.toArray] w fun e w' => ∃ cs', e = .returned (.agg cs'.toArray) ∧ sepAr.V w.heap.size (Iv w.heap.size w'.heap.size) w' cs' x ∧ Below w.heap.size w w' := by
  obtain ⟨B1, m1, d1, rfl, hr1, hm1⟩ := repAr_cells hv
  have hbx := below_box3 w (.cells #[.int .i64 x.t, .slice B1 m1 d1] 117) (.cells #[.int .i64 0, .slice none 0 0] 70) (.cells #[.int .i64 0, .slice none 0 0] 70)
  have hs1 := hs
  clear hv
  go_enter Try.func99, Try.ntmps99
  go_wp2_with fail
  refine (toObjectS_s B1 m1 d1 x.os _ (hr1.next (by (repeat (refine Below.setCell ?_ (by first | omega | (simp; omega) | simp) _)); exact below_box3 _ _ _ _)) hs1).mono ?_
  rintro e w0 ⟨B1q, rfl, q1, hb0⟩
  have hz0 := hb0.size
  simp only [size_alloc] at hz0
  obtain ⟨hc0, hf0⟩ := bcell_lt hb0 (m := w.heap.size + 1 + 1 + 1) (by simp only [size_alloc]; omega)
  have q1b : SSl 33 sepOb (w.heap.size + 1 + 1 + 1) (Iv (w.heap.size + 1 + 1 + 1) w0.heap.size) w0 B1q m1 m1 x.os := by simpa only [size_setCell, size_alloc] using q1
  have hk0 : ∀ b, w.heap.size + 1 + 1 + 1 ≤ b → b < w.heap.size + 1 + 1 + 1 → w0.heap[b]? = w0.heap[b]? := fun b h1 h2 => by
    rfl
  have hbb0 : Below w.heap.size w w0 := below_ext (by (repeat (refine Below.setCell ?_ (by first | omega | (simp; omega) | simp) _)); exact below_box3 _ _ _ _) hb0
  go_wp2_with fail
  refine bodyPost_ret (v := .agg #[.int .i64 x.t, .slice B1q m1 m1]) (by simp [results, Try.results99, go_sem, hc0]) rfl ⟨[.int .i64 x.t, .slice B1q m1 m1], rfl, ?_, ?_⟩
  · refine sepAr_mk (x := x) ((q1b.kept (fun b hb => ?_)).wide (fun b hb => ?_) |>.down (by omega))
    · obtain ⟨h1, h2⟩ := hb
      (repeat rw [Below.heap_setCell _ _ _ b (by dsimp only; omega)])
    · obtain ⟨h1, h2⟩ := hb
      refine ⟨by omega, ?_⟩
      (try simp only [size_setCell])
      exact h2
  · (repeat (refine Below.setCell ?_ (by first | omega | (simp; omega) | simp) _)); exact hbb0
set_option maxHeartbeats 1600000 in
theorem toAreaS_s (A : Option Addr) (n c : Nat) (xs : List Ar) (w : World) (h : RSl repAr 0 w A n xs) (hs : smallL smallAr xs) :
    Calls Try.prog 59 #[.slice A n c] w fun e w' => ∃ B, e = .returned (.slice B n n) ∧ SSl 70 sepAr w.heap.size (Iv w.heap.size w'.heap.size) w' B n n xs ∧ Below w.heap.size w w' := by
  have hn : n ≤ 1048576 := by have := hs.1; have := h.1; omega
  have hmk := run_make_rep (P := Try.prog) Try.underlying24 Area_info rfl n (by omega) (by omega)
  go_enter Try.func59, Try.ntmps59
  go_wp2
  go_loopw [4] (fun i wr => ∃ (k : Nat) (css : List (List Value)), k ≤ n ∧ i = .int .i64 k ∧ LaidS sepAr wr w.heap.size 70 [.int .i64 0, .slice none 0 0] xs n k wr.heap.size css ∧ Below w.heap.size w wr) (fun i _ => n - (intOf i).toNat)
  case atStart => exact ⟨0, [], Nat.zero_le _, rfl, by simpa using LaidS.start (r := sepAr) w 70 [.int .i64 0, .slice none 0 0] xs n, below_box _ _⟩
  case round =>
    obtain ⟨k, css, hk, rfl, hto, hbr⟩ := hrel
    have hgz := hto.2.2.1
    have hr := h.next hbr
    by_cases hlt : k < n
    · obtain ⟨b, off, x, cs, rfl, hb, hx, hc, hv⟩ := hr.at_ hlt
      have hsm := hs.2 x (List.mem_of_getElem? hx)
      have HX := Lib.hid hx
      have hcall := toArea_s cs x wr hv hsm
      clear hx
      obtain ⟨B1, m1, d1, rfl, hr1, hm1⟩ := repAr_cells hv
      have c0 : wr.cell? ⟨b, off + k * 2, none⟩ = some (.int .i64 x.t) := hc 0 _ rfl
      have c1 : wr.cell? ⟨b, off + k * 2 + 1, none⟩ = some (.slice B1 m1 d1) := hc 1 _ rfl
      clear hc hv
      go_wp2_with fail
      refine hcall.mono ?_
      rintro e w1 ⟨csq, rfl, hv1, hb1⟩
      have hv2 := sepAr.down hv1 (Nat.succ_le_of_lt hgz)
      obtain ⟨V0, p0, e0, rfl, -⟩ := sepAr_cells hv1
      have hto1 := hto.next hb1
      have hsz := hb1.size
      obtain ⟨g0, f0⟩ : w1.cell? ⟨w.heap.size, k * 2, none⟩ = some (.int .i64 0) ∧ w1.frozen? ⟨w.heap.size, k * 2, none⟩ = false := hto1.cell rfl hlt (j := 0) rfl
      obtain ⟨g1, f1⟩ : w1.cell? ⟨w.heap.size, k * 2 + 1, none⟩ = some (.slice none 0 0) ∧ w1.frozen? ⟨w.heap.size, k * 2 + 1, none⟩ = false := hto1.cell rfl hlt (j := 1) rfl
      have HTO := Lib.hid (hto1.step rfl hlt HX.out hv2 hsz (Nat.le_refl _))
      clear hto1 hv2 hv1
      go_wp2
      go_roundw
      case rel => exact ⟨k + 1, _, by omega, by go_num, by simp only [size_setCell]; exact HTO.out, ((below_ext hbr hb1).setCell (p := ⟨w.heap.size, _, none⟩) (Nat.le_refl _) _).setCell (p := ⟨w.heap.size, _, none⟩) (Nat.le_refl _) _⟩
      case measure => simp [intOf]; omega
    · obtain rfl : k = n := by omega
      go_wp2
      go_ret
      exact ⟨_, rfl, hto.done h.1 (by simp only [maxLen]; omega), hbr⟩
set_option maxRecDepth 100000 in
set_option maxHeartbeats 3200000 in
theorem toQuarantine_s (cs : List Value) (x : Qu) (w : World) (hv : repQu.V 0 w cs x) (hs : smallQu x) :
    Calls Try.prog 19 #[.agg cs.toArray] w fun e w' => ∃ cs', e = .returned (.agg cs'.toArray) ∧ sepQu.V w.heap.size (Iv w.heap.size w'.heap.size) w' cs' x ∧ Below w.heap.size w w' := by
  obtain ⟨B0, m0, d0, B1, m1, d1, rfl, hr0, hm0, hr1, hm1⟩ := repQu_cells hv
  have hbx := below_box3 w (.cells #[.slice B0 m0 d0, .slice B1 m1 d1] 42) (.cells #[.slice none 0 0, .slice none 0 0] 26) (.cells #[.slice none 0 0, .slice none 0 0] 26)
  obtain ⟨hs0, hs1⟩ := hs
  clear hv
  go_enter Try.func19, Try.ntmps19
  go_wp2_with fail
  refine (toObjectS_s B0 m0 d0 x.main _ (hr0.next (by (repeat (refine Below.setCell ?_ (by first | omega | (simp; omega) | simp) _)); exact below_box3 _ _ _ _)) hs0).mono ?_
  rintro e w0 ⟨B0q, rfl, q0, hb0⟩
  have hz0 := hb0.size
  simp only [size_alloc] at hz0
  obtain ⟨hc0, hf0⟩ := bcell_lt hb0 (m := w.heap.size + 1 + 1 + 1) (by simp only [size_alloc]; omega)
  have q0b : SSl 33 sepOb (w.heap.size + 1 + 1 + 1) (Iv (w.heap.size + 1 + 1 + 1) w0.heap.size) w0 B0q m0 m0 x.main := by simpa only [size_setCell, size_alloc] using q0
  have hk0 : ∀ b, w.heap.size + 1 + 1 + 1 ≤ b → b < w.heap.size + 1 + 1 + 1 → w0.heap[b]? = w0.heap[b]? := fun b h1 h2 => by
    rfl
  have hbb0 : Below w.heap.size w w0 := below_ext (by (repeat (refine Below.setCell ?_ (by first | omega | (simp; omega) | simp) _)); exact below_box3 _ _ _ _) hb0
  go_wp2_with fail
  refine (toAreaS_s B1 m1 d1 x.ars _ (hr1.next (by (repeat (refine Below.setCell ?_ (by first | omega | (simp; omega) | simp) _)); exact hbb0)) hs1).mono ?_
  rintro e w1 ⟨B1q, rfl, q1, hb1⟩
  have hz1 := hb1.size
  simp only [size_setCell] at hz1
  obtain ⟨hc1, hf1⟩ := bcell_lt hb1 (m := w.heap.size + 1 + 1 + 1) (by simp only [size_setCell]; omega)
  have q1b : SSl 70 sepAr (w0.heap.size) (Iv (w0.heap.size) w1.heap.size) w1 B1q m1 m1 x.ars := by simpa only [size_setCell, size_alloc] using q1
  have hk1 : ∀ b, w.heap.size + 1 + 1 + 1 ≤ b → b < w0.heap.size → w1.heap[b]? = w0.heap[b]? := fun b h1 h2 => by
    rw [hb1.block b (by simp only [size_setCell]; omega)]
    (repeat rw [Below.heap_setCell _ _ _ b (by dsimp only; omega)])
  have hbb1 : Below w.heap.size w w1 := below_ext (by (repeat (refine Below.setCell ?_ (by first | omega | (simp; omega) | simp) _)); exact hbb0) hb1
  go_wp2_with fail
  refine bodyPost_ret (v := .agg #[.slice B0q m0 m0, .slice B1q m1 m1]) (by simp [results, Try.results19, go_sem, hc0, hc1]) rfl ⟨[.slice B0q m0 m0, .slice B1q m1 m1], rfl, ?_, ?_⟩
  · refine sepQu_mk (x := x) (S1 := Iv (w.heap.size + 1 + 1 + 1) w0.heap.size) (S2 := Iv w0.heap.size w1.heap.size) (fun b hb => ?_) (fun b hb => ?_) (fun b h1 h2 => by have := h1.2; have := h2.1; omega) ((q0b.kept (fun b hb => ?_)).down (by omega)) ((q1b.kept (fun b hb => ?_)).down (by omega))
    · obtain ⟨h1, h2⟩ := hb
      refine ⟨by omega, ?_⟩
      (try simp only [size_setCell])
      omega
    · obtain ⟨h1, h2⟩ := hb
      refine ⟨by omega, ?_⟩
      (try simp only [size_setCell])
      omega
    · obtain ⟨h1, h2⟩ := hb
      (repeat rw [Below.heap_setCell _ _ _ b (by dsimp only; omega)])
      exact hk1 b h1 h2
    · obtain ⟨h1, h2⟩ := hb
      (repeat rw [Below.heap_setCell _ _ _ b (by dsimp only; omega)])
  · (repeat (refine Below.setCell ?_ (by first | omega | (simp; omega) | simp) _)); exact hbb1
end Go.Proofs.Ytjofgbbofagoiaa
