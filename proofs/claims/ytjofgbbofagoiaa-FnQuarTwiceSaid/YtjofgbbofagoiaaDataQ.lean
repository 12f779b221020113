/- Walks: the laws' helpers on the program's struct types: sizes, copies, comparisons. -/
import Derived.Test.YtjofgbbofagoiaaGen
namespace Go.Proofs.Ytjofgbbofagoiaa
open Go.RowKit Go.Sort

def smallI (xs : List Int) : Prop := xs.length ≤ 1048576
def smallL {α : Type} (S : α → Prop) (xs : List α) : Prop := xs.length ≤ 1048576 ∧ ∀ x ∈ xs, S x
theorem eqI_self (xs : List Int) : eqI xs xs = true := by simp [eqI]
theorem size_setCell (w : World) (p : Addr) (u : Value) : (w.setCell p u).heap.size = w.heap.size := by simp [World.setCell]
theorem size_alloc (w : World) (o : Obj) : (w.alloc o).heap.size = w.heap.size + 1 := by simp
theorem bcell_lt {W w1 : World} (hb : Below W.heap.size W w1) {m : Nat} (hm : m ≤ W.heap.size) : (∀ b o, b < m → w1.cell? ⟨b, o, none⟩ = W.cell? ⟨b, o, none⟩) ∧ (∀ b o, b < m → w1.frozen? ⟨b, o, none⟩ = W.frozen? ⟨b, o, none⟩) :=
  ⟨fun b o h => (bcell hb).1 b o (Nat.lt_of_lt_of_le h hm), fun b o h => (bcell hb).2 b o (Nat.lt_of_lt_of_le h hm)⟩
theorem szIntS_g (A : Option Addr) (n c : Nat) (xs : List Int) (l : Int) (w : World) (h : RSl repInt 0 w A n xs) (hn : n ≤ maxLen) (h0 : 0 ≤ l) (h1 : l ≤ 1048576) :
    Calls Try.prog 113 #[.slice A n c, .int .i64 l] w fun e w' => (∃ v, e = .returned v ∧ IsLeft l (smallI xs) v) ∧ Below w.heap.size w w' :=
  (szIntS_any A n c l w h0 h1 hn).mono fun e w' ⟨he, hw⟩ => ⟨⟨_, he, _, rfl, by
    have := h.1
    unfold szI smallI
    split
    · exact Or.inl (by omega)
    · exact Or.inr ⟨by omega, by omega, by omega⟩⟩, hw ▸ Below.refl _ _⟩
theorem toIntS_g (A : Option Addr) (n c : Nat) (xs : List Int) (w : World) (h : RSl repInt 0 w A n xs) (hs : smallI xs) :
    Calls Try.prog 27 #[.slice A n c] w fun e w' => ∃ B, e = .returned (.slice B n n) ∧ RSl repInt w.heap.size w' B n xs ∧ Below w.heap.size w w' :=
  (toIntS_any A n c xs w h.rints (by have := h.1; unfold smallI at hs; omega)).mono fun e w' ⟨he, hb, hw⟩ => ⟨_, he, RSl.of_blk hb (Nat.le_refl _) h.1.symm, hw⟩
theorem eqIntS_g (A B : Option Addr) (n c m d : Nat) (xs ys : List Int) (w : World) (hx : RSl repInt 0 w A n xs) (hy : RSl repInt 0 w B m ys) (hn : n ≤ maxLen) (hm : m ≤ maxLen) :
    Calls Try.prog 28 #[.slice A n c, .slice B m d] w fun e w' => e = .returned (.bool (eqI xs ys)) ∧ Below w.heap.size w w' := eqIntS_any A B n c m d xs ys w hx.rints hy.rints hn hm
theorem szObjectS_g (A : Option Addr) (n c : Nat) (os : List Ob) (l : Int) (w : World) (h : RSl repOb 0 w A n os) (hn : n ≤ maxLen) (h0 : 0 ≤ l) (h1 : l ≤ 1048576) :
    Calls Try.prog 55 #[.slice A n c, .int .i64 l] w fun e w' => (∃ v, e = .returned v ∧ IsLeft l (smallO os) v) ∧ Below w.heap.size w w' := szObjectS_any A n c os l w h.robjs hn h0 h1
theorem toObjectS_g (A : Option Addr) (n c : Nat) (os : List Ob) (w : World) (h : RSl repOb 0 w A n os) (hs : smallO os) :
    Calls Try.prog 58 #[.slice A n c] w fun e w' => ∃ B, e = .returned (.slice B n n) ∧ RSl repOb w.heap.size w' B n os ∧ Below w.heap.size w w' :=
  (toObjectS_any A n c os w h.robjs hs).mono fun _ _ ⟨_, he, ho, hw⟩ => ⟨_, he, ho.rsl h.1.symm hs, hw⟩
theorem eqObjectS_g (A B : Option Addr) (n c m d : Nat) (xs ys : List Ob) (w : World) (hx : RSl repOb 0 w A n xs) (hy : RSl repOb 0 w B m ys) (hn : n ≤ maxLen) (hm : m ≤ maxLen) :
    Calls Try.prog 61 #[.slice A n c, .slice B m d] w fun e w' => e = .returned (.bool (eqOs xs ys)) ∧ Below w.heap.size w w' := eqObjectS_any A B n c m d xs ys w hx.robjs hy.robjs hn hm

structure Ar where
  t : Int
  os : List Ob
instance : Inhabited Ar := ⟨⟨0, []⟩⟩
def repAr : Rep Ar := repAs (rep2 repInt (repSl repOb)) fun x => (x.t, x.os)
theorem repAr_cells {lo : Nat} {w : World} {cs : List Value} {x : Ar} (h : repAr.V lo w cs x) : ∃ B1 m1 d1, cs = [.int .i64 x.t, .slice B1 m1 d1] ∧ RSl repOb lo w B1 m1 x.os ∧ m1 ≤ maxLen := by
  obtain ⟨c0, e0, rfl, p0, q0⟩ := h
  have z0 : c0 = [.int .i64 x.t] := p0
  subst z0
  obtain ⟨B1, m1, d1, rfl, r1, s1⟩ := q0
  exact ⟨B1, m1, d1, rfl, r1, s1⟩
theorem repAr_mk {lo : Nat} {w : World} {x : Ar} {B1 : Option Addr} {m1 d1 : Nat} (r1 : RSl repOb lo w B1 m1 x.os) (s1 : m1 ≤ maxLen) : repAr.V lo w [.int .i64 x.t, .slice B1 m1 d1] x :=
  ⟨[.int .i64 x.t], [.slice B1 m1 d1], rfl, rfl, ⟨B1, m1, d1, rfl, r1, s1⟩⟩
def smallAr (x : Ar) : Prop := smallO x.os
def eqAr (x y : Ar) : Bool := (x.t == y.t) && eqOs x.os y.os
theorem eqAr_refl (x : Ar) : eqAr x x = true := by simp [eqAr, eqOs_refl]

set_option maxHeartbeats 1600000 in
theorem szArea_g (cs : List Value) (x : Ar) (l : Int) (w : World) (hv : repAr.V 0 w cs x) (h0 : 0 ≤ l) (h1 : l ≤ 1048576) :
    Calls Try.prog 96 #[.agg cs.toArray, .int .i64 l] w fun e w' => (∃ v, e = .returned v ∧ IsLeft l (smallAr x) v) ∧ Below w.heap.size w w' := by
  obtain ⟨B1, m1, d1, rfl, hr1, hm1⟩ := repAr_cells hv
  have hbx := below_box w (.cells #[.int .i64 x.t, .slice B1 m1 d1] 117)
  have k1 := hr1.next hbx
  go_enter Try.func96, Try.ntmps96
  clear hv
  go_wp2_with fail
  refine (szObjectS_g B1 m1 d1 x.os l _ k1 hm1 h0 h1).mono ?_
  rintro e w0 ⟨⟨v0, rfl, r0, rfl, hs0⟩, hb0⟩
  obtain ⟨hc0, hf0⟩ := bcell hb0
  have hbb0 := below_ext hbx hb0
  rcases hs0 with hs0 | ⟨hp0, hl0, hsm0⟩
  · go_wp2_with fail
    go_ret
    exact ⟨⟨_, rfl, _, rfl, Or.inl (by omega)⟩, hbb0⟩
  · skip
    go_wp2_with fail
    go_ret
    exact ⟨⟨_, rfl, _, rfl, Or.inr ⟨by omega, by omega, hsm0⟩⟩, hbb0⟩
set_option maxHeartbeats 1600000 in
theorem szAreaS_g (A : Option Addr) (n c : Nat) (xs : List Ar) (l : Int) (w : World) (h : RSl repAr 0 w A n xs) (hn : n ≤ maxLen) (h0 : 0 ≤ l) (h1 : l ≤ 1048576) :
    Calls Try.prog 56 #[.slice A n c, .int .i64 l] w fun e w' => (∃ v, e = .returned v ∧ IsLeft l (smallL smallAr xs) v) ∧ Below w.heap.size w w' := by
  have hn0 := hn
  unfold maxLen at hn0
  by_cases hs : l - n < 0
  · go_enter Try.func56, Try.ntmps56
    go_wp2
    go_ret
    exact ⟨⟨_, rfl, _, rfl, Or.inl (by omega)⟩, Below.refl _ _⟩
  · have hn2 : n ≤ 1048576 := by omega
    go_enter Try.func56, Try.ntmps56
    go_wp2
    go_loopw [1, 5] (fun s i wr => ∃ (k : Nat) (r : Int), k ≤ n ∧ i = .int .i64 k ∧ s = .int .i64 r ∧ 0 ≤ r ∧ r ≤ l ∧ Hid (∀ (j : Nat) (o : Ar), j < k → xs[j]? = some o → smallAr o) ∧ Below w.heap.size w wr) (fun _ i _ => n - (intOf i).toNat)
    case atStart => exact ⟨0, _, Nat.zero_le _, rfl, rfl, by omega, by omega, fun j o hj => absurd hj (by omega), Below.refl _ _⟩
    case round =>
      obtain ⟨k, r, hk, rfl, rfl, hr0, hrl, hsm, hbr⟩ := hrel
      have hr := h.next hbr
      by_cases hlt : k < n
      · obtain ⟨b, off, x, cs, rfl, hb, hx, hc, hv⟩ := hr.at_ hlt
        have HX := Lib.hid hx
        have hcall := szArea_g cs x r wr hv hr0 (by omega)
        clear hx
        obtain ⟨B1, m1, d1, rfl, hr1, hm1⟩ := repAr_cells hv
        have c0 : wr.cell? ⟨b, off + k * 2, none⟩ = some (.int .i64 x.t) := hc 0 _ rfl
        have c1 : wr.cell? ⟨b, off + k * 2 + 1, none⟩ = some (.slice B1 m1 d1) := hc 1 _ rfl
        clear hc hv
        go_wp2_with fail
        refine hcall.mono ?_
        rintro e w1 ⟨⟨v1, rfl, r1, rfl, hs1⟩, hb1⟩
        rcases hs1 with hs1 | ⟨hp1, hl1, hsm1⟩
        · go_wp2_with fail
          go_ret
          exact ⟨⟨_, rfl, _, rfl, Or.inl (by omega)⟩, below_ext hbr hb1⟩
        · have HS := Lib.hid hsm1
          clear hsm1
          go_wp2_with fail
          go_roundw
          case rel => exact ⟨k + 1, _, by omega, by go_num, rfl, by omega, by omega, fun j o' hj ho' => by
            by_cases hjk : j < k
            · exact hsm.out j o' hjk ho'
            · obtain rfl : j = k := by omega
              rw [HX.out] at ho'; injection ho' with ho'; subst ho'
              exact HS.out, below_ext hbr hb1⟩
          case measure => simp [intOf]; omega
      · obtain rfl : k = n := by omega
        go_wp2
        go_ret
        exact ⟨⟨_, rfl, r, rfl, Or.inr ⟨hr0, hrl, ⟨by rw [h.1]; omega, fun o ho => by
          obtain ⟨j, hj⟩ := List.mem_iff_getElem?.1 ho
          exact hsm.out j o (by have := (List.getElem?_eq_some_iff.1 hj).1; have := h.1; omega) hj⟩⟩⟩, hbr⟩
set_option maxRecDepth 100000 in
set_option maxHeartbeats 3200000 in
theorem toArea_g (cs : List Value) (x : Ar) (w : World) (hv : repAr.V 0 w cs x) (hs : smallAr x) :
    Calls Try.prog 99 #[.agg cs.toArray] w fun e w' => ∃ cs', e = .returned (.agg cs'.toArray) ∧ repAr.V w.heap.size w' cs' x ∧ Below w.heap.size w w' := by
  obtain ⟨B1, m1, d1, rfl, hr1, hm1⟩ := repAr_cells hv
  have hbx := below_box3 w (.cells #[.int .i64 x.t, .slice B1 m1 d1] 117) (.cells #[.int .i64 0, .slice none 0 0] 70) (.cells #[.int .i64 0, .slice none 0 0] 70)
  have k1 := hr1.next hbx
  have hs1 := hs
  clear hv
  go_enter Try.func99, Try.ntmps99
  go_wp2_with fail
  refine (toObjectS_g B1 m1 d1 x.os _ (hr1.next (by (repeat (refine Below.setCell ?_ (by first | omega | (simp; omega) | simp) _)); exact below_box3 _ _ _ _)) hs1).mono ?_
  rintro e w0 ⟨B1q, rfl, q1, hb0⟩
  have hz0 := hb0.size
  simp only [size_alloc] at hz0
  obtain ⟨hc0, hf0⟩ := bcell_lt hb0 (m := w.heap.size + 1 + 1 + 1) (by simp only [size_alloc]; omega)
  have q1b := q1.down (lo' := w.heap.size + 3) (by simp only [size_alloc]; omega)
  have hbb0 : Below w.heap.size w w0 := below_ext (by (repeat (refine Below.setCell ?_ (by first | omega | (simp; omega) | simp) _)); exact below_box3 _ _ _ _) hb0
  go_wp2_with fail
  refine bodyPost_ret (v := .agg #[.int .i64 x.t, .slice B1q m1 m1]) (by simp [results, Try.results99, go_sem, hc0]) rfl ⟨_, rfl, repAr_mk ?_ hm1, ?_⟩
  · refine RSl.down (lo := w.heap.size + 3) ?_ (by omega)
    (repeat (refine RSl.far ?_ (by first | omega | (simp; omega) | simp)))
    exact q1b
  · (repeat (refine Below.setCell ?_ (by first | omega | (simp; omega) | simp) _)); exact hbb0
theorem Area_info : (Try.prog.info? 70).map (fun i => (i.zero, i.size, i.bytes)) = some (some (.agg #[.int .i64 0, .slice none 0 0]), 2, 32) := by kernel_rfl
set_option maxHeartbeats 1600000 in
theorem toAreaS_g (A : Option Addr) (n c : Nat) (xs : List Ar) (w : World) (h : RSl repAr 0 w A n xs) (hs : smallL smallAr xs) :
    Calls Try.prog 59 #[.slice A n c] w fun e w' => ∃ B, e = .returned (.slice B n n) ∧ RSl repAr w.heap.size w' B n xs ∧ Below w.heap.size w w' := by
  have hn : n ≤ 1048576 := by have := hs.1; have := h.1; omega
  have hmk := run_make_rep (P := Try.prog) Try.underlying24 Area_info rfl n (by omega) (by omega)
  go_enter Try.func59, Try.ntmps59
  go_wp2
  go_loopw [4] (fun i wr => ∃ (k : Nat) (css : List (List Value)), k ≤ n ∧ i = .int .i64 k ∧ Laid repAr wr w.heap.size 70 [.int .i64 0, .slice none 0 0] xs n k css ∧ w.heap.size < wr.heap.size ∧ Below w.heap.size w wr) (fun i _ => n - (intOf i).toNat)
  case atStart => exact ⟨0, [], Nat.zero_le _, rfl, Laid.start w _ _ xs n, by simp, below_box _ _⟩
  case round =>
    obtain ⟨k, css, hk, rfl, hto, hgz, hbr⟩ := hrel
    have hr := h.next hbr
    by_cases hlt : k < n
    · obtain ⟨b, off, x, cs, rfl, hb, hx, hc, hv⟩ := hr.at_ hlt
      have hsm := hs.2 x (List.mem_of_getElem? hx)
      have HX := Lib.hid hx
      have hcall := toArea_g cs x wr hv hsm
      clear hx
      obtain ⟨B1, m1, d1, rfl, hr1, hm1⟩ := repAr_cells hv
      have c0 : wr.cell? ⟨b, off + k * 2, none⟩ = some (.int .i64 x.t) := hc 0 _ rfl
      have c1 : wr.cell? ⟨b, off + k * 2 + 1, none⟩ = some (.slice B1 m1 d1) := hc 1 _ rfl
      clear hc hv
      go_wp2_with fail
      refine hcall.mono ?_
      rintro e w1 ⟨csq, rfl, hv1, hb1⟩
      have hv2 := repAr.down hv1 (Nat.succ_le_of_lt hgz)
      obtain ⟨B1q, m1q, d1q, rfl, hr1q, hm1q⟩ := repAr_cells hv1
      have hto1 := hto.next hb1
      have hsz := hb1.size
      obtain ⟨e0, f0⟩ : w1.cell? ⟨w.heap.size, k * 2, none⟩ = some (.int .i64 0) ∧ w1.frozen? ⟨w.heap.size, k * 2, none⟩ = false := hto1.cell rfl hlt (j := 0) rfl
      obtain ⟨e1, f1⟩ : w1.cell? ⟨w.heap.size, k * 2 + 1, none⟩ = some (.slice none 0 0) ∧ w1.frozen? ⟨w.heap.size, k * 2 + 1, none⟩ = false := hto1.cell rfl hlt (j := 1) rfl
      go_wp2
      go_roundw
      case rel => exact ⟨k + 1, _, by omega, by go_num, hto1.step2 rfl rfl hlt HX.out hv2, by simp; omega, ((below_ext hbr hb1).setCell (p := ⟨w.heap.size, _, none⟩) (Nat.le_refl _) _).setCell (p := ⟨w.heap.size, _, none⟩) (Nat.le_refl _) _⟩
      case measure => simp [intOf]; omega
    · obtain rfl : k = n := by omega
      go_wp2
      go_ret
      exact ⟨_, rfl, hto.done h.1, hbr⟩
set_option maxHeartbeats 1600000 in
theorem eqArea_g (cs cs' : List Value) (x y : Ar) (w : World) (hv : repAr.V 0 w cs x) (hv' : repAr.V 0 w cs' y) :
    Calls Try.prog 101 #[.agg cs.toArray, .agg cs'.toArray] w fun e w' => e = .returned (.bool (eqAr x y)) ∧ Below w.heap.size w w' := by
  obtain ⟨B1, m1, d1, rfl, hr1, hm1⟩ := repAr_cells hv
  obtain ⟨B1q, m1q, d1q, rfl, hr1q, hm1q⟩ := repAr_cells hv'
  have hbx := below_box2 w (.cells #[.int .i64 x.t, .slice B1 m1 d1] 70) (.cells #[.int .i64 y.t, .slice B1q m1q d1q] 70)
  have k1 := hr1.next hbx
  have k1q := hr1q.next hbx
  clear hv hv'
  go_enter Try.func101, Try.ntmps101
  cases hk0 : (x.t != y.t)
  · have hj0 : (x.t == y.t) = true := by simpa using hk0
    go_wp2_with fail
    refine (eqObjectS_g B1 B1q m1 d1 m1q d1q x.os y.os _ k1 k1q hm1 hm1q).mono ?_
    rintro e w0 ⟨rfl, hb0⟩
    have hz0 := hb0.size
    simp only [size_alloc] at hz0
    obtain ⟨hc0, hf0⟩ := bcell_lt hb0 (m := w.heap.size + 1 + 1) (by simp only [size_alloc]; omega)
    have hbb0 := below_ext hbx hb0
    cases hk1 : eqOs x.os y.os
    · go_wp2_with fail
      go_ret
      exact ⟨ret_bool (by simp [eqAr, hk1]), hbb0⟩
    · skip
      go_wp2_with fail
      go_ret
      exact ⟨ret_bool (by simp [eqAr, hj0, hk1]), hbb0⟩
  · have hj0 : (x.t == y.t) = false := by simpa using hk0
    go_wp2_with fail
    go_ret
    exact ⟨ret_bool (by simp [eqAr, hj0]), hbx⟩
set_option maxHeartbeats 1600000 in
theorem eqAreaS_g (A B : Option Addr) (n c m d : Nat) (xs ys : List Ar) (w : World) (hx : RSl repAr 0 w A n xs) (hy : RSl repAr 0 w B m ys) (hn : n ≤ maxLen) (hm : m ≤ maxLen) :
    Calls Try.prog 62 #[.slice A n c, .slice B m d] w fun e w' => e = .returned (.bool (eqL eqAr xs ys)) ∧ Below w.heap.size w w' := by
  unfold maxLen at hn hm
  by_cases hnm : n = m
  · subst hnm
    go_enter Try.func62, Try.ntmps62
    go_wp2
    go_loopw [5] (fun i wr => ∃ k : Nat, k ≤ n ∧ i = .int .i64 k ∧ Hid (eqL eqAr (xs.take k) (ys.take k) = true) ∧ Below w.heap.size w wr) (fun i _ => n - (intOf i).toNat)
    case atStart => exact ⟨0, Nat.zero_le _, rfl, by show _ = _; simp [eqL], Below.refl _ _⟩
    case round =>
      obtain ⟨k, hk, rfl, hasc, hbr⟩ := hrel
      by_cases hlt : k < n
      · obtain ⟨b, off, x, cs, rfl, hb, hxk, hcx, hvx⟩ := (hx.next hbr).at_ hlt
        obtain ⟨b', off', y, cs', rfl, hb', hyk, hcy, hvy⟩ := (hy.next hbr).at_ hlt
        have HT := Lib.hid (eqL_take (f := eqAr) xs ys k x y hxk hyk)
        have HF := Lib.hid (fun hh => eqL_of_take (f := eqAr) xs ys (k+1) hh)
        have hcall := fun W (q : Below wr.heap.size wr W) => eqArea_g cs cs' x y W (repAr.next hvx q) (repAr.next hvy q)
        clear hxk hyk
        obtain ⟨B1, m1, d1, rfl, hr1, hm1⟩ := repAr_cells hvx
        obtain ⟨B1q, m1q, d1q, rfl, hr1q, hm1q⟩ := repAr_cells hvy
        have c0 : wr.cell? ⟨b, off + k * 2, none⟩ = some (.int .i64 x.t) := hcx 0 _ rfl
        have c1 : wr.cell? ⟨b, off + k * 2 + 1, none⟩ = some (.slice B1 m1 d1) := hcx 1 _ rfl
        have e0 : wr.cell? ⟨b', off' + k * 2, none⟩ = some (.int .i64 y.t) := hcy 0 _ rfl
        have e1 : wr.cell? ⟨b', off' + k * 2 + 1, none⟩ = some (.slice B1q m1q d1q) := hcy 1 _ rfl
        clear hcx hcy hvx hvy
        cases he : eqAr x y
        · rw [he] at hcall
          go_wp2
          have g0 := cell_regrown c0
          have j0 := cell_regrown e0
          have g1 := cell_regrown c1
          have j1 := cell_regrown e1
          clear c0 e0 c1 e1
          refine wp_region_ext (by kernel_rfl) (by kernel_rfl) ?_
          repeat (go_big_quiet_step ((go_at_call 101; exact rg_below (hcall _ (below_regrown _ _ _)))))
          refine wpQuiet_nil ?_
          intro w1 hb1
          go_wp2
          go_ret
          exact ⟨ret_bool (by
            cases hh : eqL eqAr xs ys
            · rfl
            · have h1 := HF.out hh
              rw [HT.out, he] at h1
              simp at h1), below_ext hbr hb1⟩
        · rw [he] at hcall
          go_wp2
          have g0 := cell_regrown c0
          have j0 := cell_regrown e0
          have g1 := cell_regrown c1
          have j1 := cell_regrown e1
          clear c0 e0 c1 e1
          refine wp_region_ext (by kernel_rfl) (by kernel_rfl) ?_
          repeat (go_big_quiet_step ((go_at_call 101; exact rg_below (hcall _ (below_regrown _ _ _)))))
          refine wpQuiet_nil ?_
          intro w1 hb1
          go_wp2
          go_roundw
          case rel => exact ⟨k + 1, by omega, by go_num, by show _ = _; rw [HT.out, hasc.out]; exact he, below_ext hbr hb1⟩
          case measure => simp [intOf]; omega
      · obtain rfl : k = n := by omega
        rw [List.take_of_length_le (by rw [hx.1]; exact Nat.le_refl _), List.take_of_length_le (by rw [hy.1]; exact Nat.le_refl _)] at hasc
        go_wp2
        go_ret
        exact ⟨ret_bool hasc.out.symm, hbr⟩
  · have hne : ((n : Int) != (m : Int)) = true := by simp; omega
    have : eqL eqAr xs ys = false := by
      cases hh : eqL eqAr xs ys
      · rfl
      · exact absurd (eqL_len _ _ hh) (by rw [hx.1, hy.1]; exact hnm)
    go_enter Try.func62, Try.ntmps62
    go_wp2
    go_ret
    exact ⟨ret_bool this.symm, Below.refl _ _⟩
structure Qu where
  main : List Ob
  ars : List Ar
instance : Inhabited Qu := ⟨⟨[], []⟩⟩
def repQu : Rep Qu := repAs (rep2 (repSl repOb) (repSl repAr)) fun x => (x.main, x.ars)
theorem repQu_cells {lo : Nat} {w : World} {cs : List Value} {x : Qu} (h : repQu.V lo w cs x) : ∃ B0 m0 d0 B1 m1 d1, cs = [.slice B0 m0 d0, .slice B1 m1 d1] ∧ RSl repOb lo w B0 m0 x.main ∧ m0 ≤ maxLen ∧ RSl repAr lo w B1 m1 x.ars ∧ m1 ≤ maxLen := by
  obtain ⟨c0, e0, rfl, p0, q0⟩ := h
  obtain ⟨B0, m0, d0, rfl, r0, s0⟩ := p0
  obtain ⟨B1, m1, d1, rfl, r1, s1⟩ := q0
  exact ⟨B0, m0, d0, B1, m1, d1, rfl, r0, s0, r1, s1⟩
theorem repQu_mk {lo : Nat} {w : World} {x : Qu} {B0 B1 : Option Addr} {m0 d0 m1 d1 : Nat} (r0 : RSl repOb lo w B0 m0 x.main) (s0 : m0 ≤ maxLen) (r1 : RSl repAr lo w B1 m1 x.ars) (s1 : m1 ≤ maxLen) : repQu.V lo w [.slice B0 m0 d0, .slice B1 m1 d1] x :=
  ⟨[.slice B0 m0 d0], [.slice B1 m1 d1], rfl, ⟨B0, m0, d0, rfl, r0, s0⟩, ⟨B1, m1, d1, rfl, r1, s1⟩⟩
def smallQu (x : Qu) : Prop := smallO x.main ∧ (smallL smallAr) x.ars
def eqQu (x y : Qu) : Bool := eqOs x.main y.main && (eqL eqAr) x.ars y.ars
theorem eqQu_refl (x : Qu) : eqQu x x = true := by simp [eqQu, eqOs_refl, eqL_refl eqAr_refl]

set_option maxHeartbeats 1600000 in
theorem szQuarantine_g (cs : List Value) (x : Qu) (l : Int) (w : World) (hv : repQu.V 0 w cs x) (h0 : 0 ≤ l) (h1 : l ≤ 1048576) :
    Calls Try.prog 17 #[.agg cs.toArray, .int .i64 l] w fun e w' => (∃ v, e = .returned v ∧ IsLeft l (smallQu x) v) ∧ Below w.heap.size w w' := by
  obtain ⟨B0, m0, d0, B1, m1, d1, rfl, hr0, hm0, hr1, hm1⟩ := repQu_cells hv
  have hbx := below_box w (.cells #[.slice B0 m0 d0, .slice B1 m1 d1] 42)
  have k0 := hr0.next hbx
  have k1 := hr1.next hbx
  go_enter Try.func17, Try.ntmps17
  clear hv
  go_wp2_with fail
  refine (szObjectS_g B0 m0 d0 x.main l _ k0 hm0 h0 h1).mono ?_
  rintro e w0 ⟨⟨v0, rfl, r0, rfl, hs0⟩, hb0⟩
  obtain ⟨hc0, hf0⟩ := bcell hb0
  have hbb0 := below_ext hbx hb0
  rcases hs0 with hs0 | ⟨hp0, hl0, hsm0⟩
  · go_wp2_with fail
    go_ret
    exact ⟨⟨_, rfl, _, rfl, Or.inl (by omega)⟩, hbb0⟩
  · skip
    go_wp2_with fail
    refine (szAreaS_g B1 m1 d1 x.ars r0 _ (k1.next hb0) hm1 hp0 (by omega)).mono ?_
    rintro e w1 ⟨⟨v1, rfl, r1, rfl, hs1⟩, hb1⟩
    obtain ⟨hc1, hf1⟩ := bcell hb1
    have hbb1 := below_ext hbb0 hb1
    rcases hs1 with hs1 | ⟨hp1, hl1, hsm1⟩
    · go_wp2_with fail
      go_ret
      exact ⟨⟨_, rfl, _, rfl, Or.inl (by omega)⟩, hbb1⟩
    · skip
      go_wp2_with fail
      go_ret
      exact ⟨⟨_, rfl, _, rfl, Or.inr ⟨by omega, by omega, ⟨hsm0, hsm1⟩⟩⟩, hbb1⟩
set_option maxRecDepth 100000 in
set_option maxHeartbeats 3200000 in
theorem toQuarantine_g (cs : List Value) (x : Qu) (w : World) (hv : repQu.V 0 w cs x) (hs : smallQu x) :
    Calls Try.prog 19 #[.agg cs.toArray] w fun e w' => ∃ cs', e = .returned (.agg cs'.toArray) ∧ repQu.V w.heap.size w' cs' x ∧ Below w.heap.size w w' := by
  obtain ⟨B0, m0, d0, B1, m1, d1, rfl, hr0, hm0, hr1, hm1⟩ := repQu_cells hv
  have hbx := below_box3 w (.cells #[.slice B0 m0 d0, .slice B1 m1 d1] 42) (.cells #[.slice none 0 0, .slice none 0 0] 26) (.cells #[.slice none 0 0, .slice none 0 0] 26)
  have k0 := hr0.next hbx
  have k1 := hr1.next hbx
  obtain ⟨hs0, hs1⟩ := hs
  clear hv
  go_enter Try.func19, Try.ntmps19
  go_wp2_with fail
  refine (toObjectS_g B0 m0 d0 x.main _ (hr0.next (by (repeat (refine Below.setCell ?_ (by first | omega | (simp; omega) | simp) _)); exact below_box3 _ _ _ _)) hs0).mono ?_
  rintro e w0 ⟨B0q, rfl, q0, hb0⟩
  have hz0 := hb0.size
  simp only [size_alloc] at hz0
  obtain ⟨hc0, hf0⟩ := bcell_lt hb0 (m := w.heap.size + 1 + 1 + 1) (by simp only [size_alloc]; omega)
  have q0b := q0.down (lo' := w.heap.size + 3) (by simp only [size_alloc]; omega)
  have hbb0 : Below w.heap.size w w0 := below_ext (by (repeat (refine Below.setCell ?_ (by first | omega | (simp; omega) | simp) _)); exact below_box3 _ _ _ _) hb0
  go_wp2_with fail
  refine (toAreaS_g B1 m1 d1 x.ars _ (hr1.next (by (repeat (refine Below.setCell ?_ (by first | omega | (simp; omega) | simp) _)); exact hbb0)) hs1).mono ?_
  rintro e w1 ⟨B1q, rfl, q1, hb1⟩
  have hz1 := hb1.size
  simp only [size_setCell] at hz1
  obtain ⟨hc1, hf1⟩ := bcell_lt hb1 (m := w.heap.size + 1 + 1 + 1) (by simp only [size_setCell]; omega)
  have q1b := q1.down (lo' := w.heap.size + 3) (by simp only [size_setCell]; omega)
  have hbb1 : Below w.heap.size w w1 := below_ext (by (repeat (refine Below.setCell ?_ (by first | omega | (simp; omega) | simp) _)); exact hbb0) hb1
  go_wp2_with fail
  refine bodyPost_ret (v := .agg #[.slice B0q m0 m0, .slice B1q m1 m1]) (by simp [results, Try.results19, go_sem, hc0, hc1]) rfl ⟨_, rfl, repQu_mk ?_ hm0 ?_ hm1, ?_⟩
  · refine RSl.down (lo := w.heap.size + 3) ?_ (by omega)
    (repeat (refine RSl.far ?_ (by first | omega | (simp; omega) | simp)))
    refine RSl.next ?_ hb1
    (repeat (refine RSl.far ?_ (by first | omega | (simp; omega) | simp)))
    exact q0b
  · refine RSl.down (lo := w.heap.size + 3) ?_ (by omega)
    (repeat (refine RSl.far ?_ (by first | omega | (simp; omega) | simp)))
    exact q1b
  · (repeat (refine Below.setCell ?_ (by first | omega | (simp; omega) | simp) _)); exact hbb1
set_option maxHeartbeats 1600000 in
theorem eqQuarantine_g (cs cs' : List Value) (x y : Qu) (w : World) (hv : repQu.V 0 w cs x) (hv' : repQu.V 0 w cs' y) :
    Calls Try.prog 21 #[.agg cs.toArray, .agg cs'.toArray] w fun e w' => e = .returned (.bool (eqQu x y)) ∧ Below w.heap.size w w' := by
  obtain ⟨B0, m0, d0, B1, m1, d1, rfl, hr0, hm0, hr1, hm1⟩ := repQu_cells hv
  obtain ⟨B0q, m0q, d0q, B1q, m1q, d1q, rfl, hr0q, hm0q, hr1q, hm1q⟩ := repQu_cells hv'
  have hbx := below_box2 w (.cells #[.slice B0 m0 d0, .slice B1 m1 d1] 26) (.cells #[.slice B0q m0q d0q, .slice B1q m1q d1q] 26)
  have k0 := hr0.next hbx
  have k0q := hr0q.next hbx
  have k1 := hr1.next hbx
  have k1q := hr1q.next hbx
  clear hv hv'
  go_enter Try.func21, Try.ntmps21
  go_wp2_with fail
  refine (eqObjectS_g B0 B0q m0 d0 m0q d0q x.main y.main _ k0 k0q hm0 hm0q).mono ?_
  rintro e w0 ⟨rfl, hb0⟩
  have hz0 := hb0.size
  simp only [size_alloc] at hz0
  obtain ⟨hc0, hf0⟩ := bcell_lt hb0 (m := w.heap.size + 1 + 1) (by simp only [size_alloc]; omega)
  have hbb0 := below_ext hbx hb0
  cases hk0 : eqOs x.main y.main
  · go_wp2_with fail
    go_ret
    exact ⟨ret_bool (by simp [eqQu, hk0]), hbb0⟩
  · skip
    go_wp2_with fail
    refine (eqAreaS_g B1 B1q m1 d1 m1q d1q x.ars y.ars _ (k1.next hb0) (k1q.next hb0) hm1 hm1q).mono ?_
    rintro e w1 ⟨rfl, hb1⟩
    have hz1 := hb1.size
    obtain ⟨hc1, hf1⟩ := bcell_lt hb1 (m := w.heap.size + 1 + 1) (by omega)
    have hbb1 := below_ext hbb0 hb1
    cases hk1 : (eqL eqAr) x.ars y.ars
    · go_wp2_with fail
      go_ret
      exact ⟨ret_bool (by simp [eqQu, hk1]), hbb1⟩
    · skip
      go_wp2_with fail
      go_ret
      exact ⟨ret_bool (by simp [eqQu, hk0, hk1]), hbb1⟩
end Go.Proofs.Ytjofgbbofagoiaa
