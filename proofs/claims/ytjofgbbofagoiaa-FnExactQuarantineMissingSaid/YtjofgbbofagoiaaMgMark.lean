import Derived.Test.YtjofgbbofagoiaaSepQ
import Derived.Test.YtjofgbbofagoiaaMarkG
import Derived.Test.YtjofgbbofagoiaaMark
import Derived.Test.YtjofgbbofagoiaaObjLaw
/- Walks: the laws' marks on rows of objects whose parts lie in blocks apart. -/
namespace Go.Proofs.Ytjofgbbofagoiaa
open Go.RowKit Go.Sort

theorem markL_marks (k : Nat) (xs : List Int) : markL mkI szI1 k xs = marks (k : Int) xs.length := by
  apply List.ext_getElem?
  intro j
  by_cases hj : j < xs.length
  · rw [markL_get (List.getElem?_eq_getElem hj), marks_get _ _ _ hj]
    unfold mkI cnL
    rw [szL_I, List.length_take, Nat.min_eq_left (by omega)]
    simp
  · rw [List.getElem?_eq_none (by rw [markL_len]; omega), List.getElem?_eq_none (by rw [marks_len]; omega)]
theorem markIntS_l (S : Nat → Prop) (lo : Nat) (A : Option Addr) (m d : Nat) (xs : List Int) (k : Nat) (w : World) (h : LkV lo S w A m xs) (hk : k + szL szI1 xs ≤ 9000000000000000000) :
    Calls Try.prog 30 #[.slice A m d, .int .i64 (k : Int)] w fun e w' => e = .returned (.int .i64 ((k + szL szI1 xs : Nat) : Int)) ∧ LkV lo S w' A m (markL mkI szI1 k xs) ∧ Only S w w' := by
  rw [szL_I] at hk ⊢
  rw [markL_marks]
  have hw : WI lo w.heap.size w A m := fun hm => by
    rcases h with ⟨rfl, _⟩ | ⟨g, ys, e, h1, _, h2, h3, h4⟩
    · omega
    · refine ⟨g, ys, e, h1, h2.lt, h2, ?_⟩
      have := congrArg List.length h4
      rw [List.length_take, length_ints] at this
      omega
  have hl : xs.length = m := by
    rcases h with ⟨rfl, rfl⟩ | ⟨g, ys, e, h1, _, h2, h3, h4⟩
    · rfl
    · exact h3
  rw [hl] at hk ⊢
  refine (markIntS_any lo w.heap.size A m d (k : Int) w hw (by omega) (by omega)).mono ?_
  rintro e w' ⟨rfl, hg, h0, hB⟩
  refine ⟨by simp, ?_, ?_⟩
  · rcases h with ⟨rfl, rfl⟩ | ⟨g, ys, rfl, h1, hS, h2, h3, h4⟩
    · exact Or.inl ⟨rfl, rfl⟩
    · have hy : m ≤ ys.length := by
        have := congrArg List.length h4
        rw [List.length_take, length_ints] at this
        omega
      exact Or.inr ⟨g, _, rfl, h1, hS, hB g ys rfl h2 hy, marks_len _ _, by rw [List.take_append_of_le_length (by rw [length_ints, marks_len]; exact Nat.le_refl _), List.take_of_length_le (by rw [length_ints, marks_len]; exact Nat.le_refl _)]⟩
  · rcases h with ⟨rfl, rfl⟩ | ⟨g, ys, rfl, h1, hS, h2, h3, h4⟩
    · rw [h0 rfl]; exact Only.refl _ _
    · exact ⟨hg.os, hg.tape, hg.output, hg.size, fun b hb hn => hg.block b hb (fun e => hn (by
        have : g = b := by simpa [Value.ownBlock] using e.symm
        exact this ▸ hS))⟩
theorem mdg_size : ∀ (f k : Nat) (acc : ByteArray), (mdg f k acc).size ≤ f + acc.size
  | 0, _, acc => by simp [mdg]
  | f + 1, k, acc => by
    unfold mdg
    split
    · omega
    · have := mdg_size f (k / 10) (⟨#[48 + UInt8.ofNat (k % 10)]⟩ ++ acc)
      rw [ByteArray.size_append] at this
      have h1 : (ByteArray.mk #[48 + UInt8.ofNat (k % 10)]).size = 1 := rfl
      omega
theorem mtext_size (k : Nat) : (mtext k).size ≤ k + 2 := by
  unfold mtext
  split
  · show 2 ≤ _
    omega
  · have := mdg_size k k ⟨#[]⟩
    rw [ByteArray.size_append]
    have h1 : (ByteArray.mk #[109]).size = 1 := rfl
    have h2 : (ByteArray.mk #[]).size = 0 := rfl
    omega
def mkOb (k : Nat) (x : Ob) : Ob := ⟨(k : Int), markL mkI szI1 (k + 1) x.xs, mtext (k + 1 + szL szI1 x.xs)⟩
def szOb (x : Ob) : Nat := 1 + szL szI1 x.xs + 1
theorem LkV.kept {lo m : Nat} {S : Nat → Prop} {w w' : World} {A : Option Addr} {xs : List Int} (h : LkV lo S w A m xs) (hk : ∀ b, S b → w'.heap[b]? = w.heap[b]?) : LkV lo S w' A m xs :=
  h.imp id fun ⟨g, ys, q1, q2, q3, q4, q5⟩ => ⟨g, ys, q1, q2, q3, (hk g q3).trans q4, q5⟩
theorem sepOb_put0 {lo g o : Nat} {N : Nat → Prop} {w : World} {cs : List Value} {x : Ob} (u : Int) (h : sepOb.V lo N w cs x) (hg : ¬ N g) : sepOb.V lo N (w.setCell ⟨g, o, none⟩ (.int .i64 u)) (cs.set 0 (.int .i64 u)) ⟨u, x.xs, x.t⟩ := by
  obtain ⟨U0, m0, d0, rfl, x0, h1, h2⟩ := sepOb_cells h
  exact sepOb_mk (o := ⟨u, x.xs, x.t⟩) (x0.kept (fun b hb => Below.heap_setCell _ ⟨g, o, none⟩ _ b (fun e => hg (by have e' : b = g := e; exact e' ▸ hb)))) h1 h2
theorem sepOb_put2 {lo g o : Nat} {N : Nat → Prop} {w : World} {cs : List Value} {x : Ob} (u : ByteArray) (hu : u.size ≤ maxLen) (h : sepOb.V lo N w cs x) (hg : ¬ N g) : sepOb.V lo N (w.setCell ⟨g, o, none⟩ (.string u)) (cs.set 2 (.string u)) ⟨x.k, x.xs, u⟩ := by
  obtain ⟨U0, m0, d0, rfl, x0, h1, h2⟩ := sepOb_cells h
  exact sepOb_mk (o := ⟨x.k, x.xs, u⟩) (x0.kept (fun b hb => Below.heap_setCell _ ⟨g, o, none⟩ _ b (fun e => hg (by have e' : b = g := e; exact e' ▸ hb)))) h1 hu
set_option maxRecDepth 100000 in
set_option maxHeartbeats 3200000 in
theorem markObjectS_s (S : Nat → Prop) (lo : Nat) (A : Option Addr) (n c : Nat) (xs : List Ob) (k : Nat) (w : World) (h : SSl 33 sepOb lo S w A n c xs) (hS : ∀ b, S b → b < w.heap.size) (hk : k + szL szOb xs ≤ 9000000000000000000) :
    Calls Try.prog 71 #[.slice A n c, .int .i64 (k : Int)] w fun e w' => e = .returned (.int .i64 ((k + szL szOb xs : Nat) : Int)) ∧ SSl 33 sepOb lo S w' A n c (markL mkOb szOb k xs) ∧ Only S w w' := by
  have hl := h.1
  have hnm := h.small
  unfold maxLen at hnm
  go_enter Try.func71, Try.ntmps71
  go_wp2_with fail
  go_loopw [1, 5] (fun q i wr => ∃ j : Nat, j ≤ n ∧ i = .int .i64 j ∧ q = .int .i64 ((cnL szOb k xs j : Nat) : Int) ∧ SSl 33 sepOb lo S wr A n c (stL mkOb szOb k xs j) ∧ Only S w wr) (fun _ i _ => n - (intOf i).toNat)
  case atStart => exact ⟨0, Nat.zero_le _, rfl, by rw [cnL_zero], by rw [stL_zero]; exact h, Only.refl _ _⟩
  case round =>
    obtain ⟨j, hj, rfl, rfl, h0, hO0⟩ := hrel
    by_cases hlt : j < n
    · obtain ⟨g, rfl⟩ : ∃ g, A = some ⟨g, 0, none⟩ := by
        obtain ⟨g, _, _, _, e, _⟩ := h0.inner hlt
        exact ⟨g, e⟩
      obtain ⟨x, hx⟩ : ∃ x, xs[j]? = some x := ⟨_, List.getElem?_eq_getElem (by omega)⟩
      have HX0 := Lib.hid (show (stL mkOb szOb k xs j)[j]? = some x by rw [stL_get]; exact hx)
      have HST := Lib.hid (stL_set (mk := mkOb) (sz := szOb) (k := k) hx)
      have HCN := Lib.hid (cnL_succ (sz := szOb) (k := k) hx)
      have hroom := cnL_room (sz := szOb) (k := k) hx
      rw [show szOb x = 1 + szL szI1 x.xs + 1 from rfl] at hroom
      have hS0 := fun b hb => Nat.lt_of_lt_of_le (hS b hb) hO0.size
      clear hx
      generalize stL mkOb szOb k xs j = L0 at *
      generalize cnL szOb k xs j = q0 at *
      obtain ⟨cs0, N0, hSg0, -, hgl0, hN0, hNg0, hv0, hc0, hf0, hu0⟩ := h0.inn rfl HX0.out
      obtain ⟨U0_0, m0_0, d0_0, rfl, y0_0, -, -⟩ := sepOb_cells hv0
      have c0 : (wr).cell? ⟨g, j * 3, none⟩ = some (.int .i64 x.k) := hc0 0 _ rfl
      have f0 := hf0 (j * 3)
      have h1 : SSl 33 sepOb lo S ((wr).setCell ⟨g, j * 3, none⟩ (.int .i64 (q0 : Int))) (some ⟨g, 0, none⟩) n c (L0.set j ⟨(q0 : Int), x.xs, x.t⟩) := h0.own rfl HX0.out 0 (.int .i64 (q0 : Int)) ⟨(q0 : Int), x.xs, x.t⟩ (by decide) (fun N cs hv hg => sepOb_put0 _ hv hg)
      have HX1 := Lib.hid (show (L0.set j (⟨(q0 : Int), x.xs, x.t⟩ : Ob))[j]? = some ⟨(q0 : Int), x.xs, x.t⟩ by rw [List.getElem?_set_self (List.getElem?_eq_some_iff.1 HX0.out).1])
      have hO1 : Only S w ((wr).setCell ⟨g, j * 3, none⟩ (.int .i64 (q0 : Int))) := hO0.set hSg0 _
      have hS1 : ∀ b, S b → b < ((wr).setCell ⟨g, j * 3, none⟩ (.int .i64 (q0 : Int))).heap.size := fun b hb => Nat.lt_of_lt_of_le (hS b hb) hO1.size
      obtain ⟨q1, HQ1⟩ : ∃ q1 : Nat, Hid (q1 = q0 + 1) := ⟨_, Lib.hid rfl⟩
      have hw1 : IntKind.i64.wrap ((q0 : Int) + 1) = (q1 : Int) := by have e1 := HQ1.out; rw [IntKind.wrap_i64]; omega
      clear hc0 hf0 hu0 hv0
      obtain ⟨cs1, N1, hSg1, -, hgl1, hN1, hNg1, hv1, hc1, hf1, hu1⟩ := h1.inn rfl HX1.out
      obtain ⟨U0_1, m0_1, d0_1, rfl, y1_0, hm1, ht1⟩ := sepOb_cells hv1
      have c1 : (((wr).setCell ⟨g, j * 3, none⟩ (.int .i64 (q0 : Int)))).cell? ⟨g, j * 3 + 1, none⟩ = some (.slice U0_1 m0_1 d0_1) := hc1 1 _ rfl
      clear hc1 hf1
      go_wp2_with fail
      generalize hWW1 : ((wr).setCell ⟨g, j * 3, none⟩ (.int .i64 (q0 : Int))) = w1 at *
      clear hWW1
      refine (markIntS_l N1 lo U0_1 m0_1 d0_1 x.xs q1 w1 y1_0 (by have e1 := HQ1.out; omega)).mono ?_
      rintro e v1 ⟨rfl, hP1, hR1⟩
      have h2 := hu1 v1 ⟨(q0 : Int), markL mkI szI1 q1 x.xs, x.t⟩ (fun b hb hn => hR1.block b (hS1 b hb) hn) (sepOb_mk (o := ⟨(q0 : Int), markL mkI szI1 q1 x.xs, x.t⟩) hP1 hm1 ht1)
      have HX2 := Lib.hid (show ((L0.set j (⟨(q0 : Int), x.xs, x.t⟩ : Ob)).set j (⟨(q0 : Int), markL mkI szI1 q1 x.xs, x.t⟩ : Ob))[j]? = some ⟨(q0 : Int), markL mkI szI1 q1 x.xs, x.t⟩ by rw [List.getElem?_set_self (List.getElem?_eq_some_iff.1 HX1.out).1])
      have hO2 := hO1.trans (hR1.wide (fun b hb => hN1 b hb))
      have hS2 : ∀ b, S b → b < v1.heap.size := fun b hb => Nat.lt_of_lt_of_le (hS b hb) hO2.size
      obtain ⟨q2, HQ2⟩ : ∃ q2 : Nat, Hid (q2 = q1 + szL szI1 x.xs) := ⟨_, Lib.hid rfl⟩
      rw [← HQ2.out]
      clear hu1 hv1 hP1 c1 ht1
      go_wp2_with fail
      refine (markText_any q2 v1 (by have e1 := HQ1.out; have e2 := HQ2.out; omega)).mono ?_
      rintro e v2 ⟨rfl, hb2⟩
      have h2n := h2.next hb2 hS2
      have hO3 := hO2.trans (Only.of_below hb2)
      obtain ⟨cs2, N2, hSg2, -, hgl2, hN2, hNg2, hv2, hc2, hf2, hu2⟩ := h2n.inn rfl HX2.out
      obtain ⟨U0_2, m0_2, d0_2, rfl, y2_0, hm2, ht2⟩ := sepOb_cells hv2
      have c2 : v2.cell? ⟨g, j * 3 + 1 + 1, none⟩ = some (.string x.t) := hc2 2 _ rfl
      have f2 := hf2 (j * 3 + 1 + 1)
      have hsz2 : (mtext q2).size ≤ maxLen := by have := mtext_size q2; have e1 := HQ1.out; have e2 := HQ2.out; simp only [maxLen]; omega
      have h3 : SSl 33 sepOb lo S (v2.setCell ⟨g, j * 3 + 1 + 1, none⟩ (.string (mtext q2))) (some ⟨g, 0, none⟩) n c (((L0.set j ⟨(q0 : Int), x.xs, x.t⟩).set j ⟨(q0 : Int), markL mkI szI1 q1 x.xs, x.t⟩).set j ⟨(q0 : Int), markL mkI szI1 q1 x.xs, mtext q2⟩) := h2n.own rfl HX2.out 2 (.string (mtext q2)) ⟨(q0 : Int), markL mkI szI1 q1 x.xs, mtext q2⟩ (by decide) (fun N cs hv hg => sepOb_put2 _ hsz2 hv hg)
      have hO4 : Only S w (v2.setCell ⟨g, j * 3 + 1 + 1, none⟩ (.string (mtext q2))) := hO3.set hSg2 _
      obtain ⟨q3, HQ3⟩ : ∃ q3 : Nat, Hid (q3 = q2 + 1) := ⟨_, Lib.hid rfl⟩
      have hw3 : IntKind.i64.wrap ((q2 : Int) + 1) = (q3 : Int) := by have e1 := HQ1.out; have e2 := HQ2.out; have e3 := HQ3.out; rw [IntKind.wrap_i64]; omega
      have hX : (⟨(q0 : Int), markL mkI szI1 q1 x.xs, mtext q2⟩ : Ob) = mkOb q0 x := by have e1 := HQ1.out; have e2 := HQ2.out; subst e1; subst e2; rfl
      have hE : q3 = q0 + szOb x := by have e1 := HQ1.out; have e2 := HQ2.out; have e3 := HQ3.out; unfold szOb; omega
      have hEnd : SSl 33 sepOb lo S (v2.setCell ⟨g, j * 3 + 1 + 1, none⟩ (.string (mtext q2))) (some ⟨g, 0, none⟩) n c (stL mkOb szOb k xs (j + 1)) := by
        have hh := h3
        simp only [List.set_set, hX, HST.out] at hh
        exact hh
      have HEND := Lib.hid hEnd
      have HE := Lib.hid hE
      clear hEnd hE hX hc2 hf2 hu2 hv2
      go_wp2_with fail
      go_roundw
      case rel => exact ⟨j + 1, by omega, by go_num, by rw [HCN.out, ← HE.out], HEND.out, hO4⟩
      case measure => simp [intOf]; omega
    · obtain rfl : j = n := by omega
      go_wp2_with fail
      go_ret
      exact ⟨by rw [cnL_all hl]; rfl, by rw [← stL_all hl]; exact h0, hO0⟩
set_option maxRecDepth 100000 in
set_option maxHeartbeats 3200000 in
theorem heldObjectS_s (A : Option Addr) (n c : Nat) (xs : List Ob) (k : Nat) (w : World) (h : RSl repOb 0 w A n (markL mkOb szOb k xs)) (hn : n ≤ maxLen) (hk : k + szL szOb xs ≤ 9000000000000000000) :
    Calls Try.prog 73 #[.slice A n c, .int .i64 (k : Int)] w fun e w' => e = .returned (.int .i64 ((k + szL szOb xs : Nat) : Int)) ∧ Below w.heap.size w w' := by
  have hl : xs.length = n := by have := h.1; rwa [markL_len] at this
  unfold maxLen at hn
  go_enter Try.func73, Try.ntmps73
  go_wp2_with fail
  go_loopw [1, 5] (fun q i wr => ∃ j : Nat, j ≤ n ∧ i = .int .i64 j ∧ q = .int .i64 ((cnL szOb k xs j : Nat) : Int) ∧ Below w.heap.size w wr) (fun _ i _ => n - (intOf i).toNat)
  case atStart => exact ⟨0, Nat.zero_le _, rfl, by rw [cnL_zero], Below.refl _ _⟩
  case round =>
    obtain ⟨j, hj, rfl, rfl, hbr⟩ := hrel
    by_cases hlt : j < n
    · obtain ⟨x, hx⟩ : ∃ x, xs[j]? = some x := ⟨_, List.getElem?_eq_getElem (by omega)⟩
      obtain ⟨b, off, y, cs, rfl, hb, hy, hc, hv⟩ := (h.next hbr).at_ hlt
      have hy2 : y = mkOb (cnL szOb k xs j) x := by
        rw [markL_get hx] at hy
        injection hy with hy
        exact hy.symm
      subst hy2
      have HCN := Lib.hid (cnL_succ (sz := szOb) (k := k) hx)
      have hroom := cnL_room (sz := szOb) (k := k) hx
      rw [show szOb x = 1 + szL szI1 x.xs + 1 from rfl] at hroom
      clear hx hy
      generalize cnL szOb k xs j = q0 at *
      obtain ⟨B1, m1, d1, rfl, hr1, hm1, ht1⟩ := repOb_cells hv
      have hlm : x.xs.length = m1 := by have := hr1.1; unfold mkOb at this; rwa [markL_len] at this
      have c0 : wr.cell? ⟨b, off + j * 3, none⟩ = some (.int .i64 ((q0 : Nat) : Int)) := hc 0 _ rfl
      have c1 : wr.cell? ⟨b, off + j * 3 + 1, none⟩ = some (.slice B1 m1 d1) := hc 1 _ rfl
      obtain ⟨q1, hq1⟩ : ∃ q1 : Nat, q1 = q0 + 1 := ⟨_, rfl⟩
      obtain ⟨q2, hq2⟩ : ∃ q2 : Nat, q2 = q1 + m1 := ⟨_, rfl⟩
      obtain ⟨q3, hq3⟩ : ∃ q3 : Nat, q3 = q2 + 1 := ⟨_, rfl⟩
      have hsI : szL szI1 x.xs = m1 := by rw [szL_I]; exact hlm
      have c2 : wr.cell? ⟨b, off + j * 3 + 1 + 1, none⟩ = some (.string (mtext q2)) := by
        have := hc 2 _ rfl
        unfold mkOb at this
        rw [show q0 + 1 + szL szI1 x.xs = q2 by omega] at this
        exact this
      have hr1_ : RInts wr B1 m1 (marks (q1 : Int) m1) := by
        have hh := hr1
        unfold mkOb at hh
        simp only [markL_marks, hlm, show q0 + 1 = q1 by omega] at hh
        exact hh.rints
      have hw1 : IntKind.i64.wrap ((q0 : Int) + 1) = (q1 : Int) := by rw [IntKind.wrap_i64]; omega
      have hw2 : (q1 : Int) + (m1 : Int) = (q2 : Int) := by omega
      have hw3 : IntKind.i64.wrap ((q2 : Int) + 1) = (q3 : Int) := by rw [IntKind.wrap_i64]; omega
      have hx0 : ((q0 : Int) != (q0 : Int)) = false := by simp
      have hg2 : decide ((q2 : Int) < 0) = false := by simp
      have HE := Lib.hid (show q3 = q0 + szOb x by unfold szOb; omega)
      have hbnd : q2 ≤ 9000000000000000000 := by omega
      have hbnd1 : (q1 : Int) + m1 ≤ 9000000000000000000 := by omega
      clear hc hv hroom hr1 hq1 hq2 hq3 hsI
      go_wp2_with fail
      refine (heldIntS_any B1 m1 d1 (q1 : Int) wr hr1_ (by omega) hbnd1).mono ?_
      rw [hw2]
      rintro e w0 ⟨rfl, hb0⟩
      have hbr0 := below_ext hbr hb0
      have c20 := (hb0.cell (p := ⟨b, off + j * 3 + 1 + 1, none⟩) hb).trans c2
      clear c0 c1 c2 hw2 hx0
      go_wp2_with fail
      obtain ⟨tx, htx⟩ : ∃ tx, tx = mtext q2 := ⟨_, rfl⟩
      rw [← htx] at c20
      have c21 : w0.cell? ⟨b, off + j * 3 + 2, none⟩ = some (.string tx) := c20
      have hmt : ∀ W, Calls Try.prog 108 #[.int .i64 q2] W fun e w' => e = .returned (.string tx) ∧ Below W.heap.size W w' := fun W => by rw [htx]; exact markText_any q2 W hbnd
      have htt : (tx.toList == tx.toList) = true := by simp
      clear htx
      have g2 := cell_regrown c20
      have g3 := cell_regrown c21
      clear c20 c21
      refine wp_region_ext (by kernel_rfl) (by kernel_rfl) ?_
      repeat (go_big_quiet_step ((go_at_call 108; exact rg_below (hmt _))))
      refine wpQuiet_nil ?_
      intro w4 hb4
      have hbr4 := below_ext hbr0 hb4
      go_wp2_with fail
      go_roundw
      case rel => exact ⟨j + 1, by omega, by go_num, by rw [HCN.out, ← HE.out], hbr4⟩
      case measure => simp [intOf]; omega
    · obtain rfl : j = n := by omega
      go_wp2_with fail
      go_ret
      exact ⟨by rw [cnL_all hl]; rfl, hbr⟩
end Go.Proofs.Ytjofgbbofagoiaa
/- Walks: the laws' marks, written and looked for. -/
namespace Go.Proofs.Ytjofgbbofagoiaa
open Go.RowKit Go.Sort

set_option maxHeartbeats 1600000 in
theorem markIntS_s (S : Nat → Prop) (lo : Nat) (A : Option Addr) (n c : Nat) (xs : List Int) (k : Nat) (w : World) (h : SSl 3 sepInt lo S w A n c xs) (_hS : ∀ b, S b → b < w.heap.size) (hk : k + szL szI1 xs ≤ 9000000000000000000) :
    Calls Try.prog 30 #[.slice A n c, .int .i64 (k : Int)] w fun e w' => e = .returned (.int .i64 ((k + szL szI1 xs : Nat) : Int)) ∧ SSl 3 sepInt lo S w' A n c (markL mkI szI1 k xs) ∧ Only S w w' := by
  have hl := h.1
  have hnm := h.small
  unfold maxLen at hnm
  go_enter Try.func30, Try.ntmps30
  go_wp2_with fail
  go_loopw [1, 5] (fun q i wr => ∃ j : Nat, j ≤ n ∧ i = .int .i64 j ∧ q = .int .i64 ((cnL szI1 k xs j : Nat) : Int) ∧ SSl 3 sepInt lo S wr A n c (stL mkI szI1 k xs j) ∧ Only S w wr) (fun _ i _ => n - (intOf i).toNat)
  case atStart => exact ⟨0, Nat.zero_le _, rfl, by rw [cnL_zero], by rw [stL_zero]; exact h, Only.refl _ _⟩
  case round =>
    obtain ⟨j, hj, rfl, rfl, h0, hO0⟩ := hrel
    by_cases hlt : j < n
    · obtain ⟨g, rfl⟩ : ∃ g, A = some ⟨g, 0, none⟩ := by
        obtain ⟨g, _, _, _, e, _⟩ := h0.inner hlt
        exact ⟨g, e⟩
      obtain ⟨x, hx⟩ : ∃ x, xs[j]? = some x := ⟨_, List.getElem?_eq_getElem (by omega)⟩
      have HX0 := Lib.hid (show (stL mkI szI1 k xs j)[j]? = some x by rw [stL_get]; exact hx)
      have HST := Lib.hid (stL_set (mk := mkI) (sz := szI1) (k := k) hx)
      have HCN := Lib.hid (cnL_succ (sz := szI1) (k := k) hx)
      have hroom := cnL_room (sz := szI1) (k := k) hx
      rw [show szI1 x = 1 from rfl] at hroom
      clear hx
      generalize stL mkI szI1 k xs j = L0 at *
      generalize cnL szI1 k xs j = q0 at *
      obtain ⟨cs, N, hSg, -, hgl, hN, hNg, hv, hc, hf, -⟩ := h0.inn rfl HX0.out
      have hv' : cs = [.int .i64 x] := hv
      subst hv'
      have c0 : wr.cell? ⟨g, j, none⟩ = some (.int .i64 x) := by
        have := hc 0 _ rfl
        simpa [sepInt, repInt] using this
      have f0 := hf j
      have hEnd : SSl 3 sepInt lo S (wr.setCell ⟨g, j, none⟩ (.int .i64 (q0 : Int))) (some ⟨g, 0, none⟩) n c (stL mkI szI1 k xs (j + 1)) := by
        have hh := h0.own rfl HX0.out 0 (.int .i64 (q0 : Int)) (mkI q0 x) (by decide) (fun N cs hv hg => by
          have hv' : cs = [.int .i64 x] := hv
          subst hv'
          rfl)
        rw [HST.out] at hh
        simpa [sepInt, repInt] using hh
      have HEND := Lib.hid hEnd
      have hO1 := hO0.set (i := j) hSg (.int .i64 (q0 : Int))
      have hw1 : IntKind.i64.wrap ((q0 : Int) + 1) = ((q0 + 1 : Nat) : Int) := by rw [IntKind.wrap_i64]; omega
      clear hc hf hv hEnd
      go_wp2_with fail
      go_roundw
      case rel => exact ⟨j + 1, by omega, by go_num, by rw [HCN.out]; rfl, HEND.out, hO1⟩
      case measure => simp [intOf]; omega
    · obtain rfl : j = n := by omega
      go_wp2_with fail
      go_ret
      exact ⟨by rw [cnL_all hl]; rfl, by rw [← stL_all hl]; exact h0, hO0⟩
theorem markIntWS_s (S : Nat → Prop) (lo : Nat) (A : Option Addr) (n c : Nat) (xs : List Int) (k : Nat) (w : World) (h : SSl 3 sepIntW lo S w A n c xs) (hS : ∀ b, S b → b < w.heap.size) (hk : k + szL szI1 xs ≤ 9000000000000000000) :
    Calls Try.prog 30 #[.slice A n c, .int .i64 (k : Int)] w fun e w' => e = .returned (.int .i64 ((k + szL szI1 xs : Nat) : Int)) ∧ SSl 3 sepIntW lo S w' A n c (markL mkI szI1 k xs) ∧ Only S w w' :=
  (markIntS_s S lo A n c xs k w h.plainW.1 hS hk).mono fun _ _ ⟨h1, h2, h3⟩ => ⟨h1, h2.withW (markI_wf hk), h3⟩
set_option maxHeartbeats 1600000 in
theorem heldIntS_s (A : Option Addr) (n c : Nat) (xs : List Int) (k : Nat) (w : World) (h : RSl repInt 0 w A n (markL mkI szI1 k xs)) (hn : n ≤ maxLen) (hk : k + szL szI1 xs ≤ 9000000000000000000) :
    Calls Try.prog 31 #[.slice A n c, .int .i64 (k : Int)] w fun e w' => e = .returned (.int .i64 ((k + szL szI1 xs : Nat) : Int)) ∧ Below w.heap.size w w' := by
  have hl : xs.length = n := by have := h.1; rwa [markL_len] at this
  have hr := h.rints
  unfold maxLen at hn
  go_enter Try.func31, Try.ntmps31
  go_wp2_with fail
  go_loopw [1, 5] (fun q i wr => ∃ j : Nat, j ≤ n ∧ i = .int .i64 j ∧ q = .int .i64 ((cnL szI1 k xs j : Nat) : Int) ∧ Below w.heap.size w wr) (fun _ i _ => n - (intOf i).toNat)
  case atStart => exact ⟨0, Nat.zero_le _, rfl, by rw [cnL_zero], Below.refl _ _⟩
  case round =>
    obtain ⟨j, hj, rfl, rfl, hbr⟩ := hrel
    by_cases hlt : j < n
    · obtain ⟨x, hx⟩ : ∃ x, xs[j]? = some x := ⟨_, List.getElem?_eq_getElem (by omega)⟩
      obtain ⟨ad, y, rfl, hb, hy, hc⟩ := (hr.next hbr).at_ hlt
      have hy2 : y = ((cnL szI1 k xs j : Nat) : Int) := by
        rw [markL_get hx] at hy
        injection hy with hy
        exact hy.symm
      subst hy2
      have HCN := Lib.hid (cnL_succ (sz := szI1) (k := k) hx)
      have hroom := cnL_room (sz := szI1) (k := k) hx
      rw [show szI1 x = 1 from rfl] at hroom
      clear hx hy
      generalize cnL szI1 k xs j = q0 at *
      have hw1 : IntKind.i64.wrap ((q0 : Int) + 1) = ((q0 + 1 : Nat) : Int) := by rw [IntKind.wrap_i64]; omega
      have hx0 : ((q0 : Int) != (q0 : Int)) = false := by simp
      go_wp2_with fail
      go_roundw
      case rel => exact ⟨j + 1, by omega, by go_num, by rw [HCN.out]; rfl, hbr⟩
      case measure => simp [intOf]; omega
    · obtain rfl : j = n := by omega
      go_wp2_with fail
      go_ret
      exact ⟨by rw [cnL_all hl]; rfl, hbr⟩
theorem heldIntWS_s (A : Option Addr) (n c : Nat) (xs : List Int) (k : Nat) (w : World) (h : RSl repIntW 0 w A n (markL mkI szI1 k xs)) (hn : n ≤ maxLen) (hk : k + szL szI1 xs ≤ 9000000000000000000) :
    Calls Try.prog 31 #[.slice A n c, .int .i64 (k : Int)] w fun e w' => e = .returned (.int .i64 ((k + szL szI1 xs : Nat) : Int)) ∧ Below w.heap.size w w' := heldIntS_s A n c xs k w h.plain hn hk
def mkAr (k : Nat) (x : Ar) : Ar := ⟨((k : Nat) : Int), markL mkOb szOb (k + 1) x.os⟩
def szAr (x : Ar) : Nat := 1 + szL szOb x.os
theorem sepAr_put0 {lo g o : Nat} {N : Nat → Prop} {w : World} {cs : List Value} {x : Ar} (u : Int) (h : sepAr.V lo N w cs x) (hg : ¬ N g) : sepAr.V lo N (w.setCell ⟨g, o, none⟩ (.int .i64 u)) (cs.set 0 (.int .i64 u)) ⟨u, x.os⟩ := by
  obtain ⟨U0, m0, d0, rfl, x0⟩ := sepAr_cells h
  exact sepAr_mk (x := ⟨u, x.os⟩) (x0.kept (fun b hb => Below.heap_setCell _ ⟨g, o, none⟩ _ b (fun e => hg (by have e' : b = g := e; exact e' ▸ hb))))
set_option maxRecDepth 100000 in
set_option maxHeartbeats 3200000 in
theorem markAreaS_s (S : Nat → Prop) (lo : Nat) (A : Option Addr) (n c : Nat) (xs : List Ar) (k : Nat) (w : World) (h : SSl 70 sepAr lo S w A n c xs) (hS : ∀ b, S b → b < w.heap.size) (hk : k + szL szAr xs ≤ 9000000000000000000) :
    Calls Try.prog 72 #[.slice A n c, .int .i64 (k : Int)] w fun e w' => e = .returned (.int .i64 ((k + szL szAr xs : Nat) : Int)) ∧ SSl 70 sepAr lo S w' A n c (markL mkAr szAr k xs) ∧ Only S w w' := by
  have hl := h.1
  have hnm := h.small
  unfold maxLen at hnm
  go_enter Try.func72, Try.ntmps72
  go_wp2_with fail
  go_loopw [1, 5] (fun q i wr => ∃ j : Nat, j ≤ n ∧ i = .int .i64 j ∧ q = .int .i64 ((cnL szAr k xs j : Nat) : Int) ∧ SSl 70 sepAr lo S wr A n c (stL mkAr szAr k xs j) ∧ Only S w wr) (fun _ i _ => n - (intOf i).toNat)
  case atStart => exact ⟨0, Nat.zero_le _, rfl, by rw [cnL_zero], by rw [stL_zero]; exact h, Only.refl _ _⟩
  case round =>
    obtain ⟨j, hj, rfl, rfl, h0, hO0⟩ := hrel
    by_cases hlt : j < n
    · obtain ⟨g, rfl⟩ : ∃ g, A = some ⟨g, 0, none⟩ := by
        obtain ⟨g, _, _, _, e, _⟩ := h0.inner hlt
        exact ⟨g, e⟩
      obtain ⟨x, hx⟩ : ∃ x, xs[j]? = some x := ⟨_, List.getElem?_eq_getElem (by omega)⟩
      have HX0 := Lib.hid (show (stL mkAr szAr k xs j)[j]? = some x by rw [stL_get]; exact hx)
      have HST := Lib.hid (stL_set (mk := mkAr) (sz := szAr) (k := k) hx)
      have HCN := Lib.hid (cnL_succ (sz := szAr) (k := k) hx)
      have hroom := cnL_room (sz := szAr) (k := k) hx
      rw [show szAr x = 1 + szL szOb x.os from rfl] at hroom
      have hS0 := fun b hb => Nat.lt_of_lt_of_le (hS b hb) hO0.size
      clear hx
      generalize stL mkAr szAr k xs j = L0 at *
      generalize cnL szAr k xs j = q0 at *
      obtain ⟨cs0, N0, hSg0, -, hgl0, hN0, hNg0, hv0, hc0, hf0, hu0⟩ := h0.inn rfl HX0.out
      obtain ⟨U0_0, m0_0, d0_0, rfl, y0_0⟩ := sepAr_cells hv0
      have c0 : (wr).cell? ⟨g, j * 2, none⟩ = some (.int .i64 x.t) := hc0 0 _ rfl
      have f0 := hf0 (j * 2)
      have h1 : SSl 70 sepAr lo S ((wr).setCell ⟨g, j * 2, none⟩ (.int .i64 (q0 : Int))) (some ⟨g, 0, none⟩) n c (L0.set j ⟨(q0 : Int), x.os⟩) := h0.own rfl HX0.out 0 (.int .i64 (q0 : Int)) ⟨(q0 : Int), x.os⟩ (by decide) (fun N cs hv hg => sepAr_put0 _ hv hg)
      have HX1 := Lib.hid (show (L0.set j (⟨(q0 : Int), x.os⟩ : Ar))[j]? = some ⟨(q0 : Int), x.os⟩ by rw [List.getElem?_set_self (List.getElem?_eq_some_iff.1 HX0.out).1])
      have hO1 : Only S w ((wr).setCell ⟨g, j * 2, none⟩ (.int .i64 (q0 : Int))) := hO0.set hSg0 _
      have hS1 : ∀ b, S b → b < ((wr).setCell ⟨g, j * 2, none⟩ (.int .i64 (q0 : Int))).heap.size := fun b hb => Nat.lt_of_lt_of_le (hS b hb) hO1.size
      obtain ⟨q1, HQ1⟩ : ∃ q1 : Nat, Hid (q1 = q0 + 1) := ⟨_, Lib.hid rfl⟩
      have hw1 : IntKind.i64.wrap ((q0 : Int) + 1) = (q1 : Int) := by have e1 := HQ1.out; rw [IntKind.wrap_i64]; omega
      clear hc0 hf0 hu0 hv0
      obtain ⟨cs1, N1, hSg1, -, hgl1, hN1, hNg1, hv1, hc1, hf1, hu1⟩ := h1.inn rfl HX1.out
      obtain ⟨U0_1, m0_1, d0_1, rfl, y1_0⟩ := sepAr_cells hv1
      have c1 : (((wr).setCell ⟨g, j * 2, none⟩ (.int .i64 (q0 : Int)))).cell? ⟨g, j * 2 + 1, none⟩ = some (.slice U0_1 m0_1 d0_1) := hc1 1 _ rfl
      clear hc1 hf1
      go_wp2_with fail
      generalize hWW1 : ((wr).setCell ⟨g, j * 2, none⟩ (.int .i64 (q0 : Int))) = w1 at *
      clear hWW1
      refine (markObjectS_s N1 lo U0_1 m0_1 d0_1 x.os q1 w1 y1_0 (fun b hb => hS1 b ((fun b hb => hN1 b hb) b hb)) (by have e1 := HQ1.out; omega)).mono ?_
      rintro e v1 ⟨rfl, hP1, hR1⟩
      have h2 := hu1 v1 ⟨(q0 : Int), markL mkOb szOb q1 x.os⟩ (fun b hb hn => hR1.block b (hS1 b hb) hn) (sepAr_mk (x := ⟨(q0 : Int), markL mkOb szOb q1 x.os⟩) hP1)
      have HX2 := Lib.hid (show ((L0.set j (⟨(q0 : Int), x.os⟩ : Ar)).set j (⟨(q0 : Int), markL mkOb szOb q1 x.os⟩ : Ar))[j]? = some ⟨(q0 : Int), markL mkOb szOb q1 x.os⟩ by rw [List.getElem?_set_self (List.getElem?_eq_some_iff.1 HX1.out).1])
      have hO2 := hO1.trans (hR1.wide (fun b hb => hN1 b hb))
      have hS2 : ∀ b, S b → b < v1.heap.size := fun b hb => Nat.lt_of_lt_of_le (hS b hb) hO2.size
      obtain ⟨q2, HQ2⟩ : ∃ q2 : Nat, Hid (q2 = q1 + szL szOb x.os) := ⟨_, Lib.hid rfl⟩
      rw [← HQ2.out]
      clear hu1 hv1 hP1 c1
      have hX : (⟨(q0 : Int), markL mkOb szOb q1 x.os⟩ : Ar) = mkAr q0 x := by have e1 := HQ1.out; have e2 := HQ2.out; subst e1; subst e2; rfl
      have hE : q2 = q0 + szAr x := by have e1 := HQ1.out; have e2 := HQ2.out; unfold szAr; omega
      have hEnd : SSl 70 sepAr lo S v1 (some ⟨g, 0, none⟩) n c (stL mkAr szAr k xs (j + 1)) := by
        have hh := h2
        simp only [List.set_set, hX, HST.out] at hh
        exact hh
      have HEND := Lib.hid hEnd
      have HE := Lib.hid hE
      clear hEnd hE hX
      go_wp2_with fail
      go_roundw
      case rel => exact ⟨j + 1, by omega, by go_num, by rw [HCN.out, ← HE.out], HEND.out, hO2⟩
      case measure => simp [intOf]; omega
    · obtain rfl : j = n := by omega
      go_wp2_with fail
      go_ret
      exact ⟨by rw [cnL_all hl]; rfl, by rw [← stL_all hl]; exact h0, hO0⟩
set_option maxRecDepth 100000 in
set_option maxHeartbeats 3200000 in
theorem heldAreaS_s (A : Option Addr) (n c : Nat) (xs : List Ar) (k : Nat) (w : World) (h : RSl repAr 0 w A n (markL mkAr szAr k xs)) (hn : n ≤ maxLen) (hk : k + szL szAr xs ≤ 9000000000000000000) :
    Calls Try.prog 74 #[.slice A n c, .int .i64 (k : Int)] w fun e w' => e = .returned (.int .i64 ((k + szL szAr xs : Nat) : Int)) ∧ Below w.heap.size w w' := by
  have hl : xs.length = n := by have := h.1; rwa [markL_len] at this
  unfold maxLen at hn
  go_enter Try.func74, Try.ntmps74
  go_wp2_with fail
  go_loopw [1, 5] (fun q i wr => ∃ j : Nat, j ≤ n ∧ i = .int .i64 j ∧ q = .int .i64 ((cnL szAr k xs j : Nat) : Int) ∧ Below w.heap.size w wr) (fun _ i _ => n - (intOf i).toNat)
  case atStart => exact ⟨0, Nat.zero_le _, rfl, by rw [cnL_zero], Below.refl _ _⟩
  case round =>
    obtain ⟨j, hj, rfl, rfl, hbr⟩ := hrel
    by_cases hlt : j < n
    · obtain ⟨x, hx⟩ : ∃ x, xs[j]? = some x := ⟨_, List.getElem?_eq_getElem (by omega)⟩
      obtain ⟨b, off, y, cs, rfl, hb, hy, hc, hv⟩ := (h.next hbr).at_ hlt
      have hy2 : y = mkAr (cnL szAr k xs j) x := by
        rw [markL_get hx] at hy
        injection hy with hy
        exact hy.symm
      subst hy2
      have HCN := Lib.hid (cnL_succ (sz := szAr) (k := k) hx)
      have hroom := cnL_room (sz := szAr) (k := k) hx
      rw [show szAr x = 1 + szL szOb x.os from rfl] at hroom
      clear hx hy
      generalize cnL szAr k xs j = q0 at *
      obtain ⟨B1, m1, d1, rfl, hr1, hm1⟩ := repAr_cells hv
      have c0 : wr.cell? ⟨b, off + j * 2, none⟩ = some (.int .i64 ((q0 : Nat) : Int)) := hc 0 _ rfl
      have c1 : wr.cell? ⟨b, off + j * 2 + 1, none⟩ = some (.slice B1 m1 d1) := hc 1 _ rfl
      obtain ⟨q1, hq1⟩ : ∃ q1 : Nat, q1 = q0 + 1 := ⟨_, rfl⟩
      obtain ⟨q2, hq2⟩ : ∃ q2 : Nat, q2 = q1 + szL szOb x.os := ⟨_, rfl⟩
      have hr1_ : RSl repOb 0 wr B1 m1 (markL mkOb szOb q1 x.os) := by have hh := hr1; unfold mkAr at hh; simpa only [show q0 + 1 = q1 by omega] using hh
      have hw1 : IntKind.i64.wrap ((q0 : Int) + 1) = (q1 : Int) := by rw [IntKind.wrap_i64]; omega
      have hx0 : ((q0 : Int) != (q0 : Int)) = false := by simp
      have hg2 : decide ((q2 : Int) < 0) = false := by simp
      have HE := Lib.hid (show q2 = q0 + szAr x by unfold szAr; omega)
      have HQ1 := Lib.hid hq1
      have HQ2 := Lib.hid hq2
      have hbnd : q2 ≤ 9000000000000000000 := by omega
      clear hc hv hroom hr1 hq1 hq2
      go_wp2_with fail
      refine (heldObjectS_s B1 m1 d1 x.os q1 _ hr1_ hm1 (by have := HQ2.out; have e2 := HQ2.out; omega)).mono ?_
      rw [← HQ2.out]
      rintro e w0 ⟨rfl, hb0⟩
      have hbr0 := below_ext hbr hb0
      go_wp2_with fail
      go_roundw
      case rel => exact ⟨j + 1, by omega, by go_num, by rw [HCN.out, ← HE.out], hbr0⟩
      case measure => simp [intOf]; omega
    · obtain rfl : j = n := by omega
      go_wp2_with fail
      go_ret
      exact ⟨by rw [cnL_all hl]; rfl, hbr⟩
def mkQu (k : Nat) (x : Qu) : Qu := ⟨markL mkOb szOb (k) x.main, markL mkAr szAr (k + szL szOb x.main) x.ars⟩
def szQu (x : Qu) : Nat := szL szOb x.main + szL szAr x.ars
set_option maxHeartbeats 1600000 in
theorem markQuarantine_s (S : Nat → Prop) (lo : Nat) (cs : List Value) (x : Qu) (k : Nat) (w : World) (h : sepQu.V lo S w cs x) (hS : ∀ b, S b → b < w.heap.size) (hk : k + szQu x ≤ 9000000000000000000) :
    Calls Try.prog 29 #[.agg cs.toArray, .int .i64 (k : Int)] w fun e w' => e = .returned (.int .i64 ((k + szQu x : Nat) : Int)) ∧ sepQu.V lo S w' cs (mkQu k x) ∧ Only S w w' := by
  obtain ⟨U0, m0, d0, U1, m1, d1, S1, S2, rfl, q1, q2, q3, y0, y1⟩ := sepQu_cells h
  have eb := below_box w (.cells #[.slice U0 m0 d0, .slice U1 m1 d1] 26)
  have hz := eb.size
  have bx := Blk.new w 26 [.slice U0 m0 d0, .slice U1 m1 d1]
  obtain ⟨c0, c1⟩ := bx.cells2
  have z0 := y0.next eb (fun b hb => hS b (q1 b hb))
  have z1 := y1.next eb (fun b hb => hS b (q2 b hb))
  unfold szQu at hk
  go_enter Try.func29, Try.ntmps29
  go_wp2_with fail
  refine (markObjectS_s S1 lo U0 m0 d0 x.main k _ z0 (fun b hb => by have := hS b (q1 b hb); omega) (by omega)).mono ?_
  rintro e w1 ⟨rfl, p0, o1⟩
  have bx1 := o1.blk bx (fun hh => by have := hS _ (q1 _ hh); omega)
  obtain ⟨c10, c11⟩ := bx1.cells2
  have z11 := z1.only o1 (fun b h1 h2 => q3 b h2 h1) (fun b hb => by have := hS b (q2 b hb); omega)
  obtain ⟨ka, HA⟩ : ∃ ka : Nat, Hid (ka = k + szL szOb x.main) := ⟨_, Lib.hid rfl⟩
  rw [← HA.out]
  go_wp2_with fail
  refine (markAreaS_s S2 lo U1 m1 d1 x.ars ka _ z11 (fun b hb => by have := hS b (q2 b hb); have := o1.size; omega) (by have := HA.out; omega)).mono ?_
  obtain ⟨kb, HB⟩ : ∃ kb : Nat, Hid (kb = ka + szL szAr x.ars) := ⟨_, Lib.hid rfl⟩
  rw [← HB.out]
  rintro e w2 ⟨rfl, p1, o2⟩
  have p02 := p0.only o2 (fun b h1 h2 => q3 b h1 h2) (fun b hb => by have := hS b (q1 b hb); have := o1.size; omega)
  go_wp2_with fail
  go_ret
  refine ⟨by show Ending.returned (.int .i64 (kb : Int)) = _; rw [HB.out, HA.out]; unfold szQu; rw [Nat.add_assoc], ?_, (Only.of_below eb).trans ((o1.wide q1).trans (o2.wide q2))⟩
  rw [HA.out] at p1
  exact sepQu_mk (x := mkQu k x) q1 q2 q3 p02 p1
set_option maxHeartbeats 1600000 in
theorem heldQuarantine_s (cs : List Value) (x : Qu) (k : Nat) (w : World) (h : repQu.V 0 w cs (mkQu k x)) (hk : k + szQu x ≤ 9000000000000000000) :
    Calls Try.prog 34 #[.agg cs.toArray, .int .i64 (k : Int)] w fun e w' => e = .returned (.int .i64 ((k + szQu x : Nat) : Int)) ∧ Below w.heap.size w w' := by
  obtain ⟨U0, m0, d0, U1, m1, d1, rfl, y0, n0, y1, n1⟩ := repQu_cells h
  have eb := below_box w (.cells #[.slice U0 m0 d0, .slice U1 m1 d1] 26)
  have bx := Blk.new w 26 [.slice U0 m0 d0, .slice U1 m1 d1]
  obtain ⟨c0, c1⟩ := bx.cells2
  have z0 := y0.next eb
  have z1 := y1.next eb
  unfold szQu at hk
  unfold mkQu at z0 z1
  obtain ⟨ka, HA⟩ : ∃ ka : Nat, Hid (ka = k + szL szOb x.main) := ⟨_, Lib.hid rfl⟩
  obtain ⟨kb, HB⟩ : ∃ kb : Nat, Hid (kb = ka + szL szAr x.ars) := ⟨_, Lib.hid rfl⟩
  have hg1 : decide ((ka : Int) < 0) = false := by simp
  have hg2 : decide ((kb : Int) < 0) = false := by simp
  rw [← HA.out] at z1
  go_enter Try.func34, Try.ntmps34
  go_wp2_with fail
  refine (heldObjectS_s U0 m0 d0 x.main k _ z0 n0 (by omega)).mono ?_
  rw [← HA.out]
  rintro e w1 ⟨rfl, b1⟩
  obtain ⟨c10, c11⟩ := (bx.next b1).cells2
  go_wp2_with fail
  refine (heldAreaS_s U1 m1 d1 x.ars ka _ (z1.next b1) n1 (by have := HA.out; omega)).mono ?_
  rw [← HB.out]
  rintro e w2 ⟨rfl, b2⟩
  go_wp2_with fail
  go_ret
  exact ⟨by show Ending.returned (.int .i64 (kb : Int)) = _; rw [HB.out, HA.out]; unfold szQu; rw [Nat.add_assoc], below_ext (below_ext eb b1) b2⟩
end Go.Proofs.Ytjofgbbofagoiaa
/- Walk: the laws' copies of objects, as rows whose parts lie in blocks apart. -/
namespace Go.Proofs.Ytjofgbbofagoiaa
open Go.RowKit Go.Sort

theorem own_blk_q {w : World} {lo g n size : Nat} {T : TypeId} {cs : List Value} (h : Blk w g T cs) (hlo : lo ≤ g) (hl : cs.length = n * size) (hm : n ≤ maxLen) : w.ownsRow lo T size (.slice (some ⟨g, 0, none⟩) n n) n cs :=
  ⟨hl, .inr ⟨g, n, cs.toArray, rfl, hlo, h, Nat.le_refl _, hm, by simpa using hl, by simp [← hl]⟩⟩
theorem own_blk_ints {w : World} {lo g : Nat} {T : TypeId} {xs : List Int} (h : Blk w g T (ints xs)) (hlo : lo ≤ g) (hl : xs.length ≤ maxLen) : w.ownsRow lo T 1 (.slice (some ⟨g, 0, none⟩) xs.length xs.length) xs.length (ints xs) :=
  own_blk_q h hlo (by rw [length_ints]; omega) hl
theorem parts_oobjs {w : World} {lo g : Nat} : ∀ (os : List Ob) (bs : List Nat), bs.length = os.length → (∀ (i : Nat) (o : Ob) (b : Nat), os[i]? = some o → bs[i]? = some b → Blk w b 3 (ints o.xs)) → (∀ b ∈ bs, g < b) → lo ≤ g → bs.Pairwise (· < ·) → (∀ o ∈ os, o.xs.length ≤ maxLen ∧ o.t.size ≤ maxLen) →
    ∃ css, css.flatten = cellsO os bs ∧ Parts sepOb g w lo (fun b => b ∈ bs) css os
  | [], [], _, _, _, _, _, _ => ⟨[], rfl, trivial⟩
  | [], _ :: _, h, _, _, _, _, _ => by simp at h
  | _ :: _, [], h, _, _, _, _, _ => by simp at h
  | o :: os, b :: bs, hl, hb, hg, hlo, hp, hs => by
    rw [List.pairwise_cons] at hp
    obtain ⟨css, h1, h2⟩ := parts_oobjs (w := w) (lo := lo) (g := g) os bs (by simpa using hl) (fun i x c hx hc => hb (i + 1) x c (by simpa using hx) (by simpa using hc)) (fun c hc => hg c (List.mem_cons_of_mem _ hc)) hlo hp.2 (fun x hx => hs x (List.mem_cons_of_mem _ hx))
    have hbg := hg b (by simp)
    refine ⟨_ :: css, by rw [List.flatten_cons, h1]; rfl, fun c => c = b, fun c => c ∈ bs, ?_, ?_, ?_, ?_, sepOb_mk (A := some ⟨b, 0, none⟩) (m := o.xs.length) (d := o.xs.length) (Or.inr ⟨b, _, rfl, by omega, rfl, hb 0 o b rfl rfl, rfl, by rw [List.take_of_length_le (by rw [length_ints]; exact Nat.le_refl _)]⟩) (hs o (by simp)).1 (hs o (by simp)).2, h2⟩
    · rintro c rfl
      exact List.mem_cons_self
    · intro c hc
      exact List.mem_cons_of_mem _ hc
    · rintro c rfl hc
      have := hp.1 c hc
      omega
    · intro e
      omega
theorem OObjs.ssl {w : World} {lo g n : Nat} {os : List Ob} {bs : List Nat} (h : OObjs w lo g os bs) (hn : n = os.length) (hs : smallO os) : SSl 33 sepOb g (Iv g w.heap.size) w (some ⟨g, 0, none⟩) n n os := by
  obtain ⟨h1, _, h3, h4, h5, h6⟩ := h
  have h7 := hs.1
  obtain ⟨css, q1, q2⟩ := parts_oobjs (w := w) (lo := g) (g := g) os bs h1 h4 h5 (Nat.le_refl _) h6 (fun o ho => by have := hs.2 o ho; simp only [maxLen]; omega)
  have hgl := h3.lt
  refine ⟨hn.symm, Or.inr ⟨g, css, rfl, ⟨Nat.le_refl _, hgl⟩, ?_, q2.widen ?_⟩⟩
  · rw [q1]
    exact own_blk_q h3 (Nat.le_refl _) (by rw [length_cellsO os bs h1, hn]; rfl) (by simp only [maxLen]; omega)
  · intro b hb
    obtain ⟨i, hi⟩ := List.mem_iff_getElem?.1 hb
    have hil : i < os.length := by have := (List.getElem?_eq_some_iff.1 hi).1; omega
    exact ⟨Nat.le_of_lt (h5 b hb), (h4 i _ b (List.getElem?_eq_getElem hil) hi).lt⟩
theorem toObjectS_s (A : Option Addr) (n c : Nat) (xs : List Ob) (w : World) (h : RSl repOb 0 w A n xs) (hs : smallO xs) :
    Calls Try.prog 58 #[.slice A n c] w fun e w' => ∃ B, e = .returned (.slice B n n) ∧ SSl 33 sepOb w.heap.size (Iv w.heap.size w'.heap.size) w' B n n xs ∧ Below w.heap.size w w' :=
  (toObjectS_any A n c xs w h.robjs hs).mono fun _ _ ⟨_, he, ho, hb⟩ => ⟨_, he, ho.ssl h.1.symm hs, hb⟩
end Go.Proofs.Ytjofgbbofagoiaa
/- Walks: the laws' copies of their arguments, every slice in memory of its own. -/
namespace Go.Proofs.Ytjofgbbofagoiaa
open Go.RowKit Go.Sort

theorem toIntS_s (A : Option Addr) (n c : Nat) (xs : List Int) (w : World) (h : RSl repInt 0 w A n xs) (hs : smallI xs) :
    Calls Try.prog 27 #[.slice A n c] w fun e w' => ∃ B, e = .returned (.slice B n n) ∧ SSl 3 sepInt w.heap.size (Iv w.heap.size w'.heap.size) w' B n n xs ∧ Below w.heap.size w w' := by
  have hl := h.1
  unfold smallI at hs
  refine (toIntS_any A n c xs w h.rints (by omega)).mono ?_
  rintro e w' ⟨rfl, hb, hw⟩
  refine ⟨_, rfl, ?_, hw⟩
  have ho := own_blk_ints (lo := w.heap.size) hb (Nat.le_refl _) (by simp only [maxLen]; omega)
  rw [hl] at ho
  exact SSl.of_ints ho fun b h1 h2 _ => ⟨h1, h2⟩
theorem toIntWS_s (A : Option Addr) (n c : Nat) (xs : List Int) (w : World) (h : RSl repIntW 0 w A n xs) (hs : smallI xs) :
    Calls Try.prog 27 #[.slice A n c] w fun e w' => ∃ B, e = .returned (.slice B n n) ∧ SSl 3 sepIntW w.heap.size (Iv w.heap.size w'.heap.size) w' B n n xs ∧ Below w.heap.size w w' :=
  (toIntS_s A n c xs w h.plain hs).mono fun _ _ ⟨B, he, hb, hw⟩ => ⟨B, he, hb.withW h.wf, hw⟩
set_option maxRecDepth 100000 in
set_option maxHeartbeats 3200000 in
theorem toArea_s (cs : List Value) (x : Ar) (w : World) (hv : repAr.V 0 w cs x) (hs : smallAr x) :
    Calls Try.prog 99 #[.agg cs.toArray] w fun e w' => ∃ cs', e = .returned (.agg cs'.toArray) ∧ sepAr.V w.heap.size (Iv w.heap.size w'.heap.size) w' cs' x ∧ Below w.heap.size w w' := by
  obtain ⟨B1, m1, d1, rfl, hr1, hm1⟩ := repAr_cells hv
  have hbx := below_box3 w (.cells #[.int .i64 x.t, .slice B1 m1 d1] 117) (.cells #[.int .i64 0, .slice none 0 0] 70) (.cells #[.int .i64 0, .slice none 0 0] 70)
  have hs1 := hs
  clear hv
  go_enter Try.func99, Try.ntmps99
  go_wp2_with fail
  refine (toObjectS_s B1 m1 d1 x.os _ (hr1.next (by (repeat (refine Below.setCell ?_ (by first | omega | (simp; omega) | simp) _)); exact below_box3 _ _ _ _)) hs1).mono ?_
  rintro e w0 ⟨B1q, rfl, q1, hb0⟩
  have hz0 := hb0.size
  simp only [size_alloc] at hz0
  obtain ⟨hc0, hf0⟩ := bcell_lt hb0 (m := w.heap.size + 1 + 1 + 1) (by simp only [size_alloc]; omega)
  have q1b : SSl 33 sepOb (w.heap.size + 1 + 1 + 1) (Iv (w.heap.size + 1 + 1 + 1) w0.heap.size) w0 B1q m1 m1 x.os := by simpa only [size_setCell, size_alloc] using q1
  have hk0 : ∀ b, w.heap.size + 1 + 1 + 1 ≤ b → b < w.heap.size + 1 + 1 + 1 → w0.heap[b]? = w0.heap[b]? := fun b h1 h2 => by
    rfl
  have hbb0 : Below w.heap.size w w0 := below_ext (by (repeat (refine Below.setCell ?_ (by first | omega | (simp; omega) | simp) _)); exact below_box3 _ _ _ _) hb0
  go_wp2_with fail
  refine bodyPost_ret (v := .agg #[.int .i64 x.t, .slice B1q m1 m1]) (by simp [results, Try.results99, go_sem, hc0]) rfl ⟨[.int .i64 x.t, .slice B1q m1 m1], rfl, ?_, ?_⟩
  · refine sepAr_mk (x := x) ((q1b.kept (fun b hb => ?_)).wide (fun b hb => ?_) |>.down (by omega))
    · obtain ⟨h1, h2⟩ := hb
      (repeat rw [Below.heap_setCell _ _ _ b (by dsimp only; omega)])
    · obtain ⟨h1, h2⟩ := hb
      refine ⟨by omega, ?_⟩
      (try simp only [size_setCell])
      exact h2
  · (repeat (refine Below.setCell ?_ (by first | omega | (simp; omega) | simp) _)); exact hbb0
set_option maxHeartbeats 1600000 in
theorem toAreaS_s (A : Option Addr) (n c : Nat) (xs : List Ar) (w : World) (h : RSl repAr 0 w A n xs) (hs : smallL smallAr xs) :
    Calls Try.prog 59 #[.slice A n c] w fun e w' => ∃ B, e = .returned (.slice B n n) ∧ SSl 70 sepAr w.heap.size (Iv w.heap.size w'.heap.size) w' B n n xs ∧ Below w.heap.size w w' := by
  have hn : n ≤ 1048576 := by have := hs.1; have := h.1; omega
  have hmk := run_make_rep (P := Try.prog) Try.underlying24 Area_info rfl n (by omega) (by omega)
  go_enter Try.func59, Try.ntmps59
  go_wp2
  go_loopw [4] (fun i wr => ∃ (k : Nat) (css : List (List Value)), k ≤ n ∧ i = .int .i64 k ∧ LaidS sepAr wr w.heap.size 70 [.int .i64 0, .slice none 0 0] xs n k wr.heap.size css ∧ Below w.heap.size w wr) (fun i _ => n - (intOf i).toNat)
  case atStart => exact ⟨0, [], Nat.zero_le _, rfl, by simpa using LaidS.start (r := sepAr) w 70 [.int .i64 0, .slice none 0 0] xs n, below_box _ _⟩
  case round =>
    obtain ⟨k, css, hk, rfl, hto, hbr⟩ := hrel
    have hgz := hto.2.2.1
    have hr := h.next hbr
    by_cases hlt : k < n
    · obtain ⟨b, off, x, cs, rfl, hb, hx, hc, hv⟩ := hr.at_ hlt
      have hsm := hs.2 x (List.mem_of_getElem? hx)
      have HX := Lib.hid hx
      have hcall := toArea_s cs x wr hv hsm
      clear hx
      obtain ⟨B1, m1, d1, rfl, hr1, hm1⟩ := repAr_cells hv
      have c0 : wr.cell? ⟨b, off + k * 2, none⟩ = some (.int .i64 x.t) := hc 0 _ rfl
      have c1 : wr.cell? ⟨b, off + k * 2 + 1, none⟩ = some (.slice B1 m1 d1) := hc 1 _ rfl
      clear hc hv
      go_wp2_with fail
      refine hcall.mono ?_
      rintro e w1 ⟨csq, rfl, hv1, hb1⟩
      have hv2 := sepAr.down hv1 (Nat.succ_le_of_lt hgz)
      obtain ⟨V0, p0, e0, rfl, -⟩ := sepAr_cells hv1
      have hto1 := hto.next hb1
      have hsz := hb1.size
      obtain ⟨g0, f0⟩ : w1.cell? ⟨w.heap.size, k * 2, none⟩ = some (.int .i64 0) ∧ w1.frozen? ⟨w.heap.size, k * 2, none⟩ = false := hto1.cell rfl hlt (j := 0) rfl
      obtain ⟨g1, f1⟩ : w1.cell? ⟨w.heap.size, k * 2 + 1, none⟩ = some (.slice none 0 0) ∧ w1.frozen? ⟨w.heap.size, k * 2 + 1, none⟩ = false := hto1.cell rfl hlt (j := 1) rfl
      have HTO := Lib.hid (hto1.step rfl hlt HX.out hv2 hsz (Nat.le_refl _))
      clear hto1 hv2 hv1
      go_wp2
      go_roundw
      case rel => exact ⟨k + 1, _, by omega, by go_num, by simp only [size_setCell]; exact HTO.out, ((below_ext hbr hb1).setCell (p := ⟨w.heap.size, _, none⟩) (Nat.le_refl _) _).setCell (p := ⟨w.heap.size, _, none⟩) (Nat.le_refl _) _⟩
      case measure => simp [intOf]; omega
    · obtain rfl : k = n := by omega
      go_wp2
      go_ret
      exact ⟨_, rfl, hto.done h.1 (by simp only [maxLen]; omega), hbr⟩
set_option maxRecDepth 100000 in
set_option maxHeartbeats 3200000 in
theorem toQuarantine_s (cs : List Value) (x : Qu) (w : World) (hv : repQu.V 0 w cs x) (hs : smallQu x) :
    Calls Try.prog 19 #[.agg cs.toArray] w fun e w' => ∃ cs', e = .returned (.agg cs'.toArray) ∧ sepQu.V w.heap.size (Iv w.heap.size w'.heap.size) w' cs' x ∧ Below w.heap.size w w' := by
  obtain ⟨B0, m0, d0, B1, m1, d1, rfl, hr0, hm0, hr1, hm1⟩ := repQu_cells hv
  have hbx := below_box3 w (.cells #[.slice B0 m0 d0, .slice B1 m1 d1] 42) (.cells #[.slice none 0 0, .slice none 0 0] 26) (.cells #[.slice none 0 0, .slice none 0 0] 26)
  obtain ⟨hs0, hs1⟩ := hs
  clear hv
  go_enter Try.func19, Try.ntmps19
  go_wp2_with fail
  refine (toObjectS_s B0 m0 d0 x.main _ (hr0.next (by (repeat (refine Below.setCell ?_ (by first | omega | (simp; omega) | simp) _)); exact below_box3 _ _ _ _)) hs0).mono ?_
  rintro e w0 ⟨B0q, rfl, q0, hb0⟩
  have hz0 := hb0.size
  simp only [size_alloc] at hz0
  obtain ⟨hc0, hf0⟩ := bcell_lt hb0 (m := w.heap.size + 1 + 1 + 1) (by simp only [size_alloc]; omega)
  have q0b : SSl 33 sepOb (w.heap.size + 1 + 1 + 1) (Iv (w.heap.size + 1 + 1 + 1) w0.heap.size) w0 B0q m0 m0 x.main := by simpa only [size_setCell, size_alloc] using q0
  have hk0 : ∀ b, w.heap.size + 1 + 1 + 1 ≤ b → b < w.heap.size + 1 + 1 + 1 → w0.heap[b]? = w0.heap[b]? := fun b h1 h2 => by
    rfl
  have hbb0 : Below w.heap.size w w0 := below_ext (by (repeat (refine Below.setCell ?_ (by first | omega | (simp; omega) | simp) _)); exact below_box3 _ _ _ _) hb0
  go_wp2_with fail
  refine (toAreaS_s B1 m1 d1 x.ars _ (hr1.next (by (repeat (refine Below.setCell ?_ (by first | omega | (simp; omega) | simp) _)); exact hbb0)) hs1).mono ?_
  rintro e w1 ⟨B1q, rfl, q1, hb1⟩
  have hz1 := hb1.size
  simp only [size_setCell] at hz1
  obtain ⟨hc1, hf1⟩ := bcell_lt hb1 (m := w.heap.size + 1 + 1 + 1) (by simp only [size_setCell]; omega)
  have q1b : SSl 70 sepAr (w0.heap.size) (Iv (w0.heap.size) w1.heap.size) w1 B1q m1 m1 x.ars := by simpa only [size_setCell, size_alloc] using q1
  have hk1 : ∀ b, w.heap.size + 1 + 1 + 1 ≤ b → b < w0.heap.size → w1.heap[b]? = w0.heap[b]? := fun b h1 h2 => by
    rw [hb1.block b (by simp only [size_setCell]; omega)]
    (repeat rw [Below.heap_setCell _ _ _ b (by dsimp only; omega)])
  have hbb1 : Below w.heap.size w w1 := below_ext (by (repeat (refine Below.setCell ?_ (by first | omega | (simp; omega) | simp) _)); exact hbb0) hb1
  go_wp2_with fail
  refine bodyPost_ret (v := .agg #[.slice B0q m0 m0, .slice B1q m1 m1]) (by simp [results, Try.results19, go_sem, hc0, hc1]) rfl ⟨[.slice B0q m0 m0, .slice B1q m1 m1], rfl, ?_, ?_⟩
  · refine sepQu_mk (x := x) (S1 := Iv (w.heap.size + 1 + 1 + 1) w0.heap.size) (S2 := Iv w0.heap.size w1.heap.size) (fun b hb => ?_) (fun b hb => ?_) (fun b h1 h2 => by have := h1.2; have := h2.1; omega) ((q0b.kept (fun b hb => ?_)).down (by omega)) ((q1b.kept (fun b hb => ?_)).down (by omega))
    · obtain ⟨h1, h2⟩ := hb
      refine ⟨by omega, ?_⟩
      (try simp only [size_setCell])
      omega
    · obtain ⟨h1, h2⟩ := hb
      refine ⟨by omega, ?_⟩
      (try simp only [size_setCell])
      omega
    · obtain ⟨h1, h2⟩ := hb
      (repeat rw [Below.heap_setCell _ _ _ b (by dsimp only; omega)])
      exact hk1 b h1 h2
    · obtain ⟨h1, h2⟩ := hb
      (repeat rw [Below.heap_setCell _ _ _ b (by dsimp only; omega)])
  · (repeat (refine Below.setCell ?_ (by first | omega | (simp; omega) | simp) _)); exact hbb1
end Go.Proofs.Ytjofgbbofagoiaa
