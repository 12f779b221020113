/- Walks: the laws' marks on rows of objects whose parts lie in blocks apart. -/
import Derived.Test.YtjofgbbofagoiaaSepQ
import Derived.Test.YtjofgbbofagoiaaMarkG
import Derived.Test.YtjofgbbofagoiaaMark
namespace Go.Proofs.Ytjofgbbofagoiaa
open Go.RowKit Go.Sort

theorem markL_marks (k : Nat) (xs : List Int) : markL mkI szI1 k xs = marks (k : Int) xs.length := by
  apply List.ext_getElem?
  intro j
  by_cases hj : j < xs.length
  · rw [markL_get (List.getElem?_eq_getElem hj), marks_get _ _ _ hj]
    unfold mkI cnL
    rw [szL_I, List.length_take, Nat.min_eq_left (by omega)]
    simp
  · rw [List.getElem?_eq_none (by rw [markL_len]; omega), List.getElem?_eq_none (by rw [marks_len]; omega)]
theorem markIntS_l (S : Nat → Prop) (lo : Nat) (A : Option Addr) (m d : Nat) (xs : List Int) (k : Nat) (w : World) (h : LkV lo S w A m xs) (hk : k + szL szI1 xs ≤ 9000000000000000000) :
    Calls Try.prog 30 #[.slice A m d, .int .i64 (k : Int)] w fun e w' => e = .returned (.int .i64 ((k + szL szI1 xs : Nat) : Int)) ∧ LkV lo S w' A m (markL mkI szI1 k xs) ∧ Only S w w' := by
  rw [szL_I] at hk ⊢
  rw [markL_marks]
  have hw : WI lo w.heap.size w A m := fun hm => by
    rcases h with ⟨rfl, _⟩ | ⟨g, ys, e, h1, _, h2, h3, h4⟩
    · omega
    · refine ⟨g, ys, e, h1, h2.lt, h2, ?_⟩
      have := congrArg List.length h4
      rw [List.length_take, length_ints] at this
      omega
  have hl : xs.length = m := by
    rcases h with ⟨rfl, rfl⟩ | ⟨g, ys, e, h1, _, h2, h3, h4⟩
    · rfl
    · exact h3
  rw [hl] at hk ⊢
  refine (markIntS_any lo w.heap.size A m d (k : Int) w hw (by omega) (by omega)).mono ?_
  rintro e w' ⟨rfl, hg, h0, hB⟩
  refine ⟨by simp, ?_, ?_⟩
  · rcases h with ⟨rfl, rfl⟩ | ⟨g, ys, rfl, h1, hS, h2, h3, h4⟩
    · exact Or.inl ⟨rfl, rfl⟩
    · have hy : m ≤ ys.length := by
        have := congrArg List.length h4
        rw [List.length_take, length_ints] at this
        omega
      exact Or.inr ⟨g, _, rfl, h1, hS, hB g ys rfl h2 hy, marks_len _ _, by rw [List.take_append_of_le_length (by rw [length_ints, marks_len]; exact Nat.le_refl _), List.take_of_length_le (by rw [length_ints, marks_len]; exact Nat.le_refl _)]⟩
  · rcases h with ⟨rfl, rfl⟩ | ⟨g, ys, rfl, h1, hS, h2, h3, h4⟩
    · rw [h0 rfl]; exact Only.refl _ _
    · exact ⟨hg.os, hg.tape, hg.output, hg.size, fun b hb hn => hg.block b hb (fun e => hn (by
        have : g = b := by simpa [Value.ownBlock] using e.symm
        exact this ▸ hS))⟩
theorem mdg_size : ∀ (f k : Nat) (acc : ByteArray), (mdg f k acc).size ≤ f + acc.size
  | 0, _, acc => by simp [mdg]
  | f + 1, k, acc => by
    unfold mdg
    split
    · omega
    · have := mdg_size f (k / 10) (⟨#[48 + UInt8.ofNat (k % 10)]⟩ ++ acc)
      rw [ByteArray.size_append] at this
      have h1 : (ByteArray.mk #[48 + UInt8.ofNat (k % 10)]).size = 1 := rfl
      omega
theorem mtext_size (k : Nat) : (mtext k).size ≤ k + 2 := by
  unfold mtext
  split
  · show 2 ≤ _
    omega
  · have := mdg_size k k ⟨#[]⟩
    rw [ByteArray.size_append]
    have h1 : (ByteArray.mk #[109]).size = 1 := rfl
    have h2 : (ByteArray.mk #[]).size = 0 := rfl
    omega
def mkOb (k : Nat) (x : Ob) : Ob := ⟨(k : Int), markL mkI szI1 (k + 1) x.xs, mtext (k + 1 + szL szI1 x.xs)⟩
def szOb (x : Ob) : Nat := 1 + szL szI1 x.xs + 1
theorem LkV.kept {lo m : Nat} {S : Nat → Prop} {w w' : World} {A : Option Addr} {xs : List Int} (h : LkV lo S w A m xs) (hk : ∀ b, S b → w'.heap[b]? = w.heap[b]?) : LkV lo S w' A m xs :=
  h.imp id fun ⟨g, ys, q1, q2, q3, q4, q5⟩ => ⟨g, ys, q1, q2, q3, (hk g q3).trans q4, q5⟩
theorem sepOb_put0 {lo g o : Nat} {N : Nat → Prop} {w : World} {cs : List Value} {x : Ob} (u : Int) (h : sepOb.V lo N w cs x) (hg : ¬ N g) : sepOb.V lo N (w.setCell ⟨g, o, none⟩ (.int .i64 u)) (cs.set 0 (.int .i64 u)) ⟨u, x.xs, x.t⟩ := by
  obtain ⟨U0, m0, d0, rfl, x0, h1, h2⟩ := sepOb_cells h
  exact sepOb_mk (o := ⟨u, x.xs, x.t⟩) (x0.kept (fun b hb => Below.heap_setCell _ ⟨g, o, none⟩ _ b (fun e => hg (by have e' : b = g := e; exact e' ▸ hb)))) h1 h2
theorem sepOb_put2 {lo g o : Nat} {N : Nat → Prop} {w : World} {cs : List Value} {x : Ob} (u : ByteArray) (hu : u.size ≤ maxLen) (h : sepOb.V lo N w cs x) (hg : ¬ N g) : sepOb.V lo N (w.setCell ⟨g, o, none⟩ (.string u)) (cs.set 2 (.string u)) ⟨x.k, x.xs, u⟩ := by
  obtain ⟨U0, m0, d0, rfl, x0, h1, h2⟩ := sepOb_cells h
  exact sepOb_mk (o := ⟨x.k, x.xs, u⟩) (x0.kept (fun b hb => Below.heap_setCell _ ⟨g, o, none⟩ _ b (fun e => hg (by have e' : b = g := e; exact e' ▸ hb)))) h1 hu
set_option maxRecDepth 100000 in
set_option maxHeartbeats 3200000 in
theorem markObjectS_s (S : Nat → Prop) (lo : Nat) (A : Option Addr) (n c : Nat) (xs : List Ob) (k : Nat) (w : World) (h : SSl 33 sepOb lo S w A n c xs) (hS : ∀ b, S b → b < w.heap.size) (hk : k + szL szOb xs ≤ 9000000000000000000) :
    Calls Try.prog 71 #[.slice A n c, .int .i64 (k : Int)] w fun e w' => e = .returned (.int .i64 ((k + szL szOb xs : Nat) : Int)) ∧ SSl 33 sepOb lo S w' A n c (markL mkOb szOb k xs) ∧ Only S w w' := by
  have hl := h.1
  have hnm := h.small
  unfold maxLen at hnm
  go_enter Try.func71, Try.ntmps71
  go_wp2_with fail
  go_loopw [1, 5] (fun q i wr => ∃ j : Nat, j ≤ n ∧ i = .int .i64 j ∧ q = .int .i64 ((cnL szOb k xs j : Nat) : Int) ∧ SSl 33 sepOb lo S wr A n c (stL mkOb szOb k xs j) ∧ Only S w wr) (fun _ i _ => n - (intOf i).toNat)
  case atStart => exact ⟨0, Nat.zero_le _, rfl, by rw [cnL_zero], by rw [stL_zero]; exact h, Only.refl _ _⟩
  case round =>
    obtain ⟨j, hj, rfl, rfl, h0, hO0⟩ := hrel
    by_cases hlt : j < n
    · obtain ⟨g, rfl⟩ : ∃ g, A = some ⟨g, 0, none⟩ := by
        obtain ⟨g, _, _, _, e, _⟩ := h0.inner hlt
        exact ⟨g, e⟩
      obtain ⟨x, hx⟩ : ∃ x, xs[j]? = some x := ⟨_, List.getElem?_eq_getElem (by omega)⟩
      have HX0 := Lib.hid (show (stL mkOb szOb k xs j)[j]? = some x by rw [stL_get]; exact hx)
      have HST := Lib.hid (stL_set (mk := mkOb) (sz := szOb) (k := k) hx)
      have HCN := Lib.hid (cnL_succ (sz := szOb) (k := k) hx)
      have hroom := cnL_room (sz := szOb) (k := k) hx
      rw [show szOb x = 1 + szL szI1 x.xs + 1 from rfl] at hroom
      have hS0 := fun b hb => Nat.lt_of_lt_of_le (hS b hb) hO0.size
      clear hx
      generalize stL mkOb szOb k xs j = L0 at *
      generalize cnL szOb k xs j = q0 at *
      obtain ⟨cs0, N0, hSg0, -, hgl0, hN0, hNg0, hv0, hc0, hf0, hu0⟩ := h0.inn rfl HX0.out
      obtain ⟨U0_0, m0_0, d0_0, rfl, y0_0, -, -⟩ := sepOb_cells hv0
      have c0 : (wr).cell? ⟨g, j * 3, none⟩ = some (.int .i64 x.k) := hc0 0 _ rfl
      have f0 := hf0 (j * 3)
      have h1 : SSl 33 sepOb lo S ((wr).setCell ⟨g, j * 3, none⟩ (.int .i64 (q0 : Int))) (some ⟨g, 0, none⟩) n c (L0.set j ⟨(q0 : Int), x.xs, x.t⟩) := h0.own rfl HX0.out 0 (.int .i64 (q0 : Int)) ⟨(q0 : Int), x.xs, x.t⟩ (by decide) (fun N cs hv hg => sepOb_put0 _ hv hg)
      have HX1 := Lib.hid (show (L0.set j (⟨(q0 : Int), x.xs, x.t⟩ : Ob))[j]? = some ⟨(q0 : Int), x.xs, x.t⟩ by rw [List.getElem?_set_self (List.getElem?_eq_some_iff.1 HX0.out).1])
      have hO1 : Only S w ((wr).setCell ⟨g, j * 3, none⟩ (.int .i64 (q0 : Int))) := hO0.set hSg0 _
      have hS1 : ∀ b, S b → b < ((wr).setCell ⟨g, j * 3, none⟩ (.int .i64 (q0 : Int))).heap.size := fun b hb => Nat.lt_of_lt_of_le (hS b hb) hO1.size
      obtain ⟨q1, HQ1⟩ : ∃ q1 : Nat, Hid (q1 = q0 + 1) := ⟨_, Lib.hid rfl⟩
      have hw1 : IntKind.i64.wrap ((q0 : Int) + 1) = (q1 : Int) := by have e1 := HQ1.out; rw [IntKind.wrap_i64]; omega
      clear hc0 hf0 hu0 hv0
      obtain ⟨cs1, N1, hSg1, -, hgl1, hN1, hNg1, hv1, hc1, hf1, hu1⟩ := h1.inn rfl HX1.out
      obtain ⟨U0_1, m0_1, d0_1, rfl, y1_0, hm1, ht1⟩ := sepOb_cells hv1
      have c1 : (((wr).setCell ⟨g, j * 3, none⟩ (.int .i64 (q0 : Int)))).cell? ⟨g, j * 3 + 1, none⟩ = some (.slice U0_1 m0_1 d0_1) := hc1 1 _ rfl
      clear hc1 hf1
      go_wp2_with fail
      generalize hWW1 : ((wr).setCell ⟨g, j * 3, none⟩ (.int .i64 (q0 : Int))) = w1 at *
      clear hWW1
      refine (markIntS_l N1 lo U0_1 m0_1 d0_1 x.xs q1 w1 y1_0 (by have e1 := HQ1.out; omega)).mono ?_
      rintro e v1 ⟨rfl, hP1, hR1⟩
      have h2 := hu1 v1 ⟨(q0 : Int), markL mkI szI1 q1 x.xs, x.t⟩ (fun b hb hn => hR1.block b (hS1 b hb) hn) (sepOb_mk (o := ⟨(q0 : Int), markL mkI szI1 q1 x.xs, x.t⟩) hP1 hm1 ht1)
      have HX2 := Lib.hid (show ((L0.set j (⟨(q0 : Int), x.xs, x.t⟩ : Ob)).set j (⟨(q0 : Int), markL mkI szI1 q1 x.xs, x.t⟩ : Ob))[j]? = some ⟨(q0 : Int), markL mkI szI1 q1 x.xs, x.t⟩ by rw [List.getElem?_set_self (List.getElem?_eq_some_iff.1 HX1.out).1])
      have hO2 := hO1.trans (hR1.wide (fun b hb => hN1 b hb))
      have hS2 : ∀ b, S b → b < v1.heap.size := fun b hb => Nat.lt_of_lt_of_le (hS b hb) hO2.size
      obtain ⟨q2, HQ2⟩ : ∃ q2 : Nat, Hid (q2 = q1 + szL szI1 x.xs) := ⟨_, Lib.hid rfl⟩
      rw [← HQ2.out]
      clear hu1 hv1 hP1 c1 ht1
      go_wp2_with fail
      refine (markText_any q2 v1 (by have e1 := HQ1.out; have e2 := HQ2.out; omega)).mono ?_
      rintro e v2 ⟨rfl, hb2⟩
      have h2n := h2.next hb2 hS2
      have hO3 := hO2.trans (Only.of_below hb2)
      obtain ⟨cs2, N2, hSg2, -, hgl2, hN2, hNg2, hv2, hc2, hf2, hu2⟩ := h2n.inn rfl HX2.out
      obtain ⟨U0_2, m0_2, d0_2, rfl, y2_0, hm2, ht2⟩ := sepOb_cells hv2
      have c2 : v2.cell? ⟨g, j * 3 + 1 + 1, none⟩ = some (.string x.t) := hc2 2 _ rfl
      have f2 := hf2 (j * 3 + 1 + 1)
      have hsz2 : (mtext q2).size ≤ maxLen := by have := mtext_size q2; have e1 := HQ1.out; have e2 := HQ2.out; simp only [maxLen]; omega
      have h3 : SSl 33 sepOb lo S (v2.setCell ⟨g, j * 3 + 1 + 1, none⟩ (.string (mtext q2))) (some ⟨g, 0, none⟩) n c (((L0.set j ⟨(q0 : Int), x.xs, x.t⟩).set j ⟨(q0 : Int), markL mkI szI1 q1 x.xs, x.t⟩).set j ⟨(q0 : Int), markL mkI szI1 q1 x.xs, mtext q2⟩) := h2n.own rfl HX2.out 2 (.string (mtext q2)) ⟨(q0 : Int), markL mkI szI1 q1 x.xs, mtext q2⟩ (by decide) (fun N cs hv hg => sepOb_put2 _ hsz2 hv hg)
      have hO4 : Only S w (v2.setCell ⟨g, j * 3 + 1 + 1, none⟩ (.string (mtext q2))) := hO3.set hSg2 _
      obtain ⟨q3, HQ3⟩ : ∃ q3 : Nat, Hid (q3 = q2 + 1) := ⟨_, Lib.hid rfl⟩
      have hw3 : IntKind.i64.wrap ((q2 : Int) + 1) = (q3 : Int) := by have e1 := HQ1.out; have e2 := HQ2.out; have e3 := HQ3.out; rw [IntKind.wrap_i64]; omega
      have hX : (⟨(q0 : Int), markL mkI szI1 q1 x.xs, mtext q2⟩ : Ob) = mkOb q0 x := by have e1 := HQ1.out; have e2 := HQ2.out; subst e1; subst e2; rfl
      have hE : q3 = q0 + szOb x := by have e1 := HQ1.out; have e2 := HQ2.out; have e3 := HQ3.out; unfold szOb; omega
      have hEnd : SSl 33 sepOb lo S (v2.setCell ⟨g, j * 3 + 1 + 1, none⟩ (.string (mtext q2))) (some ⟨g, 0, none⟩) n c (stL mkOb szOb k xs (j + 1)) := by
        have hh := h3
        simp only [List.set_set, hX, HST.out] at hh
        exact hh
      have HEND := Lib.hid hEnd
      have HE := Lib.hid hE
      clear hEnd hE hX hc2 hf2 hu2 hv2
      go_wp2_with fail
      go_roundw
      case rel => exact ⟨j + 1, by omega, by go_num, by rw [HCN.out, ← HE.out], HEND.out, hO4⟩
      case measure => simp [intOf]; omega
    · obtain rfl : j = n := by omega
      go_wp2_with fail
      go_ret
      exact ⟨by rw [cnL_all hl]; rfl, by rw [← stL_all hl]; exact h0, hO0⟩
set_option maxRecDepth 100000 in
set_option maxHeartbeats 3200000 in
theorem heldObjectS_s (A : Option Addr) (n c : Nat) (xs : List Ob) (k : Nat) (w : World) (h : RSl repOb 0 w A n (markL mkOb szOb k xs)) (hn : n ≤ maxLen) (hk : k + szL szOb xs ≤ 9000000000000000000) :
    Calls Try.prog 73 #[.slice A n c, .int .i64 (k : Int)] w fun e w' => e = .returned (.int .i64 ((k + szL szOb xs : Nat) : Int)) ∧ Below w.heap.size w w' := by
  have hl : xs.length = n := by have := h.1; rwa [markL_len] at this
  unfold maxLen at hn
  go_enter Try.func73, Try.ntmps73
  go_wp2_with fail
  go_loopw [1, 5] (fun q i wr => ∃ j : Nat, j ≤ n ∧ i = .int .i64 j ∧ q = .int .i64 ((cnL szOb k xs j : Nat) : Int) ∧ Below w.heap.size w wr) (fun _ i _ => n - (intOf i).toNat)
  case atStart => exact ⟨0, Nat.zero_le _, rfl, by rw [cnL_zero], Below.refl _ _⟩
  case round =>
    obtain ⟨j, hj, rfl, rfl, hbr⟩ := hrel
    by_cases hlt : j < n
    · obtain ⟨x, hx⟩ : ∃ x, xs[j]? = some x := ⟨_, List.getElem?_eq_getElem (by omega)⟩
      obtain ⟨b, off, y, cs, rfl, hb, hy, hc, hv⟩ := (h.next hbr).at_ hlt
      have hy2 : y = mkOb (cnL szOb k xs j) x := by
        rw [markL_get hx] at hy
        injection hy with hy
        exact hy.symm
      subst hy2
      have HCN := Lib.hid (cnL_succ (sz := szOb) (k := k) hx)
      have hroom := cnL_room (sz := szOb) (k := k) hx
      rw [show szOb x = 1 + szL szI1 x.xs + 1 from rfl] at hroom
      clear hx hy
      generalize cnL szOb k xs j = q0 at *
      obtain ⟨B1, m1, d1, rfl, hr1, hm1, ht1⟩ := repOb_cells hv
      have hlm : x.xs.length = m1 := by have := hr1.1; unfold mkOb at this; rwa [markL_len] at this
      have c0 : wr.cell? ⟨b, off + j * 3, none⟩ = some (.int .i64 ((q0 : Nat) : Int)) := hc 0 _ rfl
      have c1 : wr.cell? ⟨b, off + j * 3 + 1, none⟩ = some (.slice B1 m1 d1) := hc 1 _ rfl
      obtain ⟨q1, hq1⟩ : ∃ q1 : Nat, q1 = q0 + 1 := ⟨_, rfl⟩
      obtain ⟨q2, hq2⟩ : ∃ q2 : Nat, q2 = q1 + m1 := ⟨_, rfl⟩
      obtain ⟨q3, hq3⟩ : ∃ q3 : Nat, q3 = q2 + 1 := ⟨_, rfl⟩
      have hsI : szL szI1 x.xs = m1 := by rw [szL_I]; exact hlm
      have c2 : wr.cell? ⟨b, off + j * 3 + 1 + 1, none⟩ = some (.string (mtext q2)) := by
        have := hc 2 _ rfl
        unfold mkOb at this
        rw [show q0 + 1 + szL szI1 x.xs = q2 by omega] at this
        exact this
      have hr1_ : RInts wr B1 m1 (marks (q1 : Int) m1) := by
        have hh := hr1
        unfold mkOb at hh
        simp only [markL_marks, hlm, show q0 + 1 = q1 by omega] at hh
        exact hh.rints
      have hw1 : IntKind.i64.wrap ((q0 : Int) + 1) = (q1 : Int) := by rw [IntKind.wrap_i64]; omega
      have hw2 : (q1 : Int) + (m1 : Int) = (q2 : Int) := by omega
      have hw3 : IntKind.i64.wrap ((q2 : Int) + 1) = (q3 : Int) := by rw [IntKind.wrap_i64]; omega
      have hx0 : ((q0 : Int) != (q0 : Int)) = false := by simp
      have hg2 : decide ((q2 : Int) < 0) = false := by simp
      have HE := Lib.hid (show q3 = q0 + szOb x by unfold szOb; omega)
      have hbnd : q2 ≤ 9000000000000000000 := by omega
      have hbnd1 : (q1 : Int) + m1 ≤ 9000000000000000000 := by omega
      clear hc hv hroom hr1 hq1 hq2 hq3 hsI
      go_wp2_with fail
      refine (heldIntS_any B1 m1 d1 (q1 : Int) wr hr1_ (by omega) hbnd1).mono ?_
      rw [hw2]
      rintro e w0 ⟨rfl, hb0⟩
      have hbr0 := below_ext hbr hb0
      have c20 := (hb0.cell (p := ⟨b, off + j * 3 + 1 + 1, none⟩) hb).trans c2
      clear c0 c1 c2 hw2 hx0
      go_wp2_with fail
      obtain ⟨tx, htx⟩ : ∃ tx, tx = mtext q2 := ⟨_, rfl⟩
      rw [← htx] at c20
      have c21 : w0.cell? ⟨b, off + j * 3 + 2, none⟩ = some (.string tx) := c20
      have hmt : ∀ W, Calls Try.prog 108 #[.int .i64 q2] W fun e w' => e = .returned (.string tx) ∧ Below W.heap.size W w' := fun W => by rw [htx]; exact markText_any q2 W hbnd
      have htt : (tx.toList == tx.toList) = true := by simp
      clear htx
      have g2 := cell_regrown c20
      have g3 := cell_regrown c21
      clear c20 c21
      refine wp_region_ext (by kernel_rfl) (by kernel_rfl) ?_
      repeat (go_big_quiet_step ((go_at_call 108; exact rg_below (hmt _))))
      refine wpQuiet_nil ?_
      intro w4 hb4
      have hbr4 := below_ext hbr0 hb4
      go_wp2_with fail
      go_roundw
      case rel => exact ⟨j + 1, by omega, by go_num, by rw [HCN.out, ← HE.out], hbr4⟩
      case measure => simp [intOf]; omega
    · obtain rfl : j = n := by omega
      go_wp2_with fail
      go_ret
      exact ⟨by rw [cnL_all hl]; rfl, hbr⟩
end Go.Proofs.Ytjofgbbofagoiaa
