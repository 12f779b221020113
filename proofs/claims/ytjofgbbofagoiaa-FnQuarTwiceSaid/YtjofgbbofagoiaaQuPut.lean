/- Walk: the reference's QuarantinePut. -/
import Derived.Test.YtjofgbbofagoiaaQuSet
namespace Go.Proofs.Ytjofgbbofagoiaa
open Go.RowKit Go.Sort

def noQu : Qu := ⟨[], []⟩
def areaQ (q : Qu) (t : Int) : List Ob := match findA q.ars t with
  | some k => (match q.ars[k]? with | some a => a.os | none => [])
  | none => []
def qputQ (q : Qu) (t : Int) (ls : List Ob) : Qu × Bool :=
  if quarB q && (txnB t && (storeB ls && decide (0 < ls.length))) then
    (if (allO (areaQ q t) ls).2 && ((allO q.main (allO (areaQ q t) ls).1).2 && !((findA q.ars t).isNone && decide (4 ≤ q.ars.length))) then (setQ q t (allO (areaQ q t) ls).1, true) else (q, false))
  else (noQu, false)
def QPutTo (w : World) (r : Qu × Bool) (e : Ending) (w' : World) : Prop := ∃ cs, e = .returned (.tuple #[.agg cs.toArray, .bool r.2]) ∧ OwnQ w' w.heap.size cs r.1 ∧ Below w.heap.size w w'
theorem findA_lt {ars : List Ar} {t : Int} {k : Nat} (h : findA ars t = some k) : ∃ a, ars[k]? = some a ∧ a.t = t := by
  unfold findA at h
  rw [List.findIdx?_eq_some_iff_getElem] at h
  obtain ⟨h1, h2, _⟩ := h
  exact ⟨_, List.getElem?_eq_getElem h1, by simpa using h2⟩
theorem OwnQ.res {w : World} {B r : Nat} {cs cs' : List Value} {u v : Value} {q : Qu} (h : OwnQ w B cs q) (hr : Blk w r 26 cs') : OwnQ ((w.setCell ⟨r, 0, none⟩ u).setCell ⟨r, 1, none⟩ v) B cs q := by
  obtain ⟨A, n, c, C, k, d, rfl, h1, h2⟩ := h
  have g1 := grownSetQ w r 0 u
  have g2 := grownSetQ (w.setCell ⟨r, 0, none⟩ u) r 1 v
  have hr2 := hr.set_ 0 u
  have ty1 : ∀ g', some r = some g' → ∃ cs e fz, w.heap[g']? = some (.cells cs e fz) ∧ e ≠ 3 ∧ e ≠ 33 ∧ e ≠ 70 := fun g' e => by
    injection e with e
    subst e
    exact ⟨_, _, _, hr, by decide, by decide, by decide⟩
  have ty2 : ∀ g', some r = some g' → ∃ cs e fz, (w.setCell ⟨r, 0, none⟩ u).heap[g']? = some (.cells cs e fz) ∧ e ≠ 3 ∧ e ≠ 33 ∧ e ≠ 70 := fun g' e => by
    injection e with e
    subst e
    exact ⟨_, _, _, hr2, by decide, by decide, by decide⟩
  exact ⟨A, n, c, C, k, d, rfl, (h1.other g1 fun g' e => by obtain ⟨a, b, c, h1, h2, h3, _⟩ := ty1 g' e; exact ⟨a, b, c, h1, h2, h3⟩).other g2 fun g' e => by obtain ⟨a, b, c, h1, h2, h3, _⟩ := ty2 g' e; exact ⟨a, b, c, h1, h2, h3⟩, (h2.other g1 ty1).other g2 ty2⟩
theorem OwnQ.nil {w : World} {B : Nat} : OwnQ w B [.slice none 0 0, .slice none 0 0] noQu := ⟨none, 0, 0, none, 0, 0, rfl, ⟨[], ⟨by simp, .inl ⟨rfl, rfl⟩⟩, Elems.nil⟩, OwnA.nil⟩
theorem ObNil {w : World} : RObjs w none 0 [] := ⟨rfl, fun h => absurd h (by omega)⟩
set_option maxRecDepth 100000 in
set_option maxHeartbeats 6400000 in
theorem specQuarantinePut_any (cs : List Value) (q : Qu) (t : Int) (D : Option Addr) (r dd : Nat) (ls : List Ob) (w : World) (hv : repQu.V 0 w cs q) (hl : RObjs w D r ls) (hr : r ≤ maxLen) :
    Calls Try.prog 25 #[.agg cs.toArray, .int .i64 t, .slice D r dd] w (QPutTo w (qputQ q t ls)) := by
  obtain ⟨B0, m0, d0, B1, m1, d1, rfl, hr0, hm0, hr1, hm1⟩ := repQu_cells hv
  have HL := Lib.hid (And.intro hr0.1 (And.intro hr1.1 hl.1))
  have hr' := hr
  unfold maxLen at hr' hm0 hm1
  have b1 := below_box2 w (.cells #[.slice B0 m0 d0, .slice B1 m1 d1] 26) (.cells #[.slice none 0 0, .slice none 0 0] 26)
  have x0 : Blk ((w.alloc (.cells #[.slice B0 m0 d0, .slice B1 m1 d1] 26)).alloc (.cells #[.slice none 0 0, .slice none 0 0] 26)) w.heap.size 26 [.slice B0 m0 d0, .slice B1 m1 d1] := (Blk.new w _ _).alloc _
  have x1 : Blk ((w.alloc (.cells #[.slice B0 m0 d0, .slice B1 m1 d1] 26)).alloc (.cells #[.slice none 0 0, .slice none 0 0] 26)) (w.heap.size + 1) 26 [.slice none 0 0, .slice none 0 0] := by simpa using Blk.new (w.alloc (.cells #[.slice B0 m0 d0, .slice B1 m1 d1] 26)) 26 [.slice none 0 0, .slice none 0 0]
  obtain ⟨y0, y1⟩ := x0.cells2
  clear hr0 hr1
  go_enter Try.func25, Try.ntmps25
  go_wp2_with fail
  refine (specQuarantineValid_any _ q _ (repQu.next hv b1)).mono ?_
  rintro e w1 ⟨rfl, hb1⟩
  have bb1 := below_ext b1 hb1
  have x01 := x0.next hb1
  have x11 := x1.next hb1
  have hz1 : w.heap.size + 2 ≤ w1.heap.size := by have := hb1.size; simpa using this
  have hl1 := hl.next bb1
  obtain ⟨z0, z1⟩ := x01.cells2
  clear y0 y1 x0 x1 hb1 b1
  cases hq : quarB q
  · skip
    have HE := Lib.hid (show qputQ q t ls = (noQu, false) by unfold qputQ; rw [if_neg (by simp [hq])])
    obtain ⟨r0, r1⟩ := x11.cells2
    have fr0 := x11.frozen 0
    have fr1 := x11.frozen 1
    have hRR := (x11.set_ 0 (.slice none 0 0)).set_ 1 (.slice none 0 0)
    simp only [List.set_cons_zero, List.set_cons_succ] at hRR
    obtain ⟨t0, t1⟩ := hRR.cells2
    go_wp2_with fail
    refine bodyPost_ret (v := .tuple #[.agg #[.slice none 0 0, .slice none 0 0], .bool false]) (by simp [results, Try.results25, go_sem, t0, t1]) rfl ?_
    rw [HE.out]
    exact ⟨_, rfl, OwnQ.res OwnQ.nil x11, (bb1.setCell (p := ⟨w.heap.size + 1, 0, none⟩) (Nat.le_succ _) _).setCell (p := ⟨w.heap.size + 1, 1, none⟩) (Nat.le_succ _) _⟩
  · skip
    go_wp2_with fail
    refine (l12Txn_any t _).mono ?_
    rintro e w2 ⟨rfl, rfl⟩
    cases ht : txnB t
    · skip
      have HE := Lib.hid (show qputQ q t ls = (noQu, false) by unfold qputQ; rw [if_neg (by simp [ht])])
      obtain ⟨r0, r1⟩ := x11.cells2
      have fr0 := x11.frozen 0
      have fr1 := x11.frozen 1
      have hRR := (x11.set_ 0 (.slice none 0 0)).set_ 1 (.slice none 0 0)
      simp only [List.set_cons_zero, List.set_cons_succ] at hRR
      obtain ⟨t0, t1⟩ := hRR.cells2
      go_wp2_with fail
      refine bodyPost_ret (v := .tuple #[.agg #[.slice none 0 0, .slice none 0 0], .bool false]) (by simp [results, Try.results25, go_sem, t0, t1]) rfl ?_
      rw [HE.out]
      exact ⟨_, rfl, OwnQ.res OwnQ.nil x11, (bb1.setCell (p := ⟨w.heap.size + 1, 0, none⟩) (Nat.le_succ _) _).setCell (p := ⟨w.heap.size + 1, 1, none⟩) (Nat.le_succ _) _⟩
    · skip
      go_wp2_with fail
      refine (specStoreValid_any D r dd ls _ hl1 hr).mono ?_
      rintro e w3 ⟨rfl, hb3⟩
      have bb3 := below_ext bb1 hb3
      have x03 := x01.next hb3
      have x13 := x11.next hb3
      have hl3 := hl1.next hb3
      have hz3 := Nat.le_trans hz1 hb3.size
      obtain ⟨v0, v1⟩ := x03.cells2
      clear z0 z1 x01 x11 hb3 bb1 hl1 hz1
      cases hs : storeB ls
      · skip
        have HE := Lib.hid (show qputQ q t ls = (noQu, false) by unfold qputQ; rw [if_neg (by simp [hs])])
        obtain ⟨r0, r1⟩ := x13.cells2
        have fr0 := x13.frozen 0
        have fr1 := x13.frozen 1
        have hRR := (x13.set_ 0 (.slice none 0 0)).set_ 1 (.slice none 0 0)
        simp only [List.set_cons_zero, List.set_cons_succ] at hRR
        obtain ⟨t0, t1⟩ := hRR.cells2
        go_wp2_with fail
        refine bodyPost_ret (v := .tuple #[.agg #[.slice none 0 0, .slice none 0 0], .bool false]) (by simp [results, Try.results25, go_sem, t0, t1]) rfl ?_
        rw [HE.out]
        exact ⟨_, rfl, OwnQ.res OwnQ.nil x13, (bb3.setCell (p := ⟨w.heap.size + 1, 0, none⟩) (Nat.le_succ _) _).setCell (p := ⟨w.heap.size + 1, 1, none⟩) (Nat.le_succ _) _⟩
      · skip
        by_cases h0 : 0 < r
        rotate_left
        · obtain rfl : r = 0 := by omega
          have HE := Lib.hid (show qputQ q t ls = (noQu, false) by unfold qputQ; rw [if_neg (by simp [show ls.length = 0 from HL.out.2.2])])
          obtain ⟨r0, r1⟩ := x13.cells2
          have fr0 := x13.frozen 0
          have fr1 := x13.frozen 1
          have hRR := (x13.set_ 0 (.slice none 0 0)).set_ 1 (.slice none 0 0)
          simp only [List.set_cons_zero, List.set_cons_succ] at hRR
          obtain ⟨t0, t1⟩ := hRR.cells2
          go_wp2_with fail
          refine bodyPost_ret (v := .tuple #[.agg #[.slice none 0 0, .slice none 0 0], .bool false]) (by simp [results, Try.results25, go_sem, t0, t1]) rfl ?_
          rw [HE.out]
          exact ⟨_, rfl, OwnQ.res OwnQ.nil x13, (bb3.setCell (p := ⟨w.heap.size + 1, 0, none⟩) (Nat.le_succ _) _).setCell (p := ⟨w.heap.size + 1, 1, none⟩) (Nat.le_succ _) _⟩
        have h0b : ((r : Int) == 0) = false := by simp; omega
        have hcond : (quarB q && (txnB t && (storeB ls && decide (0 < ls.length)))) = true := by rw [hq, ht, hs, decide_eq_true (by rw [HL.out.2.2]; exact h0)]; rfl
        have HC := Lib.hid hcond
        clear hcond
        obtain ⟨hq1, hq2, hq3⟩ := quarB_parts hq
        have hls := stB_ok hs
        have hr16 : r ≤ 16 := by have := stB_len hs; have := HL.out.2.2; omega
        have hm016 : m0 ≤ 16 := by have := stB_len hq1; have := HL.out.1; omega
        have hm14 : m1 ≤ 4 := by have := HL.out.2.1; omega
        go_wp2_with fail
        refine (l13Find_any _ q t _ (repQu.next hv bb3)).mono ?_
        rintro e w4 ⟨rfl, hb4⟩
        have bb4 := below_ext bb3 hb4
        have x04 := x03.next hb4
        have x14 := x13.next hb4
        have hl4 := hl3.next hb4
        have hz4 := Nat.le_trans hz3 hb4.size
        have e5 := below_box w4 (.cells #[] 33)
        have bb5 := below_ext bb4 e5
        have x05 := x04.next e5
        have x15 := x14.next e5
        have hl5 := hl4.next e5
        have hz5 := Nat.le_trans hz4 e5.size
        obtain ⟨u0, u1⟩ := x05.cells2
        clear v0 v1 x03 x13 hb4 bb3 hl3 hz3
        cases hf : findA q.ars t with
        | none =>
          have hidx : idxA (none : Option Nat) = -1 := rfl
          have HF := Lib.hid hf
          rw [hidx]
          clear hidx hf
          have hO5 : RObjs (w4.alloc (.cells #[] 33)) (some ⟨w4.heap.size, 0, none⟩) 0 [] := ⟨rfl, fun h => absurd h (by omega)⟩
          go_wp2_with fail
          refine (l13All_any (some ⟨w4.heap.size, 0, none⟩) 0 0 [] D r dd ls _ hO5 (by omega) (fun o h => by simp at h) hl5 (by omega) hls).mono ?_
          rintro e w6 ⟨v6, rfl, hO6, hb6⟩
          obtain ⟨hok6, hlen6⟩ := allO_facts ls ([]) (fun o h => by simp at h) hls (by have := Nat.zero_le 100; omega)
          obtain ⟨P, HP⟩ : ∃ P, Hid (allO ([]) ls = P) := ⟨_, Lib.hid rfl⟩
          rw [HP.out] at hO6 hok6 hlen6
          rw [HP.out]
          obtain ⟨xs, one⟩ := P
          dsimp only at hO6 hok6 hlen6 ⊢
          obtain ⟨j6, HJ⟩ : ∃ j, Hid (xs.length = j) := ⟨_, Lib.hid rfl⟩
          rw [HJ.out] at hO6 hlen6
          obtain ⟨A6, c6, rfl, hjc6⟩ := hO6.form
          have bb6 := below_ext bb5 hb6
          have x06 := x05.next hb6
          have x16 := x15.next hb6
          have hz6 := Nat.le_trans hz5 hb6.size
          obtain ⟨a0, a1⟩ := x06.cells2
          clear u0 u1
          obtain ⟨_, _, _, _, _, _, e9, hr0, -, hr1, -⟩ := repQu_cells (repQu.next hv bb6)
          obtain ⟨⟨rfl, rfl, rfl⟩, rfl, rfl, rfl⟩ : (_ ∧ _ ∧ _) ∧ _ ∧ _ ∧ _ := by simpa using e9
          clear e9
          go_wp2_with fail
          refine (l13All_any B0 m0 d0 q.main A6 j6 c6 xs _ hr0.robjs (by omega) (stB_ok hq1) hO6.reads (by omega) hok6).mono ?_
          rintro e w7 ⟨v7, rfl, hO7, hb7⟩
          obtain ⟨two, HT2⟩ : ∃ two, Hid ((allO q.main xs).2 = two) := ⟨_, Lib.hid rfl⟩
          rw [HT2.out]
          have bb7 := below_ext bb6 hb7
          have x07 := x06.next hb7
          have x17 := x16.next hb7
          have hz7 := Nat.le_trans hz6 hb7.size
          have hO67 := (hO6.next hb7).reads
          obtain ⟨f0, f1⟩ := x07.cells2
          clear hO7 hr0 hr1
          have HAR := Lib.hid (show areaQ q t = [] by unfold areaQ; simp only [HF.out])
          have HQ := Lib.hid (show qputQ q t ls = (if one && (two && !((findA q.ars t).isNone && decide (4 ≤ q.ars.length))) then (setQ q t xs, true) else (q, false)) by unfold qputQ; rw [HC.out, if_pos rfl, HAR.out, HP.out, HT2.out])
          cases one
          · skip
            have HE := Lib.hid (show qputQ q t ls = (q, false) by rw [HQ.out, if_neg (by simp [])])
            go_wp2_with fail
            refine (l13Copy_any _ q _ (repQu.next hv bb7) hq).mono ?_
            rintro e w8 ⟨cs8, rfl, hQ8, hb8⟩
            obtain ⟨RA, rn, rc, RC, rm, rd, rfl, hQa, hQb⟩ := id hQ8
            clear hQa hQb
            have x18 := x17.next hb8
            obtain ⟨r0, r1⟩ := x18.cells2
            have fr0 := x18.frozen 0
            have fr1 := x18.frozen 1
            have hRR := (x18.set_ 0 (.slice RA rn rc)).set_ 1 (.slice RC rm rd)
            simp only [List.set_cons_zero, List.set_cons_succ] at hRR
            obtain ⟨t0, t1⟩ := hRR.cells2
            have bb8 := below_ext bb7 hb8
            go_wp2_with fail
            refine bodyPost_ret (v := .tuple #[.agg #[.slice RA rn rc, .slice RC rm rd], .bool false]) (by simp [results, Try.results25, go_sem, t0, t1]) rfl ?_
            rw [HE.out]
            exact ⟨_, rfl, (hQ8.base (by omega)).res x18, (bb8.setCell (p := ⟨w.heap.size + 1, 0, none⟩) (Nat.le_succ _) _).setCell (p := ⟨w.heap.size + 1, 1, none⟩) (Nat.le_succ _) _⟩
          · cases two
            · skip
              have HE := Lib.hid (show qputQ q t ls = (q, false) by rw [HQ.out, if_neg (by simp [])])
              go_wp2_with fail
              refine (l13Copy_any _ q _ (repQu.next hv bb7) hq).mono ?_
              rintro e w8 ⟨cs8, rfl, hQ8, hb8⟩
              obtain ⟨RA, rn, rc, RC, rm, rd, rfl, hQa, hQb⟩ := id hQ8
              clear hQa hQb
              have x18 := x17.next hb8
              obtain ⟨r0, r1⟩ := x18.cells2
              have fr0 := x18.frozen 0
              have fr1 := x18.frozen 1
              have hRR := (x18.set_ 0 (.slice RA rn rc)).set_ 1 (.slice RC rm rd)
              simp only [List.set_cons_zero, List.set_cons_succ] at hRR
              obtain ⟨t0, t1⟩ := hRR.cells2
              have bb8 := below_ext bb7 hb8
              go_wp2_with fail
              refine bodyPost_ret (v := .tuple #[.agg #[.slice RA rn rc, .slice RC rm rd], .bool false]) (by simp [results, Try.results25, go_sem, t0, t1]) rfl ?_
              rw [HE.out]
              exact ⟨_, rfl, (hQ8.base (by omega)).res x18, (bb8.setCell (p := ⟨w.heap.size + 1, 0, none⟩) (Nat.le_succ _) _).setCell (p := ⟨w.heap.size + 1, 1, none⟩) (Nat.le_succ _) _⟩
            · by_cases h4 : 4 ≤ m1
              · have h4b : decide ((m1 : Int) ≥ 4) = true := by simp; omega
                have h4c : 4 ≤ q.ars.length := by have := HL.out.2.1; omega
                have H4 := Lib.hid h4c
                clear h4c
                have HE := Lib.hid (show qputQ q t ls = (q, false) by rw [HQ.out, if_neg (by simp [HF.out, H4.out])])
                go_wp2_with fail
                refine (l13Copy_any _ q _ (repQu.next hv bb7) hq).mono ?_
                rintro e w8 ⟨cs8, rfl, hQ8, hb8⟩
                obtain ⟨RA, rn, rc, RC, rm, rd, rfl, hQa, hQb⟩ := id hQ8
                clear hQa hQb
                have x18 := x17.next hb8
                obtain ⟨r0, r1⟩ := x18.cells2
                have fr0 := x18.frozen 0
                have fr1 := x18.frozen 1
                have hRR := (x18.set_ 0 (.slice RA rn rc)).set_ 1 (.slice RC rm rd)
                simp only [List.set_cons_zero, List.set_cons_succ] at hRR
                obtain ⟨t0, t1⟩ := hRR.cells2
                have bb8 := below_ext bb7 hb8
                go_wp2_with fail
                refine bodyPost_ret (v := .tuple #[.agg #[.slice RA rn rc, .slice RC rm rd], .bool false]) (by simp [results, Try.results25, go_sem, t0, t1]) rfl ?_
                rw [HE.out]
                exact ⟨_, rfl, (hQ8.base (by omega)).res x18, (bb8.setCell (p := ⟨w.heap.size + 1, 0, none⟩) (Nat.le_succ _) _).setCell (p := ⟨w.heap.size + 1, 1, none⟩) (Nat.le_succ _) _⟩
              · have h4b : decide ((m1 : Int) ≥ 4) = false := by simp; omega
                have h4c : ¬ 4 ≤ q.ars.length := by have := HL.out.2.1; omega
                have H4 := Lib.hid h4c
                clear h4c
                have HE := Lib.hid (show qputQ q t ls = (setQ q t xs, true) by rw [HQ.out, if_pos (by simp [HF.out, H4.out])])
                go_wp2_with fail
                refine (l13Set_any _ q t A6 j6 c6 xs _ (repQu.next hv bb7) hq hO67 (by omega) hok6).mono ?_
                rintro e w8 ⟨cs8, rfl, hQ8, hb8⟩
                obtain ⟨RA, rn, rc, RC, rm, rd, rfl, hQa, hQb⟩ := id hQ8
                clear hQa hQb
                have x18 := x17.next hb8
                obtain ⟨r0, r1⟩ := x18.cells2
                have fr0 := x18.frozen 0
                have fr1 := x18.frozen 1
                have hRR := (x18.set_ 0 (.slice RA rn rc)).set_ 1 (.slice RC rm rd)
                simp only [List.set_cons_zero, List.set_cons_succ] at hRR
                obtain ⟨t0, t1⟩ := hRR.cells2
                have bb8 := below_ext bb7 hb8
                go_wp2_with fail
                refine bodyPost_ret (v := .tuple #[.agg #[.slice RA rn rc, .slice RC rm rd], .bool true]) (by simp [results, Try.results25, go_sem, t0, t1]) rfl ?_
                rw [HE.out]
                exact ⟨_, rfl, (hQ8.base (by omega)).res x18, (bb8.setCell (p := ⟨w.heap.size + 1, 0, none⟩) (Nat.le_succ _) _).setCell (p := ⟨w.heap.size + 1, 1, none⟩) (Nat.le_succ _) _⟩
        | some k =>
          have hidx : idxA (some k) = (k : Int) := rfl
          obtain ⟨a, ha, hat⟩ := findA_lt hf
          have HF := Lib.hid hf
          have hkm : k < m1 := by have := (List.getElem?_eq_some_iff.1 ha).1; have := HL.out.2.1; omega
          obtain ⟨_, _, _, _, _, _, e9, hr0, -, hr1, -⟩ := repQu_cells (repQu.next hv bb5)
          obtain ⟨⟨rfl, rfl, rfl⟩, rfl, rfl, rfl⟩ : (_ ∧ _ ∧ _) ∧ _ ∧ _ ∧ _ := by simpa using e9
          clear e9
          obtain ⟨b, off, a', cs', hB1, hbb, ha', hcx, hvx⟩ := hr1.at_ hkm
          rw [ha] at ha'
          injection ha' with ha'
          subst ha'
          obtain ⟨L, ml, dl, rfl, hrl, hml⟩ := repAr_cells hvx
          subst hB1
          have cx1 : (w4.alloc (.cells #[] 33)).cell? ⟨b, off + k * 2 + 1, none⟩ = some (.slice L ml dl) := hcx 1 _ rfl
          obtain ⟨-, hxs2, -⟩ := hq2 a (List.mem_of_getElem? ha)
          have hml16 : ml ≤ 16 := by have := stB_len hxs2; have := hrl.1; omega
          have HXA := Lib.hid ha
          have hge : decide ((k : Int) ≥ 0) = true := by simp
          have hge2 : decide ((k : Int) < 0) = false := by simp
          have hkmi : (k : Int) < (m1 : Int) := by omega
          rw [hidx]
          clear hidx hf ha hat hcx hvx hr0 hr1
          go_wp2_with fail
          refine (l13All_any L ml dl a.os D r dd ls _ hrl.robjs (by omega) (stB_ok hxs2) hl5 (by omega) hls).mono ?_
          rintro e w6 ⟨v6, rfl, hO6, hb6⟩
          obtain ⟨hok6, hlen6⟩ := allO_facts ls (a.os) (stB_ok hxs2) hls (by have := stB_len hxs2; omega)
          obtain ⟨P, HP⟩ : ∃ P, Hid (allO (a.os) ls = P) := ⟨_, Lib.hid rfl⟩
          rw [HP.out] at hO6 hok6 hlen6
          rw [HP.out]
          obtain ⟨xs, one⟩ := P
          dsimp only at hO6 hok6 hlen6 ⊢
          obtain ⟨j6, HJ⟩ : ∃ j, Hid (xs.length = j) := ⟨_, Lib.hid rfl⟩
          rw [HJ.out] at hO6 hlen6
          obtain ⟨A6, c6, rfl, hjc6⟩ := hO6.form
          have bb6 := below_ext bb5 hb6
          have x06 := x05.next hb6
          have x16 := x15.next hb6
          have hz6 := Nat.le_trans hz5 hb6.size
          obtain ⟨a0, a1⟩ := x06.cells2
          clear u0 u1
          obtain ⟨_, _, _, _, _, _, e9, hr0, -, hr1, -⟩ := repQu_cells (repQu.next hv bb6)
          obtain ⟨⟨rfl, rfl, rfl⟩, rfl, rfl, rfl⟩ : (_ ∧ _ ∧ _) ∧ _ ∧ _ ∧ _ := by simpa using e9
          clear e9
          go_wp2_with fail
          refine (l13All_any B0 m0 d0 q.main A6 j6 c6 xs _ hr0.robjs (by omega) (stB_ok hq1) hO6.reads (by omega) hok6).mono ?_
          rintro e w7 ⟨v7, rfl, hO7, hb7⟩
          obtain ⟨two, HT2⟩ : ∃ two, Hid ((allO q.main xs).2 = two) := ⟨_, Lib.hid rfl⟩
          rw [HT2.out]
          have bb7 := below_ext bb6 hb7
          have x07 := x06.next hb7
          have x17 := x16.next hb7
          have hz7 := Nat.le_trans hz6 hb7.size
          have hO67 := (hO6.next hb7).reads
          obtain ⟨f0, f1⟩ := x07.cells2
          clear hO7 hr0 hr1
          have HAR := Lib.hid (show areaQ q t = a.os by unfold areaQ; simp only [HF.out, HXA.out])
          have HQ := Lib.hid (show qputQ q t ls = (if one && (two && !((findA q.ars t).isNone && decide (4 ≤ q.ars.length))) then (setQ q t xs, true) else (q, false)) by unfold qputQ; rw [HC.out, if_pos rfl, HAR.out, HP.out, HT2.out])
          cases one
          · skip
            have HE := Lib.hid (show qputQ q t ls = (q, false) by rw [HQ.out, if_neg (by simp [])])
            go_wp2_with fail
            refine (l13Copy_any _ q _ (repQu.next hv bb7) hq).mono ?_
            rintro e w8 ⟨cs8, rfl, hQ8, hb8⟩
            obtain ⟨RA, rn, rc, RC, rm, rd, rfl, hQa, hQb⟩ := id hQ8
            clear hQa hQb
            have x18 := x17.next hb8
            obtain ⟨r0, r1⟩ := x18.cells2
            have fr0 := x18.frozen 0
            have fr1 := x18.frozen 1
            have hRR := (x18.set_ 0 (.slice RA rn rc)).set_ 1 (.slice RC rm rd)
            simp only [List.set_cons_zero, List.set_cons_succ] at hRR
            obtain ⟨t0, t1⟩ := hRR.cells2
            have bb8 := below_ext bb7 hb8
            go_wp2_with fail
            refine bodyPost_ret (v := .tuple #[.agg #[.slice RA rn rc, .slice RC rm rd], .bool false]) (by simp [results, Try.results25, go_sem, t0, t1]) rfl ?_
            rw [HE.out]
            exact ⟨_, rfl, (hQ8.base (by omega)).res x18, (bb8.setCell (p := ⟨w.heap.size + 1, 0, none⟩) (Nat.le_succ _) _).setCell (p := ⟨w.heap.size + 1, 1, none⟩) (Nat.le_succ _) _⟩
          · cases two
            · skip
              have HE := Lib.hid (show qputQ q t ls = (q, false) by rw [HQ.out, if_neg (by simp [])])
              go_wp2_with fail
              refine (l13Copy_any _ q _ (repQu.next hv bb7) hq).mono ?_
              rintro e w8 ⟨cs8, rfl, hQ8, hb8⟩
              obtain ⟨RA, rn, rc, RC, rm, rd, rfl, hQa, hQb⟩ := id hQ8
              clear hQa hQb
              have x18 := x17.next hb8
              obtain ⟨r0, r1⟩ := x18.cells2
              have fr0 := x18.frozen 0
              have fr1 := x18.frozen 1
              have hRR := (x18.set_ 0 (.slice RA rn rc)).set_ 1 (.slice RC rm rd)
              simp only [List.set_cons_zero, List.set_cons_succ] at hRR
              obtain ⟨t0, t1⟩ := hRR.cells2
              have bb8 := below_ext bb7 hb8
              go_wp2_with fail
              refine bodyPost_ret (v := .tuple #[.agg #[.slice RA rn rc, .slice RC rm rd], .bool false]) (by simp [results, Try.results25, go_sem, t0, t1]) rfl ?_
              rw [HE.out]
              exact ⟨_, rfl, (hQ8.base (by omega)).res x18, (bb8.setCell (p := ⟨w.heap.size + 1, 0, none⟩) (Nat.le_succ _) _).setCell (p := ⟨w.heap.size + 1, 1, none⟩) (Nat.le_succ _) _⟩
            · skip
              have HE := Lib.hid (show qputQ q t ls = (setQ q t xs, true) by rw [HQ.out, if_pos (by simp [HF.out])])
              go_wp2_with fail
              refine (l13Set_any _ q t A6 j6 c6 xs _ (repQu.next hv bb7) hq hO67 (by omega) hok6).mono ?_
              rintro e w8 ⟨cs8, rfl, hQ8, hb8⟩
              obtain ⟨RA, rn, rc, RC, rm, rd, rfl, hQa, hQb⟩ := id hQ8
              clear hQa hQb
              have x18 := x17.next hb8
              obtain ⟨r0, r1⟩ := x18.cells2
              have fr0 := x18.frozen 0
              have fr1 := x18.frozen 1
              have hRR := (x18.set_ 0 (.slice RA rn rc)).set_ 1 (.slice RC rm rd)
              simp only [List.set_cons_zero, List.set_cons_succ] at hRR
              obtain ⟨t0, t1⟩ := hRR.cells2
              have bb8 := below_ext bb7 hb8
              go_wp2_with fail
              refine bodyPost_ret (v := .tuple #[.agg #[.slice RA rn rc, .slice RC rm rd], .bool true]) (by simp [results, Try.results25, go_sem, t0, t1]) rfl ?_
              rw [HE.out]
              exact ⟨_, rfl, (hQ8.base (by omega)).res x18, (bb8.setCell (p := ⟨w.heap.size + 1, 0, none⟩) (Nat.le_succ _) _).setCell (p := ⟨w.heap.size + 1, 1, none⟩) (Nat.le_succ _) _⟩
end Go.Proofs.Ytjofgbbofagoiaa
