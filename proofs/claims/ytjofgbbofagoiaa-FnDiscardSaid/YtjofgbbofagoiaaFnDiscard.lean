/- The law FnDiscard, walked: for every code it answers true. -/
import Derived.Test.YtjofgbbofagoiaaQuDiscI
import Derived.Test.YtjofgbbofagoiaaQuDrawD
import Derived.Test.YtjofgbbofagoiaaQuSame
import Derived.Deep.RegionHeld3
namespace Go.Proofs.Ytjofgbbofagoiaa
open Go.RowKit Go.Sort Go.Maps

theorem areaQ_find (q : Qu) (s : Int) : areaQ q s = match q.ars.find? (fun a => decide (a.t = s)) with | some a => a.os | none => [] := by
  unfold areaQ findA
  generalize q.ars = ars
  induction ars with
  | nil => rfl
  | cons a l ih =>
    rw [List.findIdx?_cons, List.find?_cons]
    by_cases h : a.t = s
    · simp [h]
    · have hb : (a.t == s) = false := by simpa using h
      rw [hb, decide_eq_false h]
      simp only [Bool.false_eq_true, if_false]
      rw [← ih]
      cases l.findIdx? (fun a => a.t == s) <;> rfl
theorem areaQ_drop {q : Qu} {t s : Int} (h : s ≠ t) : areaQ ⟨q.main, dropT q.ars t⟩ s = areaQ q s := by
  rw [areaQ_find, areaQ_find]
  have : (dropT q.ars t).find? (fun a => decide (a.t = s)) = q.ars.find? (fun a => decide (a.t = s)) := by
    unfold dropT
    rw [List.find?_filter]
    congr 1
    funext a
    by_cases e : a.t = s
    · simp [e, h]
    · simp [e]
  show (match (dropT q.ars t).find? (fun a => decide (a.t = s)) with | some a => a.os | none => []) = _
  rw [this]
theorem areaQ_gone (q : Qu) (t : Int) : areaQ ⟨q.main, dropT q.ars t⟩ t = [] := by
  rw [areaQ_find]
  have : (dropT q.ars t).find? (fun a => decide (a.t = t)) = none := by
    rw [List.find?_eq_none]
    intro a ha
    have := (List.mem_filter.1 ha).2
    simpa using this
  show (match (dropT q.ars t).find? (fun a => decide (a.t = t)) with | some a => a.os | none => []) = _
  rw [this]
theorem dropT_len {t : Int} : ∀ {ars : List Ar}, (ars.map (·.t)).Pairwise (· < ·) → (findA ars t).isSome = true → (dropT ars t).length + 1 = ars.length
  | [], _, h => by simp [findA] at h
  | a :: l, hp, h => by
    rw [List.map_cons, List.pairwise_cons] at hp
    rw [← findA_any, List.any_cons] at h
    unfold dropT
    rw [List.filter_cons]
    by_cases e : a.t = t
    · have hn : (findA l t).isSome = false := by
        rw [← findA_any, List.any_eq_false]
        intro b hb
        have := hp.1 b.t (List.mem_map_of_mem hb)
        simp
        omega
      have := dropT_none hn
      unfold dropT at this
      simp [e, this]
    · have ih := dropT_len (t := t) (ars := l) hp.2 (by rw [← findA_any]; simpa [e] using h)
      unfold dropT at ih
      simp [e]
      omega
theorem rsl_next {α : Type} {r : Rep α} {lo n : Nat} {w w' : World} {A : Option Addr} {xs : List α} (hb : Below w.heap.size w w') (h : RSl r lo w A n xs) : RSl r lo w' A n xs := h.next hb
theorem qu_next {cs : List Value} {w w' : World} {q : Qu} (hb : Below w.heap.size w w') (h : repQu.V 0 w cs q) : repQu.V 0 w' cs q := repQu.next h hb
set_option maxRecDepth 100000 in
set_option maxHeartbeats 3200000 in
theorem FnDiscard_walk (A : Option Addr) (n c : Nat) (w : World) (h : RBytes w w.heap.size A n ∧ n ≤ c) (hn : n ≤ maxLen) :
    Calls Try.prog 9 #[.slice A n c] w fun e w' => e = .returned (.bool true) ∧ Below w.heap.size w w' := by
  have hn0 := hn
  unfold maxLen at hn0
  by_cases hs : 1048576 < n
  · go_enter Try.func9, Try.ntmps9
    go_wp2_with fail
    go_ret
    exact ⟨rfl, Below.refl _ _⟩
  · go_enter Try.func9, Try.ntmps9
    go_wp2_with fail
    refine (DrawQuarantineDiscard_any A n c w h.1 hn h.2).mono ?_
    rintro e w1 ⟨cs, q, t, rfl, hQ, -, hb1⟩
    obtain ⟨RA, rn, rc, C, m, d, rfl, hqa, hqb⟩ := id hQ
    clear hqa hqb
    have eb := below_box w1 (.cells #[.slice RA rn rc, .slice C m d] 26)
    have x2 := Blk.new w1 26 [.slice RA rn rc, .slice C m d]
    have hQ2 := (hQ.next eb).rep0
    have bb2 := below_ext hb1 eb
    obtain ⟨y0, y1⟩ := x2.cells2
    clear hQ hb1 eb
    go_wp2_with fail
    generalize w1.alloc (.cells #[.slice RA rn rc, .slice C m d] 26) = w2 at *
    generalize w1.heap.size = gq at *
    refine (implQuarantineDiscard_any _ q t w2 hQ2).mono ?_
    rintro e w3 ⟨cs3, rfl, hS3, hb3⟩
    have hO3 := repQu.down (sepQu.reads hS3) (Nat.zero_le _)
    have hQ3 := repQu.next hQ2 hb3
    have x3 := x2.next hb3
    have bb3 := below_ext bb2 hb3
    clear hS3 hQ2 x2 y0 y1 bb2 hb3
    obtain ⟨OA, om, od, OC, on, oe, rfl, -⟩ := repQu_cells hO3
    have eb := below_box w3 (.cells #[.slice OA om od, .slice OC on oe] 26)
    have xo := Blk.new w3 26 [.slice OA om od, .slice OC on oe]
    have x4 := x3.next eb
    have hO4 := repQu.next hO3 eb
    have hQ4 := repQu.next hQ3 eb
    have bb4 := below_ext bb3 eb
    obtain ⟨y0, y1⟩ := x4.cells2
    clear hO3 hQ3 x3 eb bb3
    go_wp2_with fail
    generalize w3.alloc (.cells #[.slice OA om od, .slice OC on oe] 26) = w4 at *
    generalize w3.heap.size = go at *
    refine (specQuarantineDiscard_any _ q t w4 hQ4).mono ?_
    rintro e w5 ⟨cs5, rfl, hS5, hb5⟩
    have hW5 := hS5.rep0
    have hO5 := repQu.next hO4 hb5
    have hQ5 := repQu.next hQ4 hb5
    have x5 := x4.next hb5
    have xo5 := xo.next hb5
    have bb5 := below_ext bb4 hb5
    clear hS5 hO4 hQ4 x4 xo y0 y1 bb4 hb5
    obtain ⟨WA, wm, wd, WC, wn, we, rfl, -⟩ := repQu_cells hW5
    have eb := below_box w5 (.cells #[.slice WA wm wd, .slice WC wn we] 26)
    have xw := Blk.new w5 26 [.slice WA wm wd, .slice WC wn we]
    have hW6 := repQu.next hW5 eb
    have hO6 := repQu.next hO5 eb
    have hQ6 := repQu.next hQ5 eb
    have x6 := x5.next eb
    have xo6 := xo5.next eb
    have bb6 := below_ext bb5 eb
    obtain ⟨y0, y1⟩ := x6.cells2
    obtain ⟨z0, z1⟩ := xo6.cells2
    obtain ⟨u0, u1⟩ := xw.cells2
    clear hW5 hO5 hQ5 x5 xo5 eb bb5
    have hnw : ∀ b : Bool, (b != b) = false := fun b => by cases b <;> rfl
    have hne := hnw (qdiscQ q t).2
    have hee : ((qdiscQ q t).2 == (qdiscQ q t).2) = true := by simp
    go_wp2_with fail
    refine (sameQuarantine_same _ _ (qdiscQ q t).1 _ hO6 hW6).mono ?_
    rintro e w7 ⟨rfl, hb7⟩
    have hO7 := repQu.next hO6 hb7
    have hW7 := repQu.next hW6 hb7
    have hQ7 := repQu.next hQ6 hb7
    have x7 := x6.next hb7
    have xo7 := xo6.next hb7
    have xw7 := xw.next hb7
    have bb7 := below_ext bb6 hb7
    clear hO6 hW6 hQ6 x6 xo6 bb6 hb7 y0 y1 z0 z1 u0 u1 xw
    obtain ⟨y0, y1⟩ := x7.cells2
    obtain ⟨z0, z1⟩ := xo7.cells2
    obtain ⟨u0, u1⟩ := xw7.cells2
    generalize w5.heap.size = gw at *
    by_cases hB : (qdiscQ q t).2 = true
    · have hqt : quarB q = true ∧ txnB t = true := by
        unfold qdiscQ at hB
        split at hB
        · rename_i h1
          simpa using h1
        · cases hB
      have HE := qdisc_eq hqt.1 hqt.2
      have hfs : (findA q.ars t).isSome = true := by rw [HE] at hB; exact hB
      have hO : repQu.V 0 w7 [.slice OA om od, .slice OC on oe] ⟨q.main, dropT q.ars t⟩ := by rw [HE] at hO7; exact hO7
      have HL := Lib.hid (dropT_len (quar_pairs hqt.1) hfs)
      clear hO7 hW7 HE hfs hqt
      obtain ⟨_, _, _, _, _, _, e1, hr0, hm0, hr1, hm1⟩ := repQu_cells hO
      simp only [List.cons.injEq, Value.slice.injEq, and_true] at e1
      obtain ⟨⟨rfl, rfl, rfl⟩, rfl, rfl, rfl⟩ := e1
      obtain ⟨_, _, _, _, _, _, e1, qr0, qm0, qr1, qm1⟩ := repQu_cells hQ7
      simp only [List.cons.injEq, Value.slice.injEq, and_true] at e1
      obtain ⟨⟨rfl, rfl, rfl⟩, rfl, rfl, rfl⟩ := e1
      have HN1 := Lib.hid hr1.1
      have HN2 := Lib.hid qr1.1
      have HB := Lib.hid hB
      clear hr1 qr1
      rw [hB] at hee hne ⊢
      go_wp2_with fail
      go_loopw [9] (fun i wr => ∃ k : Nat, k ≤ 12 ∧ i = .int .i64 (k : Int) ∧ Below w7.heap.size w7 wr) (fun i _ => 12 - (intOf i).toNat)
      case atStart => exact ⟨0, by omega, rfl, Below.refl _ _⟩
      case round =>
        obtain ⟨k, hk, rfl, hbr⟩ := hrel
        have hxq := x7.next hbr
        have hxo := xo7.next hbr
        obtain ⟨a0, a1⟩ := hxq.cells2
        obtain ⟨a2, a3⟩ := hxo.cells2
        by_cases hlt : k < 12
        · by_cases hkt : (k : Int) = t
          · have hkb : ((k : Int) != t) = false := by simp [hkt]
            go_wp2_with fail
            have gg0 := cell_regrown a0
            have gg1 := cell_regrown a1
            have gg2 := cell_regrown a2
            have gg3 := cell_regrown a3
            clear a0 a1 a2 a3
            refine wp_region_ext (by kernel_rfl) (by kernel_rfl) ?_
            repeat (go_big_quiet_step (fail))
            refine wpQuiet_nil ?_
            intro wz hbz
            go_wp2_with fail
            go_roundw
            case rel => exact ⟨k + 1, by omega, by go_num, below_ext hbr hbz⟩
            case measure => simp [intOf]; omega
          · have hkb : ((k : Int) != t) = true := by simp [hkt]
            have hKO := Lib.hid (fun (W : World) (q : Below wr.heap.size wr W) => repQu.next hO (below_ext hbr q))
            have hKQ := Lib.hid (fun (W : World) (q : Below wr.heap.size wr W) => repQu.next hQ7 (below_ext hbr q))
            have hae := areaQ_drop (q := q) hkt
            have HK := Lib.hid (fun (w' : World) (b : Below wr.heap.size wr w') => (⟨(b.cell (p := ⟨gq, 0, none⟩) hxq.lt).trans a0, (b.cell (p := ⟨gq, 1, none⟩) hxq.lt).trans a1, (b.cell (p := ⟨go, 0, none⟩) hxo.lt).trans a2, (b.cell (p := ⟨go, 1, none⟩) hxo.lt).trans a3, b⟩ : w'.cell? ⟨gq, 0, none⟩ = some (.slice RA rn rc) ∧ w'.cell? ⟨gq, 1, none⟩ = some (.slice C m d) ∧ w'.cell? ⟨go, 0, none⟩ = some (.slice OA om od) ∧ w'.cell? ⟨go, 1, none⟩ = some (.slice OC on oe) ∧ Below wr.heap.size wr w'))
            have hbd : Below wr.heap.size wr wr.drew := (Below.refl _ _).drew
            clear hr0 qr0
            go_wp2_with fail
            go_region_held3 (fun w' => w'.cell? ⟨gq, 0, none⟩ = some (.slice RA rn rc) ∧ w'.cell? ⟨gq, 1, none⟩ = some (.slice C m d) ∧ w'.cell? ⟨go, 0, none⟩ = some (.slice OA om od) ∧ w'.cell? ⟨go, 1, none⟩ = some (.slice OC on oe) ∧ Below wr.heap.size wr w')
              (first
                | exact HK.out _ hbd
                | exact HK.out _ bz6
                | exact HK.out _ bz8
                | exact HK.out _ bz9)
              (first
                | (go_simp; go_at_call 15; with_reducible (show Calls _ _ #[.agg #[.slice OA om od, .slice OC on oe], _] _ _); refine (areaOf_any [.slice OA om od, .slice OC on oe] _ (k : Int) _ (hKO.out _ (And.right (And.right (And.right (And.right (by assumption))))))).mono ?_
                   rintro e w6 ⟨A6, n6, c6, rfl, h6, hn6, hb6⟩
                   have bz6 : Below wr.heap.size wr w6 := below_ext (And.right (And.right (And.right (And.right (by assumption))))) hb6)
                | (go_simp; go_at_call 15; with_reducible (show Calls _ _ #[.agg #[.slice RA rn rc, .slice C m d], _] _ _); refine (areaOf_any [.slice RA rn rc, .slice C m d] _ (k : Int) _ (hKQ.out _ (And.right (And.right (And.right (And.right (by assumption))))))).mono ?_
                   rintro e w8 ⟨A8, n8, c8, rfl, h8, hn8, hb8⟩
                   have bz8 : Below wr.heap.size wr w8 := below_ext (And.right (And.right (And.right (And.right (by assumption))))) hb8)
                | (go_simp; go_at_call 36; refine (sameObjects_any A6 A8 n6 c6 n8 c8 _ _ w8 (rsl_next hb8 h6).robjs h8.robjs hn6 hn8).mono ?_
                   rw [hae, eqOs_refl]
                   rintro e w9 ⟨rfl, hb9⟩
                   have bz9 : Below wr.heap.size wr w9 := below_ext bz8 hb9)
                | (go_simp; go_at_call 36; refine (sameObjects_any A6 A8 n6 c6 n8 c8 _ _ w6 h6.robjs (rsl_next hb6 h8).robjs hn6 hn8).mono ?_
                   rw [hae, eqOs_refl]
                   rintro e w9 ⟨rfl, hb9⟩
                   have bz9 : Below wr.heap.size wr w9 := below_ext bz6 hb9))
            all_goals (
              go_wp2_with fail
              go_roundw
              case rel => exact ⟨k + 1, by omega, by go_num, below_ext hbr bz9⟩
              case measure => simp [intOf]; omega)
        · obtain rfl : k = 12 := by omega
          have hr0r := (hr0.next hbr).robjs
          have qr0r := (qr0.next hbr).robjs
          have hQg := repQu.next hO hbr
          go_wp2_with fail
          refine (sameObjects_any OA RA om od rn rc q.main q.main wr hr0r qr0r hm0 qm0).mono ?_
          rw [eqOs_refl]
          rintro e w8 ⟨rfl, hb8⟩
          have hQg8 := repQu.next hQg hb8
          obtain ⟨b2, b3⟩ := (hxo.next hb8).cells2
          have hxq8 := hxq.next hb8
          have hxo8 := hxo.next hb8
          go_wp2_with fail
          refine (areaOf_any _ _ t w8 hQg8).mono ?_
          rw [areaQ_gone]
          rintro e w9 ⟨A9, n9, c9, rfl, h9, -, hb9⟩
          obtain rfl : n9 = 0 := h9.1.symm
          obtain ⟨c2, c3⟩ := (hxo8.next hb9).cells2
          obtain ⟨c0, c1⟩ := (hxq8.next hb9).cells2
          have hmn : m = on + 1 := by have := HN1.out; have := HN2.out; have := HL.out; omega
          have hw9 : IntKind.i64.wrap ((m : Int) - 1) = (on : Int) := by rw [IntKind.wrap_i64]; unfold maxLen at qm1; omega
          have hww : ((on : Int) == (on : Int)) = true := by simp
          clear hmn
          go_wp2_with fail
          go_ret
          exact ⟨rfl, below_ext bb7 (below_ext hbr (below_ext hb8 hb9))⟩
    · have hB' : (qdiscQ q t).2 = false := by simpa using hB
      rw [hB'] at hee hne ⊢
      go_wp2_with fail
      refine (sameQuarantine_same _ _ (qdiscQ q t).1 _ hO7 hW7).mono ?_
      rintro e w8 ⟨rfl, hb8⟩
      go_wp2_with fail
      go_ret
      exact ⟨rfl, below_ext bb7 hb8⟩
end Go.Proofs.Ytjofgbbofagoiaa
