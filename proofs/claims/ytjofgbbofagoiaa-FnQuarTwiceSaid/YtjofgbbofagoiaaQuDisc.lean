/- Walks: the reference's QuarantineDiscard; the laws' areaOf. -/
import Derived.Test.YtjofgbbofagoiaaQuPut
namespace Go.Proofs.Ytjofgbbofagoiaa
open Go.RowKit Go.Sort

def qdiscQ (q : Qu) (t : Int) : Qu × Bool :=
  if quarB q && txnB t then (if (findA q.ars t).isNone then (q, false) else (setQ q t [], true)) else (noQu, false)
set_option maxRecDepth 100000 in
set_option maxHeartbeats 3200000 in
theorem specQuarantineDiscard_any (cs : List Value) (q : Qu) (t : Int) (w : World) (hv : repQu.V 0 w cs q) :
    Calls Try.prog 32 #[.agg cs.toArray, .int .i64 t] w (QPutTo w (qdiscQ q t)) := by
  obtain ⟨B0, m0, d0, B1, m1, d1, rfl, hr0, hm0, hr1, hm1⟩ := repQu_cells hv
  have b1 := below_box2 w (.cells #[.slice B0 m0 d0, .slice B1 m1 d1] 26) (.cells #[.slice none 0 0, .slice none 0 0] 26)
  have x0 : Blk ((w.alloc (.cells #[.slice B0 m0 d0, .slice B1 m1 d1] 26)).alloc (.cells #[.slice none 0 0, .slice none 0 0] 26)) w.heap.size 26 [.slice B0 m0 d0, .slice B1 m1 d1] := (Blk.new w _ _).alloc _
  have x1 : Blk ((w.alloc (.cells #[.slice B0 m0 d0, .slice B1 m1 d1] 26)).alloc (.cells #[.slice none 0 0, .slice none 0 0] 26)) (w.heap.size + 1) 26 [.slice none 0 0, .slice none 0 0] := by simpa using Blk.new (w.alloc (.cells #[.slice B0 m0 d0, .slice B1 m1 d1] 26)) 26 [.slice none 0 0, .slice none 0 0]
  obtain ⟨y0, y1⟩ := x0.cells2
  clear hr0 hr1
  go_enter Try.func32, Try.ntmps32
  go_wp2_with fail
  refine (specQuarantineValid_any _ q _ (repQu.next hv b1)).mono ?_
  rintro e w1 ⟨rfl, hb1⟩
  have bb1 := below_ext b1 hb1
  have x01 := x0.next hb1
  have x11 := x1.next hb1
  have hz1 : w.heap.size + 2 ≤ w1.heap.size := by have := hb1.size; simpa using this
  obtain ⟨z0, z1⟩ := x01.cells2
  clear y0 y1 x0 x1 hb1 b1
  cases hq : quarB q
  · skip
    have HE := Lib.hid (show qdiscQ q t = (noQu, false) by unfold qdiscQ; rw [if_neg (by simp [hq])])
    obtain ⟨r0, r1⟩ := x11.cells2
    have fr0 := x11.frozen 0
    have fr1 := x11.frozen 1
    have hRR := (x11.set_ 0 (.slice none 0 0)).set_ 1 (.slice none 0 0)
    simp only [List.set_cons_zero, List.set_cons_succ] at hRR
    obtain ⟨t0, t1⟩ := hRR.cells2
    go_wp2_with fail
    refine bodyPost_ret (v := .tuple #[.agg #[.slice none 0 0, .slice none 0 0], .bool false]) (by simp [results, Try.results32, go_sem, t0, t1]) rfl ?_
    rw [HE.out]
    exact ⟨_, rfl, OwnQ.res OwnQ.nil x11, (bb1.setCell (p := ⟨w.heap.size + 1, 0, none⟩) (Nat.le_succ _) _).setCell (p := ⟨w.heap.size + 1, 1, none⟩) (Nat.le_succ _) _⟩
  · skip
    go_wp2_with fail
    refine (l12Txn_any t _).mono ?_
    rintro e w2 ⟨rfl, rfl⟩
    cases ht : txnB t
    · skip
      have HE := Lib.hid (show qdiscQ q t = (noQu, false) by unfold qdiscQ; rw [if_neg (by simp [ht])])
      obtain ⟨r0, r1⟩ := x11.cells2
      have fr0 := x11.frozen 0
      have fr1 := x11.frozen 1
      have hRR := (x11.set_ 0 (.slice none 0 0)).set_ 1 (.slice none 0 0)
      simp only [List.set_cons_zero, List.set_cons_succ] at hRR
      obtain ⟨t0, t1⟩ := hRR.cells2
      go_wp2_with fail
      refine bodyPost_ret (v := .tuple #[.agg #[.slice none 0 0, .slice none 0 0], .bool false]) (by simp [results, Try.results32, go_sem, t0, t1]) rfl ?_
      rw [HE.out]
      exact ⟨_, rfl, OwnQ.res OwnQ.nil x11, (bb1.setCell (p := ⟨w.heap.size + 1, 0, none⟩) (Nat.le_succ _) _).setCell (p := ⟨w.heap.size + 1, 1, none⟩) (Nat.le_succ _) _⟩
    · skip
      go_wp2_with fail
      refine (l13Find_any _ q t _ (repQu.next hv bb1)).mono ?_
      rintro e w7 ⟨rfl, hb7⟩
      have bb7 := below_ext bb1 hb7
      have x07 := x01.next hb7
      have x17 := x11.next hb7
      obtain ⟨f0, f1⟩ := x07.cells2
      clear z0 z1
      cases hf : findA q.ars t with
      | none =>
        have hidx : idxA (none : Option Nat) = -1 := rfl
        have HF := Lib.hid hf
        rw [hidx]
        clear hidx hf
        have HE := Lib.hid (show qdiscQ q t = (q, false) by unfold qdiscQ; rw [hq, ht, Bool.and_self, if_pos rfl]; simp only [HF.out]; rfl)
        go_wp2_with fail
        refine (l13Copy_any _ q _ (repQu.next hv bb7) hq).mono ?_
        rintro e w8 ⟨cs8, rfl, hQ8, hb8⟩
        obtain ⟨RA, rn, rc, RC, rm, rd, rfl, hQa, hQb⟩ := id hQ8
        clear hQa hQb
        have x18 := x17.next hb8
        obtain ⟨r0, r1⟩ := x18.cells2
        have fr0 := x18.frozen 0
        have fr1 := x18.frozen 1
        have hRR := (x18.set_ 0 (.slice RA rn rc)).set_ 1 (.slice RC rm rd)
        simp only [List.set_cons_zero, List.set_cons_succ] at hRR
        obtain ⟨t0, t1⟩ := hRR.cells2
        have bb8 := below_ext bb7 hb8
        have hzz := bb7.size
        go_wp2_with fail
        refine bodyPost_ret (v := .tuple #[.agg #[.slice RA rn rc, .slice RC rm rd], .bool false]) (by simp [results, Try.results32, go_sem, t0, t1]) rfl ?_
        rw [HE.out]
        exact ⟨_, rfl, (hQ8.base hzz).res x18, (bb8.setCell (p := ⟨w.heap.size + 1, 0, none⟩) (Nat.le_succ _) _).setCell (p := ⟨w.heap.size + 1, 1, none⟩) (Nat.le_succ _) _⟩
      | some k =>
        have hidx : idxA (some k) = (k : Int) := rfl
        have HF := Lib.hid hf
        have hge2 : decide ((k : Int) < 0) = false := by simp
        rw [hidx]
        clear hidx hf
        have e9 := below_box w7 (.cells #[] 33)
        have bb9 := below_ext bb7 e9
        have x19 := x17.next e9
        have hO9 : RObjs (w7.alloc (.cells #[] 33)) (some ⟨w7.heap.size, 0, none⟩) 0 [] := ⟨rfl, fun h => absurd h (by omega)⟩
        have HE := Lib.hid (show qdiscQ q t = (setQ q t [], true) by unfold qdiscQ; rw [hq, ht, Bool.and_self, if_pos rfl]; simp only [HF.out]; rfl)
        go_wp2_with fail
        refine (l13Set_any _ q t (some ⟨w7.heap.size, 0, none⟩) 0 0 [] _ (repQu.next hv bb9) hq hO9 (by omega) (fun o h => by simp at h)).mono ?_
        rintro e w8 ⟨cs8, rfl, hQ8, hb8⟩
        obtain ⟨RA, rn, rc, RC, rm, rd, rfl, hQa, hQb⟩ := id hQ8
        clear hQa hQb
        have x18 := x19.next hb8
        obtain ⟨r0, r1⟩ := x18.cells2
        have fr0 := x18.frozen 0
        have fr1 := x18.frozen 1
        have hRR := (x18.set_ 0 (.slice RA rn rc)).set_ 1 (.slice RC rm rd)
        simp only [List.set_cons_zero, List.set_cons_succ] at hRR
        obtain ⟨t0, t1⟩ := hRR.cells2
        have bb8 := below_ext bb9 hb8
        have hzz := bb9.size
        go_wp2_with fail
        refine bodyPost_ret (v := .tuple #[.agg #[.slice RA rn rc, .slice RC rm rd], .bool true]) (by simp [results, Try.results32, go_sem, t0, t1]) rfl ?_
        rw [HE.out]
        exact ⟨_, rfl, (hQ8.base hzz).res x18, (bb8.setCell (p := ⟨w.heap.size + 1, 0, none⟩) (Nat.le_succ _) _).setCell (p := ⟨w.heap.size + 1, 1, none⟩) (Nat.le_succ _) _⟩
set_option maxRecDepth 100000 in
set_option maxHeartbeats 1600000 in
theorem areaOf_any (cs : List Value) (q : Qu) (t : Int) (w : World) (hv : repQu.V 0 w cs q) :
    Calls Try.prog 15 #[.agg cs.toArray, .int .i64 t] w fun e w' => ∃ A n c, e = .returned (.slice A n c) ∧ RSl repOb 0 w' A n (areaQ q t) ∧ n ≤ maxLen ∧ Below w.heap.size w w' := by
  obtain ⟨B0, m0, d0, B1, m1, d1, rfl, hr0, hm0, hr1, hm1⟩ := repQu_cells hv
  have hl1 := hr1.1
  unfold maxLen at hm1
  have b0 := below_box w (.cells #[.slice B0 m0 d0, .slice B1 m1 d1] 26)
  have x0 := Blk.new w 26 [.slice B0 m0 d0, .slice B1 m1 d1]
  obtain ⟨y0, y1⟩ := x0.cells2
  have hrw := hr1.next b0
  clear hv hr0 hr1
  have HL := Lib.hid hl1
  clear hl1
  go_enter Try.func15, Try.ntmps15
  go_wp2_with fail
  go_loop [5] (fun i => ∃ k : Nat, k ≤ m1 ∧ i = .int .i64 k ∧ Hid (∀ (j : Nat) (a : Ar), q.ars[j]? = some a → j < k → a.t ≠ t)) (fun i => m1 - (intOf i).toNat)
  case atStart => exact ⟨0, Nat.zero_le _, rfl, Lib.hid fun j a _ h => absurd h (by omega)⟩
  case round =>
    obtain ⟨k, hk, rfl, hno⟩ := hrel
    by_cases hlt : k < m1
    · obtain ⟨b, off, x, cs', rfl, hb, hx, hc, hvx⟩ := hrw.at_ hlt
      obtain ⟨A1, n1, c1, rfl, hro, hno1⟩ := repAr_cells hvx
      have c0 : (w.alloc (.cells #[.slice B0 m0 d0, .slice (some ⟨b, off, none⟩) m1 d1] 26)).cell? ⟨b, off + k * 2, none⟩ = some (.int .i64 x.t) := hc 0 _ rfl
      have c1' : (w.alloc (.cells #[.slice B0 m0 d0, .slice (some ⟨b, off, none⟩) m1 d1] 26)).cell? ⟨b, off + k * 2 + 1, none⟩ = some (.slice A1 n1 c1) := hc 1 _ rfl
      have HX := Lib.hid hx
      clear hx hc hvx
      by_cases hxt : x.t = t
      · have hxb : (x.t == t) = true := by simp [hxt]
        have HA := Lib.hid (show areaQ q t = x.os by unfold areaQ; simp only [findA_some hno.out HX.out hxt, HX.out])
        go_wp2_with fail
        go_ret
        exact ⟨_, _, ⟨_, rfl⟩, by rw [HA.out]; exact hro, hno1, b0⟩
      · have hxb : (x.t == t) = false := by simp [hxt]
        go_wp2_with fail
        go_round
        case rel => exact ⟨k + 1, by omega, by go_num, Lib.hid fun j a hj hjk => by
          by_cases e : j < k
          · exact hno.out j a hj e
          · obtain rfl : j = k := by omega
            rw [HX.out] at hj
            injection hj with hj
            subst hj
            exact hxt⟩
        case measure => simp [intOf]; omega
    · obtain rfl : k = m1 := by omega
      have HN := Lib.hid (findA_none (ars := q.ars) (t := t) fun j a hj => hno.out j a hj (by have := (List.getElem?_eq_some_iff.1 hj).1; have := HL.out; omega))
      have HA := Lib.hid (show areaQ q t = [] by unfold areaQ; simp only [HN.out])
      go_wp2_with fail
      go_ret
      exact ⟨_, 0, ⟨_, rfl⟩, by rw [HA.out]; exact RSl.nil _, by simp [maxLen], below_ext b0 (below_box _ _)⟩
end Go.Proofs.Ytjofgbbofagoiaa
