/- Walks: l3Best: the base with the smallest delta. -/
import Derived.Test.YtkekcgamhhmjnaaPkSize
namespace Go.Proofs.Ytkekcgamhhmjnaa
open Go.RowKit Go.Sort

theorem bestTo_yes {t : ByteArray} {ts : List ByteArray} {bs : List Int} {i : Nat} {q : ByteArray} (hq : ts.getD i ⟨#[]⟩ = q) (h1 : dep bs i < 2) (h2 : dsz (dmake q t) < dsz (bestTo t ts bs i).2) : bestTo t ts bs (i + 1) = ((i : Int), dmake q t) := by
  subst hq
  rw [bestTo, if_pos ⟨h1, h2⟩]
theorem bestTo_no {t : ByteArray} {ts : List ByteArray} {bs : List Int} {i : Nat} {q : ByteArray} (hq : ts.getD i ⟨#[]⟩ = q) (h : ¬ (dep bs i < 2 ∧ dsz (dmake q t) < dsz (bestTo t ts bs i).2)) : bestTo t ts bs (i + 1) = bestTo t ts bs i := by
  subst hq
  rw [bestTo, if_neg h]
theorem bestTo_dsz {t : ByteArray} {ts : List ByteArray} {bs : List Int} (k : Nat) : dsz (bestTo t ts bs k).2 ≤ 72 := by
  rw [bestTo_ops]
  exact dmake_dsz _ _
set_option maxRecDepth 100000 in
set_option maxHeartbeats 1600000 in
theorem l3Best_any (A L : Option Addr) (n c m d : Nat) (ps : List Pe) (os : List Ob) (t : ByteArray) (w : World) (h : RSl repPe 0 w A n ps) (hn : n ≤ 1000) (ho : RObjs w L m os) (hm : m ≤ maxLen) (hnm : n ≤ m) (hok : OkB (ps.map Pe.b)) :
    Calls Try.prog 34 #[.slice A n c, .slice L m d, .string t] w fun e w' => e = .returned (.int .i64 (bestTo t (os.map Ob.t) (ps.map Pe.b) n).1) ∧ Below w.heap.size w w' := by
  have HO := Lib.hid hok
  clear hok
  unfold maxLen at hm
  go_enter Try.func34, Try.ntmps34
  go_wp2_with fail
  refine (specDeltaMake_any ⟨#[]⟩ t w).mono ?_
  intro e w1 hq
  obtain ⟨A1, n1, c1, rfl, hn1, -, hR1, hb1⟩ := hq.reads
  clear hq
  go_wp2_with fail
  refine (specDeltaSize_any A1 n1 c1 _ w1 (hR1.down (Nat.zero_le _)) (by simp only [maxLen]; omega) (by have := dmake_dsz ⟨#[]⟩ t; omega)).mono ?_
  rintro e w2 ⟨rfl, hb2⟩
  have b2 := below_ext hb1 hb2
  clear hR1
  go_wp2_with fail
  go_loopw [7, 8, 9] (fun a s i wr => ∃ (k : Nat) (B : Int) (D : Nat), k ≤ n ∧ i = .int .i64 k ∧ a = .int .i64 B ∧ s = .int .i64 D ∧ D ≤ 72 ∧ Hid ((bestTo t (os.map Ob.t) (ps.map Pe.b) k).1 = B) ∧ Hid (dsz (bestTo t (os.map Ob.t) (ps.map Pe.b) k).2 = D) ∧ Below w.heap.size w wr) (fun _ _ i _ => n - (intOf i).toNat)
  case atStart => exact ⟨0, -1, dsz (dmake ⟨#[]⟩ t), Nat.zero_le _, rfl, rfl, rfl, dmake_dsz _ _, Lib.hid rfl, Lib.hid rfl, b2⟩
  case round =>
    obtain ⟨k, B, D, hk, rfl, rfl, rfl, hD, HB, HD, hbr⟩ := hrel
    by_cases hlt : k < n
    · have hkm : k < m := by omega
      obtain ⟨b, off, o, rfl, hb, hx, hob⟩ := (ho.next hbr).at_ hkm
      obtain ⟨B', m', d', c0, c1', c2, hri, hm', ht⟩ := hob
      have c3 : wr.cell? ⟨b, off + k * 3 + 2, none⟩ = some (.string o.t) := c2
      have HQ := Lib.hid (show (os.map Ob.t).getD k ⟨#[]⟩ = o.t by simp [List.getD, hx])
      clear hx
      go_wp2_with fail
      refine (specDeltaMake_any o.t t wr).mono ?_
      intro e w3 hq
      obtain ⟨A3, n3, c3', rfl, hn3, -, hR3, hb3⟩ := hq.reads
      clear hq
      go_wp2_with fail
      refine (specDeltaSize_any A3 n3 c3' _ w3 (hR3.down (Nat.zero_le _)) (by simp only [maxLen]; omega) (by have := dmake_dsz o.t t; omega)).mono ?_
      rintro e w4 ⟨rfl, hb4⟩
      have b4 := below_ext (below_ext hbr hb3) hb4
      clear hR3
      obtain ⟨z, HZ⟩ : ∃ z, Hid (dsz (dmake o.t t) = z) := ⟨_, Lib.hid rfl⟩
      have hz72 : z ≤ 72 := by rw [← HZ.out]; exact dmake_dsz _ _
      rw [HZ.out]
      by_cases hzD : z < D
      · have hzd : decide ((z : Int) < (D : Int)) = true := decide_eq_true (by omega)
        have hzd2 : decide (z < D) = true := decide_eq_true hzD
        have h4 := h.next b4
        go_wp2_with fail
        refine (l3Depth_any A n c k ps w4 h4 (by omega) hlt HO.out).mono ?_
        rintro e w5 ⟨rfl, rfl⟩
        obtain ⟨y, HY⟩ : ∃ y, Hid (dep (ps.map Pe.b) k = y) := ⟨_, Lib.hid rfl⟩
        rw [HY.out]
        by_cases hy : y < 2
        · have hyd : decide ((y : Int) < 2) = true := decide_eq_true (by omega)
          have HE := Lib.hid (bestTo_yes (t := t) (bs := ps.map Pe.b) HQ.out (by rw [HY.out]; exact hy) (by rw [HZ.out, HD.out]; exact hzD))
          go_wp2_with fail
          go_roundw
          case rel => exact ⟨k + 1, (k : Int), z, by omega, by go_num, rfl, rfl, hz72, Lib.hid (by rw [HE.out]), Lib.hid (by rw [HE.out]; exact HZ.out), b4⟩
          case measure => simp [intOf]; omega
        · have hyd : decide ((y : Int) < 2) = false := decide_eq_false (by omega)
          have HE := Lib.hid (bestTo_no (t := t) (bs := ps.map Pe.b) HQ.out (fun hh => hy (by rw [← HY.out]; exact hh.1)))
          go_wp2_with fail
          go_roundw
          case rel => exact ⟨k + 1, B, D, by omega, by go_num, rfl, rfl, hD, Lib.hid (by rw [HE.out]; exact HB.out), Lib.hid (by rw [HE.out]; exact HD.out), b4⟩
          case measure => simp [intOf]; omega
      · have hzd : decide ((z : Int) < (D : Int)) = false := decide_eq_false (by omega)
        have hzd2 : decide (z < D) = false := decide_eq_false hzD
        have HE := Lib.hid (bestTo_no (t := t) (bs := ps.map Pe.b) HQ.out (fun hh => hzD (by rw [← HZ.out, ← HD.out]; exact hh.2)))
        go_wp2_with fail
        go_roundw
        case rel => exact ⟨k + 1, B, D, by omega, by go_num, rfl, rfl, hD, Lib.hid (by rw [HE.out]; exact HB.out), Lib.hid (by rw [HE.out]; exact HD.out), b4⟩
        case measure => simp [intOf]; omega
    · obtain rfl : k = n := by omega
      go_wp2_with fail
      go_ret
      exact ⟨ret_int HB.out.symm, hbr⟩
end Go.Proofs.Ytkekcgamhhmjnaa
