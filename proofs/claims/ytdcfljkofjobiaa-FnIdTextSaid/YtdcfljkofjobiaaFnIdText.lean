/- The law FnIdText, walked: for every code it answers true. -/
import Derived.Test.YtdcfljkofjobiaaId
import Derived.Test.YtdcfljkofjobiaaDrawTop
import Derived.BigRegion
namespace Go.Proofs.Ytdcfljkofjobiaa
open Go.RowKit Go.Sort

/-- t with one byte put in place of byte q -/
def setB (t : ByteArray) (q : Nat) (y : UInt8) : ByteArray := t.extract 0 q ++ ⟨#[y]⟩ ++ t.extract (q + 1) t.size
theorem setB_size (t : ByteArray) (q : Nat) (y : UInt8) (h : q < t.size) : (setB t q y).size = t.size := by
  have : (⟨#[y]⟩ : ByteArray).size = 1 := rfl
  simp only [setB, ByteArray.size_append, ByteArray.size_extract, this]; omega
theorem setB_get (t : ByteArray) (q : Nat) (y : UInt8) (h : q < t.size) (j : Nat) (hj : j < t.size) : (setB t q y)[j]'(by rw [setB_size _ _ _ h]; exact hj) = if j = q then y else t[j] := by
  have h1 : (⟨#[y]⟩ : ByteArray).size = 1 := rfl
  have h0 : (t.extract 0 q).size = q := by rw [ByteArray.size_extract]; omega
  have h2 : (t.extract 0 q ++ ⟨#[y]⟩).size = q + 1 := by rw [ByteArray.size_append, h0, h1]
  unfold setB
  by_cases hjq : j < q
  · rw [ByteArray.getElem_append_left (by omega), ByteArray.getElem_append_left (by omega), ByteArray.getElem_extract, if_neg (by omega)]
    simp
  · by_cases hjq2 : j = q
    · subst hjq2
      rw [ByteArray.getElem_append_left (by omega), ByteArray.getElem_append_right (by omega), if_pos rfl]
      simp only [h0, Nat.sub_self]; rfl
    · rw [ByteArray.getElem_append_right (by omega), ByteArray.getElem_extract, if_neg hjq2]
      simp only [h2, show q + 1 + (j - (q + 1)) = j by omega]
theorem idT_congr (n0 : Int) (t t' : ByteArray) (m : Nat) (h : ∀ j, j < m → bt t j = bt t' j) : idT n0 t m = idT n0 t' m := by
  induction m with
  | zero => rfl
  | succ m ih => rw [idT_succ, idT_succ, ih (fun j hj => h j (by omega)), h m (by omega)]
theorem idT_change (n0 : Int) (t t' : ByteArray) (q : Nat) (h : ∀ j, j ≠ q → bt t j = bt t' j) (hq : bt t q ≠ bt t' q) (d : Nat) : idT n0 t (q + 1 + d) % 991 ≠ idT n0 t' (q + 1 + d) % 991 := by
  induction d with
  | zero =>
    rw [Nat.add_zero, idT_succ, idT_succ, idT_congr n0 t t' q (fun j hj => h j (by omega))]
    have a0 := bt_nonneg t q
    have a1 := bt_le t q
    have b0 := bt_nonneg t' q
    have b1 := bt_le t' q
    unfold step2
    omega
  | succ d ih =>
    rw [show q + 1 + (d + 1) = (q + 1 + d) + 1 by omega, idT_succ, idT_succ, h (q + 1 + d) (by omega)]
    exact step2_inj _ _ _ ih
theorem idR_text {k : Int} {xs : List Int} {t : ByteArray} (hv : objOkB k xs t = true) (q : Nat) (hq : q < t.size) (y : UInt8) (hy : (y.toNat : Int) ≠ (t[q].toNat : Int)) : idR k xs (setB t q y) ≠ idR k xs t := by
  have hs := setB_size t q y hq
  have hne : idV k xs (setB t q y) ≠ idV k xs t := by
    unfold idV
    rw [hs]
    intro e
    have := idT_change (idL k xs xs.length) t (setB t q y) q (fun j hj => by
      by_cases hlt : j < t.size
      · rw [← bt_get t j hlt, ← bt_get (setB t q y) j (by rw [hs]; exact hlt), setB_get t q y hq j hlt, if_neg hj]
      · unfold bt
        rw [dif_neg hlt, dif_neg (by rw [hs]; exact hlt)]) (by
      rw [← bt_get t q hq, ← bt_get (setB t q y) q (by rw [hs]; exact hq), setB_get t q y hq q hq, if_pos rfl]
      exact fun e => hy e.symm) (t.size - (q + 1))
    rw [show q + 1 + (t.size - (q + 1)) = t.size by omega, e] at this
    exact this rfl
  have hv2 := (idV_bd (ObjOk.of hv)).1
  unfold idR
  rw [if_pos hv]
  split
  · exact hne
  · omega

theorem xor8_all : ∀ (a : Fin 256) (d : Fin 3), 0 ≤ bits .xor .u8 (a.val : Int) (1 + (d.val : Int)) ∧ bits .xor .u8 (a.val : Int) (1 + (d.val : Int)) ≤ 255 ∧ bits .xor .u8 (a.val : Int) (1 + (d.val : Int)) ≠ (a.val : Int) := of_decide_eq_true (by kernel_rfl)
theorem xor8 (a : Nat) (ha : a < 256) (n : Nat) : 0 ≤ bits .xor .u8 (a : Int) (1 + (n : Int) % 3) ∧ bits .xor .u8 (a : Int) (1 + (n : Int) % 3) ≤ 255 ∧ bits .xor .u8 (a : Int) (1 + (n : Int) % 3) ≠ (a : Int) := by
  have := xor8_all ⟨a, ha⟩ ⟨n % 3, Nat.mod_lt _ (by omega)⟩
  rw [show ((n : Int) % 3) = ((n % 3 : Nat) : Int) by omega]
  exact this

set_option maxHeartbeats 1600000 in
theorem FnIdText_walk (A : Option Addr) (n c : Nat) (A2 : Option Addr) (n2 c2 : Nat) (w : World) (h : RBytes w w.heap.size A n ∧ n ≤ c) (hn : n ≤ maxLen) (_h2 : RBytes w w.heap.size A2 n2 ∧ n2 ≤ c2) (hn2 : n2 ≤ maxLen) :
    Calls Try.prog 9 #[.slice A n c, .slice A2 n2 c2] w fun e w' => e = .returned (.bool true) ∧ Below w.heap.size w w' := by
  have hn0 := hn
  unfold maxLen at hn0
  have hn20 := hn2
  unfold maxLen at hn20
  by_cases hs : 1048576 < n
  · go_enter Try.func9, Try.ntmps9
    go_wp2
    go_ret
    exact ⟨rfl, Below.refl _ _⟩
  by_cases hs2 : 1048576 < n2
  · go_enter Try.func9, Try.ntmps9
    go_wp2
    go_ret
    exact ⟨rfl, Below.refl _ _⟩
  · go_enter Try.func9, Try.ntmps9
    go_wp2_with fail
    refine (DrawObjectId_any _ _ _ _ h.1 hn h.2).mono ?_
    rintro e w1 ⟨_, rfl, ⟨k, B, m, d, xs, t, rfl, hown, hm, hm1, ht, hk0, hk4⟩, b1⟩
    have HM := Lib.hid hm
    clear hm
    have hm2 : m ≤ maxLen := by simp only [maxLen]; omega
    have hr1 := RInts.of_own hown
    have bo := Blk.new w1 27 [.int .i64 k, .slice B m d, .string t]
    have hr1b := hr1.next (below_box w1 (.cells #[.int .i64 k, .slice B m d, .string t] 27))
    have b1b := below_ext b1 (below_box w1 (.cells #[.int .i64 k, .slice B m d, .string t] 27))
    have hownb := own_below hown (below_box w1 (.cells #[.int .i64 k, .slice B m d, .string t] 27))
    go_wp2_with fail
    generalize hgW : w1.alloc (.cells #[.int .i64 k, .slice B m d, .string t] 27) = w1b at *
    have HgW := Lib.hid hgW
    clear hgW
    obtain ⟨p0, p1, p2⟩ := bo.cells3
    refine (implId_any _ _ _ _ xs _ _ hr1b hm2).mono ?_
    rintro e w2 ⟨rfl, b2⟩
    have bo2 := bo.next b2
    have hr2 := hr1b.next b2
    obtain ⟨c20, c21, c22⟩ := bo2.cells3
    go_wp2_with fail
    refine (specId_any _ _ _ _ xs _ _ hr2 hm2).mono ?_
    rintro e w3 ⟨rfl, b3⟩
    have bo3 := bo2.next b3
    have hr3 := hr2.next b3
    have b13 := below_ext (below_ext b1b b2) b3
    have hlt3 := bo3.lt
    obtain ⟨c30, c31, c32⟩ := bo3.cells3
    cases hv : objOkB k xs t
    · have hneg : idR k xs t < 0 := by simp [idR, hv]
      go_wp2_with fail
      go_ret
      exact ⟨ret_bool (by simp), b13⟩
    · have hge : 0 ≤ idR k xs t := by have := (idV_bd (ObjOk.of hv)).1; simp [idR, hv, this]
      have hle : decide (idR k xs t < 991) = true := by have := (idV_bd (ObjOk.of hv)).2; simp [idR, hv]; omega
      cases hte : t.toList.isEmpty
      · have hts : 0 < t.size := by
          rcases Nat.eq_zero_or_pos t.size with h0 | h0
          · have : t.toList = [] := by rw [ByteArray.toList_eq]; exact List.eq_nil_of_length_eq_zero (by rw [Array.length_toList]; exact h0)
            rw [this] at hte; cases hte
          · exact h0
        obtain ⟨q, hq, hqt⟩ : ∃ q : Nat, (n2 : Int).tmod (t.size : Int) = q ∧ q < t.size := ⟨n2 % t.size, rfl, Nat.mod_lt _ hts⟩
        go_wp2_with fail
        have HTE := Lib.hid hte
        clear hte
        have z := bo3.next (below_box w3 (.cells #[.int .i64 k, .slice B m d, .string t] 27))
        have y := Blk.new w3 27 [.int .i64 k, .slice B m d, .string t]
        have hne : w1.heap.size ≠ w3.heap.size := by omega
        clear bo2 bo3 c20 c21 c22 c30 c31 c32 p0 p1 p2 bo
        generalize hW : w3.alloc (.cells #[.int .i64 k, .slice B m d, .string t] 27) = wz at *
        have HW := Lib.hid hW
        clear hW
        obtain ⟨z0, z1, z2⟩ := z.cells3
        obtain ⟨y0, y1, y2⟩ := y.cells3
        have zlt := z.lt
        have ylt := y.lt
        have yfr := y.frozen 2
        have hx8 := xor8 t[q].toNat (UInt8.toNat_lt _) n2
        have hcv := byte_str (P := Try.prog) Try.underlying31 Try.underlying5 Try.underlying9 wz.drew (bits .xor .u8 (t[q].toNat : Int) (1 + (n2 : Int) % 3)) hx8.1 hx8.2.1 1
        change (convert 31 9 (.slice (some ⟨wz.heap.size, 0, none⟩) 1 1)).run Try.prog (wz.alloc (.cells #[.int .u8 (bits .xor .u8 (t[q].toNat : Int) (1 + (n2 : Int) % 3))] 5)).drew = .ok _ (wz.alloc (.cells #[.int .u8 (bits .xor .u8 (t[q].toNat : Int) (1 + (n2 : Int) % 3))] 5)).drew at hcv
        go_region
        have hr4 : Below w3.heap.size w3 ((wz.setCell ⟨w3.heap.size, 2, none⟩ (.string (setB t q (UInt8.ofNat (bits .xor .u8 (t[q].toNat : Int) (1 + (n2 : Int) % 3)).toNat)))).alloc (.cells #[.int .u8 (bits .xor .u8 (t[q].toNat : Int) (1 + (n2 : Int) % 3))] 5)).drew := by
          rw [← HW.out]
          exact ((((below_box w3 _).setCell (p := ⟨w3.heap.size, 2, none⟩) (Nat.le_refl _) _).alloc (by simp [World.setCell]) _).drew)
        have hne2 : (idR k xs (setB t q (UInt8.ofNat (bits .xor .u8 (t[q].toNat : Int) (1 + (n2 : Int) % 3)).toNat)) != idR k xs t) = true := by
          have := idR_text hv q hqt (UInt8.ofNat (bits .xor .u8 (t[q].toNat : Int) (1 + (n2 : Int) % 3)).toNat) (by
            rw [UInt8.toNat_ofNat']; have := hx8; omega)
          simpa using this
        unfold setB at hr4 hne2
        go_wp2_with fail
        refine (implId_any _ _ _ _ xs _ _ (hr3.next hr4) hm2).mono ?_
        rintro e w8 ⟨rfl, b8⟩
        go_wp2_with fail
        go_ret
        exact ⟨ret_bool (by simp), below_ext (below_ext b13 hr4) b8⟩
      · go_wp2_with fail
        go_ret
        exact ⟨ret_bool (by simp), b13⟩
end Go.Proofs.Ytdcfljkofjobiaa
