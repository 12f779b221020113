/- The law FnIdLinks, walked: for every code it answers true. -/
import Derived.Test.YtdcfljkofjobiaaId
import Derived.Test.YtdcfljkofjobiaaDrawTop
import Derived.StillTailTactics
namespace Go.Proofs.Ytdcfljkofjobiaa
open Go.RowKit Go.Sort

set_option maxHeartbeats 1600000 in
theorem FnIdLinks_walk (A : Option Addr) (n c : Nat) (A2 : Option Addr) (n2 c2 : Nat) (w : World) (h : RBytes w w.heap.size A n ∧ n ≤ c) (hn : n ≤ maxLen) (_h2 : RBytes w w.heap.size A2 n2 ∧ n2 ≤ c2) (hn2 : n2 ≤ maxLen) :
    Calls Try.prog 8 #[.slice A n c, .slice A2 n2 c2] w fun e w' => e = .returned (.bool true) ∧ Below w.heap.size w w' := by
  have hn0 := hn
  unfold maxLen at hn0
  have hn20 := hn2
  unfold maxLen at hn20
  by_cases hs : 1048576 < n
  · go_enter Try.func8, Try.ntmps8
    go_wp2
    go_ret
    exact ⟨rfl, Below.refl _ _⟩
  by_cases hs2 : 1048576 < n2
  · go_enter Try.func8, Try.ntmps8
    go_wp2
    go_ret
    exact ⟨rfl, Below.refl _ _⟩
  · go_enter Try.func8, Try.ntmps8
    go_wp2_with fail
    refine (DrawObjectId_any _ _ _ _ h.1 hn h.2).mono ?_
    rintro e w1 ⟨_, rfl, ⟨k, B, m, d, xs, t, rfl, hown, hm, hm1, ht, hk0, hk4⟩, b1⟩
    have HM := Lib.hid hm
    clear hm
    have hm2 : m ≤ maxLen := by simp only [maxLen]; omega
    have hr1 := RInts.of_own hown
    have bo := Blk.new w1 27 [.int .i64 k, .slice B m d, .string t]
    have hr1b := hr1.next (below_box w1 (.cells #[.int .i64 k, .slice B m d, .string t] 27))
    have b1b := below_ext b1 (below_box w1 (.cells #[.int .i64 k, .slice B m d, .string t] 27))
    have hownb := own_below hown (below_box w1 (.cells #[.int .i64 k, .slice B m d, .string t] 27))
    go_wp2_with fail
    generalize hgW : w1.alloc (.cells #[.int .i64 k, .slice B m d, .string t] 27) = w1b at *
    have HgW := Lib.hid hgW
    clear hgW
    obtain ⟨p0, p1, p2⟩ := bo.cells3
    refine (implId_any _ _ _ _ xs _ _ hr1b hm2).mono ?_
    rintro e w2 ⟨rfl, b2⟩
    have bo2 := bo.next b2
    have hr2 := hr1b.next b2
    obtain ⟨c20, c21, c22⟩ := bo2.cells3
    go_wp2_with fail
    refine (specId_any _ _ _ _ xs _ _ hr2 hm2).mono ?_
    rintro e w3 ⟨rfl, b3⟩
    have bo3 := bo2.next b3
    have hr3 := hr2.next b3
    have b13 := below_ext (below_ext b1b b2) b3
    have hlt3 := bo3.lt
    obtain ⟨c30, c31, c32⟩ := bo3.cells3
    cases hv : objOkB k xs t
    · have hneg : idR k xs t < 0 := by simp [idR, hv]
      go_wp2_with fail
      go_ret
      exact ⟨ret_bool (by simp), b13⟩
    · have hge : 0 ≤ idR k xs t := by have := (idV_bd (ObjOk.of hv)).1; simp [idR, hv, this]
      by_cases hm0 : m = 0
      · subst hm0
        go_wp2_with fail
        go_ret
        exact ⟨ret_bool (by simp), b13⟩
      · obtain ⟨m, rfl⟩ : ∃ m', m = m' + 1 := ⟨m - 1, by omega⟩
        have hm0' : ((m : Int) + 1 == 0) = false := by simp; omega
        have hm4 : m + 1 ≤ 4 := by have := (ObjOk.of hv).len; have := HM.out; omega
        obtain ⟨ad, rfl, had, hcs⟩ := hr3.2 (by omega)
        have e4 : Below w3.heap.size w3 (w3.alloc (.cells #[.int .i64 k, .slice (some ad) (m + 1) d, .string t] 27)) := below_box _ _
        have hcs4 : ∀ j u, (ints xs)[j]? = some u → ((w3.alloc (.cells #[.int .i64 k, .slice (some ad) (m + 1) d, .string t] 27)).alloc (.cells #[] 3)).cell? (ad.add j) = some u := fun j u hu => by
          rw [ints, List.getElem?_map] at hu
          cases hx : xs[j]? with
          | none => rw [hx] at hu; cases hu
          | some x => rw [hx] at hu; rw [(below_box2 w3 _ _).cell (by rw [block_of_add]; exact had), hcs j x hx]; exact hu
        have hown0 : ((w3.alloc (.cells #[.int .i64 k, .slice (some ad) (m + 1) d, .string t] 27)).alloc (.cells #[] 3)).ownsRow (w3.heap.size + 1) 3 1 (.slice (some ⟨w3.heap.size + 1, 0, none⟩) 0 0) 0 (ints []) := by
          have := World.ownsRow_made (w3.alloc (.cells #[.int .i64 k, .slice (some ad) (m + 1) d, .string t] 27)) (base := w3.heap.size + 1) (e := 3) (size := 1) #[] 0 (by simp) (by simp [maxLen]) rfl
          simpa [ints] using this
        obtain ⟨x, hx⟩ : ∃ x, xs[m]? = some x := ⟨xs[m]'(by have := HM.out; omega), List.getElem?_eq_getElem _⟩
        have hxb := (ObjOk.of hv).mem hx
        obtain ⟨hxb0, hxb1⟩ := hxb
        have HX := Lib.hid hx
        clear hx
        go_wp2_with (at_builtin; refine wpList_app rfl (.tmp 45) (.tmp 47) 22 rfl (w3.heap.size + 1) 3 Try.underlying22 int_info1 rfl (by omega) (by omega) _ 0 _ rfl hown0 ad (m + 1) d (ints xs) rfl (by rw [length_ints, ← HM.out]; omega) hcs4 (by simp [ints, Value.oneCell']) (by omega) (by simp) ?_; intro B' d' w5 hown5a _ hb5 hg5 _; have hown5 : w5.ownsRow (w3.heap.size + 1) 3 1 (.slice B' (m + 1) d') (m + 1) (ints xs) := by simpa [ints] using hown5a
                     obtain ⟨g5, rfl, hg5a, hg5b⟩ := own_addr hown5 (by omega)
                     have q5 : Blk w5 w3.heap.size 27 [.int .i64 k, .slice (some ad) (m + 1) d, .string t] := ((Blk.new w3 27 [.int .i64 k, .slice (some ad) (m + 1) d, .string t]).alloc (.cells #[] 3)).below hb5 (by omega)
                     obtain ⟨q50, q51, q52⟩ := q5.cells3
                     have qf1 := q5.frozen 1
                     clear hown5a)
        have q6 := q5.set_ 1 (.slice (some ⟨g5, 0, none⟩) (m + 1) d')
        have hown6 := hown5.kept (grown_setCell (i := 1) (World.grownBy.refl w5 (some w3.heap.size)) (.slice (some ⟨g5, 0, none⟩) (m + 1) d')) (Or.inr (own_ne_blk hown5 q5 (by decide)))
        have b56 : Below w.heap.size w (w5.setCell ⟨w3.heap.size, 1, none⟩ (.slice (some ⟨g5, 0, none⟩) (m + 1) d')) :=
          ((below_ext b13 (below_box2 w3 (.cells #[.int .i64 k, .slice (some ad) (m + 1) d, .string t] 27) (.cells #[] 3))).trans (hb5.mono (Nat.le_trans b13.size (by simp)))).setCell (p := ⟨w3.heap.size, 1, none⟩) b13.size _
        generalize hW6 : w5.setCell ⟨w3.heap.size, 1, none⟩ (.slice (some ⟨g5, 0, none⟩) (m + 1) d') = w6 at *
        have HW6 := Lib.hid hW6
        clear hW6
        obtain ⟨c60, c61, c62⟩ := Blk.cells3 q6
        have h6c : w6.cell? ⟨g5, m, none⟩ = some (.int .i64 x) := by
          rw [hown6.cellAt m (by omega), ints, List.getElem?_map, HX.out]; rfl
        have h6f := hown6.frozenAt m
        have hi1 : (0 : Int) ≤ (m : Int) := by omega
        have hi2 : (m : Int) < (m : Int) + 1 := by omega
        go_still_tail 14, (by kernel_rfl)
        change wpList _ _ _ _ _ w6.drew
        go_wp2_with fail
        · have hst := hown6.stored m (.int .i64 (x + 1 + (n2 : Int) % 5))
          have hr7 : RInts (w6.setCell ⟨g5, m, none⟩ (.int .i64 (x + 1 + (n2 : Int) % 5))).drew (some ⟨g5, 0, none⟩) (m + 1) (xs.set m (x + 1 + (n2 : Int) % 5)) := RInts.of_own (B := w3.heap.size + 1) (e := 3) (c := d') (by rw [show ints (xs.set m (x + 1 + (n2 : Int) % 5)) = (ints xs).set m (.int .i64 (x + 1 + (n2 : Int) % 5)) by simp [ints, List.map_set]]; exact hst.1)
          have b57 := (b56.setCell (p := ⟨g5, m, none⟩) (by show w.heap.size ≤ g5; have := b13.size; omega) (.int .i64 (x + 1 + (n2 : Int) % 5))).drew
          have hne : (idR k (xs.set m (x + 1 + (n2 : Int) % 5)) t != idR k xs t) = true := by
            have := idR_link (m := m + 1) (x' := x + 1 + (n2 : Int) % 5) hv HM.out (by omega) HX.out (by omega) (by omega)
            simpa using this
          refine (implId_any _ _ _ _ (xs.set m (x + 1 + (n2 : Int) % 5)) _ _ hr7 hm2).mono ?_
          rintro e w8 ⟨rfl, b8⟩
          go_wp2_with fail
          go_ret
          exact ⟨ret_bool (by simp), below_ext b57 b8⟩
        · have b57 := (b56.setCell (p := ⟨g5, m, none⟩) (by show w.heap.size ≤ g5; have := b13.size; omega) (.int .i64 (x + 1 + (n2 : Int) % 5))).drew
          go_ret
          exact ⟨ret_bool (by simp), b57⟩
end Go.Proofs.Ytdcfljkofjobiaa
