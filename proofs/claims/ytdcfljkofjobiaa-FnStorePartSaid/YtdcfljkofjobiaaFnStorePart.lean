/- The law FnStorePart, walked: for every code and every further text it answers true. -/
import Derived.Test.YtdcfljkofjobiaaStoreTop
import Derived.Test.YtdcfljkofjobiaaAppS
namespace Go.Proofs.Ytdcfljkofjobiaa
open Go.RowKit Go.Sort

set_option maxHeartbeats 3200000 in
theorem FnStorePart_walk (A : Option Addr) (n c : Nat) (A2 : Option Addr) (n2 c2 : Nat) (w : World) (h : RBytes w w.heap.size A n ∧ n ≤ c) (hn : n ≤ maxLen) (_h2 : RBytes w w.heap.size A2 n2 ∧ n2 ≤ c2) (hn2 : n2 ≤ maxLen) :
    Calls Try.prog 11 #[.slice A n c, .slice A2 n2 c2] w fun e w' => e = .returned (.bool true) ∧ Below w.heap.size w w' := by
  have hn0 := hn
  unfold maxLen at hn0
  have hn20 := hn2
  unfold maxLen at hn20
  by_cases hs : 1048576 < n
  · go_enter Try.func11, Try.ntmps11
    go_wp2_with fail
    go_ret
    exact ⟨rfl, Below.refl _ _⟩
  · by_cases hs2 : 1048576 < n2
    · go_enter Try.func11, Try.ntmps11
      go_wp2_with fail
      go_ret
      exact ⟨rfl, Below.refl _ _⟩
    · go_enter Try.func11, Try.ntmps11
      go_wp2_with fail
      refine (DrawStoreValid_any A n c w h.1 hn h.2).mono ?_
      rintro e w1 ⟨v, rfl, ⟨m, os, hO, hm, hok⟩, hb1⟩
      obtain ⟨L, d, rfl, hmd⟩ := hO.form
      have hl : os.length = m := OwnR.len hO
      go_wp2_with fail
      refine (implStoreValid_any L m d os _ hO.reads (by simp only [maxLen]; omega)).mono ?_
      rintro e w2 ⟨rfl, hb2⟩
      have hO2 := hO.next hb2
      go_wp2_with fail
      refine (specStoreValid_any L m d os _ hO2.reads (by simp only [maxLen]; omega)).mono ?_
      rintro e w3 ⟨rfl, hb3⟩
      have hO3 := hO2.next hb3
      have b3 := below_ext (below_ext hb1 hb2) hb3
      cases hv : storeB os
      · go_wp2_with fail
        go_ret
        exact ⟨rfl, b3⟩
      · by_cases h0 : m = 0
        · subst h0
          go_wp2_with fail
          go_ret
          exact ⟨rfl, b3⟩
        · have h0b : ((m : Int) == 0) = false := by simp; omega
          have hkm : n2 % m < m := Nat.mod_lt _ (by omega)
          have hke : (n2 : Int) % (m : Int) = ((n2 % m : Nat) : Int) := by omega
          generalize hK : n2 % m = k at *
          have HK := Lib.hid hK
          clear hK
          have i1 : (0 : Int) ≤ (k : Int) := by omega
          have i2 : (k : Int) ≤ (d : Int) := by omega
          have i3 : (k : Int) + 1 ≤ (m : Int) := by omega
          have i4 : (k : Int) + 1 ≤ (d : Int) := by omega
          have i5 : (k : Int) ≤ (m : Int) := by omega
          have i6 : (0 : Int) ≤ (k : Int) + 1 := by omega
          have i7 : (m : Int) ≤ (d : Int) := by omega
          have i8 : IntKind.i64.wrap ((k : Int) + 1) = (k : Int) + 1 := by rw [IntKind.wrap_i64]; omega
          have h3 := hO3.reads
          obtain ⟨b, off, o0, rfl, -, -, -⟩ := h3.at_ (k := 0) (by omega)
          go_wp2_with fail
          rw [hke]
          clear hke
          --REGIONS
          obtain ⟨csx, hclx, hcltx, hcellx, helx, honex⟩ := h3.cellsL
          have hbltx := hcltx (by omega)
          have Ex : Blk (w3.alloc (.cells #[] 27)).drew w3.heap.size 27 [] := Blk.new w3 27 []
          go_region_held3 (fun w' => Below w3.heap.size w3 w')
            (first
              | exact (Below.refl _ _).drew
              | exact below_ext (by assumption) (below_box _ _)
              | exact below_tr (by assumption) hb6x
              | exact below_tr (by assumption) hb5x
              | assumption)
            (first
              | (refine step_appS rfl (.tmp 45) (.tmp 48) 39 rfl w3.heap.size 27 Try.underlying39 obj_info1 rfl (by omega) (by omega) (.slice (some ⟨w3.heap.size, 0, none⟩) 0 0) 0 [] rfl (own_emp (by with_reducible exact Ex) (Nat.le_refl _)) (some ⟨b, off, none⟩) (k) d (csx.take ((k) * 3)) rfl (by rw [List.length_take]; omega) (fun _ => ⟨⟨b, off, none⟩, rfl, fun q u hu => by
                  rw [add_at]
                  rw [List.getElem?_take] at hu
                  split at hu
                  · exact ((by assumption : Below w3.heap.size w3 _).cell (p := ⟨b, off + q, none⟩) hbltx).trans (hcellx q u hu)
                  · cases hu⟩) (fun u hu => honex u (List.mem_of_mem_take hu)) (k) (by omega) (by omega) (Below.size (by assumption)) ?_
                 intro A5x c5x w5x hown5ax _ hb5x hg5x
                 have hown5x : w5x.ownsRow w3.heap.size 27 3 (.slice A5x (k) c5x) (k) (csx.take ((k) * 3)) := by simpa using hown5ax
                 clear hown5ax)
              | (refine step_appS rfl (.tmp 49) (.tmp 53) 39 rfl w3.heap.size 27 Try.underlying39 obj_info1 rfl (by omega) (by omega) (.slice A5x (k) c5x) (k) (csx.take ((k) * 3)) rfl hown5x _ (m - (k + 1)) (d - (k + 1)) (csx.drop ((k + 1) * 3)) rfl (by rw [List.length_drop]; omega) (fun _ => ⟨⟨b, off + (k + 1) * 3, none⟩, if_neg (by omega), fun q u hu => by
                  rw [add_at]
                  rw [List.getElem?_drop] at hu
                  rw [Nat.add_assoc]
                  exact ((by assumption : Below w3.heap.size w3 _).cell (p := ⟨b, off + ((k + 1) * 3 + q), none⟩) hbltx).trans (hcellx _ u hu)⟩) (fun u hu => honex u (List.mem_of_mem_drop hu)) (m - 1) (by omega) (by omega) (Below.size (by assumption)) ?_
                 intro A6x c6x w6x hown6x _ hb6x hg6x
                 try (generalize (if d = k + 1 then some (⟨b, off, none⟩ : Addr) else some (⟨b, off + (k + 1) * 3, none⟩ : Addr)) = q61)))
          have Bx : Below w3.heap.size w3 w6x := by assumption
          have hSx : OwnR w6x w3.heap.size (.slice A6x (m - 1) c6x) (m - 1) (os.take (k) ++ os.drop (k + 1)) (RInts w6x) :=
            ⟨_, hown6x, (((helx.take (k) (by omega)).append (helx.drop (k + 1))).mono fun A m xs hx => hx.next Bx)⟩
          have h3y := h3.next Bx
          go_wp2_with fail
          obtain ⟨csy, hcly, hclty, hcelly, hely, honey⟩ := h3y.cellsL
          have hblty := hclty (by omega)
          have Ey : Blk (w6x.alloc (.cells #[] 27)).drew w6x.heap.size 27 [] := Blk.new w6x 27 []
          go_region_held3 (fun w' => Below w6x.heap.size w6x w')
            (first
              | exact (Below.refl _ _).drew
              | exact below_ext (by assumption) (below_box _ _)
              | exact below_tr (by assumption) hb6y
              | exact below_tr (by assumption) hb5y
              | assumption)
            (first
              | (refine step_appS rfl (.tmp 55) (.tmp 59) 39 rfl w6x.heap.size 27 Try.underlying39 obj_info1 rfl (by omega) (by omega) (.slice (some ⟨w6x.heap.size, 0, none⟩) 0 0) 0 [] rfl (own_emp (by with_reducible exact Ey) (Nat.le_refl _)) (some ⟨b, off, none⟩) (k + 1) d (csy.take ((k + 1) * 3)) rfl (by rw [List.length_take]; omega) (fun _ => ⟨⟨b, off, none⟩, rfl, fun q u hu => by
                  rw [add_at]
                  rw [List.getElem?_take] at hu
                  split at hu
                  · exact ((by assumption : Below w6x.heap.size w6x _).cell (p := ⟨b, off + q, none⟩) hblty).trans (hcelly q u hu)
                  · cases hu⟩) (fun u hu => honey u (List.mem_of_mem_take hu)) (k + 1) (by omega) (by omega) (Below.size (by assumption)) ?_
                 intro A5y c5y w5y hown5ay _ hb5y hg5y
                 have hown5y : w5y.ownsRow w6x.heap.size 27 3 (.slice A5y (k + 1) c5y) (k + 1) (csy.take ((k + 1) * 3)) := by simpa using hown5ay
                 clear hown5ay)
              | (refine step_appS rfl (.tmp 60) (.tmp 63) 39 rfl w6x.heap.size 27 Try.underlying39 obj_info1 rfl (by omega) (by omega) (.slice A5y (k + 1) c5y) (k + 1) (csy.take ((k + 1) * 3)) rfl hown5y _ (m - (k)) (d - (k)) (csy.drop ((k) * 3)) rfl (by rw [List.length_drop]; omega) (fun _ => ⟨⟨b, off + (k) * 3, none⟩, if_neg (by omega), fun q u hu => by
                  rw [add_at]
                  rw [List.getElem?_drop] at hu
                  rw [Nat.add_assoc]
                  exact ((by assumption : Below w6x.heap.size w6x _).cell (p := ⟨b, off + ((k) * 3 + q), none⟩) hblty).trans (hcelly _ u hu)⟩) (fun u hu => honey u (List.mem_of_mem_drop hu)) (m + 1) (by omega) (by omega) (Below.size (by assumption)) ?_
                 intro A6y c6y w6y hown6y _ hb6y hg6y
                 try (generalize (if d = k then some (⟨b, off, none⟩ : Addr) else some (⟨b, off + (k) * 3, none⟩ : Addr)) = q61)))
          have By : Below w6x.heap.size w6x w6y := by assumption
          have hSy : OwnR w6y w6x.heap.size (.slice A6y (m + 1) c6y) (m + 1) (os.take (k + 1) ++ os.drop (k)) (RInts w6y) :=
            ⟨_, hown6y, (((hely.take (k + 1) (by omega)).append (hely.drop (k))).mono fun A m xs hx => hx.next By)⟩
          have hSx2 := hSx.mono fun A m xs (hx : RInts w6x A m xs) => hx.next By
          have hrx : RObjs w6y A6x (m - 1) (os.take k ++ os.drop (k + 1)) := OwnR.reads (R := RInts w6y) (by
            obtain ⟨csz, hz1, hz2⟩ := hSx2
            exact ⟨csz, own_below hz1 By, hz2⟩) (fun _ _ _ hx => hx)
          have hry : RObjs w6y A6y (m + 1) (os.take (k + 1) ++ os.drop k) := OwnR.reads hSy (fun _ _ _ hx => hx)
          have b6 := below_ext (below_ext b3 Bx) By
          go_wp2_with fail
          refine (implStoreValid_any A6x (m - 1) c6x _ _ hrx (by simp only [maxLen]; omega)).mono ?_
          rintro e w7 ⟨rfl, hb7⟩
          have v1 := storeB_less hv k
          rw [v1]
          go_wp2_with fail
          refine (implStoreValid_any A6y (m + 1) c6y _ _ (hry.next hb7) (by simp only [maxLen]; omega)).mono ?_
          rintro e w8 ⟨rfl, hb8⟩
          have v2 := storeB_twice (os := os) k (by omega)
          rw [v2]
          go_wp2_with fail
          go_ret
          exact ⟨rfl, below_ext (below_ext b6 hb7) hb8⟩
          --END
end Go.Proofs.Ytdcfljkofjobiaa
