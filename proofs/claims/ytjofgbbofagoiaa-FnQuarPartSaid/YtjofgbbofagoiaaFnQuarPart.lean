/- The law FnQuarPart, walked: for every code and every further text it answers true. -/
import Derived.Test.YtjofgbbofagoiaaQuDrawV
import Derived.Deep.RegionHeld3
namespace Go.Proofs.Ytjofgbbofagoiaa
open Go.RowKit Go.Sort

theorem below_trB {a b c : World} {B B' : Nat} (h : Below B a b) (k : Below B' b c) (hB : B ≤ B') : Below B a c := h.trans (k.mono hB)
theorem ElemsA.one {w : World} {B : Nat} {cs : List Value} {ars : List Ar} (h : ElemsA cs ars (ObIn w B)) : ∀ u ∈ cs, u.oneCell' = true := fun u hu => by
  obtain ⟨i, x, v, _, ⟨A, n, c, rfl, _⟩, rfl | rfl⟩ := h.at2 u hu <;> rfl
set_option maxRecDepth 100000 in
set_option maxHeartbeats 3200000 in
theorem FnQuarPart_walk (A : Option Addr) (n c : Nat) (A2 : Option Addr) (n2 c2 : Nat) (w : World) (h : RBytes w w.heap.size A n ∧ n ≤ c) (hn : n ≤ maxLen) (_h2 : RBytes w w.heap.size A2 n2 ∧ n2 ≤ c2) (hn2 : n2 ≤ maxLen) :
    Calls Try.prog 5 #[.slice A n c, .slice A2 n2 c2] w fun e w' => e = .returned (.bool true) ∧ Below w.heap.size w w' := by
  have hn0 := hn
  unfold maxLen at hn0
  have hn20 := hn2
  unfold maxLen at hn20
  by_cases hs : 1048576 < n
  · go_enter Try.func5, Try.ntmps5
    go_wp2_with fail
    go_ret
    exact ⟨rfl, Below.refl _ _⟩
  · by_cases hs2 : 1048576 < n2
    · go_enter Try.func5, Try.ntmps5
      go_wp2_with fail
      go_ret
      exact ⟨rfl, Below.refl _ _⟩
    · go_enter Try.func5, Try.ntmps5
      go_wp2_with fail
      refine (DrawQuarantineValid_any A n c w h.1 hn h.2).mono ?_
      rintro e w1 ⟨cs, q, rfl, hQ, hT, hb1⟩
      obtain ⟨RA, rn, rc, C, m, d, rfl, hqa, hqb⟩ := id hQ
      clear hqa hqb
      have eb := below_box w1 (.cells #[.slice RA rn rc, .slice C m d] 26)
      have x2 := Blk.new w1 26 [.slice RA rn rc, .slice C m d]
      have hQ2 := hQ.next eb
      have bb2 := below_ext hb1 eb
      obtain ⟨y0, y1⟩ := x2.cells2
      go_wp2_with fail
      refine (implQuarantineValid_any _ q _ hQ2.rep0).mono ?_
      rintro e w3 ⟨rfl, hb3⟩
      have hQ3 := hQ2.next hb3
      have x3 := x2.next hb3
      have bb3 := below_ext bb2 hb3
      obtain ⟨y30, y31⟩ := x3.cells2
      clear y0 y1 x2 hQ hQ2 hb1 eb bb2 hb3
      generalize w1.heap.size = gq at *
      go_wp2_with fail
      refine (specQuarantineValid_any _ q _ hQ3.rep0).mono ?_
      rintro e w4 ⟨rfl, hb4⟩
      have hQ4 := hQ3.next hb4
      have x4 := x3.next hb4
      have bb4 := below_ext bb3 hb4
      obtain ⟨y40, y41⟩ := x4.cells2
      have hml : q.ars.length = m := OwnA.len hQ4.main.2
      have HM := Lib.hid hml
      clear y30 y31 x3 hQ3 bb3 hb4 hml
      cases hv : quarB q
      · have hne : ((false : Bool) != false) = false := rfl
        go_wp2_with fail
        go_ret
        exact ⟨rfl, bb4⟩
      · have hne : ((true : Bool) != true) = false := rfl
        have hm4 : m ≤ 4 := by have := (quarB_parts hv).2.2; have := HM.out; omega
        obtain ⟨_, _, h9, hmd⟩ := OwnA.form hQ4.main.2
        injection h9 with h91 h92 h93
        subst h91 h93
        clear h92
        by_cases h0 : m = 0
        · subst h0
          go_wp2_with fail
          go_ret
          exact ⟨rfl, bb4⟩
        · have h0b : ((m : Int) == 0) = false := by simp; omega
          have hkm : n2 % m < m := Nat.mod_lt _ (by omega)
          have hke : (n2 : Int) % (m : Int) = ((n2 % m : Nat) : Int) := by omega
          generalize hK : n2 % m = k at *
          have HK := Lib.hid hK
          clear hK
          have HV := Lib.hid (quar_part hv k)
          obtain ⟨cs0, hown, hel⟩ := hQ4.main.2
          obtain ⟨g, rfl, hg1, hg2⟩ := own_addr hown (by omega)
          have hel' := hel
          have hcl := hel.1
          have hone := hel.one
          have i1 : (0 : Int) ≤ (k : Int) := by omega
          have i2 : (k : Int) ≤ (d : Int) := by omega
          have i3 : (k : Int) + 1 ≤ (m : Int) := by omega
          have i4 : (k : Int) + 1 ≤ (d : Int) := by omega
          have i5 : (k : Int) ≤ (m : Int) := by omega
          have i6 : (0 : Int) ≤ (k : Int) + 1 := by omega
          have i7 : (m : Int) ≤ (d : Int) := by omega
          have i8 : IntKind.i64.wrap ((k : Int) + 1) = (k : Int) + 1 := by rw [IntKind.wrap_i64]; omega
          go_wp2_with fail
          try rw [hke]
          have ex := below_box w4 (.cells #[.slice RA rn rc, .slice (some ⟨g, 0, none⟩) m d] 26)
          have bx := Blk.new w4 26 [.slice RA rn rc, .slice (some ⟨g, 0, none⟩) m d]
          have x5 := x4.next ex
          have hQ5 := hQ4.next ex
          have bb5 := below_ext bb4 ex
          have hown5 := own_below hown ex
          have hel5 := hel.mono fun _ _ hx => hx.next ex
          have hgq : gq < w4.heap.size := x4.lt
          have hgl : g < w4.heap.size := hg2
          have hwx : w.heap.size ≤ w4.heap.size := bb4.size
          have HQ := Lib.hid (fun (w' : World) (hb' : Below w4.heap.size (w4.alloc (.cells #[.slice RA rn rc, .slice (some ⟨g, 0, none⟩) m d] 26)) w') => (⟨hQ4.next (ex.trans hb'), hel.mono fun _ _ hx => hx.next (ex.trans hb')⟩ : OwnQ w' w.heap.size [.slice RA rn rc, .slice (some ⟨g, 0, none⟩) m d] q ∧ ElemsA cs0 q.ars (ObIn w' w.heap.size)))
          clear hel hel' hown hQ4 ex bb4 x4 y40 y41
          generalize hW5 : w4.alloc (.cells #[.slice RA rn rc, .slice (some ⟨g, 0, none⟩) m d] 26) = w5 at *
          clear hW5
          generalize w4.heap.size = gx at *
          obtain ⟨y50, y51⟩ := x5.cells2
          obtain ⟨z50, z51⟩ := bx.cells2
          have hgx : gx < w5.heap.size := bx.lt
          have hcell : ∀ (j : Nat) (u : Value), cs0[j]? = some u → w5.cell? ⟨g, j, none⟩ = some u := fun j u hu => by
            have := hown5.cells (g := g) rfl j u hu
            rw [add_flat, Nat.zero_add] at this
            exact this
          have hmc : m * 2 = cs0.length := by have := HM.out; omega
          have HKB := Lib.hid (fun (w' : World) (hb' : Below gx w5 w') => (⟨(hb'.cell (p := ⟨gq, 1, none⟩) hgq).trans y51, hb'⟩ : w'.cell? ⟨gq, 1, none⟩ = some (.slice (some ⟨g, 0, none⟩) m d) ∧ Below gx w5 w'))
          have hbd : Below gx w5 w5.drew := (Below.refl _ _).drew
          have bE : Below gx w5 (w5.alloc (.cells #[] 70)).drew := ((below_box w5 _).mono (Nat.le_of_lt hgx)).drew
          have Ex : Blk (w5.alloc (.cells #[] 70)).drew w5.heap.size 70 [] := Blk.new w5 70 []
          have bxE := (bx.next (below_box w5 (.cells #[] 70))).drew
          go_region_held3 (fun w' => w'.cell? ⟨gq, 1, none⟩ = some (.slice (some ⟨g, 0, none⟩) m d) ∧ Below gx w5 w')
            (first
              | exact HKB.out _ hbd
              | exact HKB.out _ bE
              | exact HKB.out _ bb6
              | exact HKB.out _ bb7
              | exact HKB.out _ bb8)
            (first
              | (refine step_appS rfl (.tmp 47) (.tmp 51) 24 rfl w5.heap.size 70 Try.underlying24 ar_info1 rfl (by omega) (by omega) (.slice (some ⟨w5.heap.size, 0, none⟩) 0 0) 0 [] rfl (own_emp (by with_reducible exact Ex) (Nat.le_refl _)) (some ⟨g, 0, none⟩) k d (cs0.take (k * 2)) rfl (by rw [List.length_take]; omega) (fun _ => ⟨⟨g, 0, none⟩, rfl, fun q u hu => by
                  rw [add_flat, Nat.zero_add]
                  rw [List.getElem?_take] at hu
                  split at hu
                  · exact (bE.cell (p := ⟨g, q, none⟩) hgl).trans (hcell q u hu)
                  · cases hu⟩) (fun u hu => hone u (List.mem_of_mem_take hu)) k (by omega) (by omega) (by simp) ?_
                 intro A6 c6 w6 hown6a _ hb6 hg6
                 have hown6 : w6.ownsRow w5.heap.size 70 2 (.slice A6 k c6) k (cs0.take (k * 2)) := by simpa using hown6a
                 have bb6 := below_trB bE hb6 (Nat.le_of_lt hgx)
                 have bx6 := bxE.below hb6 hgx
                 clear hown6a)
              | (refine step_appS rfl (.tmp 52) (.tmp 57) 24 rfl w5.heap.size 70 Try.underlying24 ar_info1 rfl (by omega) (by omega) (.slice A6 k c6) k (cs0.take (k * 2)) rfl hown6 _ (m - (k + 1)) (d - (k + 1)) (cs0.drop ((k + 1) * 2)) rfl (by rw [List.length_drop]; omega) (fun _ => ⟨⟨g, (k + 1) * 2, none⟩, if_neg (by omega), fun q u hu => by
                  rw [add_flat]
                  rw [List.getElem?_drop] at hu
                  exact (bb6.cell (p := ⟨g, (k + 1) * 2 + q, none⟩) hgl).trans (hcell _ u hu)⟩) (fun u hu => hone u (List.mem_of_mem_drop hu)) (m - 1) (by omega) (by omega) (by have := hb6.size; have := hg6.size; simp at this; omega) ?_
                 intro A7 c7 w7 hown7 _ hb7 hg7
                 have bb7 := below_trB bb6 hb7 (Nat.le_of_lt hgx)
                 have bx7 := bx6.below hb7 hgx
                 obtain ⟨z70, z71⟩ := bx7.cells2
                 have f71 := bx7.frozen 1
                 have bb8 := bb7.setCell (p := ⟨gx, 1, none⟩) (Nat.le_refl _) (.slice A7 (m - 1) c7)
                 try (generalize (if d = k + 1 then some (⟨g, 0, none⟩ : Addr) else some (⟨g, (k + 1) * 2, none⟩ : Addr)) = q61)))
          have hE7 : OwnA w7 w.heap.size (.slice A7 (m - 1) c7) (m - 1) (q.ars.take k ++ q.ars.drop (k + 1)) := ⟨_, own_base hown7 (by omega), ((HQ.out w7 bb7).2.take k (by have := HM.out; omega)).append ((HQ.out w7 bb7).2.drop (k + 1))⟩
          have hEZ := hE7.other (grownSetQ w7 gx 1 (.slice A7 (m - 1) c7)) (fun g' e => by
            injection e with e
            subst e
            exact ⟨_, _, _, bx7, by decide, by decide, by decide⟩)
          have bxZ := bx7.set_ 1 (.slice A7 (m - 1) c7)
          simp only [List.set_cons_zero, List.set_cons_succ] at bxZ
          have hQZ : OwnQ (w7.setCell ⟨gx, 1, none⟩ (.slice A7 (m - 1) c7)) w.heap.size [.slice RA rn rc, .slice A7 (m - 1) c7] ⟨q.main, q.ars.take k ++ q.ars.drop (k + 1)⟩ := ⟨RA, rn, rc, A7, m - 1, c7, rfl, (HQ.out _ bb8).1.main.1, hEZ⟩
          have bbZ := bb5.trans (bb8.mono hwx)
          generalize w7.setCell ⟨gx, 1, none⟩ (.slice A7 (m - 1) c7) = wZ at *
          obtain ⟨zz0, zz1⟩ := bxZ.cells2
          clear bb8
          go_wp2_with fail
          refine (implQuarantineValid_any _ ⟨q.main, q.ars.take k ++ q.ars.drop (k + 1)⟩ _ hQZ.rep0).mono ?_
          rw [HV.out]
          rintro e w8 ⟨rfl, hb8⟩
          go_wp2_with fail
          go_ret
          exact ⟨rfl, below_ext bbZ hb8⟩
end Go.Proofs.Ytjofgbbofagoiaa
