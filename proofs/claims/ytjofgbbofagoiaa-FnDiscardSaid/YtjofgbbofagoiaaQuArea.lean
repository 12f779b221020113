/- Walks: l92Txn, l92Area; DrawQuarantinePromote, DrawQuarantineDiscard. -/
import Derived.Test.YtjofgbbofagoiaaQuDrawV
import Derived.Test.YtjofgbbofagoiaaQuDisc
import Derived.Deep.RegionHeld3
namespace Go.Proofs.Ytjofgbbofagoiaa
open Go.RowKit Go.Sort

set_option maxHeartbeats 1600000 in
theorem l92Txn_any (g p : Nat) (w : World) (h : Rd w g p) (hp : p ≤ 900000) :
    Calls Try.prog 63 #[.pointer (some ⟨g, 0, none⟩)] w (Drawn g p 5 w (IsInt (-1) 12)) := by
  go_enter Try.func63, Try.ntmps63
  go_wp2_with fail
  refine (pick_any g p 24 _ h (by omega) (by omega) (by omega)).mono ?_
  rintro e w1 ⟨v1, rfl, h10, h11, hr1, hg1⟩
  go_wp2_with fail
  · refine (pick_any g _ 3 _ (hr1.keep (below_box _ _)) (by omega) (by omega) (by omega)).mono ?_
    rintro e w2 ⟨v2, rfl, h20, h21, hr2, hg2⟩
    have hbl := (Blk.new w1 3 [.int .i64 (-1), .int .i64 11, .int .i64 12]).grown hg2 (by have := hr1.lt; simp; omega)
    obtain ⟨c0, c1, c2⟩ := hbl.cells3
    have hv : v2 = 0 ∨ v2 = 1 ∨ v2 = 2 := by omega
    rcases hv with rfl | rfl | rfl
    all_goals
      go_wp2
      go_ret
      exact ⟨_, _, rfl, ⟨_, rfl, by omega, by omega⟩, by omega, hr2, grown_trans (grown_below hg1 (below_box _ _)) hg2⟩
  · refine (pick_any g _ 5 _ hr1 (by omega) (by omega) (by omega)).mono ?_
    rintro e w2 ⟨v2, rfl, h20, h21, hr2, hg2⟩
    go_wp2
    go_ret
    exact ⟨_, _, rfl, ⟨_, rfl, by omega, by omega⟩, by omega, hr2, grown_trans hg1 hg2⟩
theorem OwnA.tx {w : World} {B m d g0 : Nat} {ars : List Ar} (h : OwnA w B (.slice (some ⟨g0, 0, none⟩) m d) m ars) : ∀ k2 : Nat, k2 < m → w.cell? ⟨g0, k2 * 2, none⟩ = some (.int .i64 (ars[k2]?.getD default).t) := fun k2 hk => by
  have hl := h.len
  obtain ⟨b, off, a, cs', hC, hbb, ha, hcx, hvx⟩ := h.rsl.at_ hk
  obtain ⟨L, ml, dl, rfl, -, -⟩ := repAr_cells hvx
  injection hC with hC
  injection hC with h1 h2 _
  subst h1 h2
  have := hcx 0 _ rfl
  rw [ha]
  simpa [repAr, repAs, rep2, repInt, repSl] using this
set_option maxRecDepth 100000 in
set_option maxHeartbeats 3200000 in
theorem l92Area_any (g p B : Nat) (cs : List Value) (q : Qu) (w : World) (h : Rd w g p) (hp : p ≤ 700000) (hQ : OwnQ w B cs q) (hB : g < B) (hT : tinyQ q) :
    Calls Try.prog 39 #[.pointer (some ⟨g, 0, none⟩), .agg cs.toArray] w (Drawn g p 10 w fun v _ => ∃ z : Int, v = .int .i64 z) := by
  have hgw := h.lt
  obtain ⟨A, n, c, C, m, d, rfl, hqa, hqb⟩ := id hQ
  clear hqa hqb
  have b0 := below_box w (.cells #[.slice A n c, .slice C m d] 26)
  have x0 := Blk.new w 26 [.slice A n c, .slice C m d]
  have hQ0 := hQ.next b0
  have h0 := h.keep b0
  obtain ⟨y0, y1⟩ := x0.cells2
  have hg0 := grown_below (World.grownBy.refl w (some g)) b0
  have hml : q.ars.length = m := OwnA.len hQ.main.2
  have HM := Lib.hid hml
  clear hml
  have hm10 : m ≤ 10 := by have := HM.out; have := hT.2.2.1; omega
  go_enter Try.func39, Try.ntmps39
  by_cases h00 : m = 0
  · subst h00
    go_wp2_with fail
    refine (l92Txn_any g p _ h0 (by omega)).mono ?_
    rintro e w2 ⟨v2, p2, rfl, ⟨z, rfl, -, -⟩, hp2, hr2, hg2⟩
    go_wp2_with fail
    go_ret
    exact ⟨_, p2, rfl, ⟨z, rfl⟩, by omega, hr2, grown_trans hg0 hg2⟩
  · have h0i : decide ((m : Int) > 0) = true := by simp; omega
    have h0j : decide (0 < (m : Int)) = true := by simp; omega
    go_wp2_with fail
    refine (pick_any g p 4 _ h0 (by omega) (by omega) (by omega)).mono ?_
    rintro e w1 ⟨v1, rfl, h10, h11, hr1, hg1⟩
    have x1 := x0.grown hg1 (fun e => by injection e with e; omega)
    have hQ1 := hQ0.grown hg1 hB
    obtain ⟨y10, y11⟩ := x1.cells2
    by_cases hv1 : 0 < v1
    · have hv1i : decide (v1 > 0) = true := decide_eq_true hv1
      have hv1j : decide (0 < v1) = true := decide_eq_true hv1
      have hbd : Below w1.heap.size w1 w1.drew := (Below.refl _ _).drew
      have hr1d := hr1.keep hbd
      have hm1 : (1 : Int) ≤ (m : Int) := by omega
      have hm2 : (m : Int) ≤ 1000 := by omega
      obtain ⟨cs0, hown, -⟩ := hQ1.main.2
      obtain ⟨g0, rfl, -, -⟩ := own_addr hown (by omega)
      have hx1 := hQ1.main.2.tx
      clear y0 y1 hown
      go_wp2_with fail
      go_region_held3 (fun w' => w'.cell? ⟨w.heap.size, 0, none⟩ = some (.slice A n c) ∧ w'.cell? ⟨w.heap.size, 1, none⟩ = some (.slice (some ⟨g0, 0, none⟩) m d) ∧ ∀ k2 : Nat, k2 < m → w'.cell? ⟨g0, k2 * 2, none⟩ = some (.int .i64 (q.ars[k2]?.getD default).t))
        (first
          | exact ⟨y10, y11, hx1⟩
          | exact ⟨y20, y21, hx2⟩)
        (first
          | (go_simp; go_at_call 41; refine (pick_any g _ (m : Int) _ hr1d (by omega) hm1 hm2).mono ?_
             rintro e w2 ⟨v2, rfl, h20, h21, hr2, hg2⟩
             have x2 := (x1.next hbd).grown hg2 (fun e => by injection e with e; omega)
             have hQ2 := (hQ1.next hbd).grown hg2 hB
             obtain ⟨y20, y21⟩ := x2.cells2
             obtain ⟨k2, rfl⟩ := Int.eq_ofNat_of_zero_le h20
             have hk2 : k2 < m := by omega
             have hx2 := hQ2.main.2.tx
             have hx2' := hx2 k2 hk2))
      go_wp2_with fail
      go_ret
      exact ⟨_, _, rfl, ⟨_, rfl⟩, by omega, hr2, grown_trans (grown_below (grown_trans hg0 hg1) hbd) hg2⟩
    · have hv1i : decide (v1 > 0) = false := decide_eq_false hv1
      have hv1j : decide (0 < v1) = false := decide_eq_false hv1
      go_wp2_with fail
      refine (l92Txn_any g _ _ hr1 (by omega)).mono ?_
      rintro e w2 ⟨v2, p2, rfl, ⟨z, rfl, -, -⟩, hp2, hr2, hg2⟩
      go_wp2_with fail
      go_ret
      exact ⟨_, p2, rfl, ⟨z, rfl⟩, by omega, hr2, grown_trans (grown_trans hg0 hg1) hg2⟩
end Go.Proofs.Ytjofgbbofagoiaa
