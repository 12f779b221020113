/- Walks: drawing a store (l91Spoilt, DrawStoreValid). -/
import Derived.Test.YtjofgbbofagoiaaStore
namespace Go.Proofs.Ytjofgbbofagoiaa
open Go.RowKit Go.Sort

theorem IsStore.base {B B' M : Nat} {v : Value} {w : World} (h : IsStore B M v w) (hB : B' ≤ B) : IsStore B' M v w := let ⟨m, os, h1, h2⟩ := h; ⟨m, os, h1.base hB, h2⟩
theorem IsStore.more {B M M' : Nat} {v : Value} {w : World} (h : IsStore B M v w) (hM : M ≤ M') : IsStore B M' v w := let ⟨m, os, h1, h2, h3⟩ := h; ⟨m, os, h1, Nat.le_trans h2 hM, h3⟩
theorem below_grown {w0 w w' : World} {g B : Nat} (h : Below B w0 w) (hg : w.grownBy w' (some g)) (hgB : B ≤ g) (hB : B ≤ w.heap.size) : Below B w0 w' :=
  h.trans ⟨hg.os, hg.tape, hg.output, hg.size, fun k hk => hg.block k (by omega) (by intro e; injection e with e; omega)⟩
theorem Rd.below {w w' : World} {g p B : Nat} (h : Rd w g p) (hb : Below B w w') (hg : g < B) : Rd w' g p := by
  obtain ⟨A, n, c, h1, h2, h3⟩ := h
  exact ⟨A, n, c, h1.below hb hg, h2, h3.keep fun a ha => hb.cell (by omega)⟩

set_option maxHeartbeats 1600000 in
theorem l91Spoilt_any (g p : Nat) (w : World) (h : Rd w g p) (hp : p ≤ 600000) :
    Calls Try.prog 78 #[.pointer (some ⟨g, 0, none⟩)] w (Drawn g p 5010 w (IsStore w.heap.size 21)) := by
  have hgw := h.lt
  go_enter Try.func78, Try.ntmps78
  go_wp2_with fail
  refine (l91Store_any g p _ h (by omega)).mono ?_
  rintro e w1 ⟨v, q1, rfl, ⟨m, os, hO, hm, hok⟩, hq1, hr1, hg1⟩
  obtain ⟨A, c, rfl, hmc⟩ := hO.form
  by_cases h0 : m = 0
  · subst h0
    go_wp2_with fail
    go_ret
    exact ⟨_, q1, rfl, ⟨0, os, hO, by omega, hok⟩, by omega, hr1, hg1⟩
  · have hl : os.length = m := OwnR.len hO
    have h0b : ((m : Int) == 0) = false := by simp; omega
    go_wp2_with fail
    refine (pick_any g _ 20 _ hr1 (by omega) (by omega) (by omega)).mono ?_
    rintro e w2 ⟨v2, rfl, h20, h21, hr2, hg2⟩
    have hO2 := hO.grown hg2 hgw
    have hG2 := grown_trans hg1 hg2
    by_cases hv2 : v2 = 0
    · subst hv2
      go_wp2_with fail
      refine (pick_any g _ m _ hr2 (by omega) (by omega) (by omega)).mono ?_
      rintro e w3 ⟨v3, rfl, h30, h31, hr3, hg3⟩
      have hO3 := hO2.grown hg3 hgw
      have hG3 := grown_trans hG2 hg3
      have hrd3 := hO3.reads
      obtain ⟨k, rfl⟩ := Int.eq_ofNat_of_zero_le h30
      obtain ⟨b, off, o, rfl, hb, hx, hob⟩ := hrd3.at_ (k := k) (by omega)
      obtain ⟨cs, hown, hel⟩ := hO3
      obtain ⟨A', m', d', e0, e1, e2, hlk, hm', ht'⟩ := hel.2 k o hx
      obtain ⟨gg, hga, hgb, hgl⟩ := own_addr hown (by omega)
      injection hga with hga
      obtain ⟨rfl, rfl, -⟩ : b = gg ∧ off = 0 ∧ True := by injection hga with h1 h2 h3; exact ⟨h1, h2, trivial⟩
      have hc : ∀ (j : Nat) (u : Value), cs[j]? = some u → w3.cell? ⟨b, j, none⟩ = some u := fun j u hu => by
        have := hown.cells (g := b) rfl j u hu
        rw [add_at] at this; rwa [Nat.zero_add] at this
      have c0 := hc _ _ e0
      have c1 := hc _ _ e1
      have c2 := hc _ _ e2
      have hok' := hok o (List.mem_of_getElem? hx)
      have hown4 := own_below hown (below_box w3 (.cells #[.int .i64 o.k, .slice A' m' d', .string o.t] 33))
      have hel4 := (hel.mono fun A m xs (hx : LinkIn w3 w.heap.size A m xs) => hx.next (below_box w3 (.cells #[.int .i64 o.k, .slice A' m' d', .string o.t] 33)))
      have hlk4 := hlk.next (below_box w3 (.cells #[.int .i64 o.k, .slice A' m' d', .string o.t] 33))
      have bo4 := Blk.new w3 33 [.int .i64 o.k, .slice A' m' d', .string o.t]
      have hz4 : w.heap.size ≤ (w3.alloc (.cells #[.int .i64 o.k, .slice A' m' d', .string o.t] 33)).heap.size := Nat.le_trans hG3.size (by simp)
      go_wp2_with (at_builtin; go_loud (refine wpList_app rfl (.tmp 15) (.tmp 23) 23 rfl w.heap.size 33 Try.underlying23 obj_info1 rfl (by omega) (by omega) _ m cs rfl hown4 ⟨w3.heap.size, 0, none⟩ 1 1 [.int .i64 o.k, .slice A' m' d', .string o.t] rfl rfl (bo4.cellsAt) (by simp [Value.oneCell']) (by omega) hz4 ?_; intro B' d5 w5 hown5 _ hb5 hg5 _))
      go_ret
      refine ⟨_, q1 + 1 + 1, rfl, ⟨m + 1, os ++ [o], OwnO.push hown4 hel4 hlk4 hm' ht' hg5 hown5, by omega, ?_⟩, by omega, ?_, ?_⟩
      · intro x hx'
        simp only [List.mem_append, List.mem_singleton] at hx'
        rcases hx' with hx' | rfl
        · exact hok x hx'
        · exact hok'
      · exact (hr3.keep (below_box _ _)).below hb5 hgw
      · have h3 := grown_below hG3 (below_box w3 (.cells #[.int .i64 o.k, .slice A' m' d', .string o.t] 33))
        exact ⟨hb5.os.trans h3.os, hb5.tape.trans h3.tape, hb5.output.trans h3.output, Nat.le_trans h3.size hb5.size, fun i hi hne => (hb5.block i hi).trans (h3.block i hi hne)⟩
    · have hv2' : decide (v2 > 0) = true := by simp; omega
      go_wp2_with fail
      go_ret
      exact ⟨_, q1 + 1, rfl, ⟨m, os, hO2, by omega, hok⟩, by omega, hr2, hG2⟩

end Go.Proofs.Ytjofgbbofagoiaa
