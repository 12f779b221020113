/- Walks: drawing locks, transactions: only what bounds the results is said. -/
import Derived.Test.YtlmcejpjhdaanaaDraw
import Derived.Test.YtlmcejpjhdaanaaCopyC
import Derived.Test.YtlmcejpjhdaanaaCoI
import Derived.Deep.CutBlock
import Derived.Deep.RegionLaw
namespace Go.Proofs.Ytlmcejpjhdaanaa
open Go.RowKit Go.Sort

theorem own_blkI {w : World} {base g n d size : Nat} {e : TypeId} {xs : List Value} (h : w.ownsRow base e size (.slice (some ⟨g, 0, none⟩) n d) n xs) : ∃ cs, Blk w g e cs ∧ base ≤ g ∧ cs.take (n * size) = xs := by
  rcases h.2 with ⟨h0, _⟩ | ⟨g', cap, cur, hv, hb, hh, h1, h2, h3, h4⟩
  · cases h0
  · injection hv with hv1 _ hv3
    injection hv1 with hv1
    injection hv1 with hv1 _ _
    subst hv1
    exact ⟨cur.toList, by unfold Blk; simpa using hh, hb, h4⟩
theorem own_setI {w : World} {base g n d : Nat} {e : TypeId} {xs : List Value} (h : w.ownsRow base e 1 (.slice (some ⟨g, 0, none⟩) n d) n xs) (i : Nat) (u : Value) :
    (w.setCell ⟨g, i, none⟩ u).ownsRow base e 1 (.slice (some ⟨g, 0, none⟩) n d) n (xs.set i u) := by
  refine ⟨by rw [List.length_set]; exact h.1, ?_⟩
  rcases h.2 with ⟨h0, _⟩ | ⟨g', cap, cur, hv, hb, hh, h1, h2, h3, h4⟩
  · cases h0
  · injection hv with hv1 _ hv3
    injection hv1 with hv1
    injection hv1 with hv1 _ _
    subst hv1
    subst hv3
    have hB : Blk w g e cur.toList := by unfold Blk; simpa using hh
    have hB' := hB.set_ i u
    unfold Blk at hB'
    refine .inr ⟨g, d, (cur.toList.set i u).toArray, rfl, hb, hB', h1, h2, by simpa using h3, ?_⟩
    rw [List.toList_toArray, ← h4, List.take_set]
theorem ints_set (xs : List Int) (i : Nat) (z : Int) : (ints xs).set i (.int .i64 z) = ints (xs.set i z) := by unfold ints; rw [List.map_set]
theorem own_baseL {w : World} {base base' : Nat} {e : TypeId} {size n : Nat} {v : Value} {xs : List Value} (h : w.ownsRow base e size v n xs) (hb : base' ≤ base) : w.ownsRow base' e size v n xs := by
  refine ⟨h.1, ?_⟩
  rcases h.2 with h0 | ⟨g, cap, cur, hv, hg, r⟩
  · exact Or.inl h0
  · exact Or.inr ⟨g, cap, cur, hv, Nat.le_trans hb hg, r⟩
def IsInt (lo hi : Int) (v : Value) (_ : World) : Prop := ∃ z : Int, v = .int .i64 z ∧ lo ≤ z ∧ z ≤ hi
theorem own_grown {w w' : World} {base g : Nat} {e : TypeId} {size n : Nat} {v : Value} {xs : List Value} (h : w.ownsRow base e size v n xs) (hg : w.grownBy w' (some g)) (hb : g < base) : w'.ownsRow base e size v n xs :=
  h.kept hg (Or.inr fun he => by have := (h.lt g he).1; omega)

set_option maxHeartbeats 1600000 in
theorem l92Value_any (g p : Nat) (w : World) (h : Rd w g p) (hp : p ≤ 900000) :
    Calls Try.prog 103 #[.pointer (some ⟨g, 0, none⟩)] w (Drawn g p 5 w (IsInt (-2) 991)) := by
  go_enter Try.func103, Try.ntmps103
  go_wp2_with fail
  refine (pick_any g p 30 _ h (by omega) (by omega) (by omega)).mono ?_
  rintro e w1 ⟨v1, rfl, h10, h11, hr1, hg1⟩
  go_wp2_with fail
  · refine (pick_any g _ 3 _ (hr1.keep (below_box _ _)) (by omega) (by omega) (by omega)).mono ?_
    rintro e w2 ⟨v2, rfl, h20, h21, hr2, hg2⟩
    have hbl := (Blk.new w1 3 [.int .i64 (-2), .int .i64 990, .int .i64 991]).grown hg2 (by have := hr1.lt; simp; omega)
    obtain ⟨c0, c1, c2⟩ := hbl.cells3
    have hv : v2 = 0 ∨ v2 = 1 ∨ v2 = 2 := by omega
    rcases hv with rfl | rfl | rfl
    all_goals
      go_wp2
      go_ret
      exact ⟨_, _, rfl, ⟨_, rfl, by omega, by omega⟩, by omega, hr2, grown_trans (grown_below hg1 (below_box _ _)) hg2⟩
  · refine (pick_any g _ 6 _ hr1 (by omega) (by omega) (by omega)).mono ?_
    rintro e w2 ⟨v2, rfl, h20, h21, hr2, hg2⟩
    go_wp2
    go_ret
    exact ⟨_, _, rfl, ⟨_, rfl, by omega, by omega⟩, by omega, hr2, grown_trans hg1 hg2⟩

/-- a slice of at most four ints that owns its cells from block B on -/
def IsLocks (B : Nat) (v : Value) (w : World) : Prop := ∃ A n c xs, v = .slice A n c ∧ n ≤ 4 ∧ w.ownsRow B 3 1 v n (ints xs)
/-- .. while it is made -/
def LkP (g : Nat) (w : World) (B : Option Addr) (m d : Nat) (ys : List Int) (q : Nat) (wx : World) : Prop := wx.ownsRow w.heap.size 3 1 (.slice B m d) m (ints ys) ∧ Rd wx g q ∧ w.grownBy wx (some g)
theorem LkP.pick {g : Nat} {w w' w3 : World} {m d q' q'' : Nat} {B : Option Addr} {ys : List Int} (hgw : g < w.heap.size) (h : LkP g w B m d ys q' w') (hr : Rd w3 g q'') (hg : w'.grownBy w3 (some g)) : LkP g w B m d ys q'' w3 :=
  ⟨own_grown h.1 hg hgw, hr, grown_trans h.2.2 hg⟩
theorem LkP.next {g : Nat} {w w' w3 : World} {m d q' : Nat} {B : Option Addr} {ys : List Int} (h : LkP g w B m d ys q' w') (hb : Below w'.heap.size w' w3) : LkP g w B m d ys q' w3 :=
  ⟨own_belowL h.1 hb, h.2.1.keep hb, grown_below h.2.2 hb⟩
theorem LkP.app {g : Nat} {w w3 w4 : World} {m d d' q' : Nat} {B B' : Option Addr} {ys : List Int} {x : Int} (hgw : g < w.heap.size) (h : LkP g w B m d ys q' w3)
    (hown4 : w4.ownsRow w.heap.size 3 1 (.slice B' (m + 1) d') (m + 1) (ints ys ++ [.int .i64 x])) (hb4 : Below w.heap.size (w3.alloc (.cells #[.int .i64 x] 3)) w4) : LkP g w B' (m + 1) d' (ys ++ [x]) q' w4 := by
  obtain ⟨hown3, hr3, hG3⟩ := h
  have hz3 := hG3.size
  refine ⟨by rw [← ints_snoc]; exact hown4, ?_, ?_⟩
  · obtain ⟨A', n', c', hA', hn', hr'⟩ := hr3.keep (below_box w3 (.cells #[.int .i64 x] 3))
    exact ⟨A', n', c', hA'.below hb4 hgw, hn', hr'.keep fun a ha => hb4.cell (by omega)⟩
  · exact ⟨hb4.os.trans hG3.os, hb4.tape.trans hG3.tape, hb4.output.trans hG3.output, Nat.le_trans hz3 (Nat.le_trans (by simp) hb4.size), fun i hi hne => (hb4.block i hi).trans (((below_box w3 _).block i (by omega)).trans (hG3.block i hi hne))⟩
theorem Rd.store {w : World} {g p b i : Nat} (h : Rd w g p) (hb : g < b) (u : Value) : Rd (w.setCell ⟨b, i, none⟩ u) g p := by
  obtain ⟨A, n, c, h1, h2, h3⟩ := h
  exact ⟨A, n, c, h1.far (p := ⟨b, i, none⟩) (by show g ≠ b; omega) u, h2, h3.keep fun a ha => setCell_cell_far _ _ _ _ (by show a.block ≠ b; omega)⟩
theorem LkP.store {g b : Nat} {w wx : World} {m d q : Nat} {ys : List Int} (h : LkP g w (some ⟨b, 0, none⟩) m d ys q wx) (hgw : g < w.heap.size) (hb : w.heap.size ≤ b) (i : Nat) (x : Int) :
    LkP g w (some ⟨b, 0, none⟩) m d (ys.set i x) q (wx.setCell ⟨b, i, none⟩ (.int .i64 x)) := by
  obtain ⟨h1, h2, h3⟩ := h
  refine ⟨by rw [← ints_set]; exact own_setI h1 i _, h2.store (by omega) _, ?_⟩
  exact ⟨h3.os, h3.tape, h3.output, by simpa [World.setCell] using h3.size, fun k hk hne => (Below.heap_setCell wx ⟨b, i, none⟩ _ k (by show k ≠ b; omega)).trans (h3.block k hk hne)⟩
theorem own_trunc {w : World} {base g n d size : Nat} {e : TypeId} {xs : List Value} (h : w.ownsRow base e size (.slice (some ⟨g, 0, none⟩) n d) n xs) (k : Nat) (hk : k ≤ n) : w.ownsRow base e size (.slice (some ⟨g, 0, none⟩) k d) k (xs.take (k * size)) := by
  have hm : k * size ≤ n * size := Nat.mul_le_mul_right _ hk
  refine ⟨by rw [List.length_take, h.1]; omega, ?_⟩
  rcases h.2 with ⟨h0, _⟩ | ⟨g', cap, cur, hv, hb, hh, h1, h2, h3, h4⟩
  · cases h0
  · injection hv with hv1 _ hv3
    injection hv1 with hv1
    injection hv1 with hv1 _ _
    subst hv1
    subst hv3
    exact .inr ⟨g, d, cur, rfl, hb, hh, by omega, h2, h3, by rw [← h4, List.take_take, Nat.min_eq_left hm]⟩

end Go.Proofs.Ytlmcejpjhdaanaa
