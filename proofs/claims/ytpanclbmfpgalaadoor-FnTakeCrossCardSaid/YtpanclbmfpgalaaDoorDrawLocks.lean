/- Walks: drawing locks, transactions: only what bounds the results is said. -/
import Derived.Test.YtpanclbmfpgalaaDoorDraw
import Derived.Test.YtpanclbmfpgalaaDoorTake
import Derived.Deep.CutBlock
import Derived.Deep.RegionLaw
namespace Go.Proofs.YtpanclbmfpgalaaDoor
open Go.RowKit Go.Sort

def IsInt (lo hi : Int) (v : Value) (_ : World) : Prop := ∃ z : Int, v = .int .i64 z ∧ lo ≤ z ∧ z ≤ hi
theorem own_grown {w w' : World} {base g : Nat} {e : TypeId} {size n : Nat} {v : Value} {xs : List Value} (h : w.ownsRow base e size v n xs) (hg : w.grownBy w' (some g)) (hb : g < base) : w'.ownsRow base e size v n xs :=
  h.kept hg (Or.inr fun he => by have := (h.lt g he).1; omega)

set_option maxHeartbeats 1600000 in
theorem l92Txn_any (g p : Nat) (w : World) (h : Rd w g p) (hp : p ≤ 900000) :
    Calls Tryd.prog 15 #[.pointer (some ⟨g, 0, none⟩)] w (Drawn g p 5 w (IsInt (-1) 12)) := by
  go_enter Tryd.func15, Tryd.ntmps15
  go_wp2_with fail
  refine (pick_any g p 24 _ h (by omega) (by omega) (by omega)).mono ?_
  rintro e w1 ⟨v1, rfl, h10, h11, hr1, hg1⟩
  go_wp2_with fail
  · refine (pick_any g _ 3 _ (hr1.keep (below_box _ _)) (by omega) (by omega) (by omega)).mono ?_
    rintro e w2 ⟨v2, rfl, h20, h21, hr2, hg2⟩
    have hbl := (Blk.new w1 3 [.int .i64 (-1), .int .i64 11, .int .i64 12]).grown hg2 (by have := hr1.lt; simp; omega)
    obtain ⟨c0, c1, c2⟩ := hbl.cells3
    have hv : v2 = 0 ∨ v2 = 1 ∨ v2 = 2 := by omega
    rcases hv with rfl | rfl | rfl
    all_goals
      go_wp2
      go_ret
      exact ⟨_, _, rfl, ⟨_, rfl, by omega, by omega⟩, by omega, hr2, grown_trans (grown_below hg1 (below_box _ _)) hg2⟩
  · refine (pick_any g _ 5 _ hr1 (by omega) (by omega) (by omega)).mono ?_
    rintro e w2 ⟨v2, rfl, h20, h21, hr2, hg2⟩
    go_wp2
    go_ret
    exact ⟨_, _, rfl, ⟨_, rfl, by omega, by omega⟩, by omega, hr2, grown_trans hg1 hg2⟩
set_option maxHeartbeats 1600000 in
theorem l92Value_any (g p : Nat) (w : World) (h : Rd w g p) (hp : p ≤ 900000) :
    Calls Tryd.prog 32 #[.pointer (some ⟨g, 0, none⟩)] w (Drawn g p 5 w (IsInt (-2) 991)) := by
  go_enter Tryd.func32, Tryd.ntmps32
  go_wp2_with fail
  refine (pick_any g p 30 _ h (by omega) (by omega) (by omega)).mono ?_
  rintro e w1 ⟨v1, rfl, h10, h11, hr1, hg1⟩
  go_wp2_with fail
  · refine (pick_any g _ 3 _ (hr1.keep (below_box _ _)) (by omega) (by omega) (by omega)).mono ?_
    rintro e w2 ⟨v2, rfl, h20, h21, hr2, hg2⟩
    have hbl := (Blk.new w1 3 [.int .i64 (-2), .int .i64 990, .int .i64 991]).grown hg2 (by have := hr1.lt; simp; omega)
    obtain ⟨c0, c1, c2⟩ := hbl.cells3
    have hv : v2 = 0 ∨ v2 = 1 ∨ v2 = 2 := by omega
    rcases hv with rfl | rfl | rfl
    all_goals
      go_wp2
      go_ret
      exact ⟨_, _, rfl, ⟨_, rfl, by omega, by omega⟩, by omega, hr2, grown_trans (grown_below hg1 (below_box _ _)) hg2⟩
  · refine (pick_any g _ 6 _ hr1 (by omega) (by omega) (by omega)).mono ?_
    rintro e w2 ⟨v2, rfl, h20, h21, hr2, hg2⟩
    go_wp2
    go_ret
    exact ⟨_, _, rfl, ⟨_, rfl, by omega, by omega⟩, by omega, hr2, grown_trans hg1 hg2⟩

/-- a slice of at most four ints that owns its cells from block B on -/
def IsLocks (B : Nat) (v : Value) (w : World) : Prop := ∃ A n c xs, v = .slice A n c ∧ n ≤ 4 ∧ w.ownsRow B 3 1 v n (ints xs)
/-- .. while it is made -/
def LkP (g : Nat) (w : World) (B : Option Addr) (m d : Nat) (ys : List Int) (q : Nat) (wx : World) : Prop := wx.ownsRow w.heap.size 3 1 (.slice B m d) m (ints ys) ∧ Rd wx g q ∧ w.grownBy wx (some g)
theorem LkP.pick {g : Nat} {w w' w3 : World} {m d q' q'' : Nat} {B : Option Addr} {ys : List Int} (hgw : g < w.heap.size) (h : LkP g w B m d ys q' w') (hr : Rd w3 g q'') (hg : w'.grownBy w3 (some g)) : LkP g w B m d ys q'' w3 :=
  ⟨own_grown h.1 hg hgw, hr, grown_trans h.2.2 hg⟩
theorem LkP.next {g : Nat} {w w' w3 : World} {m d q' : Nat} {B : Option Addr} {ys : List Int} (h : LkP g w B m d ys q' w') (hb : Below w'.heap.size w' w3) : LkP g w B m d ys q' w3 :=
  ⟨own_belowL h.1 hb, h.2.1.keep hb, grown_below h.2.2 hb⟩
theorem LkP.app {g : Nat} {w w3 w4 : World} {m d d' q' : Nat} {B B' : Option Addr} {ys : List Int} {x : Int} (hgw : g < w.heap.size) (h : LkP g w B m d ys q' w3)
    (hown4 : w4.ownsRow w.heap.size 3 1 (.slice B' (m + 1) d') (m + 1) (ints ys ++ [.int .i64 x])) (hb4 : Below w.heap.size (w3.alloc (.cells #[.int .i64 x] 3)) w4) : LkP g w B' (m + 1) d' (ys ++ [x]) q' w4 := by
  obtain ⟨hown3, hr3, hG3⟩ := h
  have hz3 := hG3.size
  refine ⟨by rw [← ints_snoc]; exact hown4, ?_, ?_⟩
  · obtain ⟨A', n', c', hA', hn', hr'⟩ := hr3.keep (below_box w3 (.cells #[.int .i64 x] 3))
    exact ⟨A', n', c', hA'.below hb4 hgw, hn', hr'.keep fun a ha => hb4.cell (by omega)⟩
  · exact ⟨hb4.os.trans hG3.os, hb4.tape.trans hG3.tape, hb4.output.trans hG3.output, Nat.le_trans hz3 (Nat.le_trans (by simp) hb4.size), fun i hi hne => (hb4.block i hi).trans (((below_box w3 _).block i (by omega)).trans (hG3.block i hi hne))⟩
theorem Rd.store {w : World} {g p b i : Nat} (h : Rd w g p) (hb : g < b) (u : Value) : Rd (w.setCell ⟨b, i, none⟩ u) g p := by
  obtain ⟨A, n, c, h1, h2, h3⟩ := h
  exact ⟨A, n, c, h1.far (p := ⟨b, i, none⟩) (by show g ≠ b; omega) u, h2, h3.keep fun a ha => setCell_cell_far _ _ _ _ (by show a.block ≠ b; omega)⟩
theorem LkP.store {g b : Nat} {w wx : World} {m d q : Nat} {ys : List Int} (h : LkP g w (some ⟨b, 0, none⟩) m d ys q wx) (hgw : g < w.heap.size) (hb : w.heap.size ≤ b) (i : Nat) (x : Int) :
    LkP g w (some ⟨b, 0, none⟩) m d (ys.set i x) q (wx.setCell ⟨b, i, none⟩ (.int .i64 x)) := by
  obtain ⟨h1, h2, h3⟩ := h
  refine ⟨by rw [← ints_set]; exact own_setI h1 i _, h2.store (by omega) _, ?_⟩
  exact ⟨h3.os, h3.tape, h3.output, by simpa [World.setCell] using h3.size, fun k hk hne => (Below.heap_setCell wx ⟨b, i, none⟩ _ k (by show k ≠ b; omega)).trans (h3.block k hk hne)⟩
theorem own_trunc {w : World} {base g n d size : Nat} {e : TypeId} {xs : List Value} (h : w.ownsRow base e size (.slice (some ⟨g, 0, none⟩) n d) n xs) (k : Nat) (hk : k ≤ n) : w.ownsRow base e size (.slice (some ⟨g, 0, none⟩) k d) k (xs.take (k * size)) := by
  have hm : k * size ≤ n * size := Nat.mul_le_mul_right _ hk
  refine ⟨by rw [List.length_take, h.1]; omega, ?_⟩
  rcases h.2 with ⟨h0, _⟩ | ⟨g', cap, cur, hv, hb, hh, h1, h2, h3, h4⟩
  · cases h0
  · injection hv with hv1 _ hv3
    injection hv1 with hv1
    injection hv1 with hv1 _ _
    subst hv1
    subst hv3
    exact .inr ⟨g, d, cur, rfl, hb, hh, by omega, h2, h3, by rw [← h4, List.take_take, Nat.min_eq_left hm]⟩

set_option maxRecDepth 100000 in
set_option maxHeartbeats 1600000 in
theorem l92Locks_any (g p : Nat) (w : World) (h : Rd w g p) (hp : p ≤ 800000) :
    Calls Tryd.prog 14 #[.pointer (some ⟨g, 0, none⟩)] w (Drawn g p 20 w (IsLocks w.heap.size)) := by
  have hgw := h.lt
  go_enter Tryd.func14, Tryd.ntmps14
  go_wp2
  go_loopw [3, 4] (fun s i wr => ∃ (k : Nat) (B : Option Addr) (d : Nat) (ys : List Int) (q : Nat), k ≤ 4 ∧ i = .int .i64 k ∧ s = .slice B k d ∧ q ≤ p + 2 * k ∧ LkP g w B k d ys q wr) (fun _ i _ => 4 - (intOf i).toNat)
  case atStart => exact ⟨0, _, _, [], p, by omega, rfl, rfl, by omega, World.ownsRow_made w #[] 0 (Nat.le_refl _) (by simp [maxLen]) rfl, h.keep (below_box _ _), grown_below (World.grownBy.refl w _) (below_box _ _)⟩
  case round =>
    obtain ⟨k, B, d, ys, q, hk, rfl, rfl, hq, hls⟩ := hrel
    by_cases hlt : k < 4
    · go_upto_if 13 with (go_at_call 31; refine (pick_any g _ 3 _ hls.2.1 (by omega) (by omega) (by omega)).mono ?_; rintro e w2 ⟨v2, rfl, h20, h21, hr2, hg2⟩)
      have hls2 := hls.pick hgw hr2 hg2
      by_cases h2 : v2 = 0
      · subst h2
        go_wp2_with fail
        refine (pick_any g _ 5 _ hr2 (by omega) (by omega) (by omega)).mono ?_
        rintro e w3 ⟨v3, rfl, h30, h31, hr3, hg3⟩
        have hls3 := hls2.pick hgw hr3 hg3
        have hz3 := hls3.2.2.size
        go_wp2_with (at_builtin; refine wpList_app rfl (.tmp 16) (.tmp 18) 23 rfl w.heap.size 3 Tryd.underlying23 int_info1 rfl (by omega) (by omega) _ k _ rfl (hls3.1.alloc _) ⟨w3.heap.size, 0, none⟩ 1 1 [.int .i64 v3] rfl rfl (cell_one_new _ _ _) (by simp [Value.oneCell']) (by omega) (Nat.le_trans hz3 (by simp)) ?_; intro B' d' w4 hown4 _ hb4 hg4 _)
        have hls4 := hls3.app hgw hown4 hb4
        go_roundw
        case rel => exact ⟨k + 1, B', d', _, q + 1 + 1, by omega, by go_num, rfl, by omega, hls4⟩
        case measure => simp [intOf]; omega
      · have h2b : (v2 == 0) = false := by simpa using h2
        have hz2 := hls2.2.2.size
        go_wp2_with (at_builtin; refine wpList_app rfl (.tmp 16) (.tmp 18) 23 rfl w.heap.size 3 Tryd.underlying23 int_info1 rfl (by omega) (by omega) _ k _ rfl (hls2.1.alloc _) ⟨w2.heap.size, 0, none⟩ 1 1 [.int .i64 (-1)] rfl rfl (cell_one_new _ _ _) (by simp [Value.oneCell']) (by omega) (Nat.le_trans hz2 (by simp)) ?_; intro B' d' w4 hown4 _ hb4 hg4 _)
        have hls4 := hls2.app hgw hown4 hb4
        go_roundw
        case rel => exact ⟨k + 1, B', d', _, q + 1, by omega, by go_num, rfl, by omega, hls4⟩
        case measure => simp [intOf]; omega
    · obtain rfl : k = 4 := by omega
      obtain ⟨b, rfl, hb1, hb2⟩ := own_addr hls.1 (by omega)
      go_wp2_with fail
      refine (pick_any g _ 24 _ hls.2.1 (by omega) (by omega) (by omega)).mono ?_
      rintro e w2 ⟨v2, rfl, h20, h21, hr2, hg2⟩
      have hls2 := hls.pick hgw hr2 hg2
      have hd4 : 4 ≤ d := by obtain ⟨_, _, e, hc⟩ := own_form hls2.1; injection e with _ _ e; omega
      have hrest : v2 = 0 ∨ v2 = 1 ∨ ((v2 == 0) = false ∧ (v2 == 1) = false) := by simp; omega
      rcases hrest with rfl | rfl | ⟨n0, n1⟩
      · go_wp2_with fail
        refine (pick_any g _ 4 _ hr2 (by omega) (by omega) (by omega)).mono ?_
        rintro e w3 ⟨v3, rfl, h30, h31, hr3, hg3⟩
        have hls3 := hls2.pick hgw hr3 hg3
        go_wp2_with fail
        refine (pick_any g _ 3 _ (hr3.keep (below_box _ _)) (by omega) (by omega) (by omega)).mono ?_
        rintro e w4 ⟨v4, rfl, h40, h41, hr4, hg4⟩
        have hls4 := (hls3.next (below_box _ _)).pick hgw hr4 hg4
        have hbl := (Blk.new w3 3 [.int .i64 (-2), .int .i64 11, .int .i64 12]).grown hg4 (by have := hr3.lt; simp; omega)
        obtain ⟨c0, c1, c2⟩ := hbl.cells3
        obtain ⟨j, rfl⟩ := Int.eq_ofNat_of_zero_le h30
        obtain ⟨CS, hB, -, hCt⟩ := own_blkI hls4.1
        have hf := hB.frozen j
        have hll : (ints ys).length = 4 := by have := hls4.1.1; omega
        obtain ⟨y, hy⟩ : ∃ y, CS[j]? = some y := ⟨_, List.getElem?_eq_getElem (by
          have := congrArg List.length hCt
          rw [hll, List.length_take] at this
          omega)⟩
        have cx : w4.cell? ⟨b, j, none⟩ = some y := by rw [hB.cell]; exact hy
        clear hy hCt hll
        have hv : v4 = 0 ∨ v4 = 1 ∨ v4 = 2 := by omega
        rcases hv with rfl | rfl | rfl
        all_goals
          go_wp2
          go_ret
          exact ⟨_, _, rfl, ⟨_, _, _, _, rfl, by omega, (hls4.store hgw hb1 j _).1⟩, by omega, (hls4.store hgw hb1 j _).2.1, (hls4.store hgw hb1 j _).2.2⟩
      · go_wp2
        go_ret
        exact ⟨_, _, rfl, ⟨_, _, _, ys.take 3, rfl, by omega, by
          have := own_trunc hls2.1 3 (by omega)
          unfold ints at this ⊢
          rw [List.map_take]; exact this⟩, by omega, hr2, hls2.2.2⟩
      · go_wp2
        go_ret
        exact ⟨_, _, rfl, ⟨_, _, _, ys, rfl, by omega, hls2.1⟩, by omega, hr2, hls2.2.2⟩
end Go.Proofs.YtpanclbmfpgalaaDoor
