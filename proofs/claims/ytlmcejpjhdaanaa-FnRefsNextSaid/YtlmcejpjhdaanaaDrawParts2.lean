/- Walks: l92Parts. -/
import Derived.Test.YtlmcejpjhdaanaaDrawParts
namespace Go.Proofs.Ytlmcejpjhdaanaa
open Go.RowKit Go.Sort

theorem rints_new (w : World) (T : TypeId) (xs : List Int) : RInts (w.alloc (.cells (ints xs).toArray T)) (some ⟨w.heap.size, 0, none⟩) xs.length xs := ⟨rfl, fun _ => ⟨_, rfl, by simp, fun j x hx => by
  rw [add_flat, Nat.zero_add, (Blk.new w T (ints xs)).cell, ints, List.getElem?_map, hx]; rfl⟩⟩
theorem grown_below0 {a b c : World} {g : Nat} (k : Below a.heap.size a b) (h : b.grownBy c (some g)) : a.grownBy c (some g) :=
  ⟨h.os.trans k.os, h.tape.trans k.tape, h.output.trans k.output, Nat.le_trans k.size h.size, fun i hi hne => (h.block i (Nat.lt_of_lt_of_le hi k.size) hne).trans (k.block i hi)⟩
/-- parts that can be read, few and small -/
def IsParts (B : Nat) (v : Value) (w : World) : Prop := ∃ A n c ps, v = .slice A n c ∧ n ≤ 5 ∧ RSl repPt B w A n ps ∧ ∀ x ∈ ps, x.us.length ≤ 4

set_option maxRecDepth 100000 in
set_option maxHeartbeats 3200000 in
theorem l92Parts_any (g p : Nat) (w : World) (h : Rd w g p) (hp : p ≤ 700000) :
    Calls Try.prog 58 #[.pointer (some ⟨g, 0, none⟩)] w (Drawn g p 500 w (IsParts w.heap.size)) := by
  have hgw := h.lt
  go_enter Try.func58, Try.ntmps58
  go_wp2
  go_loopw [3, 4] (fun s i wr => ∃ (k m : Nat) (B : Option Addr) (d : Nat) (ps : List Pt) (q : Nat), k ≤ 3 ∧ m ≤ k ∧ i = .int .i64 k ∧ s = .slice B m d ∧ q ≤ p + 101 * k ∧ PtP g w B m d ps q wr) (fun _ i _ => 3 - (intOf i).toNat)
  case atStart => exact ⟨0, 0, _, _, [], p, by omega, by omega, rfl, rfl, by omega, SSl.emp (Blk.new w 51 []) (Nat.le_refl _) ⟨Nat.le_refl _, by simp⟩, (fun x hx => by cases hx), h.keep (below_box _ _), grown_below (World.grownBy.refl w _) (below_box _ _)⟩
  case round =>
    obtain ⟨k, m, B, d, ps, q, hk, hm, rfl, rfl, hq, hP⟩ := hrel
    by_cases hlt : k < 3
    · go_upto_if 12 with (go_at_call 50; refine (pick_any g _ 2 _ hP.2.2.1 (by omega) (by omega) (by omega)).mono ?_; rintro e w2 ⟨v2, rfl, i20, i21, i2r, i2g⟩)
      have hP2 := hP.pick hgw i2r i2g
      by_cases h2 : v2 = 0
      · subst h2
        obtain ⟨cs0, hown, hgrow⟩ := hP2.1.grow
        go_wp2_with (first
        | (go_at_call 79; go_loud (refine (l92Updates_any g _ _ 4 4 [-1, 0, 1, 2] _ (hP2.2.2.1.keep (below_box w2 (.cells #[.int .i64 (-1), .int .i64 0, .int .i64 1, .int .i64 2] 3))) (by omega) (rints_new w2 3 [-1, 0, 1, 2]) (fun ad e => by injection e with e; subst e; dsimp only; have := hP2.2.2.1.lt; omega)).mono ?_); rintro e w5 ⟨v5, q5, rfl, hu5, hq5, hr5, hg5⟩
           obtain ⟨U, nu, cu, us, rfl, hnu, hul, hSU⟩ := hu5.sep
           have hgg5 := grown_below0 (below_box w2 (.cells #[.int .i64 (-1), .int .i64 0, .int .i64 1, .int .i64 2] 3)) hg5
           have hown5 := own_belowS (own_grown (own_belowS hown (below_box w2 (.cells #[.int .i64 (-1), .int .i64 0, .int .i64 1, .int .i64 2] 3))) hg5 hgw) (below_box w5 (.cells #[.int .i64 k, .slice U nu cu] 51))
           have hzz := hgg5.size
           have hzw := hP2.2.2.2.size)
        | (at_builtin; go_loud (refine wpList_app rfl (.tmp 13) (.tmp 19) 33 rfl w.heap.size 51 Try.underlying33 part_info1 rfl (by omega) (by omega) _ m cs0 rfl hown5 ⟨w5.heap.size, 0, none⟩ 1 1 [.int .i64 k, .slice U nu cu] rfl rfl (Blk.new w5 51 [.int .i64 k, .slice U nu cu]).cellsAtG (by simp [Value.oneCell']) (by omega) (by simp; omega) ?_; intro B9 d9 w9 hown9 _ hb9 hg9 hloc9)
           go_loud (have hP9 := hP2.app hgw hgrow ((below_box w2 (.cells #[.int .i64 (-1), .int .i64 0, .int .i64 1, .int .i64 2] 3)).size) hgg5 hr5 hSU (by omega) hown9 hg9 hb9 hloc9)))
        go_roundw
        case rel => exact ⟨k + 1, m + 1, B9, d9, _, q5, by omega, by omega, by go_num, rfl, by omega, hP9⟩
        case measure => simp [intOf]; omega
      · go_wp2_with fail
        go_roundw
        case rel => exact ⟨k + 1, m, B, d, _, q + 1, by omega, by omega, by go_num, rfl, by omega, hP2⟩
        case measure => simp [intOf]; omega
    · have hk3 : k = 3 := by omega
      subst hk3
      by_cases hm0 : m = 0
      · subst hm0
        go_upto_region 8 with fail
        go_upto_region 9 with (first
        | (go_at_call 50; refine (pick_any g _ 3 _ hP.2.2.1 (by omega) (by omega) (by omega)).mono ?_; rintro e w2 ⟨v2, rfl, i20, i21, i2r, i2g⟩
           have hP2 := hP.pick hgw i2r i2g
           obtain ⟨cs0, hown, hgrow⟩ := hP2.1.grow)
        | (go_at_call 79; go_loud (refine (l92Updates_any g _ _ 4 4 [-1, 0, 1, 2] _ (hP2.2.2.1.keep (below_box w2 (.cells #[.int .i64 (-1), .int .i64 0, .int .i64 1, .int .i64 2] 3))) (by omega) (rints_new w2 3 [-1, 0, 1, 2]) (fun ad e => by injection e with e; subst e; dsimp only; have := hP2.2.2.1.lt; omega)).mono ?_); rintro e w5 ⟨v5, q5, rfl, hu5, hq5, hr5, hg5⟩
           obtain ⟨U, nu, cu, us, rfl, hnu, hul, hSU⟩ := hu5.sep
           have hgg5 := grown_below0 (below_box w2 (.cells #[.int .i64 (-1), .int .i64 0, .int .i64 1, .int .i64 2] 3)) hg5
           have hown5 := own_belowS (own_grown (own_belowS hown (below_box w2 (.cells #[.int .i64 (-1), .int .i64 0, .int .i64 1, .int .i64 2] 3))) hg5 hgw) (below_box w5 (.cells #[.int .i64 v2, .slice U nu cu] 51))
           have hzz := hgg5.size
           have hzw := hP2.2.2.2.size)
        | (at_builtin; go_loud (refine wpList_app rfl (.tmp 24) (.tmp 31) 33 rfl w.heap.size 51 Try.underlying33 part_info1 rfl (by omega) (by omega) _ 0 cs0 rfl hown5 ⟨w5.heap.size, 0, none⟩ 1 1 [.int .i64 v2, .slice U nu cu] rfl rfl (Blk.new w5 51 [.int .i64 v2, .slice U nu cu]).cellsAtG (by simp [Value.oneCell']) (by omega) (by simp; omega) ?_; intro B9 d9 w9 hown9 _ hb9 hg9 hloc9)
           go_loud (have hP9 := hP2.app hgw hgrow ((below_box w2 (.cells #[.int .i64 (-1), .int .i64 0, .int .i64 1, .int .i64 2] 3)).size) hgg5 hr5 hSU (by omega) hown9 hg9 hb9 hloc9)))
        go_upto_if 35 with (go_at_call 50; refine (pick_any g _ 24 _ hP9.2.2.1 (by omega) (by omega) (by omega)).mono ?_; rintro e w6 ⟨v6, rfl, i60, i61, i6r, i6g⟩)
        have hP6 := hP9.pick hgw i6r i6g
        by_cases h6 : v6 = 0
        · subst h6
          go_upto_region 10 with fail
          obtain ⟨cs0, hown, hgrow⟩ := hP6.1.grow
          have hz6 := hP6.2.2.2.size
          go_wp2_with (first
            | (go_at_call 50; refine (pick_any g _ 4 _ hP6.2.2.1 (by omega) (by omega) (by omega)).mono ?_; rintro e w7 ⟨v7, rfl, i70, i71, i7r, i7g⟩)
            | (at_builtin; go_loud (refine wpList_app rfl (.tmp 36) (.tmp 40) 33 rfl w.heap.size 51 Try.underlying33 part_info1 rfl (by omega) (by omega) _ 1 cs0 rfl (own_belowS (own_grown hown i7g hgw) (below_box w7 (.cells #[.int .i64 v7, .slice none 0 0] 51))) ⟨w7.heap.size, 0, none⟩ 1 1 [.int .i64 v7, .slice none 0 0] rfl rfl (Blk.new w7 51 [.int .i64 v7, .slice none 0 0]).cellsAtG (by simp [Value.oneCell']) (by omega) (by have := i7g.size; simp; omega) ?_; intro B8 d8 w8 hown8 _ hb8 hg8 hloc8)))
          have hP8 := hP6.app hgw hgrow (Nat.le_refl _) i7g i7r (U := none) (n := 0) (c := 0) (us := []) SSl.nil (by simp) hown8 hg8 hb8 hloc8
          go_ret
          exact ⟨_, _, rfl, ⟨_, _, _, _, rfl, by omega, hP8.1.reads, hP8.2.1⟩, by omega, hP8.2.2.1, hP8.2.2.2⟩
        · go_wp2_with fail
          go_ret
          exact ⟨_, _, rfl, ⟨_, _, _, _, rfl, by omega, hP6.1.reads, hP6.2.1⟩, by omega, hP6.2.2.1, hP6.2.2.2⟩
      · have hmb : ((m : Int) == 0) = false := by simpa using hm0
        clear hm0
        go_upto_if 35 with (go_at_call 50; refine (pick_any g _ 24 _ hP.2.2.1 (by omega) (by omega) (by omega)).mono ?_; rintro e w6 ⟨v6, rfl, i60, i61, i6r, i6g⟩)
        have hP6 := hP.pick hgw i6r i6g
        by_cases h6 : v6 = 0
        · subst h6
          go_upto_region 10 with fail
          obtain ⟨cs0, hown, hgrow⟩ := hP6.1.grow
          have hz6 := hP6.2.2.2.size
          go_wp2_with (first
            | (go_at_call 50; refine (pick_any g _ 4 _ hP6.2.2.1 (by omega) (by omega) (by omega)).mono ?_; rintro e w7 ⟨v7, rfl, i70, i71, i7r, i7g⟩)
            | (at_builtin; go_loud (refine wpList_app rfl (.tmp 36) (.tmp 40) 33 rfl w.heap.size 51 Try.underlying33 part_info1 rfl (by omega) (by omega) _ m cs0 rfl (own_belowS (own_grown hown i7g hgw) (below_box w7 (.cells #[.int .i64 v7, .slice none 0 0] 51))) ⟨w7.heap.size, 0, none⟩ 1 1 [.int .i64 v7, .slice none 0 0] rfl rfl (Blk.new w7 51 [.int .i64 v7, .slice none 0 0]).cellsAtG (by simp [Value.oneCell']) (by omega) (by have := i7g.size; simp; omega) ?_; intro B8 d8 w8 hown8 _ hb8 hg8 hloc8)))
          have hP8 := hP6.app hgw hgrow (Nat.le_refl _) i7g i7r (U := none) (n := 0) (c := 0) (us := []) SSl.nil (by simp) hown8 hg8 hb8 hloc8
          go_ret
          exact ⟨_, _, rfl, ⟨_, _, _, _, rfl, by omega, hP8.1.reads, hP8.2.1⟩, by omega, hP8.2.2.1, hP8.2.2.2⟩
        · go_wp2_with fail
          go_ret
          exact ⟨_, _, rfl, ⟨_, _, _, _, rfl, by omega, hP6.1.reads, hP6.2.1⟩, by omega, hP6.2.2.1, hP6.2.2.2⟩
end Go.Proofs.Ytlmcejpjhdaanaa
