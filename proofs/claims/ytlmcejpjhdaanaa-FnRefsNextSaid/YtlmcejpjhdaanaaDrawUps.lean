/- Walks: drawing updates: only what bounds the results is said. -/
import Derived.Test.YtlmcejpjhdaanaaDrawLocks
namespace Go.Proofs.Ytlmcejpjhdaanaa
open Go.RowKit Go.Sort

theorem RInts.grownU {w w' : World} {row : Option Nat} {A : Option Addr} {n : Nat} {xs : List Int} (h : RInts w A n xs) (hg : w.grownBy w' row) (hne : ∀ ad, A = some ad → some ad.block ≠ row) : RInts w' A n xs :=
  ⟨h.1, fun hn => by
    obtain ⟨ad, e, hlt, hc⟩ := h.2 hn
    exact ⟨ad, e, Nat.lt_of_lt_of_le hlt hg.size, fun j x hx => (World.cell?_of_block (hg.block (ad.add j).block (by rw [block_of_add]; exact hlt) (by rw [block_of_add]; exact hne ad e))).trans (hc j x hx)⟩⟩
def IntCells (cs : List Value) : Prop := ∀ v ∈ cs, ∃ z : Int, v = .int .i64 z
theorem IntCells.app {cs ds : List Value} (h : IntCells cs) (k : IntCells ds) : IntCells (cs ++ ds) := fun v hv => by
  rcases List.mem_append.1 hv with h1 | h1
  · exact h v h1
  · exact k v h1
theorem IntCells.three (a b c : Int) : IntCells [.int .i64 a, .int .i64 b, .int .i64 c] := fun v hv => by
  simp only [List.mem_cons, List.not_mem_nil, or_false] at hv
  rcases hv with rfl | rfl | rfl
  · exact ⟨_, rfl⟩
  · exact ⟨_, rfl⟩
  · exact ⟨_, rfl⟩
theorem IntCells.set_ {cs : List Value} (h : IntCells cs) (i : Nat) (z : Int) : IntCells (cs.set i (.int .i64 z)) := fun v hv => by
  rcases List.mem_or_eq_of_mem_set hv with h1 | h1
  · exact h v h1
  · exact ⟨z, h1⟩
theorem IntCells.nil : IntCells [] := fun v hv => by cases hv
theorem up_info1 : (Try.prog.info? 53).map (fun i => (i.zero, i.size, i.bytes)) = some (some (.agg #[.int .i64 0, .int .i64 0, .int .i64 0]), 3, 24) := by kernel_rfl

/-- a slice of at most four updates that owns its cells from block B on -/
def IsUps (B : Nat) (v : Value) (w : World) : Prop := ∃ A n c cs, v = .slice A n c ∧ n ≤ 4 ∧ w.ownsRow B 53 3 v n cs ∧ IntCells cs
/-- .. while it is made -/
def UpP (g : Nat) (w : World) (B : Option Addr) (m d : Nat) (cs : List Value) (q : Nat) (wx : World) : Prop := wx.ownsRow w.heap.size 53 3 (.slice B m d) m cs ∧ IntCells cs ∧ Rd wx g q ∧ w.grownBy wx (some g)
theorem UpP.pick {g : Nat} {w w' w3 : World} {m d q' q'' : Nat} {B : Option Addr} {ys : List Value} (hgw : g < w.heap.size) (h : UpP g w B m d ys q' w') (hr : Rd w3 g q'') (hg : w'.grownBy w3 (some g)) : UpP g w B m d ys q'' w3 :=
  ⟨own_grown h.1 hg hgw, h.2.1, hr, grown_trans h.2.2.2 hg⟩
theorem UpP.next {g : Nat} {w w' w3 : World} {m d q' : Nat} {B : Option Addr} {ys : List Value} (h : UpP g w B m d ys q' w') (hb : Below w'.heap.size w' w3) : UpP g w B m d ys q' w3 :=
  ⟨own_belowL h.1 hb, h.2.1, h.2.2.1.keep hb, grown_below h.2.2.2 hb⟩
theorem UpP.app {g : Nat} {w w3 w4 : World} {m d d' q' : Nat} {B B' : Option Addr} {ys : List Value} {x y z : Int} (hgw : g < w.heap.size) (h : UpP g w B m d ys q' w3)
    (hown4 : w4.ownsRow w.heap.size 53 3 (.slice B' (m + 1) d') (m + 1) (ys ++ [.int .i64 x, .int .i64 y, .int .i64 z])) (hb4 : Below w.heap.size (w3.alloc (.cells #[.int .i64 x, .int .i64 y, .int .i64 z] 53)) w4) : UpP g w B' (m + 1) d' (ys ++ [.int .i64 x, .int .i64 y, .int .i64 z]) q' w4 := by
  obtain ⟨hown3, hi3, hr3, hG3⟩ := h
  have hz3 := hG3.size
  refine ⟨hown4, hi3.app (IntCells.three _ _ _), ?_, ?_⟩
  · obtain ⟨A', n', c', hA', hn', hr'⟩ := hr3.keep (below_box w3 (.cells #[.int .i64 x, .int .i64 y, .int .i64 z] 53))
    exact ⟨A', n', c', hA'.below hb4 hgw, hn', hr'.keep fun a ha => hb4.cell (by omega)⟩
  · exact ⟨hb4.os.trans hG3.os, hb4.tape.trans hG3.tape, hb4.output.trans hG3.output, Nat.le_trans hz3 (Nat.le_trans (by simp) hb4.size), fun i hi hne => (hb4.block i hi).trans (((below_box w3 _).block i (by omega)).trans (hG3.block i hi hne))⟩
theorem own_setU {w : World} {base g n d : Nat} {e : TypeId} {xs : List Value} (h : w.ownsRow base e 3 (.slice (some ⟨g, 0, none⟩) n d) n xs) (i : Nat) (u : Value) :
    (w.setCell ⟨g, i, none⟩ u).ownsRow base e 3 (.slice (some ⟨g, 0, none⟩) n d) n (xs.set i u) := by
  refine ⟨by rw [List.length_set]; exact h.1, ?_⟩
  rcases h.2 with ⟨h0, _⟩ | ⟨g', cap, cur, hv, hb, hh, h1, h2, h3, h4⟩
  · cases h0
  · injection hv with hv1 _ hv3
    injection hv1 with hv1
    injection hv1 with hv1 _ _
    subst hv1
    subst hv3
    have hB : Blk w g e cur.toList := by unfold Blk; simpa using hh
    have hB' := hB.set_ i u
    unfold Blk at hB'
    refine .inr ⟨g, d, (cur.toList.set i u).toArray, rfl, hb, hB', h1, h2, by simpa using h3, ?_⟩
    rw [List.toList_toArray, ← h4, List.take_set]
theorem UpP.store {g b : Nat} {w wx : World} {m d q : Nat} {ys : List Value} (h : UpP g w (some ⟨b, 0, none⟩) m d ys q wx) (hgw : g < w.heap.size) (hb : w.heap.size ≤ b) (i : Nat) (x : Int) :
    UpP g w (some ⟨b, 0, none⟩) m d (ys.set i (.int .i64 x)) q (wx.setCell ⟨b, i, none⟩ (.int .i64 x)) := by
  obtain ⟨h1, h2, h3, h4⟩ := h
  refine ⟨own_setU h1 i _, h2.set_ i x, h3.store (by omega) _, ?_⟩
  exact ⟨h4.os, h4.tape, h4.output, by simpa [World.setCell] using h4.size, fun k hk hne => (Below.heap_setCell wx ⟨b, i, none⟩ _ k (by show k ≠ b; omega)).trans (h4.block k hk hne)⟩
theorem UpP.far {g b : Nat} {w wx : World} {m d q : Nat} {B : Option Addr} {ys : List Value} (h : UpP g w B m d ys q wx) (hgw : g < w.heap.size) (hT : (Value.slice B m d).ownBlock ≠ some b) (hb : w.heap.size ≤ b) (i : Nat) (u : Value) :
    UpP g w B m d ys q (wx.setCell ⟨b, i, none⟩ u) := by
  obtain ⟨h1, h2, h3, h4⟩ := h
  refine ⟨h1.kept (grown_setCell (World.grownBy.refl wx _) u) (Or.inr hT), h2, h3.store (by omega) _, ?_⟩
  exact ⟨h4.os, h4.tape, h4.output, by simpa [World.setCell] using h4.size, fun k hk hne => (Below.heap_setCell wx ⟨b, i, none⟩ _ k (by show k ≠ b; omega)).trans (h4.block k hk hne)⟩
theorem own_lt_ne {w : World} {base : Nat} {e : TypeId} {size n : Nat} {v : Value} {xs : List Value} (h : w.ownsRow base e size v n xs) : v.ownBlock ≠ some w.heap.size := fun he => by
  have := (h.lt _ he).2; omega

theorem Blk.cellsAt3 {w : World} {g : Nat} {t : TypeId} {cs : List Value} (h : Blk w g t cs) : ∀ j u, cs[j]? = some u → w.cell? ((⟨g, 0, none⟩ : Addr).add j) = some u := fun j u hu => by
  have : (⟨g, 0, none⟩ : Addr).add j = ⟨g, j, none⟩ := by unfold Addr.add; split <;> simp_all
  rw [this, h.cell]; exact hu
set_option maxRecDepth 100000 in
set_option maxHeartbeats 1600000 in
theorem l92Updates_any (g p : Nat) (A : Option Addr) (n c : Nat) (xs : List Int) (w : World) (h : Rd w g p) (hp : p ≤ 800000) (hx : RInts w A n xs) (hA : ∀ ad, A = some ad → ad.block ≠ g) :
    Calls Try.prog 79 #[.pointer (some ⟨g, 0, none⟩), .slice A n c] w (Drawn g p 100 w (IsUps w.heap.size)) := by
  have hgw := h.lt
  go_enter Try.func79, Try.ntmps79
  go_wp2
  go_loopw [5, 6] (fun s i wr => ∃ (k m : Nat) (B : Option Addr) (d : Nat) (cs : List Value) (q : Nat), k ≤ 4 ∧ m ≤ k ∧ i = .int .i64 k ∧ s = .slice B m d ∧ q ≤ p + 4 * k ∧ UpP g w B m d cs q wr) (fun _ i _ => 4 - (intOf i).toNat)
  case atStart => exact ⟨0, 0, _, _, [], p, by omega, by omega, rfl, rfl, by omega, World.ownsRow_made w #[] 0 (Nat.le_refl _) (by simp [maxLen]) rfl, IntCells.nil, h.keep (below_box _ _), grown_below (World.grownBy.refl w _) (below_box _ _)⟩
  case round =>
    obtain ⟨k, m, B, d, cs, q, hk, hm, rfl, rfl, hq, hls⟩ := hrel
    by_cases hlt : k < 4
    · go_upto_if 17 with (go_at_call 50; refine (pick_any g _ 3 _ hls.2.2.1 (by omega) (by omega) (by omega)).mono ?_; rintro e w2 ⟨v2, rfl, h20, h21, hr2, hg2⟩)
      have hls2 := hls.pick hgw hr2 hg2
      by_cases h2 : v2 = 0
      · subst h2
        go_wp2_with fail
        refine (pick_any g _ 4 _ hr2 (by omega) (by omega) (by omega)).mono ?_
        rintro e w3 ⟨v3, rfl, h30, h31, hr3, hg3⟩
        have hls3 := hls2.pick hgw hr3 hg3
        go_wp2_with fail
        refine (pick_any g _ 6 _ hr3 (by omega) (by omega) (by omega)).mono ?_
        rintro e w4 ⟨v4, rfl, h40, h41, hr4, hg4⟩
        have hls4 := hls3.pick hgw hr4 hg4
--BR
        have bo := Blk.new w4 53 [.int .i64 k, .int .i64 (v3 - 1), .int .i64 (v4 - 1)]
        have hls5 := hls4.next (below_box _ (.cells #[.int .i64 k, .int .i64 (v3 - 1), .int .i64 (v4 - 1)] 53))
        have hT : (Value.slice B m d).ownBlock ≠ some w4.heap.size := own_lt_ne hls4.1
        have hbw : w.heap.size ≤ w4.heap.size := hls4.2.2.2.size
        have hg5 : g ≠ w4.heap.size := by have := hr4.lt; omega
        go_upto_region 7 with fail
        generalize hW : w4.alloc (.cells #[.int .i64 k, .int .i64 (v3 - 1), .int .i64 (v4 - 1)] 53) = w5 at *
        have HW := Lib.hid hW
        clear hW
        generalize hB7 : w4.heap.size = b7 at *
        have HB7 := Lib.hid hB7
        clear hB7
        have hr5 := hls5.2.2.1
        by_cases hkn : k < n
        · go_upto_if 34 with (go_at_call 50; refine (pick_any g _ 6 _ hr5 (by omega) (by omega) (by omega)).mono ?_; rintro e w6 ⟨v6, rfl, h60, h61, hr6, hg6⟩)
          have hls6 := hls5.pick hgw hr6 hg6
          have bo6 := bo.grown hg6 (by intro e; injection e with e; omega)
          by_cases h6 : 0 < v6
          · have h6b : decide (0 < v6) = true := by simpa using h6
            obtain ⟨ad, x, rfl, hbx, hxx, cx⟩ := (hx.grownU hls6.2.2.2 (fun ad e => by simpa using hA ad e)).at_ hkn
            have HXX := Lib.hid hxx
            clear hxx
            have f1 := bo6.frozen 1
            obtain ⟨p0, p1, p2⟩ := bo6.cells3
            have bo7 := bo6.set_ 1 (.int .i64 x)
            have hls7 := hls6.far hgw hT hbw 1 (.int .i64 x)
            go_upto_region 9 with fail
            obtain ⟨e0, e1, e2⟩ := bo7.cells3
            have fe2 := bo7.frozen 2
            have bo2 := bo7.set_ 2 (.int .i64 (7 + (k : Int)))
            have hl2 := hls7.far hgw hT hbw 2 (.int .i64 (7 + (k : Int)))
            obtain ⟨s0, s1, s2⟩ := bo2.cells3
            have hz2 := hl2.2.2.2.size
            have hz1 := hls7.2.2.2.size
            have b2 := hl2.next (below_box _ (.cells #[.int .i64 k, .int .i64 x, .int .i64 (7 + (k : Int))] 53))
            have b1 := hls7.next (below_box _ (.cells #[.int .i64 k, .int .i64 x, .int .i64 (v4 - 1)] 53))
            have hzs : ((w6.setCell ⟨b7, 1, none⟩ (.int .i64 x)).setCell ⟨b7, 2, none⟩ (.int .i64 (7 + (k : Int)))).heap.size = w6.heap.size := by simp [World.setCell]
            have hzq : ((w6.setCell ⟨b7, 1, none⟩ (.int .i64 x))).heap.size = w6.heap.size := by first | rfl | simp [World.setCell]
            have bq2 := Blk.new ((w6.setCell ⟨b7, 1, none⟩ (.int .i64 x)).setCell ⟨b7, 2, none⟩ (.int .i64 (7 + (k : Int)))) 53 [.int .i64 k, .int .i64 x, .int .i64 (7 + (k : Int))]
            have bq1 := Blk.new ((w6.setCell ⟨b7, 1, none⟩ (.int .i64 x))) 53 [.int .i64 k, .int .i64 x, .int .i64 (v4 - 1)]
            rw [hzs] at bq2 hz2
            rw [hzq] at bq1 hz1
            clear hzs hzq
            by_cases he : v4 - 1 = x
            · have heb : (v4 - 1 == x) = true := by simpa using he
              clear he
              go_wp2_with (at_builtin; go_loud (refine wpList_app rfl (.tmp 48) (.tmp 50) 49 rfl w.heap.size 53 Try.underlying49 up_info1 rfl (by omega) (by omega) _ m cs rfl b2.1 ⟨w6.heap.size, 0, none⟩ 1 1 [.int .i64 k, .int .i64 x, .int .i64 (7 + (k : Int))] rfl rfl bq2.cellsAt3 (by simp [Value.oneCell']) (by omega) (Nat.le_trans hz2 (by first | simp | simp [World.setCell])) ?_; intro B' d' w9 hown9 _ hb9 hg9 _))
              have hl9 := hl2.app hgw hown9 hb9
              go_roundw
              case rel => exact ⟨k + 1, m + 1, B', d', _, (q + 1 + 1 + 1 + 1), by omega, by omega, by go_num, rfl, by omega, hl9⟩
              case measure => simp [intOf]; omega
            · have heb : (v4 - 1 == x) = false := by simpa using he
              clear he
              go_wp2_with (at_builtin; go_loud (refine wpList_app rfl (.tmp 48) (.tmp 50) 49 rfl w.heap.size 53 Try.underlying49 up_info1 rfl (by omega) (by omega) _ m cs rfl b1.1 ⟨w6.heap.size, 0, none⟩ 1 1 [.int .i64 k, .int .i64 x, .int .i64 (v4 - 1)] rfl rfl bq1.cellsAt3 (by simp [Value.oneCell']) (by omega) (Nat.le_trans hz1 (by first | simp | simp [World.setCell])) ?_; intro B' d' w9 hown9 _ hb9 hg9 _))
              have hl9 := hls7.app hgw hown9 hb9
              go_roundw
              case rel => exact ⟨k + 1, m + 1, B', d', _, (q + 1 + 1 + 1 + 1), by omega, by omega, by go_num, rfl, by omega, hl9⟩
              case measure => simp [intOf]; omega
          · have h6b : decide (0 < v6) = false := by simpa using h6
            go_upto_region 9 with fail
            obtain ⟨e0, e1, e2⟩ := bo6.cells3
            have fe2 := bo6.frozen 2
            have bo2 := bo6.set_ 2 (.int .i64 (7 + (k : Int)))
            have hl2 := hls6.far hgw hT hbw 2 (.int .i64 (7 + (k : Int)))
            obtain ⟨s0, s1, s2⟩ := bo2.cells3
            have hz2 := hl2.2.2.2.size
            have hz1 := hls6.2.2.2.size
            have b2 := hl2.next (below_box _ (.cells #[.int .i64 k, .int .i64 (v3 - 1), .int .i64 (7 + (k : Int))] 53))
            have b1 := hls6.next (below_box _ (.cells #[.int .i64 k, .int .i64 (v3 - 1), .int .i64 (v4 - 1)] 53))
            have hzs : (w6.setCell ⟨b7, 2, none⟩ (.int .i64 (7 + (k : Int)))).heap.size = w6.heap.size := by simp [World.setCell]
            have hzq : (w6).heap.size = w6.heap.size := by first | rfl | simp [World.setCell]
            have bq2 := Blk.new (w6.setCell ⟨b7, 2, none⟩ (.int .i64 (7 + (k : Int)))) 53 [.int .i64 k, .int .i64 (v3 - 1), .int .i64 (7 + (k : Int))]
            have bq1 := Blk.new (w6) 53 [.int .i64 k, .int .i64 (v3 - 1), .int .i64 (v4 - 1)]
            rw [hzs] at bq2 hz2
            rw [hzq] at bq1 hz1
            clear hzs hzq
            by_cases he : v4 - 1 = (v3 - 1)
            · have heb : (v4 - 1 == (v3 - 1)) = true := by simpa using he
              clear he
              go_wp2_with (at_builtin; go_loud (refine wpList_app rfl (.tmp 48) (.tmp 50) 49 rfl w.heap.size 53 Try.underlying49 up_info1 rfl (by omega) (by omega) _ m cs rfl b2.1 ⟨w6.heap.size, 0, none⟩ 1 1 [.int .i64 k, .int .i64 (v3 - 1), .int .i64 (7 + (k : Int))] rfl rfl bq2.cellsAt3 (by simp [Value.oneCell']) (by omega) (Nat.le_trans hz2 (by first | simp | simp [World.setCell])) ?_; intro B' d' w9 hown9 _ hb9 hg9 _))
              have hl9 := hl2.app hgw hown9 hb9
              go_roundw
              case rel => exact ⟨k + 1, m + 1, B', d', _, (q + 1 + 1 + 1 + 1), by omega, by omega, by go_num, rfl, by omega, hl9⟩
              case measure => simp [intOf]; omega
            · have heb : (v4 - 1 == (v3 - 1)) = false := by simpa using he
              clear he
              go_wp2_with (at_builtin; go_loud (refine wpList_app rfl (.tmp 48) (.tmp 50) 49 rfl w.heap.size 53 Try.underlying49 up_info1 rfl (by omega) (by omega) _ m cs rfl b1.1 ⟨w6.heap.size, 0, none⟩ 1 1 [.int .i64 k, .int .i64 (v3 - 1), .int .i64 (v4 - 1)] rfl rfl bq1.cellsAt3 (by simp [Value.oneCell']) (by omega) (Nat.le_trans hz1 (by first | simp | simp [World.setCell])) ?_; intro B' d' w9 hown9 _ hb9 hg9 _))
              have hl9 := hls6.app hgw hown9 hb9
              go_roundw
              case rel => exact ⟨k + 1, m + 1, B', d', _, (q + 1 + 1 + 1 + 1), by omega, by omega, by go_num, rfl, by omega, hl9⟩
              case measure => simp [intOf]; omega
        · go_upto_region 9 with fail
          obtain ⟨e0, e1, e2⟩ := bo.cells3
          have fe2 := bo.frozen 2
          have bo2 := bo.set_ 2 (.int .i64 (7 + (k : Int)))
          have hl2 := hls5.far hgw hT hbw 2 (.int .i64 (7 + (k : Int)))
          obtain ⟨s0, s1, s2⟩ := bo2.cells3
          have hz2 := hl2.2.2.2.size
          have hz1 := hls5.2.2.2.size
          have b2 := hl2.next (below_box _ (.cells #[.int .i64 k, .int .i64 (v3 - 1), .int .i64 (7 + (k : Int))] 53))
          have b1 := hls5.next (below_box _ (.cells #[.int .i64 k, .int .i64 (v3 - 1), .int .i64 (v4 - 1)] 53))
          have hzs : (w5.setCell ⟨b7, 2, none⟩ (.int .i64 (7 + (k : Int)))).heap.size = w5.heap.size := by simp [World.setCell]
          have hzq : (w5).heap.size = w5.heap.size := by first | rfl | simp [World.setCell]
          have bq2 := Blk.new (w5.setCell ⟨b7, 2, none⟩ (.int .i64 (7 + (k : Int)))) 53 [.int .i64 k, .int .i64 (v3 - 1), .int .i64 (7 + (k : Int))]
          have bq1 := Blk.new (w5) 53 [.int .i64 k, .int .i64 (v3 - 1), .int .i64 (v4 - 1)]
          rw [hzs] at bq2 hz2
          rw [hzq] at bq1 hz1
          clear hzs hzq
          by_cases he : v4 - 1 = (v3 - 1)
          · have heb : (v4 - 1 == (v3 - 1)) = true := by simpa using he
            clear he
            go_wp2_with (at_builtin; go_loud (refine wpList_app rfl (.tmp 48) (.tmp 50) 49 rfl w.heap.size 53 Try.underlying49 up_info1 rfl (by omega) (by omega) _ m cs rfl b2.1 ⟨w5.heap.size, 0, none⟩ 1 1 [.int .i64 k, .int .i64 (v3 - 1), .int .i64 (7 + (k : Int))] rfl rfl bq2.cellsAt3 (by simp [Value.oneCell']) (by omega) (Nat.le_trans hz2 (by first | simp | simp [World.setCell])) ?_; intro B' d' w9 hown9 _ hb9 hg9 _))
            have hl9 := hl2.app hgw hown9 hb9
            go_roundw
            case rel => exact ⟨k + 1, m + 1, B', d', _, (q + 1 + 1 + 1), by omega, by omega, by go_num, rfl, by omega, hl9⟩
            case measure => simp [intOf]; omega
          · have heb : (v4 - 1 == (v3 - 1)) = false := by simpa using he
            clear he
            go_wp2_with (at_builtin; go_loud (refine wpList_app rfl (.tmp 48) (.tmp 50) 49 rfl w.heap.size 53 Try.underlying49 up_info1 rfl (by omega) (by omega) _ m cs rfl b1.1 ⟨w5.heap.size, 0, none⟩ 1 1 [.int .i64 k, .int .i64 (v3 - 1), .int .i64 (v4 - 1)] rfl rfl bq1.cellsAt3 (by simp [Value.oneCell']) (by omega) (Nat.le_trans hz1 (by first | simp | simp [World.setCell])) ?_; intro B' d' w9 hown9 _ hb9 hg9 _))
            have hl9 := hls5.app hgw hown9 hb9
            go_roundw
            case rel => exact ⟨k + 1, m + 1, B', d', _, (q + 1 + 1 + 1), by omega, by omega, by go_num, rfl, by omega, hl9⟩
            case measure => simp [intOf]; omega
--ENDBR
      · have h2b : (v2 == 0) = false := by simpa using h2
        go_wp2
        go_roundw
        case rel => exact ⟨k + 1, m, B, d, _, q + 1, by omega, by omega, by go_num, rfl, by omega, hls2⟩
        case measure => simp [intOf]; omega
    · obtain rfl : k = 4 := by omega
      go_upto_if 54 with fail
      go_cut [5] from 18 (fun s wx => ∃ (m' d' : Nat) (B' : Option Addr) (cs' : List Value) (q' : Nat), s = .slice B' m' d' ∧ m' ≤ 4 ∧ 0 < m' ∧ q' ≤ q + 4 ∧ UpP g w B' m' d' cs' q' wx)
      case first =>
        by_cases hm0 : m = 0
        · subst hm0
          go_wp2_with fail
          refine (pick_any g _ 4 _ hls.2.2.1 (by omega) (by omega) (by omega)).mono ?_
          rintro e w3 ⟨v3, rfl, h30, h31, hr3, hg3⟩
          have hls3 := hls.pick hgw hr3 hg3
          have hz3 := hls3.2.2.2.size
          obtain ⟨j, rfl⟩ := Int.eq_ofNat_of_zero_le h30
          by_cases hjn : j < n
          · obtain ⟨ad, x, rfl, hbx, hxx, cx⟩ := (hx.grownU hls3.2.2.2 (fun ad e => by simpa using hA ad e)).at_ hjn
            have HXX := Lib.hid hxx
            clear hxx
            have bq := Blk.new w3 53 [.int .i64 j, .int .i64 x, .int .i64 9]
            have b2 := hls3.next (below_box _ (.cells #[.int .i64 j, .int .i64 x, .int .i64 9] 53))
            go_wp2_with (at_builtin; go_loud (refine wpList_app rfl (.tmp 65) (.tmp 69) 49 rfl w.heap.size 53 Try.underlying49 up_info1 rfl (by omega) (by omega) _ 0 cs rfl b2.1 ⟨w3.heap.size, 0, none⟩ 1 1 [.int .i64 j, .int .i64 x, .int .i64 9] rfl rfl bq.cellsAt3 (by simp [Value.oneCell']) (by omega) (Nat.le_trans hz3 (by simp)) ?_; intro B' d' w9 hown9 _ hb9 hg9 _))
            have hl9 := hls3.app hgw hown9 hb9
            go_meet
            case rel => exact ⟨_, _, _, _, _, rfl, by omega, by omega, by omega, hl9⟩
          · have bq := Blk.new w3 53 [.int .i64 j, .int .i64 (-1), .int .i64 9]
            have b2 := hls3.next (below_box _ (.cells #[.int .i64 j, .int .i64 (-1), .int .i64 9] 53))
            go_wp2_with (at_builtin; go_loud (refine wpList_app rfl (.tmp 65) (.tmp 69) 49 rfl w.heap.size 53 Try.underlying49 up_info1 rfl (by omega) (by omega) _ 0 cs rfl b2.1 ⟨w3.heap.size, 0, none⟩ 1 1 [.int .i64 j, .int .i64 (-1), .int .i64 9] rfl rfl bq.cellsAt3 (by simp [Value.oneCell']) (by omega) (Nat.le_trans hz3 (by simp)) ?_; intro B' d' w9 hown9 _ hb9 hg9 _))
            have hl9 := hls3.app hgw hown9 hb9
            go_meet
            case rel => exact ⟨_, _, _, _, _, rfl, by omega, by omega, by omega, hl9⟩
        · have hm0b : ((m : Int) == 0) = false := by simpa using hm0
          go_wp2
          go_meet
          case rel => exact ⟨_, _, _, _, _, rfl, by omega, by omega, by omega, hls⟩
      obtain ⟨m1, d1, B1, cs1, q1, rfl, hm14, hm10, hq1, hlc⟩ := hcut
      obtain ⟨b, rfl, hb1, hb2⟩ := own_addr hlc.1 hm10
      go_wp2_with fail
      refine (pick_any g _ 30 _ hlc.2.2.1 (by omega) (by omega) (by omega)).mono ?_
      rintro e w2 ⟨v2, rfl, h20, h21, hr2, hg2⟩
      have hls2 := hlc.pick hgw hr2 hg2
      have hd4 : m1 ≤ d1 := by obtain ⟨_, _, e, hc⟩ := own_form hls2.1; injection e with _ _ e; omega
      have hll : cs1.length = m1 * 3 := hls2.1.1
      have hrest : v2 = 0 ∨ v2 = 1 ∨ v2 = 2 ∨ ((v2 == 0) = false ∧ (v2 == 1) = false ∧ (v2 == 2) = false) := by simp; omega
      rcases hrest with rfl | rfl | rfl | ⟨n0, n1, n2⟩
      · go_wp2_with fail
        refine (pick_any g _ m1 _ hr2 (by omega) (by omega) (by omega)).mono ?_
        rintro e w3 ⟨v3, rfl, h30, h31, hr3, hg3⟩
        have hls3 := hls2.pick hgw hr3 hg3
        go_wp2_with fail
        refine (pick_any g _ 6 _ hr3 (by omega) (by omega) (by omega)).mono ?_
        rintro e w4 ⟨v4, rfl, h40, h41, hr4, hg4⟩
        have hls4 := hls3.pick hgw hr4 hg4
        obtain ⟨j, rfl⟩ := Int.eq_ofNat_of_zero_le h30
        obtain ⟨CS, hB, -, hCt⟩ := own_blkI hls4.1
        have hf := hB.frozen (j * 3)
        obtain ⟨y, hy⟩ : ∃ y, CS[j * 3]? = some y := ⟨_, List.getElem?_eq_getElem (by
          have := congrArg List.length hCt
          rw [hll, List.length_take] at this
          omega)⟩
        have cx : w4.cell? ⟨b, j * 3, none⟩ = some y := by rw [hB.cell]; exact hy
        have hl5 := hls4.store hgw hb1 (j * 3) (v4 - 1)
        clear hy hCt hll
        go_wp2
        go_ret
        exact ⟨_, _, rfl, ⟨_, _, _, _, rfl, by omega, hl5.1, hl5.2.1⟩, by omega, hl5.2.2.1, hl5.2.2.2⟩
      · go_wp2_with fail
        refine (pick_any g _ m1 _ hr2 (by omega) (by omega) (by omega)).mono ?_
        rintro e w3 ⟨v3, rfl, h30, h31, hr3, hg3⟩
        have hls3 := hls2.pick hgw hr3 hg3
        go_wp2_with fail
        refine (l92Value_any g _ _ hr3 (by omega)).mono ?_
        rintro e w4 ⟨_, q4, rfl, ⟨v4, rfl, h40, h41⟩, hq4, hr4, hg4⟩
        have hls4 := hls3.pick hgw hr4 hg4
        obtain ⟨j, rfl⟩ := Int.eq_ofNat_of_zero_le h30
        obtain ⟨CS, hB, -, hCt⟩ := own_blkI hls4.1
        have hf := hB.frozen (j * 3 + 1 + 1)
        obtain ⟨y, hy⟩ : ∃ y, CS[j * 3 + 1 + 1]? = some y := ⟨_, List.getElem?_eq_getElem (by
          have := congrArg List.length hCt
          rw [hll, List.length_take] at this
          omega)⟩
        have cx : w4.cell? ⟨b, j * 3 + 1 + 1, none⟩ = some y := by rw [hB.cell]; exact hy
        have hl5 := hls4.store hgw hb1 (j * 3 + 1 + 1) v4
        clear hy hCt hll
        go_wp2
        go_ret
        exact ⟨_, _, rfl, ⟨_, _, _, _, rfl, by omega, hl5.1, hl5.2.1⟩, by omega, hl5.2.2.1, hl5.2.2.2⟩
      · go_wp2
        go_ret
        exact ⟨_, _, rfl, ⟨_, _, _, _, rfl, by omega, own_trunc hls2.1 0 (by omega), by simpa using IntCells.nil⟩, by omega, hr2, hls2.2.2.2⟩
      · go_wp2
        go_ret
        exact ⟨_, _, rfl, ⟨_, _, _, _, rfl, by omega, hls2.1, hls2.2.1⟩, by omega, hr2, hls2.2.2.2⟩
theorem below_of_grown {w w1 w2 : World} (h : Below w.heap.size w w1) (hg : w1.grownBy w2 (some w.heap.size)) : Below w.heap.size w w2 :=
  ⟨hg.os.trans h.os, hg.tape.trans h.tape, hg.output.trans h.output, Nat.le_trans h.size hg.size, fun i hi => (hg.block i (by have := h.size; omega) (by intro e; injection e with e; omega)).trans (h.block i hi)⟩
/-- such a slice can be read -/
theorem RUps.of_own {w : World} {B : Nat} {e : TypeId} {A : Option Addr} {n c : Nat} {cs : List Value} (h : w.ownsRow B e 3 (.slice A n c) n cs) (hi : IntCells cs) : ∃ us, RUps w A n us := by
  have hl := h.1
  have hv : ∀ i, i < cs.length → ∃ z : Int, cs[i]? = some (.int .i64 z) := fun i hlt => by
    obtain ⟨z, hz⟩ := hi _ (List.getElem_mem hlt)
    exact ⟨z, by rw [List.getElem?_eq_getElem hlt, hz]⟩
  let val : Nat → Int := fun i => match cs[i]? with
    | some (.int .i64 z) => z
    | _ => 0
  have hval : ∀ i, i < cs.length → cs[i]? = some (.int .i64 (val i)) := fun i hlt => by
    obtain ⟨z, hz⟩ := hv i hlt
    show cs[i]? = some (.int .i64 (match cs[i]? with | some (.int .i64 z) => z | _ => 0))
    rw [hz]
  refine ⟨(List.range n).map fun i => ⟨val (i * 3), val (i * 3 + 1), val (i * 3 + 1 + 1)⟩, by simp, fun hn => ?_⟩
  obtain ⟨g, rfl, _, hlt⟩ := own_addr h hn
  refine ⟨g, 0, rfl, hlt, fun i u hu => ?_⟩
  rw [List.getElem?_map] at hu
  have hin : i < n := by
    apply Classical.byContradiction; intro hni
    rw [List.getElem?_eq_none (by simp; omega)] at hu; cases hu
  rw [List.getElem?_range hin] at hu
  obtain rfl := Option.some.inj hu
  have hcell : ∀ j, j < cs.length → w.cell? ⟨g, j, none⟩ = some (.int .i64 (val j)) := fun j hj => by
    have := h.cells (g := g) rfl j _ (hval j hj)
    have ha : (⟨g, 0, none⟩ : Addr).add j = ⟨g, j, none⟩ := by unfold Addr.add; split <;> simp_all
    rwa [ha] at this
  simp only [Nat.zero_add]
  exact ⟨hcell _ (by omega), hcell _ (by omega), hcell _ (by omega)⟩
end Go.Proofs.Ytlmcejpjhdaanaa
