/- Walks: drawing ids and objects: only what bounds the results is said. -/
import Derived.Test.YtkekcgamhhmjnaaDraw
import Derived.Test.YtkekcgamhhmjnaaSort
import Derived.Deep.RegionHeld3
import Derived.Deep.CutBlock
import Derived.Deep.RegionLaw
namespace Go.Proofs.Ytkekcgamhhmjnaa
open Go.RowKit Go.Sort

def IsInt (lo hi : Int) (v : Value) (_ : World) : Prop := ∃ z : Int, v = .int .i64 z ∧ lo ≤ z ∧ z ≤ hi

set_option maxHeartbeats 1600000 in
theorem l91Id_any (g p : Nat) (w : World) (h : Rd w g p) (hp : p ≤ 900000) :
    Calls Try.prog 66 #[.pointer (some ⟨g, 0, none⟩)] w (Drawn g p 5 w (IsInt (-1) 991)) := by
  go_enter Try.func66, Try.ntmps66
  go_wp2_with fail
  refine (pick_any g p 30 _ h (by omega) (by omega) (by omega)).mono ?_
  rintro e w1 ⟨v1, rfl, h10, h11, hr1, hg1⟩
  go_wp2_with fail
  · refine (pick_any g _ 3 _ (hr1.keep (below_box _ _)) (by omega) (by omega) (by omega)).mono ?_
    rintro e w2 ⟨v2, rfl, h20, h21, hr2, hg2⟩
    have hbl := (Blk.new w1 3 [.int .i64 (-1), .int .i64 990, .int .i64 991]).grown hg2 (by have := hr1.lt; simp; omega)
    obtain ⟨c0, c1, c2⟩ := hbl.cells3
    have hv : v2 = 0 ∨ v2 = 1 ∨ v2 = 2 := by omega
    rcases hv with rfl | rfl | rfl
    all_goals
      go_wp2
      go_ret
      exact ⟨_, _, rfl, ⟨_, rfl, by omega, by omega⟩, by omega, hr2, grown_trans (grown_below hg1 (below_box _ _)) hg2⟩
  · refine (pick_any g _ 99 _ hr1 (by omega) (by omega) (by omega)).mono ?_
    rintro e w2 ⟨v2, rfl, h20, h21, hr2, hg2⟩
    go_wp2_with fail
    refine (pick_any g _ 10 _ hr2 (by omega) (by omega) (by omega)).mono ?_
    rintro e w3 ⟨v3, rfl, h30, h31, hr3, hg3⟩
    go_wp2
    go_ret
    exact ⟨_, _, rfl, ⟨_, rfl, by omega, by omega⟩, by omega, hr3, grown_trans (grown_trans hg1 hg2) hg3⟩

/-- an object: its links own their cells from block B on -/
def IsObj (B : Nat) (v : Value) (w : World) : Prop := ∃ (k : Int) (A : Option Addr) (n c : Nat) (xs : List Int) (t : ByteArray),
  v = .agg #[.int .i64 k, .slice A n c, .string t] ∧ w.ownsRow B 3 1 (.slice A n c) n (ints xs) ∧ n = xs.length ∧ n ≤ 1000 ∧ t.size ≤ 9 ∧ -1 ≤ k ∧ k ≤ 4

theorem RInts.grown {w w' : World} {row : Option Nat} {A : Option Addr} {n : Nat} {xs : List Int} (h : RInts w A n xs) (hg : w.grownBy w' row) (hne : ∀ ad, A = some ad → some ad.block ≠ row) : RInts w' A n xs :=
  ⟨h.1, fun hn => by
    obtain ⟨ad, e, hlt, hc⟩ := h.2 hn
    exact ⟨ad, e, Nat.lt_of_lt_of_le hlt hg.size, fun j x hx => (World.cell?_of_block (hg.block (ad.add j).block (by rw [block_of_add]; exact hlt) (by rw [block_of_add]; exact hne ad e))).trans (hc j x hx)⟩⟩
theorem RInts.of_own {w : World} {B : Nat} {e : TypeId} {A : Option Addr} {n c : Nat} {xs : List Int} (h : w.ownsRow B e 1 (.slice A n c) n (ints xs)) : RInts w A n xs := by
  have hl : xs.length = n := by have := h.1; rw [length_ints] at this; omega
  refine ⟨hl, fun hn => ?_⟩
  rcases h.2 with ⟨_, h0⟩ | ⟨g, cap, cur, hv, hb, hh, _⟩
  · omega
  · injection hv with hA _ _
    subst hA
    exact ⟨_, rfl, (Array.getElem?_eq_some_iff.1 hh).1, fun j x hx => h.cells (g := g) rfl j _ (by rw [ints, List.getElem?_map, hx]; rfl)⟩
theorem own_ne_blk {w : World} {base g : Nat} {e t : TypeId} {size n : Nat} {v : Value} {xs cs : List Value} (h : w.ownsRow base e size v n xs) (hg : Blk w g t cs) (hne : e ≠ t) : v.ownBlock ≠ some g := by
  rcases h.2 with ⟨rfl, _⟩ | ⟨g', cap, cur, rfl, _, hh, _⟩
  · simp [Value.ownBlock]
  · intro he
    have : g' = g := by simpa [Value.ownBlock] using he
    subst this
    unfold Blk at hg
    rw [hh] at hg
    injection hg with hg
    injection hg with _ ht
    exact hne ht
theorem own_grown {w w' : World} {base g : Nat} {e : TypeId} {size n : Nat} {v : Value} {xs : List Value} (h : w.ownsRow base e size v n xs) (hg : w.grownBy w' (some g)) (hb : g < base) : w'.ownsRow base e size v n xs :=
  h.kept hg (Or.inr fun he => by have := (h.lt g he).1; omega)
theorem own_below {w w' : World} {base : Nat} {e : TypeId} {size n : Nat} {v : Value} {xs : List Value} (h : w.ownsRow base e size v n xs) (hb : Below w.heap.size w w') : w'.ownsRow base e size v n xs :=
  h.kept (row := none) ⟨hb.os, hb.tape, hb.output, hb.size, fun k hk _ => hb.block k hk⟩ (by cases v.ownBlock <;> simp)
theorem own_base {w : World} {base base' : Nat} {e : TypeId} {size n : Nat} {v : Value} {xs : List Value} (h : w.ownsRow base e size v n xs) (hb : base' ≤ base) : w.ownsRow base' e size v n xs := by
  refine ⟨h.1, ?_⟩
  rcases h.2 with h0 | ⟨g, cap, cur, hv, hg, r⟩
  · exact Or.inl h0
  · exact Or.inr ⟨g, cap, cur, hv, Nat.le_trans hb hg, r⟩
theorem IsObj.mono {B B' : Nat} {v : Value} {w : World} (h : IsObj B v w) (hb : B' ≤ B) : IsObj B' v w := by
  obtain ⟨k, A, n, c, xs, t, r0, r1, r⟩ := h
  exact ⟨k, A, n, c, xs, t, r0, own_base r1 hb, r⟩

/-- where l91Object stands between its statements -/
def ObjSt (g p K : Nat) (w : World) (b5 : Nat) (wx : World) : Prop := ∃ (k : Int) (A : Option Addr) (n c : Nat) (ys : List Int) (t : ByteArray) (q : Nat),
  Blk wx b5 34 [.int .i64 k, .slice A n c, .string t] ∧ wx.ownsRow w.heap.size 3 1 (.slice A n c) n (ints ys) ∧ n = ys.length ∧ n ≤ 991 ∧ t.size ≤ 9 ∧ 1 ≤ k ∧ k ≤ 3 ∧ q ≤ p + K ∧ Rd wx g q ∧
  Blk wx w.heap.size 34 [.int .i64 0, .slice none 0 0, .string ⟨#[]⟩] ∧ w.grownBy wx (some g)

/-- .. while the list of links is gathered -/
def LsP (g : Nat) (w : World) (b5 : Nat) (cs : List Value) (B : Option Addr) (m d : Nat) (ys : List Int) (q' : Nat) (wx : World) : Prop :=
  wx.ownsRow w.heap.size 3 1 (.slice B m d) m (ints ys) ∧ Blk wx b5 34 cs ∧ Rd wx g q' ∧
  Blk wx w.heap.size 34 [.int .i64 0, .slice none 0 0, .string ⟨#[]⟩] ∧ w.grownBy wx (some g)
theorem LsP.pick {g : Nat} {w w' w3 : World} {b5 m d q' : Nat} {B : Option Addr} {cs : List Value} {ys : List Int} (hgw : g < w.heap.size) (hb5 : g ≠ b5) (h : LsP g w b5 cs B m d ys q' w') (hr : Rd w3 g (q' + 1)) (hg : w'.grownBy w3 (some g)) : LsP g w b5 cs B m d ys (q' + 1) w3 := by
  obtain ⟨h1, h2, h3, h4, h5⟩ := h
  exact ⟨own_grown h1 hg hgw, h2.grown hg (fun e => by injection e with e; omega), hr, h4.grown hg (fun e => by injection e with e; omega), grown_trans h5 hg⟩
theorem LsP.pick' {g : Nat} {w w' w3 : World} {b5 m d q' q'' : Nat} {B : Option Addr} {cs : List Value} {ys : List Int} (hgw : g < w.heap.size) (hb5 : g ≠ b5) (h : LsP g w b5 cs B m d ys q' w') (hr : Rd w3 g q'') (hg : w'.grownBy w3 (some g)) : LsP g w b5 cs B m d ys q'' w3 := by
  obtain ⟨h1, h2, h3, h4, h5⟩ := h
  exact ⟨own_grown h1 hg hgw, h2.grown hg (fun e => by injection e with e; omega), hr, h4.grown hg (fun e => by injection e with e; omega), grown_trans h5 hg⟩
theorem LsP.drew {g : Nat} {w wx : World} {b5 m d q' : Nat} {B : Option Addr} {cs : List Value} {ys : List Int} (h : LsP g w b5 cs B m d ys q' wx) : LsP g w b5 cs B m d ys q' wx.drew :=
  ⟨h.1, h.2.1, h.2.2.1, h.2.2.2.1, ⟨h.2.2.2.2.os, h.2.2.2.2.tape, h.2.2.2.2.output, h.2.2.2.2.size, h.2.2.2.2.block⟩⟩
theorem LsP.app {g : Nat} {w w3 w4 : World} {b5 m d d' q' : Nat} {B B' : Option Addr} {cs : List Value} {ys : List Int} {x : Int} (hgw : g < w.heap.size) (h : LsP g w b5 cs B m d ys q' w3)
    (hown4 : w4.ownsRow w.heap.size 3 1 (.slice B' (m + 1) d') (m + 1) (ints ys ++ [.int .i64 x])) (hb4 : Below w.heap.size (w3.alloc (.cells #[.int .i64 x] 3)) w4)
    (hg4 : (w3.alloc (.cells #[.int .i64 x] 3)).grownBy w4 (Value.slice B m d).ownBlock) : LsP g w b5 cs B' (m + 1) d' (ys ++ [x]) q' w4 := by
  obtain ⟨hown3, hbo3, hr3, hRr3, hG3⟩ := h
  have hz3 := hG3.size
  have hne1 : (Value.slice B m d).ownBlock ≠ some b5 := own_ne_blk hown3 hbo3 (by decide)
  have hne2 : (Value.slice B m d).ownBlock ≠ some w.heap.size := own_ne_blk hown3 hRr3 (by decide)
  refine ⟨by rw [← ints_snoc]; exact hown4, (hbo3.next (below_box _ _)).grown hg4 (fun e => hne1 e.symm), ?_, (hRr3.next (below_box _ _)).grown hg4 (fun e => hne2 e.symm), ?_⟩
  · obtain ⟨A', n', c', hA', hn', hr'⟩ := hr3.keep (below_box w3 (.cells #[.int .i64 x] 3))
    exact ⟨A', n', c', hA'.below hb4 hgw, hn', hr'.keep fun a ha => hb4.cell (by omega)⟩
  · exact ⟨hb4.os.trans hG3.os, hb4.tape.trans hG3.tape, hb4.output.trans hG3.output, Nat.le_trans hz3 (Nat.le_trans (by simp) hb4.size), fun i hi hne => (hb4.block i hi).trans (((below_box w3 _).block i (by omega)).trans (hG3.block i hi hne))⟩
theorem Rd.store {w : World} {g p b i : Nat} (h : Rd w g p) (hb : g < b) (u : Value) : Rd (w.setCell ⟨b, i, none⟩ u) g p := by
  obtain ⟨A, n, c, h1, h2, h3⟩ := h
  exact ⟨A, n, c, h1.far (p := ⟨b, i, none⟩) (by show g ≠ b; omega) u, h2, h3.keep fun a ha => setCell_cell_far _ _ _ _ (by show a.block ≠ b; omega)⟩
theorem LsP.store {g : Nat} {w wx : World} {b5 n c q : Nat} {A : Option Addr} {cs : List Value} {ys : List Int} (h : LsP g w b5 cs A n c ys q wx) (hgw : g < w.heap.size) (hb5 : w.heap.size < b5) (i : Nat) (u : Value) :
    LsP g w b5 (cs.set i u) A n c ys q (wx.setCell ⟨b5, i, none⟩ u) := by
  obtain ⟨h1, h2, h3, h4, h5⟩ := h
  refine ⟨h1.kept (grown_setCell (World.grownBy.refl wx _) u) (Or.inr (own_ne_blk h1 h2 (by decide))), h2.set_ i u, h3.store (by omega) u, h4.far (p := ⟨b5, i, none⟩) (by show w.heap.size ≠ b5; omega) u, ?_⟩
  exact ⟨h5.os, h5.tape, h5.output, by simpa [World.setCell] using h5.size, fun k hk hne => (Below.heap_setCell wx ⟨b5, i, none⟩ u k (by show k ≠ b5; omega)).trans (h5.block k hk hne)⟩
theorem LsP.res {g : Nat} {w wx : World} {b5 n c q : Nat} {A : Option Addr} {cs : List Value} {ys : List Int} (h : LsP g w b5 cs A n c ys q wx) (hgw : g < w.heap.size) (u0 u1 u2 : Value) :
    let wy := ((wx.setCell ⟨w.heap.size, 0, none⟩ u0).setCell ⟨w.heap.size, 1, none⟩ u1).setCell ⟨w.heap.size, 2, none⟩ u2
    wy.ownsRow w.heap.size 3 1 (.slice A n c) n (ints ys) ∧ Rd wy g q ∧ w.grownBy wy (some g) := by
  obtain ⟨h1, h2, h3, h4, h5⟩ := h
  have hne := own_ne_blk h1 h4 (by decide)
  have hgr := grown_setCell (i := 2) (grown_setCell (i := 1) (grown_setCell (i := 0) (World.grownBy.refl wx (some w.heap.size)) u0) u1) u2
  refine ⟨h1.kept hgr (Or.inr hne), ((h3.store hgw u0).store hgw u1).store hgw u2, ⟨hgr.os.trans h5.os, hgr.tape.trans h5.tape, hgr.output.trans h5.output, Nat.le_trans h5.size hgr.size, fun k hk hn => (hgr.block k (Nat.lt_of_lt_of_le hk h5.size) (by intro e; injection e with e; omega)).trans (h5.block k hk hn)⟩⟩
def LsSt (g q K M : Nat) (w : World) (b5 : Nat) (cs : List Value) (s : Value) (wx : World) : Prop := ∃ (B : Option Addr) (m d : Nat) (ys : List Int) (q' : Nat),
  s = .slice B m d ∧ m ≤ M ∧ q' ≤ q + K ∧ LsP g w b5 cs B m d ys q' wx

set_option maxRecDepth 100000 in
set_option maxHeartbeats 3200000 in
theorem l91Object_any (g p : Nat) (A : Option Addr) (n c : Nat) (xs : List Int) (w : World) (h : Rd w g p) (hp : p ≤ 800000) (hx : RInts w A n xs) (hn : n ≤ 100) (hA : ∀ ad, A = some ad → ad.block ≠ g) :
    Calls Try.prog 51 #[.pointer (some ⟨g, 0, none⟩), .slice A n c] w (Drawn g p 200 w (IsObj w.heap.size)) := by
  have hgw := h.lt
  have hR := Blk.new w 34 [.int .i64 0, .slice none 0 0, .string ⟨#[]⟩]
  go_enter Try.func51, Try.ntmps51
  go_wp2_with fail
  refine (pick_any g p 3 _ (h.keep (below_box _ _)) (by omega) (by omega) (by omega)).mono ?_
  rintro e w1 ⟨v1, rfl, h10, h11, hr1, hg1⟩
  have hR1 := hR.grown hg1 (by simp; omega)
  have hG1 : w.grownBy w1 (some g) := grown_trans (grown_below (World.grownBy.refl w _) (below_box _ _)) hg1
  have hx1 := hx.grown hG1 (fun ad e => by simpa using hA ad e)
  have hz1 := hG1.size
  have hown1 : (w1.alloc (.cells #[] 3)).ownsRow w.heap.size 3 1 (.slice (some ⟨w1.heap.size, 0, none⟩) 0 0) 0 (ints []) := World.ownsRow_made w1 #[] 0 hz1 (by simp [maxLen]) rfl
  go_wp2_with fail
  refine (l91Text_any g _ _ (hr1.keep (below_box _ _)) (by omega)).mono ?_
  rintro e w2 ⟨v, q, rfl, ⟨t, rfl, ht⟩, hq, hr2, hg2⟩
  have hR2 := (hR1.next (below_box _ _)).grown hg2 (by simp; omega)
  have hG2 : w.grownBy w2 (some g) := grown_trans (grown_below hG1 (below_box _ _)) hg2
  have hx2 := hx.grown hG2 (fun ad e => by simpa using hA ad e)
  have hown2 := own_grown hown1 hg2 hgw
  have hz2 := hG2.size
  have bo := Blk.new w2 34 [.int .i64 (1 + v1), .slice (some ⟨w1.heap.size, 0, none⟩) 0 0, .string t]
  go_upto_if 17 with fail
  go_cut [6, 7] from 8 (fun _ _ wx => ObjSt g p 180 w w2.heap.size wx)
  case first =>
    by_cases hk : v1 = 0
    · subst hk
      go_wp2
      go_meet
      case rel => exact ⟨_, _, _, _, _, _, _, bo, own_below hown2 (below_box _ _), rfl, by omega, ht, by omega, by omega, by omega, hr2.keep (below_box _ _), hR2.next (below_box _ _), grown_below hG2 (below_box _ _)⟩
    · have hkb : ((1 + v1) != 1) = true := by simp; omega
      have e1 := below_box w2 (.cells #[.int .i64 (1 + v1), .slice (some ⟨w1.heap.size, 0, none⟩) 0 0, .string t] 34)
      generalize hW3 : w2.alloc (.cells #[.int .i64 (1 + v1), .slice (some ⟨w1.heap.size, 0, none⟩) 0 0, .string t] 34) = w2b at *
      have HW3 := Lib.hid hW3
      clear hW3
      go_upto_region 3 with fail
      go_cut [6] from 8 (fun s wx => s = .slice (some ⟨w2b.heap.size, 0, none⟩) 0 0 ∧ wx = w2b.alloc (.cells #[] 3))
      case first =>
        go_wp2
        go_meet
        case rel => exact ⟨rfl, rfl⟩
      obtain ⟨rfl, rfl⟩ := hcut
      have e2 := below_box w2b (.cells #[] 3)
      clear hkb hk
      have hg5 : g ≠ w2.heap.size := by have := hr2.lt; omega
      go_upto_block 0 with fail
      go_cut [6, 7] from 8 (fun s _ wx => LsSt g q 100 4 w w2.heap.size [.int .i64 (1 + v1), .slice (some ⟨w1.heap.size, 0, none⟩) 0 0, .string t] s wx)
      case first =>
        go_wp2
        go_loopw [6, 7] (fun s i wr => ∃ (k : Nat) (B : Option Addr) (m d : Nat) (ys : List Int) (q' : Nat), k ≤ n ∧ i = .int .i64 k ∧ s = .slice B m d ∧ m ≤ 4 ∧ q' ≤ q + k ∧ LsP g w w2.heap.size [.int .i64 (1 + v1), .slice (some ⟨w1.heap.size, 0, none⟩) 0 0, .string t] B m d ys q' wr) (fun _ i _ => n - (intOf i).toNat)
        case atStart =>
          exact ⟨0, _, 0, _, [], q, by omega, rfl, rfl, by omega, by omega, World.ownsRow_made w2b #[] 0 (Nat.le_trans hz2 e1.size) (by simp [maxLen]) rfl, bo.next e2, (hr2.keep e1).keep e2, (hR2.next e1).next e2, grown_below (grown_below hG2 e1) e2⟩
        case round =>
          obtain ⟨k, B, m, d, ys, q', hk', rfl, rfl, hm, hq', hls⟩ := hrel
          by_cases hlt : k < n
          · by_cases hm4 : m < 4
            · obtain ⟨ad, x, rfl, hb, hxk, hcx⟩ := (hx.grown hls.2.2.2.2 (fun ad e => by simpa using hA ad e)).at_ hlt
              go_wp2_with fail
              refine (pick_any g _ 3 _ hls.2.2.1 (by omega) (by omega) (by omega)).mono ?_
              rintro e w3 ⟨v3, rfl, h30, h31, hr3, hg3⟩
              have hls3 := hls.pick hgw hg5 hr3 hg3
              have hz3 := hls3.2.2.2.2.size
              obtain ⟨ad', x', had, hb', hxk', hcx3⟩ := (hx.grown hls3.2.2.2.2 (fun ad e => by simpa using hA ad e)).at_ hlt
              obtain rfl : ad = ad' := by injection had
              go_wp2_with (at_builtin; refine wpList_app rfl (.tmp 33) (.tmp 38) 29 rfl w.heap.size 3 Try.underlying29 int_info1 rfl (by omega) (by omega) _ m _ rfl (hls3.1.alloc _) ⟨w3.heap.size, 0, none⟩ 1 1 [.int .i64 x'] rfl rfl (cell_one_new _ _ _) (by simp [Value.oneCell']) (by omega) (Nat.le_trans hz3 (by simp)) ?_; intro B' d' w4 hown4 _ hb4 hg4 _)
              · have hls4 := hls3.app hgw hown4 hb4 hg4
                go_roundw
                case rel => exact ⟨k + 1, B', m + 1, d', _, q' + 1, by omega, by go_num, rfl, by omega, by omega, hls4⟩
                case measure => simp [intOf]; omega
              · go_roundw
                case rel => exact ⟨k + 1, B, m, d, ys, q' + 1, by omega, by go_num, rfl, hm, by omega, hls3⟩
                case measure => simp [intOf]; omega
            · go_wp2_with fail
              go_meet
              case rel => exact ⟨B, m, d, ys, q', rfl, by omega, by omega, hls⟩
          · go_wp2_with fail
            go_meet
            case rel => exact ⟨B, m, d, ys, q', rfl, by omega, by omega, hls⟩
      obtain ⟨B, m, d, ys, q', rfl, hm, hq', hls⟩ := hcut
      go_upto_if 42 with (go_at_call 50; refine (pick_any g _ 8 _ hls.2.2.1 (by omega) (by omega) (by omega)).mono ?_; rintro e w3 ⟨v3, rfl, h30, h31, hr3, hg3⟩)
      have hls3 := hls.pick hgw hg5 hr3 hg3
      go_cut [6] from 8 (fun s wx => LsSt g q 102 5 w w2.heap.size [.int .i64 (1 + v1), .slice (some ⟨w1.heap.size, 0, none⟩) 0 0, .string t] s wx)
      case first =>
        go_wp2_with fail
        · refine (pick_any g _ 99 _ hls3.2.2.1 (by omega) (by omega) (by omega)).mono ?_
          rintro e w4 ⟨v4, rfl, h40, h41, hr4, hg4⟩
          have hls4 := hls3.pick hgw hg5 hr4 hg4
          have hz4 := hls4.2.2.2.2.size
          go_wp2_with (at_builtin; refine wpList_app rfl (.tmp 43) (.tmp 47) 29 rfl w.heap.size 3 Try.underlying29 int_info1 rfl (by omega) (by omega) _ m _ rfl (hls4.1.alloc _) ⟨w4.heap.size, 0, none⟩ 1 1 [.int .i64 (10 * v4)] rfl rfl (cell_one_new _ _ _) (by simp [Value.oneCell']) (by omega) (Nat.le_trans hz4 (by simp)) ?_; intro B' d' w5 hown5 _ hb5 hg5' _)
          go_meet
          case rel => exact ⟨B', m + 1, d', _, q' + 1 + 1, rfl, by omega, by omega, hls4.app hgw hown5 hb5 hg5'⟩
        · go_meet
          case rel => exact ⟨B, m, d, ys, q' + 1, rfl, by omega, by omega, hls3⟩
      obtain ⟨B2, m2, d2, ys2, q2, rfl, hm2, hq2, hls2⟩ := hcut
      go_wp2_with fail
      refine (l1Sorted_any _ _ _ ys2 _ (RInts.of_own hls2.1) (by simp only [maxLen]; omega)).mono ?_
      rintro e w5 ⟨B5, d5, rfl, hown5, hb5⟩
      have hln := sorted_len ys2
      have hls5 : LsP g w w2.heap.size [.int .i64 (1 + v1), .slice (some ⟨w1.heap.size, 0, none⟩) 0 0, .string t] B5 (sorted ys2).length d5 (sorted ys2) q2 w5 :=
        ⟨own_base hown5 hls2.2.2.2.2.size, hls2.2.1.next hb5, hls2.2.2.1.keep hb5, hls2.2.2.2.1.next hb5, grown_below hls2.2.2.2.2 hb5⟩
      have hw2 : w.heap.size < w2.heap.size := hR2.lt
      obtain ⟨c0, c1, c2⟩ := hls5.2.1.cells3
      have f0 := hls5.2.1.frozen 0
      have f1 := hls5.2.1.frozen 1
      have f2 := hls5.2.1.frozen 2
      generalize hNL : (sorted ys2).length = nl at *
      have HNL := Lib.hid hNL
      clear hNL
      go_wp2_with fail
      · go_meet
        case rel =>
          obtain ⟨r1, r2, r3, r4, r5⟩ := (hls5.store hgw hw2 1 (.slice B5 nl d5)).store hgw hw2 2 (.string ⟨#[]⟩)
          exact ⟨_, _, _, _, _, _, q2, r2, r1, HNL.out.symm, hln, by simp [ByteArray.size], by omega, by omega, by omega, r3, r4, r5⟩
      · go_meet
        case rel =>
          obtain ⟨r1, r2, r3, r4, r5⟩ := (hls5.store hgw hw2 1 (.slice B5 nl d5)).store hgw hw2 0 (.int .i64 1)
          exact ⟨_, _, _, _, _, _, q2, r2, r1, HNL.out.symm, hln, ht, by omega, by omega, by omega, r3, r4, r5⟩
      · go_meet
        case rel =>
          obtain ⟨r1, r2, r3, r4, r5⟩ := hls5.store hgw hw2 1 (.slice B5 nl d5)
          exact ⟨_, _, _, _, _, _, q2, r2, r1, HNL.out.symm, hln, ht, by omega, by omega, by omega, r3, r4, r5⟩
  case rest =>
    obtain ⟨k, A1, n1, c1, ys, t1, q1, hbo, hown, hn1, hnl, ht1, hk1, hk3, hq1, hrd, hRr, hG⟩ := hcut
    have hw2 : w.heap.size < w2.heap.size := hR2.lt
    have hg5 : g ≠ w2.heap.size := by omega
    have hneb : ¬ w.heap.size = w2.heap.size := by omega
    have hls : LsP g w w2.heap.size [.int .i64 k, .slice A1 n1 c1, .string t1] A1 n1 c1 ys q1 wc := ⟨hown, hbo, hrd, hRr, hG⟩
    clear hbo hown hRr hG
    have HN1 := Lib.hid hn1
    clear hn1
    go_wp2_with fail
    refine (pick_any g _ 40 _ hrd (by omega) (by omega) (by omega)).mono ?_
    rintro e w3 ⟨v3, rfl, h30, h31, hr3, hg3⟩
    have hls3 := hls.pick hgw hg5 hr3 hg3
    obtain ⟨c0, c1', c2⟩ := hls3.2.1.cells3
    obtain ⟨s0, s1, s2⟩ := hls3.2.2.2.1.cells3
    have fr0 := hls3.2.2.2.1.frozen 0
    have fr1 := hls3.2.2.2.1.frozen 1
    have fr2 := hls3.2.2.2.1.frozen 2
    go_wp2_with fail
    · refine (pick_any g _ 6 _ hr3 (by omega) (by omega) (by omega)).mono ?_
      rintro e w4 ⟨v4, rfl, h40, h41, hr4, hg4⟩
      have hls4 := hls3.pick hgw hg5 hr4 hg4
      obtain ⟨c0, c1', c2⟩ := hls4.2.1.cells3
      obtain ⟨s0, s1, s2⟩ := hls4.2.2.2.1.cells3
      have fr0 := hls4.2.2.2.1.frozen 0
      have fr1 := hls4.2.2.2.1.frozen 1
      have fr2 := hls4.2.2.2.1.frozen 2
      have fo0 := hls4.2.1.frozen 0
      go_wp2_with fail
      refine bodyPost_ret (v := .agg #[.int .i64 (v4 - 1), .slice A1 n1 c1, .string t1]) (by simp [results, Try.results51, go_sem, s0, s1, s2]) rfl ?_
      obtain ⟨r1, r2, r3⟩ := (hls4.store hgw hw2 0 (.int .i64 (v4 - 1))).res hgw (.int .i64 (v4 - 1)) (.slice A1 n1 c1) (.string t1)
      exact ⟨_, _, rfl, ⟨_, _, _, _, _, _, rfl, r1, HN1.out, by omega, ht1, by omega, by omega⟩, by omega, r2, r3⟩
    · go_region_law (first
          | (refine step_app rfl (.tmp 72) (.tmp 75) 29 rfl w.heap.size 3 Try.underlying29 int_info1 rfl (by omega) (by omega) _ n1 _ rfl (hls4.1.alloc _) ⟨w4.heap.size, 0, none⟩ 1 1 [.int .i64 x4] rfl rfl (cell_one_new _ _ _) (by simp [Value.oneCell']) (by omega) (Nat.le_trans hls4.2.2.2.2.size (by simp)) ?_
             intro B' d' w5 hown5 _ hb5 hg5' _
             have hls5 := hls4.app hgw hown5 hb5 hg5'
             have c61 := hls5.2.1.cells3.2.1
             have f61 := hls5.2.1.frozen 1)
          | (go_simp; go_at_call 66; refine (l91Id_any g (q1 + 1) _ (hr3.keep (Below.refl _ _).drew) (by omega)).mono ?_
             rintro e w4 ⟨_, q4, rfl, ⟨x4, rfl, hx40, hx41⟩, hq4, hr4, hg4⟩
             have hls4 := (hls3.drew).pick' hgw hg5 hr4 hg4
             have c41 := hls4.2.1.cells3.2.1
             have c51 := (hls4.2.1.next (below_box w4 (.cells #[.int .i64 x4] 3))).cells3.2.1))
      all_goals
        obtain ⟨e0, e1, e2⟩ := hls5.2.1.cells3
        obtain ⟨s50, s51, s52⟩ := hls5.2.2.2.1.cells3
        have fr50 := hls5.2.2.2.1.frozen 0
        have fr51 := hls5.2.2.2.1.frozen 1
        have fr52 := hls5.2.2.2.1.frozen 2
        go_wp2_with fail
        refine bodyPost_ret (v := .agg #[.int .i64 k, .slice B' (n1 + 1) d', .string t1]) (by simp [results, Try.results51, go_sem, s50, s51, s52]) rfl ?_
        obtain ⟨r1, r2, r3⟩ := (hls5.store hgw hw2 1 (.slice B' (n1 + 1) d')).res hgw (.int .i64 k) (.slice B' (n1 + 1) d') (.string t1)
        exact ⟨_, _, rfl, ⟨_, _, _, _, _, _, rfl, r1, by have := HN1.out; simp; omega, by omega, ht1, by omega, by omega⟩, by omega, r2, r3⟩
    · refine bodyPost_ret (v := .agg #[.int .i64 k, .slice A1 n1 c1, .string t1]) (by simp [results, Try.results51, go_sem, s0, s1, s2]) rfl ?_
      obtain ⟨r1, r2, r3⟩ := hls3.res hgw (.int .i64 k) (.slice A1 n1 c1) (.string t1)
      exact ⟨_, _, rfl, ⟨_, _, _, _, _, _, rfl, r1, HN1.out, by omega, ht1, by omega, by omega⟩, by omega, r2, r3⟩
end Go.Proofs.Ytkekcgamhhmjnaa
