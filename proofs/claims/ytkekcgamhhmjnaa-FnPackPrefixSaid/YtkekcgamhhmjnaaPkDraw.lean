/- Walks: drawing objects in any order: l91List, DrawPackMake. -/
import Derived.Test.YtkekcgamhhmjnaaOwn
import Derived.Test.YtkekcgamhhmjnaaCopy
import Derived.Test.YtkekcgamhhmjnaaDrawObj
import Derived.Test.YtkekcgamhhmjnaaPkData
namespace Go.Proofs.Ytkekcgamhhmjnaa
open Go.RowKit Go.Sort

theorem own_far {w : World} {base n d size : Nat} {e : TypeId} {B : Option Addr} {xs : List Value} (h : w.ownsRow base e size (.slice B n d) n xs) : ∀ ad, B = some ad → base ≤ ad.block := by
  intro ad hB
  rcases h.2 with ⟨h0, _⟩ | ⟨g, cap, cur, hv, hb, _⟩
  · injection h0 with h1 _ _; rw [h1] at hB; cases hB
  · injection hv with h1 _ _; rw [h1] at hB; cases hB; exact hb
/-- objects while they are drawn -/
def DrO (g : Nat) (w : World) (A : Option Addr) (m c : Nat) (os : List Ob) (q : Nat) (wx : World) : Prop := OwnO wx w.heap.size (.slice A m c) m os ∧ Rd wx g q ∧ w.grownBy wx (some g)
section
variable {g m c q : Nat} {w wx wy : World} {A : Option Addr} {os : List Ob}
theorem DrO.draw {q' : Nat} (hgw : g < w.heap.size) (h : DrO g w A m c os q wx) (hr : Rd wy g q') (hg : wx.grownBy wy (some g)) : DrO g w A m c os q' wy :=
  ⟨h.1.grown hg hgw, hr, grown_trans h.2.2 hg⟩
theorem DrO.next (h : DrO g w A m c os q wx) (hb : Below wx.heap.size wx wy) : DrO g w A m c os q wy := ⟨h.1.next hb, h.2.1.keep hb, grown_below h.2.2 hb⟩
/-- a store into a box of another type, behind the reader -/
theorem DrO.store {ob i : Nat} {u : Value} {cs : List Value} {t : TypeId} (hgw : g < w.heap.size) (h : DrO g w A m c os q wx) (hB : Blk wx ob t cs) (hob : w.heap.size ≤ ob) (h1 : (Value.slice A m c).ownBlock ≠ some ob) (h2 : t ≠ 3) : DrO g w A m c os q (wx.setCell ⟨ob, i, none⟩ u) := by
  have hg : wx.grownBy (wx.setCell ⟨ob, i, none⟩ u) (some ob) := grown_setCell (World.grownBy.refl _ _) _
  obtain ⟨⟨cs0, o1, o2⟩, h3, h4⟩ := h
  refine ⟨⟨cs0, o1.kept hg (Or.inr h1), o2.mono fun A m xs hx => hx.grown hg fun g' e => ?_⟩, h3.store (by omega) u, ?_⟩
  · injection e with e
    subst e
    exact Or.inr ⟨_, _, _, hB, h2⟩
  · exact ⟨h4.os, h4.tape, h4.output, by simpa [World.setCell] using h4.size, fun k hk hn => (Below.heap_setCell wx ⟨ob, i, none⟩ u k (by show k ≠ ob; omega)).trans (h4.block k hk hn)⟩
/-- one more object -/
theorem DrO.push {A1 : Option Addr} {n1 c1 : Nat} {o : Ob} (hgw : g < w.heap.size) (h : DrO g w A m c os q wx) (hlk : LinkIn wx w.heap.size A1 n1 o.xs) (hn : n1 ≤ maxLen) (ht : o.t.size ≤ maxLen) :
    ∃ cs, (wx.alloc (.cells #[.int .i64 o.k, .slice A1 n1 c1, .string o.t] 34)).ownsRow w.heap.size 34 3 (.slice A m c) m cs ∧
      (∀ (j : Nat) (u : Value), [.int .i64 o.k, .slice A1 n1 c1, .string o.t][j]? = some u → (wx.alloc (.cells #[.int .i64 o.k, .slice A1 n1 c1, .string o.t] 34)).cell? ((⟨wx.heap.size, 0, none⟩ : Addr).add j) = some u) ∧
      w.heap.size ≤ (wx.alloc (.cells #[.int .i64 o.k, .slice A1 n1 c1, .string o.t] 34)).heap.size ∧
      ∀ (B' : Option Addr) (d' : Nat) (w9 : World), w9.ownsRow w.heap.size 34 3 (.slice B' (m + 1) d') (m + 1) (cs ++ [.int .i64 o.k, .slice A1 n1 c1, .string o.t]) → Below w.heap.size (wx.alloc (.cells #[.int .i64 o.k, .slice A1 n1 c1, .string o.t] 34)) w9 →
        (wx.alloc (.cells #[.int .i64 o.k, .slice A1 n1 c1, .string o.t] 34)).grownBy w9 (Value.slice A m c).ownBlock → DrO g w B' (m + 1) d' (os ++ [o]) q w9 := by
  have be := below_box wx (.cells #[.int .i64 o.k, .slice A1 n1 c1, .string o.t] 34)
  have hz := h.2.2.size
  obtain ⟨⟨cs, o1, o2⟩, h3, h4⟩ := h.next be
  refine ⟨cs, o1, (Blk.new wx _ [.int .i64 o.k, .slice A1 n1 c1, .string o.t]).cellsAt, Nat.le_trans hz be.size, fun B' d' w9 ho hb hg => ⟨OwnO.push o1 o2 (hlk.next be) hn ht hg ho, ?_, ?_⟩⟩
  · obtain ⟨A', n', c', hA', hn', hr'⟩ := h3
    exact ⟨A', n', c', hA'.below hb hgw, hn', hr'.keep fun a ha => hb.cell (by omega)⟩
  · exact ⟨hb.os.trans h4.os, hb.tape.trans h4.tape, hb.output.trans h4.output, Nat.le_trans h4.size hb.size, fun i hi hne => (hb.block i hi).trans (h4.block i hi hne)⟩
end
/-- objects that were drawn -/
def DrewO (B : Nat) (v : Value) (w : World) : Prop := ∃ (m : Nat) (os : List Ob), OwnO w B v m os ∧ m ≤ 17
set_option maxRecDepth 100000 in
set_option maxHeartbeats 1600000 in
theorem l91List_any (g p : Nat) (w : World) (h : Rd w g p) (hp : p ≤ 600000) :
    Calls Try.prog 26 #[.pointer (some ⟨g, 0, none⟩)] w (Drawn g p 6000 w (DrewO w.heap.size)) := by
  have hgw := h.lt
  have b0 := below_box w (.cells #[] 34)
  have hS0 : DrO g w (some ⟨w.heap.size, 0, none⟩) 0 0 [] p (w.alloc (.cells #[] 34)) :=
    ⟨⟨[], own_emp (Blk.new w _ []) (Nat.le_refl _), Elems.nil⟩, h.keep b0, grown_below (World.grownBy.refl w _) b0⟩
  go_enter Try.func26, Try.ntmps26
  go_wp2_with fail
  refine (pick_any g p 6 _ (h.keep b0) (by omega) (by omega) (by omega)).mono ?_
  rintro e w1 ⟨v1, rfl, h10, h11, hr1, hg1⟩
  have hS1 := hS0.draw hgw hr1 hg1
  go_upto_if 12 with (go_at_call 50; refine (pick_any g _ 20 _ hr1 (by omega) (by omega) (by omega)).mono ?_; rintro e w2 ⟨v2, rfl, h20, h21, hr2, hg2⟩)
  have hS2 := hS1.draw hgw hr2 hg2
  clear hS0 hS1 hr1 hg1 b0
  go_cut [4] from 5 (fun z wx => ∃ (N q : Nat), z = .int .i64 N ∧ N ≤ 17 ∧ q ≤ p + 3 ∧ DrO g w (some ⟨w.heap.size, 0, none⟩) 0 0 [] q wx)
  case first =>
    go_wp2_with (go_at_call 50; refine (pick_any g _ 2 _ hr2 (by omega) (by omega) (by omega)).mono ?_; rintro e w3 ⟨v3, rfl, h30, h31, hr3, hg3⟩)
    · go_meet
      case rel => exact ⟨(16 + v3).toNat, p + 1 + 1 + 1, by rw [Int.toNat_of_nonneg (by omega)], by omega, by omega, hS2.draw hgw hr3 hg3⟩
    · go_meet
      case rel => exact ⟨v1.toNat, p + 1 + 1, by rw [Int.toNat_of_nonneg h10], by omega, by omega, hS2⟩
  obtain ⟨N, q0, rfl, hN, hq0, hS3⟩ := hcut
  clear hS2 hr2 hg2 h10 h11 h20 h21
  go_wp2_with fail
  go_loopw [3, 5] (fun s k wr => ∃ (kk : Nat) (A : Option Addr) (m c : Nat) (os : List Ob) (q : Nat), kk ≤ N ∧ k = .int .i64 kk ∧ s = .slice A kk c ∧ q ≤ p + 3 + 300 * kk ∧ m = kk ∧ DrO g w A m c os q wr) (fun _ k _ => N - (intOf k).toNat)
  case atStart => exact ⟨0, _, 0, 0, [], q0, by omega, rfl, rfl, by omega, rfl, hS3⟩
  case round =>
    obtain ⟨k, A, m, c, os, q, hk, rfl, rfl, hq, rfl, hS⟩ := hrel
    by_cases hlt : m < N
    · have bi := below_box wr (.cells (ints [5, 60, 700]).toArray 3)
      have hSi := hS.next bi
      have hBi := Blk.new wr 3 (ints [5, 60, 700])
      have hgwr := hS.2.1.lt
      go_wp2_with fail
      refine (l91Object_any g q (some ⟨wr.heap.size, 0, none⟩) 3 3 [5, 60, 700] _ hSi.2.1 (by omega) (RInts.of_blk hBi rfl) (by omega) (fun ad e => by injection e with e; subst e; show wr.heap.size ≠ g; omega)).mono ?_
      rintro e w3 ⟨v, q3, rfl, ⟨k1, A1, n1, c1, xs, t, rfl, hown1, hn1, hn1l, ht1, -, -⟩, hq3, hr3, hg3⟩
      have hS3 := hSi.draw hgw hr3 hg3
      have bx := below_box w3 (.cells #[.int .i64 k1, .slice A1 n1 c1, .string t] 34)
      have hS4 := hS3.next bx
      have bo := Blk.new w3 34 [.int .i64 k1, .slice A1 n1 c1, .string t]
      have hlk : LinkIn (w3.alloc (.cells #[.int .i64 k1, .slice A1 n1 c1, .string t] 34)) w.heap.size A1 n1 xs := ((LinkIn.of_own hown1).base (Nat.le_trans hS.2.2.size bi.size)).next bx
      have hz3 : wr.heap.size ≤ w3.heap.size := Nat.le_trans bi.size hg3.size
      have hzw := hS.2.2.size
      have hne : (Value.slice A m c).ownBlock ≠ some w3.heap.size := fun e => by
        obtain ⟨cs, o1, _⟩ := hS.1
        have := (o1.lt _ e).2
        omega
      have HNE := Lib.hid hne
      have ht9 : t.size ≤ maxLen := by simp only [maxLen]; omega
      have hn9 : n1 ≤ maxLen := by simp only [maxLen]; omega
      clear hn1 hown1 hr3 hg3 hS3 hSi hBi bi hne
      go_upto_region 9 with fail
      generalize hW4 : w3.alloc (.cells #[.int .i64 k1, .slice A1 n1 c1, .string t] 34) = w4 at *
      generalize hOB : w3.heap.size = ob at *
      have HW4 := Lib.hid (And.intro hW4 hOB)
      clear hW4 hOB bx
      by_cases hm0 : 0 < m
      · have hmd : decide ((m : Int) > 0) = true := decide_eq_true (by omega)
        have hmd2 : decide (0 < m) = true := decide_eq_true hm0
        have hmd3 : decide (0 < (m : Int)) = true := decide_eq_true (by omega)
        go_wp2_with fail
        refine (pick_any g q3 2 _ hS4.2.1 (by omega) (by omega) (by omega)).mono ?_
        rintro e w5 ⟨v5, rfl, h50, h51, hr5, hg5⟩
        have hS5 := hS4.draw hgw hr5 hg5
        have hob : w.heap.size ≤ ob := by omega
        have bo5 := bo.grown hg5 (fun e => by injection e with e; omega)
        have hlk5 := hlk.grown hg5 (fun g' e => by injection e with e; exact Or.inl (by omega))
        clear hS4 hr5 hg5 bo hlk
        by_cases hv5 : v5 = 0
        · subst hv5
          obtain ⟨b, off, o', hbA, hb', hx', hob'⟩ := (OwnO.reads hS5.1).at_ (k := m - 1) (by omega)
          subst hbA
          obtain ⟨_, _, _, _, _, cc2, _, _, ht'⟩ := hob'
          have HX' := Lib.hid hx'
          clear hx'
          have hmi : IntKind.i64.wrap ((m : Int) - 1) = ((m - 1 : Nat) : Int) := by rw [IntKind.wrap_i64]; omega
          have hmlt : ((m - 1 : Nat) : Int) < (m : Int) := by omega
          have hzs : (((w5.setCell ⟨ob, 0, none⟩ (.int .i64 1)).setCell ⟨ob, 1, none⟩ (.slice (some ⟨w5.heap.size, 0, none⟩) 0 0)).setCell ⟨ob, 2, none⟩ (.string o'.t)).heap.size = w5.heap.size := by simp [World.setCell]
          have bl := below_box (((w5.setCell ⟨ob, 0, none⟩ (.int .i64 1)).setCell ⟨ob, 1, none⟩ (.slice (some ⟨w5.heap.size, 0, none⟩) 0 0)).setCell ⟨ob, 2, none⟩ (.string o'.t)) (.cells #[] 3)
          have hE7 : Blk ((((w5.setCell ⟨ob, 0, none⟩ (.int .i64 1)).setCell ⟨ob, 1, none⟩ (.slice (some ⟨w5.heap.size, 0, none⟩) 0 0)).setCell ⟨ob, 2, none⟩ (.string o'.t)).alloc (.cells #[] 3)) w5.heap.size 3 [] := by
            have := Blk.new (((w5.setCell ⟨ob, 0, none⟩ (.int .i64 1)).setCell ⟨ob, 1, none⟩ (.slice (some ⟨w5.heap.size, 0, none⟩) 0 0)).setCell ⟨ob, 2, none⟩ (.string o'.t)) 3 []
            rwa [hzs] at this
          have HS7 := Lib.hid ((((hS5.store (i := 0) (u := .int .i64 1) hgw bo5 hob HNE.out (by decide)).store (i := 1) (u := .slice (some ⟨w5.heap.size, 0, none⟩) 0 0) hgw (bo5.set_ 0 _) hob HNE.out (by decide)).store (i := 2) (u := .string o'.t) hgw ((bo5.set_ 0 _).set_ 1 _) hob HNE.out (by decide)).next bl)
          have HB7 := Lib.hid ((((bo5.set_ 0 (.int .i64 1)).set_ 1 (.slice (some ⟨w5.heap.size, 0, none⟩) 0 0)).set_ 2 (.string o'.t)).next bl)
          have HL7 := Lib.hid (LinkIn.of_own (xs := []) (own_emp (size := 1) hE7 hS5.2.2.size))
          have hf5 := bo5.frozen
          have hobl := bo5.lt
          obtain ⟨x0, x1, x2⟩ := bo5.cells3
          clear hS5 bo5 hlk5 hE7 bl hzs
          go_upto_region 11 with fail
          generalize hW7 : (((w5.setCell ⟨ob, 0, none⟩ (.int .i64 1)).setCell ⟨ob, 1, none⟩ (.slice (some ⟨w5.heap.size, 0, none⟩) 0 0)).setCell ⟨ob, 2, none⟩ (.string o'.t)).alloc (.cells #[] 3) = w7 at HS7 HB7 HL7 ⊢
          clear hW7 hf5 hobl x0 x1 x2
          have hS7 := HS7.out
          have bo7 := HB7.out
          have hlk7 := HL7.out
          generalize w5.heap.size = gl at *
          clear HS7 HB7 HL7
          obtain ⟨x0, x1, x2⟩ := bo7.cells3
          by_cases h8 : o'.t.size < 8
          · have h8d : decide ((o'.t.size : Int) < 8) = true := decide_eq_true (by omega)
            have h8e : decide (o'.t.size < 8) = true := decide_eq_true h8
            have hf7 := bo7.frozen 2
            have hS8 := hS7.store (i := 2) (u := .string (o'.t ++ ⟨#[99]⟩)) hgw bo7 hob HNE.out (by decide)
            have bo8 := bo7.set_ 2 (.string (o'.t ++ ⟨#[99]⟩))
            have hlk8 := hlk7.grown (grown_setCell (i := 2) (World.grownBy.refl w7 (some ob)) (.string (o'.t ++ ⟨#[99]⟩))) (fun g' e => by injection e with e; subst e; exact Or.inr ⟨_, _, _, bo7, by decide⟩)
            have HS8 := Lib.hid hS8
            have HB8 := Lib.hid bo8
            have HL8 := Lib.hid hlk8
            clear hS8 bo8 hlk8 hS7 bo7 hlk7
            go_upto_region 13 with fail
            generalize hW8 : w7.setCell ⟨ob, 2, none⟩ (.string (o'.t ++ ⟨#[99]⟩)) = w8 at HS8 HB8 HL8 ⊢
            clear hW8 x0 x1 x2 hf7
            have hS8 := HS8.out
            have bo8 : Blk w8 ob 34 [.int .i64 1, .slice (some ⟨gl, 0, none⟩) 0 0, .string (o'.t ++ ⟨#[99]⟩)] := HB8.out
            have hlk8 := HL8.out
            have ht8 : (o'.t ++ ⟨#[99]⟩ : ByteArray).size ≤ maxLen := by rw [ByteArray.size_append, show (⟨#[99]⟩ : ByteArray).size = 1 from rfl]; simp only [maxLen]; omega
            clear HS8 HB8 HL8
            obtain ⟨cs, P1, P2, P3, P4⟩ := DrO.push (o := ⟨1, [], (o'.t ++ ⟨#[99]⟩)⟩) (c1 := 0) hgw hS8 hlk8 (Nat.zero_le _) ht8
            have HP4 := Lib.hid P4
            clear P4
            obtain ⟨y0, y1, y2⟩ := bo8.cells3
            go_wp2_with (at_builtin; (refine wpList_app rfl (.tmp 47) (.tmp 49) 23 rfl w.heap.size 34 Try.underlying23 obj_info1 rfl (by omega) (by omega) _ m cs rfl P1 ⟨w8.heap.size, 0, none⟩ 1 1 [.int .i64 1, .slice (some ⟨gl, 0, none⟩) 0 0, .string (o'.t ++ ⟨#[99]⟩)] rfl rfl P2 (by simp [Value.oneCell']) (by omega) P3 ?_; intro B9 d9 w9 hown9 _ hb9 hg9 _))
            go_roundw
            case rel => exact ⟨m + 1, B9, m + 1, d9, os ++ [⟨1, [], (o'.t ++ ⟨#[99]⟩)⟩], q3 + 1, by omega, by go_num, rfl, by omega, rfl, HP4.out B9 d9 w9 hown9 hb9 hg9⟩
            case measure => simp [intOf]; omega
          · have h8d : decide ((o'.t.size : Int) < 8) = false := decide_eq_false (by omega)
            have h8e : decide (o'.t.size < 8) = false := decide_eq_false h8
            clear x0 x1 x2
            have bo7' : Blk w7 ob 34 [.int .i64 1, .slice (some ⟨gl, 0, none⟩) 0 0, .string o'.t] := bo7
            obtain ⟨cs, P1, P2, P3, P4⟩ := DrO.push (o := ⟨1, [], o'.t⟩) (c1 := 0) hgw hS7 hlk7 (Nat.zero_le _) ht'
            have HP4 := Lib.hid P4
            clear P4
            obtain ⟨y0, y1, y2⟩ := bo7'.cells3
            go_wp2_with (at_builtin; (refine wpList_app rfl (.tmp 47) (.tmp 49) 23 rfl w.heap.size 34 Try.underlying23 obj_info1 rfl (by omega) (by omega) _ m cs rfl P1 ⟨w7.heap.size, 0, none⟩ 1 1 [.int .i64 1, .slice (some ⟨gl, 0, none⟩) 0 0, .string o'.t] rfl rfl P2 (by simp [Value.oneCell']) (by omega) P3 ?_; intro B9 d9 w9 hown9 _ hb9 hg9 _))
            go_roundw
            case rel => exact ⟨m + 1, B9, m + 1, d9, os ++ [⟨1, [], o'.t⟩], q3 + 1, by omega, by go_num, rfl, by omega, rfl, HP4.out B9 d9 w9 hown9 hb9 hg9⟩
            case measure => simp [intOf]; omega
        · have hvb : (v5 == 0) = false := by simpa using hv5
          obtain ⟨cs, P1, P2, P3, P4⟩ := DrO.push (o := ⟨k1, xs, t⟩) (c1 := c1) hgw hS5 hlk5 hn9 ht9
          have HP4 := Lib.hid P4
          clear P4
          obtain ⟨y0, y1, y2⟩ := bo5.cells3
          go_wp2_with (at_builtin; (refine wpList_app rfl (.tmp 47) (.tmp 49) 23 rfl w.heap.size 34 Try.underlying23 obj_info1 rfl (by omega) (by omega) _ m cs rfl P1 ⟨w5.heap.size, 0, none⟩ 1 1 [.int .i64 k1, .slice A1 n1 c1, .string t] rfl rfl P2 (by simp [Value.oneCell']) (by omega) P3 ?_; intro B9 d9 w9 hown9 _ hb9 hg9 _))
          go_roundw
          case rel => exact ⟨m + 1, B9, m + 1, d9, os ++ [⟨k1, xs, t⟩], q3 + 1, by omega, by go_num, rfl, by omega, rfl, HP4.out B9 d9 w9 hown9 hb9 hg9⟩
          case measure => simp [intOf]; omega
      · have hmd : decide ((m : Int) > 0) = false := decide_eq_false (by omega)
        have hmd2 : decide (0 < m) = false := decide_eq_false hm0
        have hmd3 : decide (0 < (m : Int)) = false := decide_eq_false (by omega)
        clear hm0
        obtain ⟨cs, P1, P2, P3, P4⟩ := DrO.push (o := ⟨k1, xs, t⟩) (c1 := c1) hgw hS4 hlk hn9 ht9
        have HP4 := Lib.hid P4
        clear P4
        obtain ⟨y0, y1, y2⟩ := bo.cells3
        go_wp2_with (at_builtin; (refine wpList_app rfl (.tmp 47) (.tmp 49) 23 rfl w.heap.size 34 Try.underlying23 obj_info1 rfl (by omega) (by omega) _ m cs rfl P1 ⟨w4.heap.size, 0, none⟩ 1 1 [.int .i64 k1, .slice A1 n1 c1, .string t] rfl rfl P2 (by simp [Value.oneCell']) (by omega) P3 ?_; intro B9 d9 w9 hown9 _ hb9 hg9 _))
        go_roundw
        case rel => exact ⟨m + 1, B9, m + 1, d9, os ++ [⟨k1, xs, t⟩], q3, by omega, by go_num, rfl, by omega, rfl, HP4.out B9 d9 w9 hown9 hb9 hg9⟩
        case measure => simp [intOf]; omega
    · obtain rfl : m = N := by omega
      go_wp2_with fail
      go_ret
      exact ⟨_, q, rfl, ⟨m, os, hS.1, hN⟩, by omega, hS.2.1, hS.2.2⟩
theorem DrewO.reads {B : Nat} {v : Value} {w : World} (h : DrewO B v w) : ∃ A n c os, v = .slice A n c ∧ n ≤ c ∧ n ≤ 17 ∧ RObjs w A n os := by
  obtain ⟨m, os, hO, hm⟩ := h
  obtain ⟨A, c, rfl, hc⟩ : ∃ A c, v = .slice A m c ∧ m ≤ c := let ⟨_, h1, _⟩ := hO; own_form h1
  exact ⟨A, m, c, os, rfl, hc, hm, OwnO.reads hO⟩
theorem below_grown {w0 w w' : World} {g B : Nat} (h : Below B w0 w) (hg : w.grownBy w' (some g)) (hgB : B ≤ g) (hB : B ≤ w.heap.size) : Below B w0 w' :=
  h.trans ⟨hg.os, hg.tape, hg.output, hg.size, fun k hk => hg.block k (by omega) (by intro e; injection e with e; omega)⟩
set_option maxHeartbeats 1600000 in
theorem DrawPackMake_any (A : Option Addr) (n c : Nat) (w : World) (h : RBytes w w.heap.size A n) (hn : n ≤ maxLen) (hc : n ≤ c) :
    Calls Try.prog 10 #[.slice A n c] w fun e w' => ∃ A' n' c' os, e = .returned (.slice A' n' c') ∧ n' ≤ c' ∧ n' ≤ 17 ∧ RObjs w' A' n' os ∧ Below w.heap.size w w' := by
  go_enter Try.func10, Try.ntmps10
  go_wp2_with fail
  refine (l6Open_any _ _ _ _ h hn hc).mono ?_
  rintro e w1 ⟨rfl, hrd, hb1⟩
  go_wp2_with fail
  refine (l91List_any w.heap.size 0 _ hrd (by omega)).mono ?_
  rintro e w2 ⟨v, q, rfl, hD, hq, hr2, hg2⟩
  obtain ⟨A', n', c', os, rfl, h1, h2, h3⟩ := hD.reads
  go_wp2_with fail
  go_ret
  exact ⟨A', n', c', os, rfl, h1, h2, h3, below_grown hb1 hg2 (Nat.le_refl _) hb1.size⟩
end Go.Proofs.Ytkekcgamhhmjnaa
