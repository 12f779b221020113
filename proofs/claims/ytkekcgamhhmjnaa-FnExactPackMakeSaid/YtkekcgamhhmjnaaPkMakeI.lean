/- Walks: the program's DeltaMake: operations in a linked list, the last one first. -/
import Derived.Test.YtkekcgamhhmjnaaPkRev
import Derived.Test.YtkekcgamhhmjnaaPkLong
namespace Go.Proofs.Ytkekcgamhhmjnaa
open Go.RowKit Go.Sort

/-- a linked list of operations, in blocks from lo on, each before the one that points to it -/
def Lnk (w : World) (lo : Nat) : Nat → Option Addr → List Dp → Prop
  | _, p, [] => p = none
  | hi, p, o :: l => ∃ g q, p = some ⟨g, 0, none⟩ ∧ lo ≤ g ∧ g < hi ∧ Blk w g 67 [.int .i64 o.at_, .int .i64 o.sz, .string o.tx, .pointer q] ∧ Lnk w lo g q l
theorem Lnk.next {w w' : World} {lo : Nat} (hb : Below w.heap.size w w') : ∀ {l : List Dp} {hi : Nat} {p : Option Addr}, Lnk w lo hi p l → Lnk w' lo hi p l
  | [], _, _, h => h
  | _ :: _, _, _, ⟨g, q, h1, h2, h3, h4, h5⟩ => ⟨g, q, h1, h2, h3, h4.next hb, Lnk.next hb h5⟩
theorem Lnk.wide {w : World} {lo : Nat} : ∀ {l : List Dp} {hi hi' : Nat} {p : Option Addr}, Lnk w lo hi p l → hi ≤ hi' → Lnk w lo hi' p l
  | [], _, _, _, h, _ => h
  | _ :: _, _, _, _, ⟨g, q, h1, h2, h3, h4⟩, hh => ⟨g, q, h1, h2, by omega, h4⟩
theorem Lnk.far {w : World} {lo g i : Nat} {u : Value} : ∀ {l : List Dp} {hi : Nat} {p : Option Addr}, Lnk w lo hi p l → hi ≤ g → Lnk (w.setCell ⟨g, i, none⟩ u) lo hi p l
  | [], _, _, h, _ => h
  | _ :: _, _, _, ⟨g', q, h1, h2, h3, h4, h5⟩, hh => ⟨g', q, h1, h2, h3, h4.far (p := ⟨g, i, none⟩) (by show g' ≠ g; omega) u, Lnk.far h5 (by omega)⟩
theorem Lnk.drew {w : World} {lo : Nat} : ∀ {l : List Dp} {hi : Nat} {p : Option Addr}, Lnk w lo hi p l → Lnk w.drew lo hi p l
  | [], _, _, h => h
  | _ :: _, _, _, ⟨g, q, h1, h2, h3, h4, h5⟩ => ⟨g, q, h1, h2, h3, h4, Lnk.drew h5⟩
theorem Lnk.push {w : World} {lo : Nat} {l : List Dp} {p : Option Addr} (o : Dp) (h : Lnk w lo w.heap.size p l) (hlo : lo ≤ w.heap.size) :
    Lnk (w.alloc (.cells #[.int .i64 o.at_, .int .i64 o.sz, .string o.tx, .pointer p] 67)) lo (w.alloc (.cells #[.int .i64 o.at_, .int .i64 o.sz, .string o.tx, .pointer p] 67)).heap.size (some ⟨w.heap.size, 0, none⟩) (o :: l) :=
  ⟨w.heap.size, p, rfl, hlo, by simp, Blk.new w _ [.int .i64 o.at_, .int .i64 o.sz, .string o.tx, .pointer p], h.next (below_box w _)⟩
theorem Blk.cells4 {w : World} {g : Nat} {t : TypeId} {a b c d : Value} (h : Blk w g t [a, b, c, d]) : w.cell? ⟨g, 0, none⟩ = some a ∧ w.cell? ⟨g, 1, none⟩ = some b ∧ w.cell? ⟨g, 2, none⟩ = some c ∧ w.cell? ⟨g, 3, none⟩ = some d := ⟨h.cell 0, h.cell 1, h.cell 2, h.cell 3⟩
set_option maxRecDepth 100000 in
set_option maxHeartbeats 1600000 in
theorem ops_any (lo hi : Nat) (p : Option Addr) (l : List Dp) (w : World) (h : Lnk w lo hi p l) (hn : l.length ≤ 1000) :
    Calls Try.prog 38 #[.pointer p] w (DelTo w l.reverse) := by
  have H := Lib.hid h
  clear h
  go_enter Try.func38, Try.ntmps38
  go_wp2_with fail
  go_loopw [0, 3] (fun a v wr => ∃ (q : Option Addr) (hi2 : Nat) (l1 l2 : List Dp) (A : Option Addr) (n c : Nat), a = .pointer q ∧ v = .slice A n c ∧ Hid (l1 ++ l2 = l) ∧ Hid (Lnk w lo hi2 q l2) ∧ OwnD wr w.heap.size A n c l1 ∧ n + l2.length ≤ 1000 ∧ Below w.heap.size w wr) (fun _ v _ => match v with | .slice _ n _ => l.length + 1 - n | _ => 0)
  case atStart => exact ⟨p, hi, [], l, none, 0, 0, rfl, rfl, Lib.hid rfl, H, OwnD.nil, by omega, Below.refl _ _⟩
  case round =>
    obtain ⟨q, hi2, l1, l2, A, n, c, rfl, rfl, HE, HL, hO, hlen, hbr⟩ := hrel
    cases l2 with
    | nil =>
      obtain rfl : q = none := HL.out
      go_wp2_with fail
      refine (reverse_any w.heap.size A n c l1 _ hO (by simp at hlen; omega)).mono ?_
      rintro e w1 ⟨rfl, hO1, hb1⟩
      go_wp2_with fail
      go_ret
      exact ⟨A, n, c, rfl, by rw [← HE.out, List.append_nil]; exact hO1, hbr.trans hb1⟩
    | cons o l2 =>
      obtain ⟨g, q', rfl, hg1, hg2, hblk0, hrest⟩ := HL.out
      have HR := Lib.hid hrest
      clear hrest
      have hblk := hblk0.below hbr hblk0.lt
      have hgw := hblk0.lt
      have ba := below_box wr (.cells (dpC o).toArray 62)
      have hblk2 := hblk.next ba
      clear hblk0
      obtain ⟨c0, c1, c2, c3⟩ := hblk.cells4
      have hOa := hO.next ba
      have hza : w.heap.size ≤ (wr.alloc (.cells (dpC o).toArray 62)).heap.size := Nat.le_trans hbr.size ba.size
      have E6 := dp_cell wr o
      have hln : n = l1.length := hO.len
      have HLN := Lib.hid hln
      clear hln
      simp only [List.length_cons] at hlen
      go_wp2_with (at_builtin; go_loud (refine wpList_app rfl (.tmp 10) (.tmp 15) 30 rfl w.heap.size 62 Try.underlying30 op_info1 rfl (by omega) (by omega) _ n _ rfl hOa ⟨wr.heap.size, 0, none⟩ 1 1 (dpC o) rfl rfl E6 (dp_one _) (by omega) hza ?_; intro A9 c9 w9 hown9 hc9 hb9 hg9 _; have d3 := (hblk2.below hb9 hgw).cells4.2.2.2))
      have hO9 : OwnD w9 w.heap.size A9 (n + 1) c9 (l1 ++ [o]) := by
        unfold OwnD
        rw [dpL_app, dpL_one]
        exact hown9
      have hbr9 : Below w.heap.size w w9 := (below_ext hbr ba).trans hb9
      have hll : l1.length + 1 ≤ l.length := by rw [← HE.out, List.length_append, List.length_cons]; omega
      go_roundw
      case rel => exact ⟨q', g, l1 ++ [o], l2, A9, n + 1, c9, rfl, rfl, Lib.hid (by rw [← HE.out]; simp), HR, hO9, by omega, hbr9⟩
      case measure => have := HLN.out; simp only; omega
set_option maxRecDepth 100000 in
set_option maxHeartbeats 3200000 in
theorem implDeltaMake_any (b t : ByteArray) (w : World) (hgl : Gl w) :
    Calls Try.prog 16 #[.string b, .string t] w (DelTo w (dmake b t)) := by
  have bad : 8 < b.size ∨ 8 < t.size → DelTo w (dmake b t) (.returned (.slice none 0 0)) w := fun h => by
    unfold dmake
    rw [if_pos h]
    exact ⟨none, 0, 0, rfl, OwnD.nil, Below.refl _ _⟩
  have HB := Lib.hid bad
  clear bad
  go_enter Try.func16, Try.ntmps16
  by_cases hb : 8 < b.size
  · have hd : decide ((b.size : Int) > 8) = true := decide_eq_true (by omega)
    have hd2 : decide (8 < (b.size : Int)) = true := decide_eq_true (by omega)
    go_wp2_with fail
    go_ret
    exact HB.out (.inl hb)
  · have hd : decide ((b.size : Int) > 8) = false := decide_eq_false (by omega)
    have hd2 : decide (8 < (b.size : Int)) = false := decide_eq_false (by omega)
    by_cases ht : 8 < t.size
    · have hd3 : decide ((t.size : Int) > 8) = true := decide_eq_true (by omega)
      have hd4 : decide (8 < (t.size : Int)) = true := decide_eq_true (by omega)
      go_wp2_with fail
      go_ret
      exact HB.out (.inr ht)
    · have hd3 : decide ((t.size : Int) > 8) = false := decide_eq_false (by omega)
      have hd4 : decide (8 < (t.size : Int)) = false := decide_eq_false (by omega)
      go_wp2_with fail
      have hdm : dmake b t = dgo b t.size [] t := by unfold dmake; rw [if_neg (by omega)]
      go_loopw [1, 5] (fun s v wr => ∃ (x : ByteArray) (ops : List Dp) (p : Option Addr) (f : Nat), s = .string x ∧ v = .pointer p ∧ Lnk wr w.heap.size wr.heap.size p ops.reverse ∧ Hid (dOk ops x.size) ∧ x.size ≤ f ∧ Hid (dgo b f ops x = dmake b t) ∧ Gl wr ∧ Below w.heap.size w wr) (fun s _ _ => strOf s)
      case atStart => exact ⟨t, [], none, t.size, rfl, rfl, rfl, Lib.hid ⟨by simp; omega, fun o h => by cases h⟩, Nat.le_refl _, Lib.hid hdm.symm, hgl, Below.refl _ _⟩
      case round =>
        obtain ⟨x, ops, p, f, rfl, rfl, hL, HOK, hf, HD, hgr, hbr⟩ := hrel
        have hx8 : x.size ≤ 8 := by have := HOK.out.1; omega
        have HLk := Lib.hid hL
        clear hL
        by_cases hx : 0 < x.size
        · have hxd : decide ((x.size : Int) > 0) = true := decide_eq_true (by omega)
          have HS := Lib.hid (dgo_step (b := b) (ops := ops) hf (by omega))
          have HOK2 := Lib.hid (dOk_step (b := b) HOK.out (by omega))
          go_wp2_with fail
          refine (longest_any b x wr hgr (by omega) (by omega)).mono ?_
          rintro e w1 ⟨a, m, rfl, hLn, rfl⟩
          have hm := hLn.le.1
          have HL := Lib.hid hLn.eq
          clear hLn
          by_cases hm2 : 2 ≤ m
          · have hmd : decide ((m : Int) ≥ 2) = true := decide_eq_true (by omega)
            have hmd2 : decide (2 ≤ (m : Int)) = true := decide_eq_true (by omega)
            have hm0 : (0 : Int) ≤ (m : Int) := by omega
            have hmx : (m : Int) ≤ (x.size : Int) := by omega
            have HC := Lib.hid (dstep_copy (ops := ops) HL.out hm2)
            have HP := Lib.hid (HLk.out.push ⟨a, m, ⟨#[]⟩⟩ hbr.size)
            have ba := below_box wr (.cells #[.int .i64 a, .int .i64 m, .string ⟨#[]⟩, .pointer p] 67)
            go_wp2_with fail
            go_roundw
            case rel => exact ⟨x.extract m x.size, ops ++ [⟨a, m, ⟨#[]⟩⟩], _, f - 1, rfl, rfl, by rw [List.reverse_append, List.reverse_singleton, List.singleton_append]; exact HP.out, Lib.hid (by have := HOK2.out; rwa [HC.out] at this), by rw [ByteArray.size_extract]; omega, Lib.hid (by rw [← HD.out, HS.out, HC.out]), hgr.next ba, below_ext hbr ba⟩
            case measure =>
              simp only [strOf]
              rw [ByteArray.size_extract]
              omega
          · have hmd : decide ((m : Int) ≥ 2) = false := decide_eq_false (by omega)
            have hmd2 : decide (2 ≤ (m : Int)) = false := decide_eq_false (by omega)
            have hx1 : (1 : Int) ≤ (x.size : Int) := by omega
            have HP := Lib.hid (HLk.out.push ⟨0, 0, x.extract 0 1⟩ hbr.size)
            have ba := below_box wr (.cells #[.int .i64 0, .int .i64 0, .string (x.extract 0 1), .pointer p] 67)
            rcases List.eq_nil_or_concat ops with rfl | ⟨l, o, hlo⟩
            · obtain rfl : p = none := HLk.out
              have HC := Lib.hid (dstep_new (ops := []) HL.out hm2 (fun o h => by cases h))
              go_wp2_with fail
              go_roundw
              case rel => exact ⟨x.extract 1 x.size, [⟨0, 0, x.extract 0 1⟩], _, f - 1, rfl, rfl, by rw [List.reverse_singleton]; exact HP.out, Lib.hid (by have := HOK2.out; rwa [HC.out] at this), by rw [ByteArray.size_extract]; omega, Lib.hid (by rw [← HD.out, HS.out, HC.out]; rfl), hgr.next ba, below_ext hbr ba⟩
              case measure =>
                simp only [strOf]
                rw [ByteArray.size_extract]
                omega
            · have hlo' : ops = l ++ [o] := by rw [hlo, List.concat_eq_append]
              clear hlo
              subst hlo'
              have hLr := HLk.out
              rw [List.reverse_append, List.reverse_singleton, List.singleton_append] at hLr
              obtain ⟨g, q, rfl, hg1, hg2, hblk, hrest⟩ := hLr
              have HR := Lib.hid hrest
              clear hrest
              obtain ⟨c0, c1, c2, c3⟩ := hblk.cells4
              by_cases hz : o.sz = 0
              · have hzb : (o.sz == 0) = true := by simp [hz]
                have HC := Lib.hid (dstep_join (ops := l) HL.out hm2 hz)
                have hto8 := (HOK.out.2 o (by simp))
                have hfz := hblk.frozen 2
                have HN : Hid (Lnk (wr.setCell ⟨g, 2, none⟩ (.string (o.tx ++ x.extract 0 1))).drew w.heap.size wr.heap.size (some ⟨g, 0, none⟩) ((l ++ [(⟨o.at_, o.sz, o.tx ++ x.extract 0 1⟩ : Dp)]).reverse)) := Lib.hid (by
                  rw [List.reverse_append, List.reverse_singleton, List.singleton_append]
                  have h1 : Lnk (wr.setCell ⟨g, 2, none⟩ (.string (o.tx ++ x.extract 0 1))) w.heap.size wr.heap.size (some ⟨g, 0, none⟩) (⟨o.at_, o.sz, o.tx ++ x.extract 0 1⟩ :: l.reverse) := ⟨g, q, rfl, hg1, hg2, hblk.set_ 2 _, HR.out.far (Nat.le_refl _)⟩
                  exact h1.drew)
                have hgr2 : Gl (wr.setCell ⟨g, 2, none⟩ (.string (o.tx ++ x.extract 0 1))).drew := Gl.next hgl ((hbr.setCell (p := ⟨g, 2, none⟩) hg1 _).drew)
                go_wp2_with fail
                go_region
                go_wp2_with fail
                go_roundw
                case rel => exact ⟨x.extract 1 x.size, l ++ [⟨o.at_, o.sz, o.tx ++ x.extract 0 1⟩], some ⟨g, 0, none⟩, f - 1, rfl, rfl, by simpa [World.setCell, World.drew] using HN.out, Lib.hid (by have := HOK2.out; rwa [HC.out] at this), by rw [ByteArray.size_extract]; omega, Lib.hid (by rw [← HD.out, HS.out, HC.out]), hgr2, (hbr.setCell (p := ⟨g, 2, none⟩) hg1 _).drew⟩
                case measure =>
                  simp only [strOf]
                  rw [ByteArray.size_extract]
                  omega
              · have hzb : (o.sz == 0) = false := by simp [hz]
                have HC := Lib.hid (dstep_new (ops := l ++ [o]) HL.out hm2 (fun o' h => by rw [List.getLast?_concat] at h; injection h with h; rw [← h]; exact hz))
                go_wp2_with fail
                go_roundw
                case rel => exact ⟨x.extract 1 x.size, l ++ [o] ++ [⟨0, 0, x.extract 0 1⟩], _, f - 1, rfl, rfl, by rw [List.reverse_append, List.reverse_singleton, List.singleton_append]; exact HP.out, Lib.hid (by have := HOK2.out; rwa [HC.out] at this), by rw [ByteArray.size_extract]; omega, Lib.hid (by rw [← HD.out, HS.out, HC.out]), hgr.next ba, below_ext hbr ba⟩
                case measure =>
                  simp only [strOf]
                  rw [ByteArray.size_extract]
                  omega
        · have hxd : decide ((x.size : Int) > 0) = false := decide_eq_false (by omega)
          have HE := Lib.hid (dgo_end (b := b) (f := f) (ops := ops) (t := x) (by omega))
          have hol : ops.reverse.length ≤ 1000 := by have := HOK.out.1; simp; omega
          go_wp2_with fail
          refine (ops_any w.heap.size _ p ops.reverse wr HLk.out hol).mono ?_
          rintro e w1 ⟨A, n, c, rfl, hO, hb1⟩
          rw [List.reverse_reverse] at hO
          go_wp2_with fail
          go_ret
          rw [← HD.out, HE.out]
          exact ⟨A, n, c, rfl, own_base hO hbr.size, below_ext hbr hb1⟩
end Go.Proofs.Ytkekcgamhhmjnaa
