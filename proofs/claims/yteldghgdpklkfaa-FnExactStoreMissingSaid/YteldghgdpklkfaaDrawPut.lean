/- Walks: drawing ids of a store, drawing a store and an object. -/
import Derived.Test.YteldghgdpklkfaaStoreTop
namespace Go.Proofs.Yteldghgdpklkfaa
open Go.RowKit Go.Sort

/-- where l91Ids stands -/
def IdP (g : Nat) (w : World) (B : Option Addr) (d e : Nat) (is : List Int) (q : Nat) (wx : World) : Prop := wx.ownsRow w.heap.size 3 1 (.slice B d e) d (ints is) ∧ Rd wx g q ∧ w.grownBy wx (some g)
section
variable {g d e q : Nat} {w wx wy : World} {B : Option Addr} {is : List Int}
theorem IdP.draw {q' : Nat} (hgw : g < w.heap.size) (h : IdP g w B d e is q wx) (hr : Rd wy g q') (hg : wx.grownBy wy (some g)) : IdP g w B d e is q' wy :=
  ⟨own_grown h.1 hg hgw, hr, grown_trans h.2.2 hg⟩
theorem IdP.next (h : IdP g w B d e is q wx) (hb : Below wx.heap.size wx wy) : IdP g w B d e is q wy := ⟨own_below h.1 hb, h.2.1.keep hb, grown_below h.2.2 hb⟩
theorem IdP.app {w8 : World} {B' : Option Addr} {e' : Nat} {x : Int} (hgw : g < w.heap.size) (h : IdP g w B d e is q wx)
    (hown8 : w8.ownsRow w.heap.size 3 1 (.slice B' (d + 1) e') (d + 1) (ints is ++ [.int .i64 x])) (hb8 : Below w.heap.size (wx.alloc (.cells #[.int .i64 x] 3)) w8) : IdP g w B' (d + 1) e' (is ++ [x]) q w8 := by
  have h7 := h.next (below_box wx (.cells #[.int .i64 x] 3))
  refine ⟨by rw [← ints_snoc]; exact hown8, h7.2.1.below hb8 hgw, ?_⟩
  have h3 := h7.2.2
  exact ⟨hb8.os.trans h3.os, hb8.tape.trans h3.tape, hb8.output.trans h3.output, Nat.le_trans h3.size hb8.size, fun i hi hne => (hb8.block i hi).trans (h3.block i hi hne)⟩
end

theorem sortF_cons (x : Int) (xs : List Int) (k : Nat) : (sortF (x :: xs) k).length ≤ (sortF xs k).length + (if x < (k : Int) ∧ 0 ≤ x then 1 else 0) := by
  induction k with
  | zero => simp [sortF]
  | succ k ih =>
    rw [sortF_succ, sortF_succ, List.length_append, List.length_append]
    by_cases hx : x = (k : Int)
    · subst hx
      have h1 : hasI ((k : Int) :: xs) k = true := by simp [hasI]
      rw [h1, if_pos rfl]
      rw [if_neg (show ¬ ((k : Int) < (k : Int) ∧ 0 ≤ (k : Int)) by omega)] at ih
      rw [if_pos (show (k : Int) < ((k + 1 : Nat) : Int) ∧ 0 ≤ (k : Int) by omega)]
      have : (if hasI xs (k : Int) = true then [(k : Int)] else []).length ≥ 0 := Nat.zero_le _
      simp only [List.length_singleton]
      omega
    · have h1 : hasI (x :: xs) k = hasI xs k := by
        have : ¬ (k : Int) = x := fun e => hx e.symm
        simp [hasI, this]
      rw [h1]
      by_cases h2 : x < (k : Int) ∧ 0 ≤ x
      · rw [if_pos h2] at ih; rw [if_pos (show x < ((k + 1 : Nat) : Int) ∧ 0 ≤ x by omega)]; omega
      · rw [if_neg h2] at ih; rw [if_neg (show ¬ (x < ((k + 1 : Nat) : Int) ∧ 0 ≤ x) by omega)]; omega
theorem sorted_short (xs : List Int) : (sorted xs).length ≤ xs.length := by
  unfold sorted
  induction xs with
  | nil =>
    have h : sortF [] 991 = [] := by unfold sortF; rw [List.filter_eq_nil_iff]; intro a _; simp [hasI]
    rw [h]; exact Nat.le_refl _
  | cons x xs ih =>
    have := sortF_cons x xs 991
    rw [List.length_cons]
    split at this <;> omega

def IsInts (B M : Nat) (v : Value) (w : World) : Prop := ∃ A n c xs, v = .slice A n c ∧ w.ownsRow B 3 1 (.slice A n c) n (ints xs) ∧ n ≤ M

set_option maxHeartbeats 1600000 in
theorem l91Ids_any (g p : Nat) (A : Option Addr) (m c C : Nat) (os : List Ob) (w : World) (h : Rd w g p) (hp : p ≤ 700000) (hO : OwnO w C (.slice A m c) m os) (hgC : g < C) (hm : m ≤ 21) (hok : ∀ o ∈ os, o.ok = true) :
    Calls Try.prog 50 #[.pointer (some ⟨g, 0, none⟩), .slice A m c] w (Drawn g p 30 w (IsInts w.heap.size 10)) := by
  have hgw := h.lt
  have b0 := below_box w (.cells #[] 3)
  have hS0 : IdP g w (some ⟨w.heap.size, 0, none⟩) 0 0 [] p (w.alloc (.cells #[] 3)) := ⟨own_emp (Blk.new w 3 []) (Nat.le_refl _), h.keep b0, grown_below (World.grownBy.refl w _) b0⟩
  go_enter Try.func50, Try.ntmps50
  go_wp2_with fail
  refine (pick_any g p 4 _ (h.keep b0) (by omega) (by omega) (by omega)).mono ?_
  rintro e w1 ⟨v1, rfl, h10, h11, hr1, hg1⟩
  have hS1 := hS0.draw hgw hr1 hg1
  obtain ⟨N, rfl⟩ := Int.eq_ofNat_of_zero_le h10
  clear hS0 b0 hr1 hg1
  go_upto_block 0 with fail
  go_cut [5, 7] from 8 (fun s _ wx => ∃ (B : Option Addr) (d e : Nat) (is : List Int) (q : Nat), s = .slice B d e ∧ d ≤ 4 ∧ q ≤ p + 10 ∧ IdP g w B d e is q wx)
  case first =>
    go_wp2_with fail
    go_loopw [5, 7] (fun s i wr => ∃ (k : Nat) (B : Option Addr) (d e : Nat) (is : List Int) (q : Nat), k ≤ N ∧ i = .int .i64 k ∧ s = .slice B d e ∧ d ≤ k ∧ q ≤ p + 1 + k ∧ IdP g w B d e is q wr) (fun _ i _ => N - (intOf i).toNat)
    case atStart => exact ⟨0, _, 0, 0, [], _, by omega, rfl, rfl, by omega, by omega, hS1⟩
    case round =>
      obtain ⟨k, B, d, e, is, q, hk, rfl, rfl, hd, hq, hS⟩ := hrel
      by_cases hlt : k < N ∧ 0 < m
      · obtain ⟨hlt, hm0⟩ := hlt
        have hm0b : decide ((m : Int) > 0) = true := by simp; omega
        go_wp2_with fail
        refine (pick_any g _ m _ hS.2.1 (by omega) (by omega) (by omega)).mono ?_
        rintro e' w3 ⟨v3, rfl, h30, h31, hr3, hg3⟩
        have hS3 := hS.draw hgw hr3 hg3
        obtain ⟨j, rfl⟩ := Int.eq_ofNat_of_zero_le h30
        obtain ⟨b, off, o, rfl, hb, hx, hob⟩ := (hO.grown hS3.2.2 hgC).reads.at_ (k := j) (by omega)
        obtain ⟨B', m', d', c0, c1', c2', hri, hm', ht'⟩ := hob
        have hoo : ObjOk o.k o.xs o.t := ObjOk.of (hok o (List.mem_of_getElem? hx))
        clear hx
        go_wp2_with fail
        refine (l1Of_any _ _ _ _ o.xs _ _ hri hoo).mono ?_
        rintro e' w4 ⟨rfl, hb4⟩
        have hS4 := hS3.next hb4
        have hz4 := hS4.2.2.size
        generalize hI : idV o.k o.xs o.t = x4 at *
        have HI := Lib.hid hI
        clear hI
        go_wp2_with (at_builtin; go_loud (refine wpList_app rfl (.tmp 21) (.tmp 30) 27 rfl w.heap.size 3 Try.underlying27 int_info1 rfl (by omega) (by omega) _ d (ints is) rfl (own_below hS4.1 (below_box _ _)) ⟨w4.heap.size, 0, none⟩ 1 1 [.int .i64 x4] rfl rfl (cell_one_new _ _ _) (by simp [Value.oneCell']) (by omega) (Nat.le_trans hz4 (by simp)) ?_; intro B9 d9 w9 hown9 _ hb9 hg9 _))
        go_roundw
        case rel => exact ⟨k + 1, B9, d + 1, d9, is ++ [x4], q + 1, by omega, by go_num, rfl, by omega, by omega, hS4.app hgw hown9 hb9⟩
        case measure => simp [intOf]; omega
      · have hex : ∃ (B' : Option Addr) (d' e' : Nat) (is' : List Int) (q' : Nat), Value.slice B d e = .slice B' d' e' ∧ d' ≤ 4 ∧ q' ≤ p + 10 ∧ IdP g w B' d' e' is' q' wr := ⟨B, d, e, is, q, rfl, by omega, by omega, hS⟩
        have HE := Lib.hid hex
        clear hex
        by_cases h1 : k < N
        · obtain rfl : m = 0 := by
            apply Classical.byContradiction; intro h2; exact hlt ⟨h1, by omega⟩
          clear hlt
          go_wp2_with fail
          go_meet
          case rel => exact HE.out
        · clear hlt
          go_wp2_with fail
          go_meet
          case rel => exact HE.out
  obtain ⟨B, d, e, is, q, rfl, hd, hq, hS⟩ := hcut
  go_upto_if 34 with (go_at_call 55; refine (pick_any g _ 10 _ hS.2.1 (by omega) (by omega) (by omega)).mono ?_; rintro e w3 ⟨v3, rfl, h30, h31, hr3, hg3⟩)
  have hS3 := hS.draw hgw hr3 hg3
  go_cut [5] from 8 (fun s wx => ∃ (B : Option Addr) (d e : Nat) (is : List Int) (q : Nat), s = .slice B d e ∧ d ≤ 5 ∧ q ≤ p + 12 ∧ IdP g w B d e is q wx)
  case first =>
    go_wp2_with fail
    · refine (pick_any g _ 99 _ hS3.2.1 (by omega) (by omega) (by omega)).mono ?_
      rintro e' w4 ⟨v4, rfl, h40, h41, hr4, hg4⟩
      have hS4 := hS3.draw hgw hr4 hg4
      have hz4 := hS4.2.2.size
      go_wp2_with (at_builtin; go_loud (refine wpList_app rfl (.tmp 35) (.tmp 39) 27 rfl w.heap.size 3 Try.underlying27 int_info1 rfl (by omega) (by omega) _ d (ints is) rfl (own_below hS4.1 (below_box _ _)) ⟨w4.heap.size, 0, none⟩ 1 1 [.int .i64 (10 * v4)] rfl rfl (cell_one_new _ _ _) (by simp [Value.oneCell']) (by omega) (Nat.le_trans hz4 (by simp)) ?_; intro B9 d9 w9 hown9 _ hb9 hg9 _))
      go_meet
      case rel => exact ⟨B9, d + 1, d9, _, _, rfl, by omega, by omega, hS4.app hgw hown9 hb9⟩
    · go_meet
      case rel => exact ⟨B, d, e, is, _, rfl, by omega, by omega, hS3⟩
  obtain ⟨B2, d2, e2, is2, q2, rfl, hd2, hq2, hS2⟩ := hcut
  have hl2 : is2.length = d2 := (RInts.of_own hS2.1).1
  go_wp2_with fail
  refine (l1Sorted_any _ _ _ is2 _ (RInts.of_own hS2.1) (by simp only [maxLen]; omega)).mono ?_
  rintro e5 w5 ⟨B5, d5, rfl, hown5, hb5⟩
  have hln := sorted_short is2
  have hS5 : IdP g w B5 (sorted is2).length d5 (sorted is2) q2 w5 := ⟨own_base hown5 hS2.2.2.size, hS2.2.1.keep hb5, grown_below hS2.2.2 hb5⟩
  generalize hNL : (sorted is2).length = nl at *
  have HNL := Lib.hid hNL
  clear hNL
  go_wp2_with fail
  refine (pick_any g _ 30 _ hS5.2.1 (by omega) (by omega) (by omega)).mono ?_
  rintro e6 w6 ⟨v6, rfl, h60, h61, hr6, hg6⟩
  have hS6 := hS5.draw hgw hr6 hg6
  by_cases hv6 : v6 = 0
  · subst hv6
    go_wp2_with fail
    refine (l91Id_any g _ _ hS6.2.1 (by omega)).mono ?_
    rintro e7 w7 ⟨_, q7, rfl, ⟨z, rfl, hz0, hz1⟩, hq7, hr7, hg7⟩
    have hS7 := hS6.draw hgw hr7 hg7
    have hz7 := hS7.2.2.size
    go_wp2_with (at_builtin; go_loud (refine wpList_app rfl (.tmp 46) (.tmp 49) 27 rfl w.heap.size 3 Try.underlying27 int_info1 rfl (by omega) (by omega) _ nl (ints (sorted is2)) rfl (own_below hS7.1 (below_box _ _)) ⟨w7.heap.size, 0, none⟩ 1 1 [.int .i64 z] rfl rfl (cell_one_new _ _ _) (by simp [Value.oneCell']) (by omega) (Nat.le_trans hz7 (by simp)) ?_; intro B9 d9 w9 hown9 _ hb9 hg9 _))
    go_ret
    obtain ⟨r1, r2, r3⟩ := hS7.app hgw hown9 hb9
    exact ⟨_, q7, rfl, ⟨_, _, _, _, rfl, r1, by omega⟩, by omega, r2, r3⟩
  · have hv6b : (v6 == 0) = false := by simp; exact hv6
    go_wp2_with fail
    go_ret
    exact ⟨_, _, rfl, ⟨_, _, _, _, rfl, hS6.1, by omega⟩, by omega, hS6.2.1, hS6.2.2⟩

end Go.Proofs.Yteldghgdpklkfaa
