/- Walks: slices.Reverse at operations; the operations of a linked list. -/
import Derived.Test.YtkekcgamhhmjnaaPkData
import Derived.BigRegion
namespace Go.Proofs.Ytkekcgamhhmjnaa
open Go.RowKit Go.Sort

theorem vint_eq {a b : Int} (h : a = b) : Value.int .i64 a = .int .i64 b := by rw [h]
/-- the ends reversed, up to place k -/
def RevTo (ops ys : List Dp) (k : Nat) : Prop := ys.length = ops.length ∧ ∀ q, q < ops.length → ys[q]? = if q < k ∨ ops.length ≤ q + k then ops.reverse[q]? else ops[q]?
theorem RevTo.start (ops : List Dp) : RevTo ops ops 0 := ⟨rfl, fun q hq => by rw [if_neg (by omega)]⟩
theorem RevTo.step {ops ys : List Dp} {k : Nat} {x y : Dp} (h : RevTo ops ys k) (hk : k + k + 1 < ops.length) (hx : ys[k]? = some x) (hy : ys[ops.length - 1 - k]? = some y) : RevTo ops ((ys.set k y).set (ops.length - 1 - k) x) (k + 1) := by
  obtain ⟨h1, h2⟩ := h
  refine ⟨by simp [h1], fun q hq => ?_⟩
  have hxo : ops[k]? = some x := by
    have := h2 k (by omega)
    rw [if_neg (by omega)] at this
    rw [← this]; exact hx
  have hyo : ops[ops.length - 1 - k]? = some y := by
    have := h2 (ops.length - 1 - k) (by omega)
    rw [if_neg (by omega)] at this
    rw [← this]; exact hy
  by_cases e1 : q = ops.length - 1 - k
  · subst e1
    rw [List.getElem?_set_self (by simp; omega), if_pos (by omega), List.getElem?_reverse (by omega), show ops.length - 1 - (ops.length - 1 - k) = k by omega, hxo]
  · rw [List.getElem?_set_ne (by omega)]
    by_cases e2 : q = k
    · subst e2
      rw [List.getElem?_set_self (by omega), if_pos (by omega), List.getElem?_reverse (by omega), hyo]
    · rw [List.getElem?_set_ne (by omega), h2 q hq]
      by_cases e3 : q < k ∨ ops.length ≤ q + k
      · rw [if_pos e3, if_pos (by omega)]
      · rw [if_neg e3, if_neg (by omega)]
theorem RevTo.done {ops ys : List Dp} {k : Nat} (h : RevTo ops ys k) (hk : ops.length ≤ k + k + 1) : ys = ops.reverse := by
  obtain ⟨h1, h2⟩ := h
  apply List.ext_getElem?
  intro q
  by_cases hq : q < ops.length
  · rw [h2 q hq]
    by_cases e : q < k ∨ ops.length ≤ q + k
    · rw [if_pos e]
    · rw [if_neg e, List.getElem?_reverse hq, show ops.length - 1 - q = q by omega]
  · rw [List.getElem?_eq_none (by omega), List.getElem?_eq_none (by rw [List.length_reverse]; omega)]
theorem dpL_set {ops : List Dp} {k : Nat} (hk : k < ops.length) (o : Dp) : (((dpL ops).set (k * 3) (.int .i64 o.at_)).set (k * 3 + 1) (.int .i64 o.sz)).set (k * 3 + 2) (.string o.tx) = dpL (ops.set k o) := by
  induction ops generalizing k with
  | nil => simp at hk
  | cons x l ih =>
    have hx : ∀ (z : Dp) (m : List Dp), dpL (z :: m) = .int .i64 z.at_ :: .int .i64 z.sz :: .string z.tx :: dpL m := fun z m => by unfold dpL; rw [List.map_cons, List.flatten_cons]; rfl
    cases k with
    | zero => rw [List.set_cons_zero, hx, hx]; rfl
    | succ k =>
      rw [List.set_cons_succ, hx, hx, ← ih (by simpa using hk)]
      rw [show (k + 1) * 3 = k * 3 + 1 + 1 + 1 by omega]
      simp only [List.set_cons_succ, show k * 3 + 1 + 1 + 1 + 1 = k * 3 + 1 + 1 + 1 + 1 from rfl, show k * 3 + 1 + 1 + 1 + 2 = k * 3 + 2 + 1 + 1 + 1 by omega]
theorem OwnD.setD {w : World} {B g n c k : Nat} {ops : List Dp} (h : OwnD w B (some ⟨g, 0, none⟩) n c ops) (hk : k < ops.length) (o : Dp) :
    OwnD (((w.setCell ⟨g, k * 3, none⟩ (.int .i64 o.at_)).setCell ⟨g, k * 3 + 1, none⟩ (.int .i64 o.sz)).setCell ⟨g, k * 3 + 2, none⟩ (.string o.tx)) B (some ⟨g, 0, none⟩) n c (ops.set k o) := by
  have h3 := own_setD (own_setD (own_setD h (k * 3) (.int .i64 o.at_)) (k * 3 + 1) (.int .i64 o.sz)) (k * 3 + 2) (.string o.tx)
  rw [dpL_set hk] at h3
  exact h3
theorem OwnD.drew {w : World} {B n c : Nat} {A : Option Addr} {ops : List Dp} (h : OwnD w B A n c ops) : OwnD w.drew B A n c ops := h
theorem OwnD.cellD {w : World} {B g n c k : Nat} {ops : List Dp} {o : Dp} (h : OwnD w B (some ⟨g, 0, none⟩) n c ops) (hk : ops[k]? = some o) : w.cell? ⟨g, k * 3, none⟩ = some (.int .i64 o.at_) ∧ w.cell? ⟨g, k * 3 + 1, none⟩ = some (.int .i64 o.sz) ∧ w.cell? ⟨g, k * 3 + 2, none⟩ = some (.string o.tx) := by
  have hc : ∀ j u, (dpC o)[j]? = some u → j < 3 → w.cell? ⟨g, k * 3 + j, none⟩ = some u := fun j u hu hj => by
    have := World.ownsRow.cells h (g := g) rfl (k * 3 + j) u ((dpL_at hk hj).trans hu)
    rwa [add_flat, Nat.zero_add] at this
  exact ⟨hc 0 _ rfl (by omega), hc 1 _ rfl (by omega), hc 2 _ rfl (by omega)⟩
set_option maxRecDepth 100000 in
set_option maxHeartbeats 800000 in
theorem reverse_any (B : Nat) (A : Option Addr) (n c : Nat) (ops : List Dp) (w : World) (h : OwnD w B A n c ops) (hn : n ≤ 1000000) :
    Calls Try.prog 59 #[.slice A n c] w fun e w' => e = .returned (.tuple #[]) ∧ OwnD w' B A n c ops.reverse ∧ Below B w w' := by
  have HL := Lib.hid h.len
  have hn1 : IntKind.i64.wrap ((n : Int) - 1) = (n : Int) - 1 := by rw [IntKind.wrap_i64]; omega
  go_enter Try.func59, Try.ntmps59
  go_wp2_with fail
  go_loopw [2, 3] (fun i j wr => ∃ (k : Nat) (ys : List Dp), k ≤ n ∧ i = .int .i64 k ∧ j = .int .i64 ((n : Int) - 1 - (k : Int)) ∧ Hid (RevTo ops ys k) ∧ OwnD wr B A n c ys ∧ Below B w wr) (fun i _ _ => n - (intOf i).toNat)
  case atStart => exact ⟨0, ops, Nat.zero_le _, rfl, by simp, Lib.hid (RevTo.start ops), h, Below.refl _ _⟩
  case round =>
    obtain ⟨k, ys, hk, rfl, rfl, HR, hO, hbr⟩ := hrel
    by_cases hlt : k + k + 1 < n
    · obtain ⟨g, rfl, hg1, hg2⟩ := own_addr hO (by omega)
      obtain ⟨z, HZ⟩ : ∃ z : Nat, Hid (z = n - 1 - k) := ⟨_, Lib.hid rfl⟩
      have hzi : (n : Int) - 1 - (k : Int) = (z : Int) := by have := HZ.out; omega
      have hkz : (k : Int) < (z : Int) := by have := HZ.out; omega
      have hkz2 : k < z := by omega
      have hzn : (z : Int) < (n : Int) := by have := HZ.out; omega
      have hkn : (k : Int) < (n : Int) := by omega
      have hz0 : (0 : Int) ≤ (z : Int) := by omega
      have hlb : decide (k < z) = true := decide_eq_true hkz2
      have hl2 : decide ((k : Int) < (z : Int)) = true := decide_eq_true hkz
      have hyl : ys.length = n := by have := HR.out.1; have := HL.out; omega
      obtain ⟨x, hx⟩ : ∃ x, ys[k]? = some x := ⟨_, List.getElem?_eq_getElem (by omega)⟩
      obtain ⟨y, hy⟩ : ∃ y, ys[z]? = some y := ⟨_, List.getElem?_eq_getElem (by have := HZ.out; omega)⟩
      obtain ⟨x0, x1, x2⟩ := hO.cellD hx
      obtain ⟨y0, y1, y2⟩ := hO.cellD hy
      have hfz := fun i => own_frozenD hO i
      have HST := Lib.hid (show RevTo ops ((ys.set k y).set z x) (k + 1) by
        have := HR.out.step (x := x) (y := y) (by have := HL.out; omega) hx (by rw [show ops.length - 1 - k = z by have := HL.out; have := HZ.out; omega]; exact hy)
        rwa [show ops.length - 1 - k = z by have := HL.out; have := HZ.out; omega] at this)
      have HO2 := Lib.hid ((hO.setD (k := k) (by omega) y).setD (k := z) (by rw [List.length_set]; have := HZ.out; omega) x)
      have hw1 : IntKind.i64.wrap ((k : Int) + 1) = ((k + 1 : Nat) : Int) := by rw [IntKind.wrap_i64]; omega
      have hw2 : IntKind.i64.wrap ((z : Int) - 1) = (n : Int) - 1 - ((k + 1 : Nat) : Int) := by rw [IntKind.wrap_i64]; omega
      clear hx hy hyl
      rw [hzi]
      clear hzi
      go_wp2_with fail
      go_region
      go_wp2_with fail
      go_roundw
      case rel => exact ⟨k + 1, (ys.set k y).set z x, by omega, by go_num, vint_eq (by have := HZ.out; omega), HST, HO2.out.drew, ((((((hbr.setCell (p := ⟨g, _, none⟩) hg1 _).setCell (p := ⟨g, _, none⟩) hg1 _).setCell (p := ⟨g, _, none⟩) hg1 _).setCell (p := ⟨g, _, none⟩) hg1 _).setCell (p := ⟨g, _, none⟩) hg1 _).setCell (p := ⟨g, _, none⟩) hg1 _).drew⟩
      case measure => simp [intOf]; omega
    · have hlb : decide ((k : Int) < (n : Int) - 1 - (k : Int)) = false := decide_eq_false (by omega)
      go_wp2_with fail
      go_end0
      exact ⟨rfl, by rw [← HR.out.done (by have := HL.out; omega)]; exact hO, hbr⟩
end Go.Proofs.Ytkekcgamhhmjnaa
