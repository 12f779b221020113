/- Walks: whether some object is invalid (slices.ContainsFunc); nodes of packs. -/
import Derived.Test.YtkekcgamhhmjnaaPkPackS
import Derived.Test.YtkekcgamhhmjnaaPkMakeI
namespace Go.Proofs.Ytkekcgamhhmjnaa
open Go.RowKit Go.Sort

set_option maxHeartbeats 800000 in
theorem badObj_any (o : Ob) (A : Option Addr) (n c : Nat) (w : World) (h : RInts w A n o.xs) (hn : n ≤ maxLen) :
    Calls Try.prog 29 #[.agg #[.int .i64 o.k, .slice A n c, .string o.t]] w fun e w' => e = .returned (.bool (!o.ok)) ∧ Below w.heap.size w w' := by
  have h1 := fun (x : Obj) => h.below (below_box w x) (Nat.le_refl _)
  go_enter Try.func29, Try.ntmps29
  go_wp2_with fail
  refine (ok_any _ _ _ _ o.xs _ _ (h1 _) hn).mono ?_
  rintro e w1 ⟨rfl, hb1⟩
  have hob : objOkB o.k o.xs o.t = o.ok := rfl
  rw [hob]
  go_wp2_with fail
  go_ret
  exact ⟨rfl, below_ext (below_box _ _) hb1⟩
set_option maxHeartbeats 1600000 in
theorem badObjs_any (A : Option Addr) (n c : Nat) (os : List Ob) (w : World) (h : RObjs w A n os) (hn : n ≤ maxLen) :
    Calls Try.prog 52 #[.slice A n c, .func (.func 29) #[] #[]] w fun e w' => (∃ z : Int, e = .returned (.int .i64 z) ∧ decide (z ≥ 0) = !os.all Ob.ok) ∧ Below w.heap.size w w' := by
  unfold maxLen at hn
  go_enter Try.func52, Try.ntmps52
  go_wp2_with fail
  go_loopw [8] (fun i wr => ∃ k : Nat, k ≤ n ∧ i = .int .i64 k ∧ Hid ((os.take k).all Ob.ok = true) ∧ Below w.heap.size w wr) (fun i _ => n - (intOf i).toNat)
  case atStart => exact ⟨0, Nat.zero_le _, rfl, Lib.hid (by simp), Below.refl _ _⟩
  case round =>
    obtain ⟨k, hk, rfl, hall, hbr⟩ := hrel
    by_cases hlt : k < n
    · obtain ⟨b, off, o, rfl, hb, hx, hob⟩ := (h.next hbr).at_ hlt
      obtain ⟨B', m', d', c0, c1, c2, hri, hm', ht⟩ := hob
      have hkl : k < os.length := by have := h.1; omega
      have HXE := Lib.hid (show os[k]'hkl = o from (List.getElem?_eq_some_iff.1 hx).2)
      have HM := Lib.hid (List.mem_of_getElem? hx)
      clear hx
      cases hx1 : o.ok
      · go_wp2_with fail
        refine (badObj_any o B' m' d' wr hri hm').mono ?_
        rw [hx1]
        rintro e w1 ⟨rfl, hb1⟩
        go_wp2_with fail
        go_ret
        refine ⟨⟨k, rfl, ?_⟩, below_ext hbr hb1⟩
        have h1 : os.all Ob.ok = false := by
          cases hh : os.all Ob.ok
          · rfl
          · have := List.all_eq_true.1 hh o HM.out
            rw [hx1] at this; cases this
        rw [h1]
        exact decide_eq_true (by omega)
      · go_wp2_with fail
        refine (badObj_any o B' m' d' wr hri hm').mono ?_
        rw [hx1]
        rintro e w1 ⟨rfl, hb1⟩
        go_wp2_with fail
        go_roundw
        case rel => exact ⟨k + 1, by omega, by go_num, Lib.hid (by
          rw [List.take_succ_eq_append_getElem hkl, List.all_append, hall.out, HXE.out]; simp [hx1]), below_ext hbr hb1⟩
        case measure => simp [intOf]; omega
    · obtain rfl : k = n := by omega
      rw [List.take_of_length_le (by have := h.1; omega)] at hall
      go_wp2_with fail
      go_ret
      exact ⟨⟨-1, rfl, by rw [hall.out]; rfl⟩, hbr⟩
set_option maxHeartbeats 800000 in
theorem anyBad_any (A : Option Addr) (n c : Nat) (os : List Ob) (w : World) (h : RObjs w A n os) (hn : n ≤ maxLen) :
    Calls Try.prog 28 #[.slice A n c, .func (.func 29) #[] #[]] w fun e w' => e = .returned (.bool (!os.all Ob.ok)) ∧ Below w.heap.size w w' := by
  go_enter Try.func28, Try.ntmps28
  go_wp2_with fail
  refine (badObjs_any A n c os w h hn).mono ?_
  rintro e w' ⟨⟨z, rfl, hz⟩, hb⟩
  go_wp2_with fail
  go_ret
  exact ⟨ret_bool (by rw [← hz]), hb⟩

/-- the cells of a node -/
def nodeC (p : Option Addr) (t : ByteArray) : List Value := [.int .i64 0, .slice none 0 0, .int .i64 0, .slice none 0 0, .pointer p, .string t]
def ptrTo (gs : List Nat) (b : Int) : Option Addr := if b < 0 then none else some ⟨gs.getD b.toNat 0, 0, none⟩
/-- nodes of a pack's entries -/
def NodeAll (w : World) (lo : Nat) (gs : List Nat) (bs : List Int) (ts : List ByteArray) : Prop := gs.length = bs.length ∧ gs.length ≤ ts.length ∧ ∀ (i g : Nat) (b : Int) (t : ByteArray), gs[i]? = some g → bs[i]? = some b → ts[i]? = some t → lo ≤ g ∧ Blk w g 57 (nodeC (ptrTo gs b) t)
section
variable {w w' : World} {lo : Nat} {gs : List Nat} {bs : List Int} {ts : List ByteArray}
theorem NodeAll.at_ (h : NodeAll w lo gs bs ts) {i g : Nat} (hg : gs[i]? = some g) : ∃ b t, bs[i]? = some b ∧ ts[i]? = some t ∧ lo ≤ g ∧ Blk w g 57 (nodeC (ptrTo gs b) t) := by
  have hi : i < gs.length := (List.getElem?_eq_some_iff.1 hg).1
  have h1 : bs[i]? = some (bs[i]'(by have := h.1; omega)) := List.getElem?_eq_getElem _
  have h2 : ts[i]? = some (ts[i]'(by have := h.2.1; omega)) := List.getElem?_eq_getElem _
  exact ⟨_, _, h1, h2, h.2.2 i g _ _ hg h1 h2⟩
theorem NodeAll.next (h : NodeAll w lo gs bs ts) (hb : Below w.heap.size w w') : NodeAll w' lo gs bs ts :=
  ⟨h.1, h.2.1, fun i g b t h1 h2 h3 => ⟨(h.2.2 i g b t h1 h2 h3).1, (h.2.2 i g b t h1 h2 h3).2.next hb⟩⟩
theorem NodeAll.grown {row : Option Nat} (h : NodeAll w lo gs bs ts) (hb : w.grownBy w' row) (hne : ∀ g ∈ gs, some g ≠ row) : NodeAll w' lo gs bs ts :=
  ⟨h.1, h.2.1, fun i g b t h1 h2 h3 => ⟨(h.2.2 i g b t h1 h2 h3).1, (h.2.2 i g b t h1 h2 h3).2.grown hb (hne g (List.mem_of_getElem? h1))⟩⟩
theorem NodeAll.mem (h : NodeAll w lo gs bs ts) {g : Nat} (hg : g ∈ gs) : lo ≤ g ∧ ∃ cs, Blk w g 57 cs := by
  obtain ⟨i, hi⟩ := List.mem_iff_getElem?.1 hg
  obtain ⟨b, t, _, _, h1, h2⟩ := h.at_ hi
  exact ⟨h1, _, h2⟩
theorem NodeAll.nodeP (h : NodeAll w lo gs bs ts) : NodeP w gs bs :=
  ⟨h.1, fun i g b h1 h2 => by
    obtain ⟨b', t, h3, h4, _, h5⟩ := h.at_ h1
    rw [h2] at h3
    injection h3 with h3
    subst h3
    exact ⟨h5.lt, h5.cell 4⟩⟩
theorem NodeAll.nil : NodeAll w lo [] [] ts := ⟨rfl, Nat.zero_le _, fun i g b t h => by simp at h⟩
theorem ptrTo_app {b : Int} {g : Nat} (h : b < gs.length) : ptrTo (gs ++ [g]) b = ptrTo gs b := by
  unfold ptrTo
  split
  · rfl
  · rename_i h0
    rw [show (gs ++ [g]).getD b.toNat 0 = gs.getD b.toNat 0 by simp [List.getD, List.getElem?_append_left (show b.toNat < gs.length by omega)]]
theorem NodeAll.snoc {gn : Nat} {b : Int} {t : ByteArray} (h : NodeAll w lo gs bs ts) (hok : OkB bs) (hb : b < gs.length) (ht : ts[gs.length]? = some t) (hlo : lo ≤ gn) (hblk : Blk w gn 57 (nodeC (ptrTo gs b) t)) : NodeAll w lo (gs ++ [gn]) (bs ++ [b]) ts := by
  have hl := h.1
  refine ⟨by simp [hl], by have := (List.getElem?_eq_some_iff.1 ht).1; rw [List.length_append, List.length_singleton]; omega, fun i g b' t' h1 h2 h3 => ?_⟩
  by_cases hi : i < gs.length
  · rw [List.getElem?_append_left hi] at h1
    rw [List.getElem?_append_left (by omega)] at h2
    have hbi := (hok i b' h2).2
    rw [ptrTo_app (by omega)]
    exact h.2.2 i g b' t' h1 h2 h3
  · have hi2 : i = gs.length := by
      have := (List.getElem?_eq_some_iff.1 h1).1
      rw [List.length_append, List.length_singleton] at this
      omega
    subst hi2
    rw [List.getElem?_append_right (Nat.le_refl _), Nat.sub_self] at h1
    rw [List.getElem?_append_right (by omega), show gs.length - bs.length = 0 by omega] at h2
    simp at h1 h2
    subst h1 h2
    rw [ht] at h3
    injection h3 with h3
    subst h3
    rw [ptrTo_app hb]
    exact ⟨hlo, hblk⟩
end
def ptrs (gs : List Nat) : List Value := gs.map fun g => .pointer (some ⟨g, 0, none⟩)
theorem ptrs_len (gs : List Nat) : (ptrs gs).length = gs.length := by simp [ptrs]
theorem ptr_info : (Try.prog.info? 55).map (fun i => (i.zero, i.size, i.bytes)) = some (some (.pointer none), 1, 8) := by kernel_rfl
/-- a slice of nodes of the call's own -/
def OwnN (w : World) (B : Nat) (A : Option Addr) (n c : Nat) (gs : List Nat) : Prop := w.ownsRow B 55 1 (.slice A n c) n (ptrs gs)
theorem OwnN.len {w : World} {B n c : Nat} {A : Option Addr} {gs : List Nat} (h : OwnN w B A n c gs) : gs.length = n := by
  have := h.1
  rw [ptrs_len] at this
  omega
theorem OwnN.at_ {w : World} {B n c k : Nat} {A : Option Addr} {gs : List Nat} (h : OwnN w B A n c gs) (hk : k < n) : ∃ g0 g, A = some ⟨g0, 0, none⟩ ∧ g0 < w.heap.size ∧ gs[k]? = some g ∧ w.cell? ⟨g0, k, none⟩ = some (.pointer (some ⟨g, 0, none⟩)) := by
  obtain ⟨g0, rfl, _, h2⟩ := own_addr h (by omega)
  have hl := h.len
  have hg : gs[k]? = some (gs[k]'(by omega)) := List.getElem?_eq_getElem _
  refine ⟨g0, _, rfl, h2, hg, ?_⟩
  have := World.ownsRow.cells h (g := g0) rfl k (.pointer (some ⟨gs[k]'(by omega), 0, none⟩)) (by unfold ptrs; rw [List.getElem?_map, hg]; rfl)
  rwa [add_flat, Nat.zero_add] at this
end Go.Proofs.Ytkekcgamhhmjnaa
