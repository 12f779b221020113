/- Walks: the program's copyObjects. -/
import Derived.Test.YtjofgbbofagoiaaClone
namespace Go.Proofs.Ytjofgbbofagoiaa
open Go.RowKit Go.Sort

theorem own_set {w : World} {base g n d size : Nat} {e : TypeId} {xs : List Value} (h : w.ownsRow base e size (.slice (some ⟨g, 0, none⟩) n d) n xs) (i : Nat) (u : Value) :
    (w.setCell ⟨g, i, none⟩ u).ownsRow base e size (.slice (some ⟨g, 0, none⟩) n d) n (xs.set i u) := by
  refine ⟨by rw [List.length_set]; exact h.1, ?_⟩
  rcases h.2 with ⟨h0, _⟩ | ⟨g', cap, cur, hv, hb, hh, h1, h2, h3, h4⟩
  · cases h0
  · injection hv with hv1 _ hv3
    injection hv1 with hv1
    injection hv1 with hv1 _ _
    subst hv1
    subst hv3
    have hB : Blk w g e cur.toList := by unfold Blk; simpa using hh
    have hB' := hB.set_ i u
    unfold Blk at hB'
    refine .inr ⟨g, d, (cur.toList.set i u).toArray, rfl, hb, hB', h1, h2, by simpa using h3, ?_⟩
    rw [List.toList_toArray, ← h4, List.take_set]
theorem own_frozen {w : World} {base g n d size : Nat} {e : TypeId} {xs : List Value} (h : w.ownsRow base e size (.slice (some ⟨g, 0, none⟩) n d) n xs) (i : Nat) : w.frozen? ⟨g, i, none⟩ = false := by
  rcases h.2 with ⟨h0, _⟩ | ⟨g', cap, cur, hv, hb, hh, _⟩
  · cases h0
  · injection hv with hv1 _ hv3
    injection hv1 with hv1
    injection hv1 with hv1 _ _
    subst hv1
    have hB : Blk w g e cur.toList := by unfold Blk; simpa using hh
    exact hB.frozen i
theorem own_cellsOf {w : World} {base g n d size : Nat} {e : TypeId} {xs : List Value} (h : w.ownsRow base e size (.slice (some ⟨g, 0, none⟩) n d) n xs) : ∀ (j : Nat) (u : Value), xs[j]? = some u → w.cell? ⟨g, j, none⟩ = some u := fun j u hu => by
  have := h.cells (g := g) rfl j u hu
  rw [add_at] at this; rwa [Nat.zero_add] at this

/-- the links of the first n objects lie below block F, in blocks that are all different -/
def SepF (F : Nat) (cs : List Value) (n : Nat) : Prop :=
  (∀ (q : Nat) (a : Addr) (m c : Nat), q < n → cs[q * 3 + 1]? = some (.slice (some a) m c) → 0 < m → a.block < F) ∧
  (∀ (q q' : Nat) (a a' : Addr) (m c m' c' : Nat), q < n → q' < n → q ≠ q' → cs[q * 3 + 1]? = some (.slice (some a) m c) → cs[q' * 3 + 1]? = some (.slice (some a') m' c') → 0 < m → 0 < m' → a.block ≠ a'.block)
theorem SepF.more {F F' n : Nat} {cs : List Value} (h : SepF F cs n) (hF : F ≤ F') : SepF F' cs n := ⟨fun q a m c h1 h2 h3 => Nat.lt_of_lt_of_le (h.1 q a m c h1 h2 h3) hF, h.2⟩
theorem SepF.zero {F : Nat} {cs : List Value} : SepF F cs 0 := ⟨fun q a m c h1 => absurd h1 (by omega), fun q q' a a' m c m' c' h1 => absurd h1 (by omega)⟩
theorem SepF.set {F F' k : Nat} {cs : List Value} {A : Option Addr} {m d : Nat} (h : SepF F cs k) (hk : k * 3 + 1 < cs.length) (hF : F ≤ F') (h1 : ∀ a, A = some a → F ≤ a.block) (h2 : ∀ a, A = some a → 0 < m → a.block < F') : SepF F' (cs.set (k * 3 + 1) (.slice A m d)) (k + 1) := by
  have hself : (cs.set (k * 3 + 1) (.slice A m d))[k * 3 + 1]? = some (.slice A m d) := List.getElem?_set_self hk
  have hother : ∀ q, q ≠ k → (cs.set (k * 3 + 1) (.slice A m d))[q * 3 + 1]? = cs[q * 3 + 1]? := fun q hq => List.getElem?_set_ne (by omega)
  refine ⟨fun q a m' c hq he hm => ?_, fun q q' a a' m1 c1 m2 c2 hq hq' hne he he' hm1 hm2 => ?_⟩
  · by_cases hqk : q = k
    · subst hqk
      rw [hself] at he; injection he with he; injection he with e1 e2 _
      exact h2 a e1 (by omega)
    · rw [hother q hqk] at he
      exact Nat.lt_of_lt_of_le (h.1 q a m' c (by omega) he hm) hF
  · by_cases hqk : q = k
    · subst hqk
      rw [hself] at he; injection he with he; injection he with e1 _ _
      rw [hother q' (fun e => hne e.symm)] at he'
      have := h.1 q' a' m2 c2 (by omega) he' hm2
      have := h1 a e1
      omega
    · rw [hother q hqk] at he
      by_cases hqk' : q' = k
      · subst hqk'
        rw [hself] at he'; injection he' with he'; injection he' with e1 _ _
        have := h.1 q a m1 c1 (by omega) he hm1
        have := h1 a' e1
        omega
      · rw [hother q' hqk'] at he'
        exact h.2 q q' a a' m1 c1 m2 c2 (by omega) (by omega) hne he he' hm1 hm2

/-- where copyObjects stands: the first k objects have links of their own -/
def CpSt (w : World) (B : Option Addr) (n d : Nat) (os : List Ob) (k : Nat) (wr : World) : Prop := ∃ cs, wr.ownsRow w.heap.size 33 3 (.slice B n d) n cs ∧ cs.length = os.length * 3 ∧
  (∀ (q : Nat) (o : Ob), os[q]? = some o → ∃ A m c, cs[q * 3]? = some (.int .i64 o.k) ∧ cs[q * 3 + 1]? = some (.slice A m c) ∧ cs[q * 3 + 1 + 1]? = some (.string o.t) ∧ (if q < k then LinkIn wr w.heap.size A m o.xs else RInts w A m o.xs) ∧ m ≤ maxLen ∧ o.t.size ≤ maxLen) ∧ Below w.heap.size w wr ∧ SepF wr.heap.size cs k
theorem CpSt.next {w wr wr' : World} {n d k : Nat} {B : Option Addr} {os : List Ob} (h : CpSt w B n d os k wr) (hb : Below wr.heap.size wr wr') : CpSt w B n d os k wr' := by
  obtain ⟨cs, h1, h2, h3, h4, h5⟩ := h
  refine ⟨cs, own_below h1 hb, h2, fun q o hq => ?_, below_ext h4 hb, h5.more hb.size⟩
  obtain ⟨A, m, c, e0, e1, e2, e3, e4⟩ := h3 q o hq
  refine ⟨A, m, c, e0, e1, e2, ?_, e4⟩
  split
  · rw [if_pos (by assumption)] at e3; exact e3.next hb
  · rw [if_neg (by assumption)] at e3; exact e3
theorem CpSt.step {w wr0 wr : World} {g n d k m d' : Nat} {os : List Ob} {o : Ob} {B' : Option Addr} (h0 : CpSt w (some ⟨g, 0, none⟩) n d os k wr0) (hb0 : Below wr0.heap.size wr0 wr) (ho : os[k]? = some o) (hl0 : LinkIn wr wr0.heap.size B' m o.xs) (hm : m ≤ maxLen) :
    CpSt w (some ⟨g, 0, none⟩) n d os (k + 1) (wr.setCell ⟨g, k * 3 + 1, none⟩ (.slice B' m d')) := by
  obtain ⟨cs, h1, h2, h3, h4, h5⟩ := h0
  have hl := hl0.base h4.size
  have h3 : ∀ (q : Nat) (o : Ob), os[q]? = some o → ∃ A m c, cs[q * 3]? = some (.int .i64 o.k) ∧ cs[q * 3 + 1]? = some (.slice A m c) ∧ cs[q * 3 + 1 + 1]? = some (.string o.t) ∧ (if q < k then LinkIn wr w.heap.size A m o.xs else RInts w A m o.xs) ∧ m ≤ maxLen ∧ o.t.size ≤ maxLen := fun q o hq => by
    obtain ⟨A, m, c, e0, e1, e2, e3, e4⟩ := h3 q o hq
    refine ⟨A, m, c, e0, e1, e2, ?_, e4⟩
    split
    · rw [if_pos (by assumption)] at e3; exact e3.next hb0
    · rw [if_neg (by assumption)] at e3; exact e3
  have h1 := own_below h1 hb0
  have h4 := below_ext h4 hb0
  have hk : k < os.length := (List.getElem?_eq_some_iff.1 ho).1
  have hg : ∀ {A : Option Addr} {m1 : Nat} {xs : List Int}, LinkIn wr w.heap.size A m1 xs → LinkIn (wr.setCell ⟨g, k * 3 + 1, none⟩ (.slice B' m d')) w.heap.size A m1 xs := fun hx =>
    hx.grown (grown_setCell (World.grownBy.refl wr (some g)) _) (fun g' e => Or.inr (by
      injection e with e
      subst e
      rcases h1.2 with ⟨h0, _⟩ | ⟨g', cap, cur, hv, hb, hh, _⟩
      · cases h0
      · injection hv with hv1 _ hv3
        injection hv1 with hv1
        injection hv1 with hv1 _ _
        subst hv1
        exact ⟨_, _, _, hh, by decide⟩))
  have hgb : w.heap.size ≤ g := by
    rcases h1.2 with ⟨h0, _⟩ | ⟨g', cap, cur, hv, hb, hh, _⟩
    · cases h0
    · injection hv with hv1 _ hv3
      injection hv1 with hv1
      injection hv1 with hv1 _ _
      subst hv1
      exact hb
  refine ⟨cs.set (k * 3 + 1) (.slice B' m d'), own_set h1 _ _, by rw [List.length_set]; exact h2, fun q o' hq => ?_, below_store h4 hgb _, h5.set (by omega) (by have := hb0.size; simpa [World.setCell] using this) (fun a e => (hl0.2 a e).1) (fun a e hm0 => by
    obtain ⟨ad, e', hlt, _⟩ := hl0.1.2 hm0
    rw [e] at e'; injection e' with e'; subst e'
    simpa [World.setCell] using hlt)⟩
  obtain ⟨A, m', c, e0, e1, e2, e3, e4, e5⟩ := h3 q o' hq
  by_cases hqk : q = k
  · subst hqk
    rw [ho] at hq; injection hq with hq; subst hq
    refine ⟨B', m, d', ?_, ?_, ?_, ?_, hm, e5⟩
    · rw [List.getElem?_set_ne (by omega)]; exact e0
    · rw [List.getElem?_set_self (by omega)]
    · rw [List.getElem?_set_ne (by omega)]; exact e2
    · rw [if_pos (by omega)]; exact hg hl
  · refine ⟨A, m', c, ?_, ?_, ?_, ?_, e4, e5⟩
    · rw [List.getElem?_set_ne (by omega)]; exact e0
    · rw [List.getElem?_set_ne (by omega)]; exact e1
    · rw [List.getElem?_set_ne (by omega)]; exact e2
    · by_cases hlt : q < k
      · rw [if_pos hlt] at e3; rw [if_pos (by omega)]
        exact hg e3
      · rw [if_neg hlt] at e3; rw [if_neg (by omega)]; exact e3

/-- a row of objects of the call's own, their links in blocks below F that are all different -/
def OwnS (w : World) (B F : Nat) (v : Value) (n : Nat) (os : List Ob) : Prop := ∃ cs, w.ownsRow B 33 3 v n cs ∧ Elems cs os (LinkIn w B) ∧ SepF F cs n
theorem OwnS.own {w : World} {B F n : Nat} {v : Value} {os : List Ob} (h : OwnS w B F v n os) : OwnO w B v n os := let ⟨cs, h1, h2, _⟩ := h; ⟨cs, h1, h2⟩
theorem OwnS.next {w w' : World} {B F n : Nat} {v : Value} {os : List Ob} (h : OwnS w B F v n os) (hb : Below w.heap.size w w') : OwnS w' B F v n os := by
  obtain ⟨cs, h1, h2, h3⟩ := h
  exact ⟨cs, own_below h1 hb, h2.mono fun A m xs hx => hx.next hb, h3⟩
theorem OwnS.base {w : World} {B B' F n : Nat} {v : Value} {os : List Ob} (h : OwnS w B F v n os) (hB : B' ≤ B) : OwnS w B' F v n os := by
  obtain ⟨cs, h1, h2, h3⟩ := h
  exact ⟨cs, own_base h1 hB, h2.mono fun A m xs hx => hx.base hB, h3⟩
theorem OwnS.grown {w w' : World} {B F n g : Nat} {v : Value} {os : List Ob} (h : OwnS w B F v n os) (hg : w.grownBy w' (some g)) (hlt : g < B) : OwnS w' B F v n os := by
  obtain ⟨cs, h1, h2, h3⟩ := h
  exact ⟨cs, own_grown h1 hg hlt, h2.mono fun A m xs hx => hx.grown hg (fun g' e => by injection e with e; subst e; exact Or.inl hlt), h3⟩
theorem OwnS.more {w : World} {B F F' n : Nat} {v : Value} {os : List Ob} (h : OwnS w B F v n os) (hF : F ≤ F') : OwnS w B F' v n os := let ⟨cs, h1, h2, h3⟩ := h; ⟨cs, h1, h2, h3.more hF⟩
def CopiedS (w : World) (n : Nat) (os : List Ob) (e : Ending) (w' : World) : Prop := ∃ v, e = .returned v ∧ OwnS w' w.heap.size w'.heap.size v n os ∧ Below w.heap.size w w'

set_option maxHeartbeats 1600000 in
theorem copyObjectsS_any (A : Option Addr) (n c : Nat) (os : List Ob) (w : World) (h : RObjs w A n os) (hn : n ≤ 1000000) (hs : smallOs os) :
    Calls Try.prog 54 #[.slice A n c] w (CopiedS w n os) := by
  go_enter Try.func54, Try.ntmps54
  go_wp2_with fail
  refine (cloneO_any A n c os w h hn).mono ?_
  rintro e w1 ⟨B, d, rfl, ⟨cs, hown, hel⟩, hb1⟩
  have hl := h.1
  have hS : CpSt w B n d os 0 w1 := ⟨cs, hown, hel.1, fun q o hq => by
    obtain ⟨A, m, c, e0, e1, e2, e3, e4⟩ := hel.2 q o hq
    exact ⟨A, m, c, e0, e1, e2, by rw [if_neg (by omega)]; exact e3, e4⟩, hb1, SepF.zero⟩
  clear hown hel
  have hBf : 0 < n → ∃ g, B = some ⟨g, 0, none⟩ := fun hn => by
    obtain ⟨cs, h1, _⟩ := hS
    obtain ⟨g, e, _⟩ := own_addr h1 hn
    exact ⟨g, e⟩
  go_wp2_with fail
  go_loopw [9] (fun i wr => ∃ k : Nat, k ≤ n ∧ i = .int .i64 k ∧ CpSt w B n d os k wr) (fun i _ => n - (intOf i).toNat)
  case atStart => exact ⟨0, Nat.zero_le _, rfl, hS⟩
  case round =>
    obtain ⟨k, hk, rfl, hSk⟩ := hrel
    by_cases hlt : k < n
    · obtain ⟨g, rfl⟩ := hBf (by omega)
      have hkl : k < os.length := by omega
      have ho : os[k]? = some os[k] := List.getElem?_eq_getElem hkl
      generalize os[k] = o at ho
      have HO := Lib.hid ho
      obtain ⟨cs1, h1, h2, h3, h4, -⟩ := id hSk
      obtain ⟨A1, m1, c1, e0, e1, e2, e3, e4, e5⟩ := h3 k o ho
      rw [if_neg (by omega)] at e3
      have hr := e3.below h4 (Nat.le_refl _)
      have hc1 := own_cellsOf h1 _ _ e1
      have hsm := hs o (List.mem_of_getElem? ho)
      have hm1 : m1 ≤ 1000000 := by have := e3.1; omega
      have HE := Lib.hid e1
      clear ho e0 e1 e2 h3
      go_wp2_with fail
      refine (cloneI_any A1 m1 c1 o.xs wr hr hm1).mono ?_
      rintro e w2 ⟨B2, d2, rfl, hown2, hb2⟩
      have hS2 := hSk.step (d' := d2) hb2 HO.out (LinkIn.of_own hown2) e4
      have hf := own_frozen (own_below h1 hb2) (k * 3 + 1)
      have hc2 := own_cellsOf (own_below h1 hb2) _ _ HE.out
      go_wp2_with fail
      go_roundw
      case rel => exact ⟨k + 1, by omega, by go_num, hS2⟩
      case measure => simp [intOf]; omega
    · obtain rfl : k = n := by omega
      go_wp2_with fail
      go_ret
      obtain ⟨cs1, h1, h2, h3, h4, h5⟩ := hSk
      refine ⟨_, rfl, ⟨cs1, h1, ⟨h2, fun q o hq => ?_⟩, h5⟩, h4⟩
      obtain ⟨A, m, c, e0, e1, e2, e3, e4⟩ := h3 q o hq
      rw [if_pos (by have := (List.getElem?_eq_some_iff.1 hq).1; omega)] at e3
      exact ⟨A, m, c, e0, e1, e2, e3, e4⟩
theorem copyObjects_any (A : Option Addr) (n c : Nat) (os : List Ob) (w : World) (h : RObjs w A n os) (hn : n ≤ 1000000) (hs : smallOs os) :
    Calls Try.prog 54 #[.slice A n c] w (Copied w n os) :=
  (copyObjectsS_any A n c os w h hn hs).mono fun _ _ ⟨v, e, h1, h2⟩ => ⟨v, e, h1.own, h2⟩
end Go.Proofs.Ytjofgbbofagoiaa
