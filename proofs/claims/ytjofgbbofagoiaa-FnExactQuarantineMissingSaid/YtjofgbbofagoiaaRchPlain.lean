/- Plain: what is reached from ids through the links of objects. -/
import Derived.Test.YtjofgbbofagoiaaObjs
import Derived.Test.YtjofgbbofagoiaaSort
namespace Go.Proofs.Ytjofgbbofagoiaa
open Go.RowKit Go.Sort

/-- the first object with an id -/
def getO (os : List Ob) (x : Int) : Option Ob := os.find? fun o => decide (o.id = x)
def lnk (os : List Ob) (x : Int) : List Int := match getO os x with | some o => o.xs | none => []
def isSt (os : List Ob) (x : Int) : Bool := (getO os x).isSome
inductive Rch (os : List Ob) (fs : List Int) : Int → Prop
  | base {x : Int} : x ∈ fs → Rch os fs x
  | step {x y : Int} : Rch os fs x → y ∈ lnk os x → Rch os fs y
theorem Rch.closed {os : List Ob} {fs : List Int} {S : Int → Prop} (h1 : ∀ x ∈ fs, S x) (h2 : ∀ x, S x → ∀ y ∈ lnk os x, S y) : ∀ x, Rch os fs x → S x := fun x h => by
  induction h with
  | base h => exact h1 _ h
  | step _ h ih => exact h2 _ ih _ h
def inR (x : Int) : Prop := 0 ≤ x ∧ x ≤ 990
theorem lnk_ok {os : List Ob} (h : ∀ o ∈ os, o.ok = true) (x : Int) : (lnk os x).length ≤ 4 ∧ ∀ y ∈ lnk os x, inR y := by
  unfold lnk
  cases hg : getO os x with
  | none => exact ⟨by simp, fun y hy => by cases hy⟩
  | some o =>
    have ho : ObjOk o.k o.xs o.t := ObjOk.of (h o (List.mem_of_find?_eq_some hg))
    exact ⟨ho.len, fun y hy => ascB_mem ho.asc y hy⟩
theorem Rch.range {os : List Ob} {fs : List Int} (h : ∀ o ∈ os, o.ok = true) (hf : ∀ x ∈ fs, inR x) : ∀ x, Rch os fs x → inR x :=
  Rch.closed hf fun x _ y hy => (lnk_ok h x).2 y hy
/-- the list of just those, in order -/
def AscMem (L : List Int) (P : Int → Prop) : Prop := L.Pairwise (· < ·) ∧ ∀ x, x ∈ L ↔ P x
theorem AscMem.uniq {L M : List Int} {P : Int → Prop} (h : AscMem L P) (k : AscMem M P) : L = M := by
  have hn : ∀ {L : List Int}, L.Pairwise (· < ·) → L.Nodup := fun h => h.imp (fun h e => by omega)
  have hp : L.Perm M := (List.perm_ext_iff_of_nodup (hn h.1) (hn k.1)).2 fun x => (h.2 x).trans (k.2 x).symm
  exact hp.eq_of_pairwise (le := fun x y : Int => x < y) (fun x y _ _ h1 h2 => by omega) h.1 k.1
theorem asc_len : ∀ (L : List Int) (a : Int), a ≤ 991 → L.Pairwise (· < ·) → (∀ x ∈ L, a ≤ x ∧ x ≤ 990) → (L.length : Int) ≤ 991 - a
  | [], a, h, _, _ => by simp; omega
  | x :: l, a, _, hp, hr => by
    rw [List.pairwise_cons] at hp
    obtain ⟨h1, h2⟩ := hr x List.mem_cons_self
    have := asc_len l (x + 1) (by omega) hp.2 fun y hy => by
      have h3 := hp.1 y hy
      have h4 := (hr y (List.mem_cons_of_mem _ hy)).2
      omega
    simp only [List.length_cons]
    omega
theorem nodup_len {L : List Int} (h : L.Nodup) (hr : ∀ x ∈ L, inR x) : L.length ≤ 991 := by
  have hp := List.mergeSort_perm L fun x y => decide (x ≤ y)
  have h1 := List.pairwise_mergeSort (le := fun x y : Int => decide (x ≤ y)) (fun a b c h1 h2 => by simp at h1 h2 ⊢; omega) (fun a b => by simp; omega) L
  have h2 : (L.mergeSort fun x y => decide (x ≤ y)).Nodup := hp.nodup_iff.2 h
  have h3 := asc_len _ 0 (by omega) ((h1.and h2).imp fun ⟨a, b⟩ => by
    have a' := of_decide_eq_true a
    omega) fun x hx => hr x (hp.mem_iff.1 hx)
  rw [hp.length_eq] at h3
  omega
/-- where the program's search stands: seen, to come, stored, missing -/
structure RInv (os : List Ob) (fs SN qs LS LM : List Int) : Prop where
  seen : ∀ x ∈ SN, Rch os fs x
  come : ∀ x ∈ qs, Rch os fs x
  all : ∀ x ∈ fs, x ∈ SN ∨ x ∈ qs
  next : ∀ x ∈ SN, ∀ y ∈ lnk os x, y ∈ SN ∨ y ∈ qs
  nd : SN.Nodup
  nds : LS.Nodup
  ndm : LM.Nodup
  st : ∀ x, x ∈ LS ↔ x ∈ SN ∧ isSt os x = true
  ms : ∀ x, x ∈ LM ↔ x ∈ SN ∧ isSt os x = false
  len : LS.length + LM.length = SN.length
  few : qs.length ≤ 4 + 4 * SN.length
section
variable {os : List Ob} {fs SN qs LS LM : List Int} {x : Int}
theorem RInv.start (h : fs.length ≤ 4) : RInv os fs [] fs [] [] :=
  ⟨fun _ h => (by cases h), fun _ h => .base h, fun _ h => Or.inr h, fun _ h => (by cases h), List.nodup_nil, List.nodup_nil, List.nodup_nil, by simp, by simp, rfl, by simpa using h⟩
theorem RInv.skip (h : RInv os fs SN (x :: qs) LS LM) (hx : x ∈ SN) : RInv os fs SN qs LS LM where
  seen := h.seen
  come := fun y hy => h.come y (List.mem_cons_of_mem _ hy)
  all := fun y hy => (h.all y hy).elim Or.inl fun h1 => (List.mem_cons.1 h1).elim (fun e => Or.inl (e ▸ hx)) Or.inr
  next := fun z hz y hy => (h.next z hz y hy).elim Or.inl fun h1 => (List.mem_cons.1 h1).elim (fun e => Or.inl (e ▸ hx)) Or.inr
  nd := h.nd
  nds := h.nds
  ndm := h.ndm
  st := h.st
  ms := h.ms
  len := h.len
  few := by have := h.few; simp only [List.length_cons] at this; omega
theorem RInv.miss (h : RInv os fs SN (x :: qs) LS LM) (hx : x ∉ SN) (hg : isSt os x = false) : RInv os fs (x :: SN) qs LS (LM ++ [x]) where
  seen := fun y hy => (List.mem_cons.1 hy).elim (fun e => e ▸ h.come x List.mem_cons_self) (h.seen y)
  come := fun y hy => h.come y (List.mem_cons_of_mem _ hy)
  all := fun y hy => (h.all y hy).elim (fun h1 => Or.inl (List.mem_cons_of_mem _ h1)) fun h1 => (List.mem_cons.1 h1).elim (fun e => Or.inl (e ▸ List.mem_cons_self)) Or.inr
  next := fun z hz y hy => by
    rcases List.mem_cons.1 hz with e | hz
    · subst e
      unfold isSt at hg
      unfold lnk at hy
      rw [Option.isSome_eq_false_iff, Option.isNone_iff_eq_none] at hg
      rw [hg] at hy
      cases hy
    · exact (h.next z hz y hy).elim (fun h1 => Or.inl (List.mem_cons_of_mem _ h1)) fun h1 => (List.mem_cons.1 h1).elim (fun e => Or.inl (e ▸ List.mem_cons_self)) Or.inr
  nd := List.nodup_cons.2 ⟨hx, h.nd⟩
  nds := h.nds
  ndm := by
    rw [List.nodup_append]
    exact ⟨h.ndm, by simp, fun a ha b hb e => hx (by
      have : b = x := by simpa using hb
      exact this ▸ e ▸ ((h.ms a).1 ha).1)⟩
  st := fun y => by
    rw [h.st y]
    constructor
    · exact fun ⟨a, b⟩ => ⟨List.mem_cons_of_mem _ a, b⟩
    · rintro ⟨a, b⟩
      rcases List.mem_cons.1 a with rfl | a
      · rw [hg] at b; cases b
      · exact ⟨a, b⟩
  ms := fun y => by
    rw [List.mem_append, h.ms y, List.mem_singleton, List.mem_cons]
    constructor
    · rintro (⟨a, b⟩ | rfl)
      · exact ⟨Or.inr a, b⟩
      · exact ⟨Or.inl rfl, hg⟩
    · rintro ⟨rfl | a, b⟩
      · exact Or.inr rfl
      · exact Or.inl ⟨a, b⟩
  len := by have := h.len; simp only [List.length_append, List.length_cons, List.length_nil]; omega
  few := by have := h.few; simp only [List.length_cons] at this ⊢; omega
theorem RInv.hit (h : RInv os fs SN (x :: qs) LS LM) (hx : x ∉ SN) (hg : isSt os x = true) (hl : (lnk os x).length ≤ 4) : RInv os fs (x :: SN) (qs ++ lnk os x) (LS ++ [x]) LM where
  seen := fun y hy => (List.mem_cons.1 hy).elim (fun e => e ▸ h.come x List.mem_cons_self) (h.seen y)
  come := fun y hy => (List.mem_append.1 hy).elim (fun h1 => h.come y (List.mem_cons_of_mem _ h1)) fun h1 => .step (h.come x List.mem_cons_self) h1
  all := fun y hy => (h.all y hy).elim (fun h1 => Or.inl (List.mem_cons_of_mem _ h1)) fun h1 => (List.mem_cons.1 h1).elim (fun e => Or.inl (e ▸ List.mem_cons_self)) fun h2 => Or.inr (List.mem_append_left _ h2)
  next := fun z hz y hy => by
    rcases List.mem_cons.1 hz with e | hz
    · subst e
      exact Or.inr (List.mem_append_right _ hy)
    · exact (h.next z hz y hy).elim (fun h1 => Or.inl (List.mem_cons_of_mem _ h1)) fun h1 => (List.mem_cons.1 h1).elim (fun e => Or.inl (e ▸ List.mem_cons_self)) fun h2 => Or.inr (List.mem_append_left _ h2)
  nd := List.nodup_cons.2 ⟨hx, h.nd⟩
  ndm := h.ndm
  nds := by
    rw [List.nodup_append]
    exact ⟨h.nds, by simp, fun a ha b hb e => hx (by
      have : b = x := by simpa using hb
      exact this ▸ e ▸ ((h.st a).1 ha).1)⟩
  ms := fun y => by
    rw [h.ms y]
    constructor
    · exact fun ⟨a, b⟩ => ⟨List.mem_cons_of_mem _ a, b⟩
    · rintro ⟨a, b⟩
      rcases List.mem_cons.1 a with rfl | a
      · rw [hg] at b; cases b
      · exact ⟨a, b⟩
  st := fun y => by
    rw [List.mem_append, h.st y, List.mem_singleton, List.mem_cons]
    constructor
    · rintro (⟨a, b⟩ | rfl)
      · exact ⟨Or.inr a, b⟩
      · exact ⟨Or.inl rfl, hg⟩
    · rintro ⟨rfl | a, b⟩
      · exact Or.inr rfl
      · exact Or.inl ⟨a, b⟩
  len := by have := h.len; simp only [List.length_append, List.length_cons, List.length_nil]; omega
  few := by have := h.few; simp only [List.length_cons, List.length_append] at this ⊢; omega
theorem RInv.small (h : RInv os fs SN qs LS LM) (ho : ∀ o ∈ os, o.ok = true) (hf : ∀ x ∈ fs, inR x) : SN.length ≤ 991 :=
  nodup_len h.nd fun x hx => Rch.range ho hf x (h.seen x hx)
theorem RInv.done (h : RInv os fs SN [] LS LM) (x : Int) : x ∈ SN ↔ Rch os fs x :=
  ⟨h.seen x, Rch.closed (S := fun x => x ∈ SN) (fun y hy => (h.all y hy).elim id fun h1 => by cases h1) (fun z hz y hy => (h.next z hz y hy).elim id fun h1 => by cases h1) x⟩
end
theorem sorted_ascMem {L : List Int} {P : Int → Prop} (hn : L.Nodup) (h : ∀ x, x ∈ L ↔ P x) : AscMem (L.mergeSort fun x y => decide (x ≤ y)) P := by
  have hp := List.mergeSort_perm L fun x y => decide (x ≤ y)
  refine ⟨?_, fun x => hp.mem_iff.trans (h x)⟩
  have h1 := List.pairwise_mergeSort (le := fun x y : Int => decide (x ≤ y)) (fun a b c h1 h2 => by simp at h1 h2 ⊢; omega) (fun a b => by simp; omega) L
  have h2 : (L.mergeSort fun x y => decide (x ≤ y)).Nodup := hp.nodup_iff.2 hn
  exact (h1.and h2).imp fun ⟨a, b⟩ => by
    have a' := of_decide_eq_true a
    omega
/-- the reference's list, each id once, in order -/
theorem sortF_ascMem (xs : List Int) {P : Int → Prop} (h : ∀ x, x ∈ xs ↔ P x) (hr : ∀ x, P x → inR x) : AscMem (sorted xs) P := by
  unfold sorted sortF
  constructor
  · refine List.Pairwise.filter _ ?_
    rw [List.pairwise_map]
    exact List.pairwise_lt_range.imp fun h => by omega
  · intro x
    rw [List.mem_filter]
    constructor
    · rintro ⟨_, h2⟩
      exact (h x).1 (by simpa [hasI] using h2)
    · intro hx
      obtain ⟨a1, a2⟩ := hr x hx
      exact ⟨List.mem_map.2 ⟨x.toNat, List.mem_range.2 (by omega), by omega⟩, by simpa [hasI] using (h x).2 hx⟩
theorem AscMem.filter {L : List Int} {P : Int → Prop} (h : AscMem L P) (f : Int → Bool) : AscMem (L.filter f) (fun x => P x ∧ f x = true) :=
  ⟨h.1.filter _, fun x => by rw [List.mem_filter, h.2 x]⟩
end Go.Proofs.Ytjofgbbofagoiaa
