/- Walk: areas(): the areas of a quarantine by transaction. -/
import Derived.Test.YtjofgbbofagoiaaQuMap
import Derived.Test.YtjofgbbofagoiaaImplCopy
import Derived.Test.YtjofgbbofagoiaaSepQ
import Derived.Deep.RegionHeld3
namespace Go.Proofs.Ytjofgbbofagoiaa
open Go.RowKit Go.Sort Go.Maps

theorem ascB_iff : ∀ l : List Ar, ascA l = true ↔ (∀ a ∈ l, arOk a = true) ∧ l.Pairwise (fun a b => a.t < b.t)
  | [] => by simp [ascA, chainB]
  | [x] => by simp [ascA, chainB]
  | x :: y :: l => by
    have ih := ascB_iff (y :: l)
    unfold ascA at ih ⊢
    simp only [chainB, Bool.and_eq_true, decide_eq_true_eq] at ih ⊢
    constructor
    · rintro ⟨h1, h2⟩
      obtain ⟨a1, a2⟩ := ih.1 h2
      refine ⟨fun a ha => ?_, List.Pairwise.cons (fun z hz => ?_) a2⟩
      · rcases List.mem_cons.1 ha with rfl | ha
        · exact h1.1
        · exact a1 a ha
      · rcases List.mem_cons.1 hz with rfl | hz
        · exact h1.2
        · have := (List.pairwise_cons.1 a2).1 z hz
          have := h1.2
          omega
    · rintro ⟨h1, h2⟩
      exact ⟨⟨h1 x (by simp), (List.pairwise_cons.1 h2).1 y (by simp)⟩, ih.2 ⟨fun a ha => h1 a (List.mem_cons_of_mem _ ha), (List.pairwise_cons.1 h2).2⟩⟩
/-- keys and copies of areas: each copy in blocks apart -/
def arC (p : Int × Value) : List Value := [.int .i64 p.1, p.2]
def AV (w : World) (g lo : Nat) (S : Nat → Prop) (l : List (Int × Value)) (ars : List Ar) : Prop := Parts sepAr g w lo S (l.map arC) ars
theorem parts_keys {w : World} {g lo : Nat} : ∀ {l : List (Int × Value)} {ars : List Ar} {S : Nat → Prop}, AV w g lo S l ars → l.map (·.1) = ars.map (·.t)
  | [], [], _, _ => rfl
  | p :: l, x :: ars, S, ⟨S1, S2, _, _, _, _, h4, h5⟩ => by
    obtain ⟨A, n, c, e, _⟩ := sepAr_cells h4
    have e1 : p.1 = x.t := by
      unfold arC at e
      injection e with e
      injection e
    rw [List.map_cons, List.map_cons, e1, parts_keys (l := l) h5]
  | [], _ :: _, _, h => h.elim
  | _ :: _, [], _, h => h.elim
theorem parts_filter {w : World} {g lo : Nat} (t : Int) : ∀ {l : List (Int × Value)} {ars : List Ar} {S : Nat → Prop}, AV w g lo S l ars → AV w g lo S (l.filter fun p => !decide (p.1 = t)) (ars.filter fun a => !decide (a.t = t))
  | [], [], _, h => h
  | p :: l, x :: ars, S, ⟨S1, S2, q1, q2, q3, q4, h4, h5⟩ => by
    obtain ⟨A, n, c, e, _⟩ := sepAr_cells h4
    have e1 : p.1 = x.t := by
      unfold arC at e
      injection e with e
      injection e
    have ih := parts_filter t (l := l) h5
    rw [List.filter_cons, List.filter_cons, e1]
    by_cases h : x.t = t
    · rw [decide_eq_true h]
      exact ih.widen q2
    · rw [decide_eq_false h]
      exact ⟨S1, S2, q1, q2, q3, q4, h4, ih⟩
  | [], _ :: _, _, h => h.elim
  | _ :: _, [], _, h => h.elim
theorem AV.len {w : World} {g lo : Nat} {S : Nat → Prop} {l : List (Int × Value)} {ars : List Ar} (h : AV w g lo S l ars) : l.length = ars.length := by
  have := Parts.len h
  rwa [List.length_map] at this
theorem AV.keys {w : World} {g lo : Nat} {S : Nat → Prop} {l : List (Int × Value)} {ars : List Ar} (h : AV w g lo S l ars) : ∀ p ∈ l, ∃ a ∈ ars, p.1 = a.t := fun p hp => by
  have h1 : p.1 ∈ ars.map (·.t) := by rw [← parts_keys h]; exact List.mem_map_of_mem hp
  obtain ⟨a, ha, e⟩ := List.mem_map.1 h1
  exact ⟨a, ha, e.symm⟩
theorem intK : Keyed Try.prog 3 := int_keyed Try.underlying3
theorem txn_range {t : Int} (h : txnB t = true) : 0 ≤ t ∧ t ≤ 11 := by
  unfold txnB at h
  simp only [Bool.and_eq_true, decide_eq_true_eq] at h
  omega
theorem int_key {t : Int} (h : 0 ≤ t ∧ t ≤ 11) : keyOf Try.prog 3 (.int .i64 t) = some (.int .i64 t) := keyOf_int_mk Try.underlying3 (by simp [Lit.wf, IntKind.min, IntKind.max, IntKind.signed, IntKind.bits]; omega)
theorem keys_lt {w : World} {g lo k : Nat} {S : Nat → Prop} {l : List (Int × Value)} {q : Qu} {x : Ar} (hq : quarB q = true) (h : AV w g lo S l (q.ars.take k)) (hx : q.ars[k]? = some x) : ∀ p ∈ l, p.1 < x.t := fun p hp => by
  obtain ⟨a, ha, e⟩ := h.keys p hp
  obtain ⟨i, hi⟩ := List.mem_iff_getElem?.1 ha
  have hik : i < k := by have := (List.getElem?_eq_some_iff.1 hi).1; rw [List.length_take] at this; omega
  rw [List.getElem?_take, if_pos hik] at hi
  unfold quarB at hq
  simp only [Bool.and_eq_true, decide_eq_true_eq] at hq
  have hpw := ((ascB_iff _).1 hq.1).2
  obtain ⟨a1, a2⟩ := List.getElem?_eq_some_iff.1 hi
  obtain ⟨b1, b2⟩ := List.getElem?_eq_some_iff.1 hx
  have := List.pairwise_iff_getElem.1 hpw i k a1 b1 hik
  rw [a2, b2] at this
  rw [e]
  exact this
end Go.Proofs.Ytjofgbbofagoiaa
