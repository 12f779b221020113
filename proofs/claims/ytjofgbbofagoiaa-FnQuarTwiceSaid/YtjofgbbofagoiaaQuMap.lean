/- Plain: the data of a map from transactions to slices (each slice held as its value). -/
import Derived.Test.YtjofgbbofagoiaaQuDisc
import Derived.Maps.Own
import Derived.Maps.OwnSet
import Derived.Maps.Keyed
namespace Go.Proofs.Ytjofgbbofagoiaa
open Go.RowKit Go.Sort Go.Maps

/-- how an element reads: as itself -/
def RH : Value → Option (DataW Value × List MemPlace) := fun v => some (.held v, [])
def ent (p : Int × Value) : Lit × DataW Value := (.int .i64 p.1, .held p.2)
def arsD (l : List (Int × Value)) : DataW Value := .map (l.map ent)
theorem ent_same (p : Int × Value) (t : Int) : (ent p).1.sameKey (.int .i64 t) = decide (p.1 = t) := by simp [ent, Lit.sameKey]
theorem ins_last {t : Int} {v : Value} : ∀ l : List (Int × Value), (∀ p ∈ l, p.1 < t) → DataW.insert (ent (t, v)) (l.map ent) = (l ++ [(t, v)]).map ent
  | [], _ => rfl
  | p :: l, h => by
    have h1 : ¬ t < p.1 := by have := h p (by simp); omega
    have hb : (ent (t, v)).1.before (ent p).1 = false := decide_eq_false h1
    rw [List.map_cons]
    unfold DataW.insert
    rw [hb, if_neg (by simp), ins_last l (fun q hq => h q (List.mem_cons_of_mem _ hq))]
    rfl
theorem filt_none {t : Int} : ∀ l : List (Int × Value), (∀ p ∈ l, p.1 ≠ t) → (l.map ent).filter (fun p => !p.1.sameKey (.int .i64 t)) = l.map ent := fun l h => by
  rw [List.filter_eq_self]
  intro x hx
  obtain ⟨p, hp, rfl⟩ := List.mem_map.1 hx
  rw [ent_same, decide_eq_false (h p hp)]
  rfl
theorem put_last {t : Int} {v : Value} {l : List (Int × Value)} (h : ∀ p ∈ l, p.1 < t) : (arsD l).put (.int .i64 t) (.held v) = arsD (l ++ [(t, v)]) := by
  unfold arsD DataW.put
  simp only
  rw [filt_none l (fun p hp => by have := h p hp; omega)]
  exact congrArg DataW.map (ins_last l h)
theorem del_ars (t : Int) (l : List (Int × Value)) : (arsD l).del (.int .i64 t) = arsD (l.filter fun p => !decide (p.1 = t)) := by
  unfold arsD DataW.del
  simp only
  congr 1
  induction l with
  | nil => rfl
  | cons p l ih =>
    rw [List.map_cons, List.filter_cons, List.filter_cons, ent_same]
    by_cases h : p.1 = t
    · rw [decide_eq_true h]; simpa using ih
    · rw [decide_eq_false h]
      simp only [Bool.not_false, if_true, List.map_cons]
      rw [ih]
theorem at_ars (t : Int) (z : DataW Value) (l : List (Int × Value)) : (arsD l).atKey (.int .i64 t) z = match l.find? (fun p => decide (p.1 = t)) with | some p => .held p.2 | none => z := by
  unfold arsD DataW.atKey
  simp only
  induction l with
  | nil => rfl
  | cons p l ih =>
    rw [List.map_cons, List.find?_cons, List.find?_cons, ent_same]
    by_cases h : p.1 = t
    · rw [decide_eq_true h]; rfl
    · rw [decide_eq_false h]; exact ih
theorem has_ars (t : Int) (l : List (Int × Value)) : Maps.has (arsD l) (.int .i64 t) = l.any (fun p => decide (p.1 = t)) := by
  unfold arsD Maps.has
  simp only
  rw [List.any_map]
  congr 1
  funext p
  exact ent_same p t
end Go.Proofs.Ytjofgbbofagoiaa
