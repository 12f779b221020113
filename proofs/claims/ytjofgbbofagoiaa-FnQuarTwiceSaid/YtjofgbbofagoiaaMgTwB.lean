import Derived.Test.YtjofgbbofagoiaaQuDiscI
import Derived.Test.YtjofgbbofagoiaaPutPlain
import Derived.Test.YtjofgbbofagoiaaImplPut
import Derived.Deep.RegionHeld3
import Derived.Test.YtjofgbbofagoiaaObjLaw
import Derived.Test.YtjofgbbofagoiaaLaw
import Derived.Test.YtjofgbbofagoiaaQuDisc
import Derived.Test.YtjofgbbofagoiaaMgTwA
import Derived.Test.YtjofgbbofagoiaaRows
import Derived.Test.YtjofgbbofagoiaaLiftBase
/- Plain: putting into a quarantine, once and again; the map's data with one entry put in. -/
namespace Go.Proofs.Ytjofgbbofagoiaa
open Go.RowKit Go.Sort Go.Maps

theorem allO_in {X : List Ob} (hs : storeB X = true) : ∀ ls : List Ob, (∀ o ∈ ls, o ∈ X) → allO X ls = (X, true)
  | [], _ => rfl
  | o :: l, h => by
    have ho := h o (by simp)
    have hp : putO X o = (X, true) := by rw [← putR_good hs (storeB_ok hs o ho)]; exact putR_in hs ho
    unfold allO
    rw [hp]
    exact allO_in hs l (fun x hx => h x (List.mem_cons_of_mem _ hx))
theorem allO_store : ∀ (ls out : List Ob), storeB out = true → (∀ o ∈ ls, o.ok = true) → (allO out ls).2 = true → storeB (allO out ls).1 = true ∧ (∀ x ∈ out, x ∈ (allO out ls).1) ∧ ∀ x ∈ ls, x ∈ (allO out ls).1
  | [], out, hs, _, _ => ⟨hs, fun x hx => hx, fun x hx => by cases hx⟩
  | o :: l, out, hs, hok, h => by
    have hg := putR_good hs (hok o (by simp))
    unfold allO at h ⊢
    by_cases hp : (putO out o).2 = true
    · rw [if_pos hp] at h ⊢
      have hst := putR_store (os := out) (o := o) (by rw [hg]; exact hp)
      rw [hg] at hst
      obtain ⟨a1, a2, a3⟩ := allO_store l _ hst.1 (fun x hx => hok x (List.mem_cons_of_mem _ hx)) h
      refine ⟨a1, fun x hx => a2 x (hst.2.2.1 x hx), fun x hx => ?_⟩
      rcases List.mem_cons.1 hx with rfl | hx
      · exact a2 _ hst.2.1
      · exact a3 x hx
    · rw [if_neg hp] at h
      cases h
/-- the areas with that of t put in -/
def tri (t : Int) (X : List Ob) (ars : List Ar) : List Ar := ars.filter (fun a => decide (a.t < t)) ++ (⟨t, X⟩ :: ars.filter (fun a => decide (t < a.t)))
theorem setA_true (t : Int) (X : List Ob) : ∀ ars : List Ar, setA t X true ars = ars.filter (fun a => !decide (a.t = t))
  | [] => rfl
  | a :: l => by
    unfold setA
    rw [List.filter_cons, Bool.true_or, setA_true t X l]
    by_cases h : a.t = t
    · simp [h]
    · simp [h]
theorem setA_tri (t : Int) (X : List Ob) : ∀ ars : List Ar, ars.Pairwise (fun a b => a.t < b.t) → setA t X false ars = tri t X ars
  | [], _ => by simp [setA, tri]
  | a :: l, h => by
    obtain ⟨h1, h2⟩ := List.pairwise_cons.1 h
    unfold setA tri
    rw [List.filter_cons, List.filter_cons]
    by_cases hlt : a.t < t
    · rw [decide_eq_true hlt, if_pos rfl, decide_eq_false (by omega : ¬ t ≤ a.t), decide_eq_false (by omega : ¬ t < a.t), Bool.false_or, setA_tri t X l h2]
      simp [tri, show a.t ≠ t by omega]
    · have hg : ∀ b ∈ l, t < b.t := fun b hb => by have := h1 b hb; omega
      have e1 : l.filter (fun b => decide (b.t < t)) = [] := List.filter_eq_nil_iff.2 fun b hb => by have := hg b hb; simp; omega
      have e2 : l.filter (fun b => decide (t < b.t)) = l := List.filter_eq_self.2 fun b hb => by have := hg b hb; simp; omega
      have e3 : l.filter (fun b => !decide (b.t = t)) = l := List.filter_eq_self.2 fun b hb => by have := hg b hb; simp; omega
      rw [decide_eq_false hlt, decide_eq_true (by omega : t ≤ a.t), Bool.false_or, setA_true, e1, e2, e3]
      by_cases e : a.t = t
      · simp [e]
      · simp [e, show t < a.t by omega]
theorem tri_again (t : Int) (X : List Ob) (ars : List Ar) : tri t X (tri t X ars) = tri t X ars := by
  unfold tri
  rw [List.filter_append, List.filter_append, List.filter_cons, List.filter_cons, List.filter_filter, List.filter_filter, List.filter_filter, List.filter_filter]
  rw [decide_eq_false (by omega : ¬ t < t)]
  have e1 : ars.filter (fun a => decide (a.t < t) && decide (a.t < t)) = ars.filter (fun a => decide (a.t < t)) := by congr 1; funext a; simp
  have e2 : ars.filter (fun a => decide (a.t < t) && decide (t < a.t)) = [] := List.filter_eq_nil_iff.2 fun a _ => by simp; omega
  have e3 : ars.filter (fun a => decide (t < a.t) && decide (a.t < t)) = [] := List.filter_eq_nil_iff.2 fun a _ => by simp; omega
  have e4 : ars.filter (fun a => decide (t < a.t) && decide (t < a.t)) = ars.filter (fun a => decide (t < a.t)) := by congr 1; funext a; simp
  rw [e1, e2, e3, e4]
  simp
theorem tri_mem {t : Int} {X : List Ob} {ars : List Ar} {a : Ar} (h : a ∈ tri t X ars) : a ∈ ars ∨ a = ⟨t, X⟩ := by
  unfold tri at h
  rcases List.mem_append.1 h with h | h
  · exact Or.inl (List.mem_filter.1 h).1
  · rcases List.mem_cons.1 h with h | h
    · exact Or.inr h
    · exact Or.inl (List.mem_filter.1 h).1
theorem tri_sorted {t : Int} {X : List Ob} {ars : List Ar} (h : ars.Pairwise (fun a b => a.t < b.t)) : (tri t X ars).Pairwise (fun a b => a.t < b.t) := by
  unfold tri
  refine List.pairwise_append.2 ⟨h.sublist List.filter_sublist, List.pairwise_cons.2 ⟨fun b hb => ?_, h.sublist List.filter_sublist⟩, fun a ha b hb => ?_⟩
  · exact of_decide_eq_true (List.mem_filter.1 hb).2
  · have h1 : a.t < t := of_decide_eq_true (List.mem_filter.1 ha).2
    rcases List.mem_cons.1 hb with rfl | hb
    · exact h1
    · have h2 : t < b.t := of_decide_eq_true (List.mem_filter.1 hb).2
      omega
theorem tri_find (t : Int) (X : List Ob) (ars : List Ar) : (tri t X ars).find? (fun a => decide (a.t = t)) = some ⟨t, X⟩ := by
  unfold tri
  rw [List.find?_append]
  have : (ars.filter (fun a => decide (a.t < t))).find? (fun a => decide (a.t = t)) = none := List.find?_eq_none.2 fun a ha => by
    have : a.t < t := of_decide_eq_true (List.mem_filter.1 ha).2
    simp; omega
  rw [this]
  simp
theorem tri_len {t : Int} {X : List Ob} {ars : List Ar} (h : ars.Pairwise (fun a b => a.t < b.t)) : (tri t X ars).length = ars.length + (if ars.any (fun a => decide (a.t = t)) then 0 else 1) := by
  induction ars with
  | nil => rfl
  | cons a l ih =>
    obtain ⟨h1, h2⟩ := List.pairwise_cons.1 h
    have ih := ih h2
    unfold tri at ih ⊢
    rw [List.filter_cons, List.filter_cons, List.any_cons]
    simp only [List.length_append, List.length_cons] at ih ⊢
    by_cases hlt : a.t < t
    · rw [decide_eq_true hlt, decide_eq_false (by omega : ¬ t < a.t), decide_eq_false (by omega : ¬ a.t = t)]
      simp only [if_true, List.length_cons, Bool.false_or, Bool.false_eq_true, if_false] at ih ⊢
      omega
    · have hno : l.any (fun a => decide (a.t = t)) = false := by
        rw [List.any_eq_false]
        intro b hb
        have := h1 b hb
        simp; omega
      rw [hno] at ih
      by_cases e : a.t = t
      · rw [decide_eq_false hlt, decide_eq_false (by omega : ¬ t < a.t), decide_eq_true e]
        simp only [Bool.false_eq_true, if_false, Bool.true_or, if_true] at ih ⊢
        omega
      · rw [decide_eq_false hlt, decide_eq_true (by omega : t < a.t), decide_eq_false e, hno]
        simp only [Bool.false_eq_true, if_false, Bool.false_or, if_true, List.length_cons] at ih ⊢
        omega
theorem areaQ_findT (q : Qu) (s : Int) : areaQ q s = match q.ars.find? (fun a => decide (a.t = s)) with | some a => a.os | none => [] := by
  unfold areaQ findA
  generalize q.ars = ars
  induction ars with
  | nil => rfl
  | cons a l ih =>
    rw [List.findIdx?_cons, List.find?_cons]
    by_cases h : a.t = s
    · simp [h]
    · have hb : (a.t == s) = false := by simpa using h
      rw [hb, decide_eq_false h]
      simp only [Bool.false_eq_true, if_false]
      rw [← ih]
      cases l.findIdx? (fun a => a.t == s) <;> rfl
theorem areaQ_store {q : Qu} (hq : quarB q = true) (t : Int) : storeB (areaQ q t) = true := by
  rw [areaQ_findT]
  split
  · rename_i a h
    exact ((quarB_parts hq).2.1 a (List.mem_of_find?_eq_some h)).2.1
  · rfl
theorem qputQ_yes {q : Qu} {t : Int} {ls : List Ob} (h : (qputQ q t ls).2 = true) : quarB q = true ∧ txnB t = true ∧ storeB ls = true ∧ 0 < ls.length ∧ (allO (areaQ q t) ls).2 = true ∧ (allO q.main (allO (areaQ q t) ls).1).2 = true ∧ ¬ ((findA q.ars t).isNone = true ∧ 4 ≤ q.ars.length) ∧ qputQ q t ls = (⟨q.main, tri t (allO (areaQ q t) ls).1 q.ars⟩, true) := by
  unfold qputQ at h ⊢
  split at h
  · rename_i h0
    rw [if_pos h0]
    simp only [Bool.and_eq_true, decide_eq_true_eq] at h0
    obtain ⟨hq, ht, hs, hl⟩ := h0
    split at h
    · rename_i h1
      rw [if_pos h1]
      simp only [Bool.and_eq_true, Bool.not_eq_true', Bool.and_eq_false_iff, decide_eq_false_iff_not] at h1
      obtain ⟨k1, k2, k3⟩ := h1
      refine ⟨hq, ht, hs, hl, k1, k2, fun ⟨e1, e2⟩ => ?_, ?_⟩
      · rcases k3 with k3 | k3
        · rw [k3] at e1; cases e1
        · exact k3 e2
      · have hX := allO_store ls _ (areaQ_store hq t) (fun o ho => storeB_ok hs o ho) k1
        have hne : (allO (areaQ q t) ls).1 ≠ [] := by
          intro e
          obtain ⟨x, hx⟩ := List.exists_mem_of_length_pos hl
          have := hX.2.2 x hx
          rw [e] at this
          cases this
        have hb : (((allO (areaQ q t) ls).1.length : Int) == 0) = false := by
          rw [beq_eq_false_iff_ne]
          intro e
          exact hne (List.eq_nil_of_length_eq_zero (by omega))
        unfold setQ
        rw [hb, setA_tri t _ q.ars (List.pairwise_map.1 (quar_pairs hq))]
    · cases h
  · cases h
theorem findA_none_any {ars : List Ar} {t : Int} : (findA ars t).isNone = !ars.any (fun a => decide (a.t = t)) := by
  rw [findA_any]
  cases findA ars t <;> rfl
theorem qputQ_again {q : Qu} {t : Int} {ls : List Ob} (h : (qputQ q t ls).2 = true) : quarB (qputQ q t ls).1 = true ∧ qputQ (qputQ q t ls).1 t ls = ((qputQ q t ls).1, true) := by
  obtain ⟨hq, ht, hs, hl, k1, k2, k3, he⟩ := qputQ_yes h
  obtain ⟨hX, -, hin⟩ := allO_store ls _ (areaQ_store hq t) (fun o ho => storeB_ok hs o ho) k1
  generalize (allO (areaQ q t) ls).1 = X at *
  have hpair := List.pairwise_map.1 (quar_pairs hq)
  have hlen := tri_len (t := t) (X := X) hpair
  have hXl : 0 < X.length := by
    obtain ⟨x, hx⟩ := List.exists_mem_of_length_pos hl
    exact List.length_pos_of_mem (hin x hx)
  obtain ⟨hm, har, h4⟩ := quarB_parts hq
  have h5 : (tri t X q.ars).length ≤ 4 := by
    rw [hlen]
    cases hn : q.ars.any (fun a => decide (a.t = t))
    · rw [findA_none_any, hn] at k3
      simp only [Bool.not_false, true_and] at k3
      simp only [Bool.false_eq_true, if_false]
      omega
    · simp only [if_true]
      omega
  rw [he]
  have hq2 : quarB ⟨q.main, tri t X q.ars⟩ = true := by
    unfold quarB
    simp only [Bool.and_eq_true, decide_eq_true_eq]
    refine ⟨(ascB_iff _).2 ⟨fun a ha => ?_, tri_sorted hpair⟩, hm, by omega⟩
    unfold quarB at hq
    simp only [Bool.and_eq_true] at hq
    rcases tri_mem ha with ha | rfl
    · exact ((ascB_iff _).1 hq.1).1 a ha
    · unfold arOk
      rw [ht, hX, decide_eq_true hXl]
      rfl
  refine ⟨hq2, ?_⟩
  have hA : areaQ ⟨q.main, tri t X q.ars⟩ t = X := by rw [areaQ_findT]; rw [tri_find]
  have hfs : (findA (tri t X q.ars) t).isNone = false := by
    rw [findA_none_any]
    have : (tri t X q.ars).any (fun a => decide (a.t = t)) = true := List.any_eq_true.2 ⟨⟨t, X⟩, by unfold tri; simp, by simp⟩
    rw [this]
    rfl
  unfold qputQ
  rw [hq2, ht, hs, decide_eq_true hl]
  simp only [Bool.and_self, if_true]
  rw [hA, allO_in hX ls hin]
  simp only [k2, hfs, Bool.false_and, Bool.not_false, Bool.and_self, if_true]
  congr 1
  unfold setQ
  have hb : ((X.length : Int) == 0) = false := by rw [beq_eq_false_iff_ne]; omega
  rw [hb, setA_tri t _ _ (tri_sorted hpair), tri_again]
/-- the same for keys and held slices -/
def triL (t : Int) (v : Value) (l : List (Int × Value)) : List (Int × Value) := l.filter (fun p => decide (p.1 < t)) ++ ((t, v) :: l.filter (fun p => decide (t < p.1)))
theorem ins_ent {t : Int} {v : Value} : ∀ l : List (Int × Value), (l.map (·.1)).Pairwise (· < ·) → DataW.insert (ent (t, v)) ((l.map ent).filter (fun p => !p.1.sameKey (.int .i64 t))) = (triL t v l).map ent
  | [], _ => rfl
  | p :: l, h => by
    rw [List.map_cons, List.pairwise_cons] at h
    obtain ⟨h1, h2⟩ := h
    have h1' : ∀ q ∈ l, p.1 < q.1 := fun q hq => h1 q.1 (List.mem_map_of_mem hq)
    have ih := ins_ent (t := t) (v := v) l h2
    unfold triL at ih ⊢
    rw [List.map_cons, List.filter_cons, ent_same, List.filter_cons, List.filter_cons]
    by_cases hlt : p.1 < t
    · rw [decide_eq_false (by omega : ¬ p.1 = t), decide_eq_true hlt, decide_eq_false (by omega : ¬ t < p.1)]
      simp only [Bool.not_false, if_true, List.cons_append, List.map_cons, Bool.false_eq_true, if_false]
      have hb : (ent (t, v)).1.before (ent p).1 = false := decide_eq_false (by omega : ¬ t < p.1)
      unfold DataW.insert
      rw [hb, if_neg (by simp), ih]
    · have hg : ∀ b ∈ l, t < b.1 := fun b hb => by have := h1' b hb; omega
      have e1 : l.filter (fun b => decide (b.1 < t)) = [] := List.filter_eq_nil_iff.2 fun b hb => by have := hg b hb; simp; omega
      have e2 : l.filter (fun b => decide (t < b.1)) = l := List.filter_eq_self.2 fun b hb => by have := hg b hb; simp; omega
      rw [e1, e2, List.nil_append, List.map_cons] at ih
      rw [decide_eq_false hlt, e1, e2]
      by_cases e : p.1 = t
      · rw [decide_eq_true e, decide_eq_false (by omega : ¬ t < p.1)]
        simp only [Bool.not_true, Bool.false_eq_true, if_false, List.nil_append, List.map_cons]
        exact ih
      · rw [decide_eq_false e, decide_eq_true (by omega : t < p.1)]
        simp only [Bool.not_false, if_true, Bool.false_eq_true, if_false, List.nil_append, List.map_cons]
        have hb : (ent (t, v)).1.before (ent p).1 = true := decide_eq_true (by omega : t < p.1)
        rw [filt_none l (fun q hq => by have := hg q hq; omega)]
        unfold DataW.insert
        rw [hb, if_pos rfl]
theorem put_ars {t : Int} {v : Value} {l : List (Int × Value)} (h : (l.map (·.1)).Pairwise (· < ·)) : (arsD l).put (.int .i64 t) (.held v) = arsD (triL t v l) := by
  unfold arsD DataW.put
  simp only
  exact congrArg DataW.map (ins_ent l h)
/-- keys and slices, as the areas read -/
def AR (lo : Nat) (w : World) : List (Int × Value) → List Ar → Prop
  | [], [] => True
  | p :: l, a :: ars => (p.1 = a.t ∧ ∃ A n c, p.2 = .slice A n c ∧ RSl repOb lo w A n a.os ∧ n ≤ maxLen) ∧ AR lo w l ars
  | _, _ => False
theorem AR.of {w : World} {g lo : Nat} : ∀ {l : List (Int × Value)} {ars : List Ar} {S : Nat → Prop}, AV w g lo S l ars → AR lo w l ars
  | [], [], _, _ => trivial
  | p :: l, x :: ars, S, ⟨S1, S2, _, _, _, _, h4, h5⟩ => by
    obtain ⟨A, n, c, e, hs⟩ := sepAr_cells h4
    unfold arC at e
    simp only [List.cons.injEq, Value.int.injEq, and_true, true_and] at e
    exact ⟨⟨e.1, A, n, c, e.2, hs.reads, Nat.le_trans hs.small.1 hs.small.2⟩, AR.of (l := l) h5⟩
  | [], _ :: _, _, h => h.elim
  | _ :: _, [], _, h => h.elim
theorem AR.next {lo : Nat} {w w' : World} (hb : Below w.heap.size w w') : ∀ {l : List (Int × Value)} {ars : List Ar}, AR lo w l ars → AR lo w' l ars
  | [], [], _ => trivial
  | _ :: _, _ :: _, ⟨⟨h1, A, n, c, h2, h3, h4⟩, h5⟩ => ⟨⟨h1, A, n, c, h2, h3.next hb, h4⟩, AR.next hb h5⟩
  | [], _ :: _, h => h.elim
  | _ :: _, [], h => h.elim
theorem AR.keys {lo : Nat} {w : World} : ∀ {l : List (Int × Value)} {ars : List Ar}, AR lo w l ars → l.map (·.1) = ars.map (·.t)
  | [], [], _ => rfl
  | p :: l, a :: ars, ⟨⟨h1, _⟩, h5⟩ => by rw [List.map_cons, List.map_cons, h1, AR.keys (l := l) h5]
  | [], _ :: _, h => h.elim
  | _ :: _, [], h => h.elim
theorem AR.slices {lo : Nat} {w : World} : ∀ {l : List (Int × Value)} {ars : List Ar}, AR lo w l ars → ∀ p ∈ l, ∃ A n c, p.2 = .slice A n c
  | [], [], _, p, hp => by cases hp
  | q :: l, a :: ars, ⟨⟨_, A, n, c, h2, _⟩, h5⟩, p, hp => by
    rcases List.mem_cons.1 hp with rfl | hp
    · exact ⟨A, n, c, h2⟩
    · exact AR.slices (l := l) h5 p hp
  | [], _ :: _, h, _, _ => h.elim
  | _ :: _, [], h, _, _ => h.elim
theorem AR.filter {lo : Nat} {w : World} (f : Int → Bool) : ∀ {l : List (Int × Value)} {ars : List Ar}, AR lo w l ars → AR lo w (l.filter fun p => f p.1) (ars.filter fun a => f a.t)
  | [], [], _ => trivial
  | p :: l, a :: ars, ⟨h, h5⟩ => by
    rw [List.filter_cons, List.filter_cons, h.1]
    split
    · exact ⟨h, AR.filter f h5⟩
    · exact AR.filter f h5
  | [], _ :: _, h => h.elim
  | _ :: _, [], h => h.elim
theorem AR.app {lo : Nat} {w : World} : ∀ {l l' : List (Int × Value)} {ars ars' : List Ar}, AR lo w l ars → AR lo w l' ars' → AR lo w (l ++ l') (ars ++ ars')
  | [], _, [], _, _, h => h
  | _ :: _, _, _ :: _, _, ⟨h, h5⟩, h' => ⟨h, AR.app h5 h'⟩
  | [], _, _ :: _, _, h, _ => h.elim
  | _ :: _, _, [], _, h, _ => h.elim
theorem AR.tri {lo : Nat} {w : World} {l : List (Int × Value)} {ars : List Ar} {t : Int} {X : List Ob} {A : Option Addr} {n c : Nat} (h : AR lo w l ars) (hx : RSl repOb lo w A n X) (hn : n ≤ maxLen) : AR lo w (triL t (.slice A n c) l) (tri t X ars) :=
  (h.filter fun z => decide (z < t)).app ⟨⟨rfl, A, n, c, rfl, hx, hn⟩, h.filter fun z => decide (t < z)⟩
theorem AR.at_ {lo : Nat} {w : World} : ∀ {l : List (Int × Value)} {ars : List Ar} {k : Nat} {a : Ar}, AR lo w l ars → ars[k]? = some a → ∃ p, l[k]? = some p ∧ p.1 = a.t ∧ ∃ A n c, p.2 = .slice A n c ∧ RSl repOb lo w A n a.os ∧ n ≤ maxLen
  | [], [], _, _, _, h => by simp at h
  | p :: l, x :: ars, 0, a, ⟨h, _⟩, e => by
    simp at e
    subst e
    exact ⟨p, rfl, h⟩
  | p :: l, x :: ars, k + 1, a, ⟨_, h5⟩, e => by
    obtain ⟨p', h1, h2⟩ := AR.at_ (l := l) h5 (by simpa using e)
    exact ⟨p', by simpa using h1, h2⟩
  | [], _ :: _, _, _, h, _ => h.elim
  | _ :: _, [], _, _, h, _ => h.elim
theorem AR.down {lo lo' : Nat} {w : World} (hd : lo' ≤ lo) : ∀ {l : List (Int × Value)} {ars : List Ar}, AR lo w l ars → AR lo' w l ars
  | [], [], _ => trivial
  | _ :: _, _ :: _, ⟨⟨h1, A, n, c, h2, h3, h4⟩, h5⟩ => ⟨⟨h1, A, n, c, h2, h3.down hd, h4⟩, AR.down hd h5⟩
  | [], _ :: _, h => h.elim
  | _ :: _, [], h => h.elim
theorem AR.len {lo : Nat} {w : World} {l : List (Int × Value)} {ars : List Ar} (h : AR lo w l ars) : l.length = ars.length := by
  have := congrArg List.length h.keys
  simpa using this
end Go.Proofs.Ytjofgbbofagoiaa
/- Walks: storeAll, copyQuarantine, the program's QuarantinePut. -/
namespace Go.Proofs.Ytjofgbbofagoiaa
open Go.RowKit Go.Sort Go.Maps

/-- the area of a transaction, as the map holds it -/
theorem look_areaT {w : World} {gm nn lo : Nat} {S : Nat → Prop} {l : List (Int × Value)} {q : Qu} {t : Int} (hM : w.ownsMap Try.prog 3 RH gm nn (arsD l)) (hA : AV w gm lo S l q.ars) (ht : 0 ≤ t ∧ t ≤ 11) :
    ∃ D n c, (Instr.lookup 76 (.map (some gm)) (.int .i64 t) false).run Try.prog w = .ok (.slice D n c) w ∧ RObjs w D n (areaQ q t) := by
  obtain ⟨v, ps, hrun, hv⟩ := hM.lookup intK Try.underlying76 (z := .slice none 0 0) (zd := .held (.slice none 0 0)) (zp := []) (by kernel_rfl) rfl (int_key ht)
  rw [at_ars] at hv
  rw [areaQ_findT]
  have hvv : v = (match l.find? (fun p => decide (p.1 = t)) with | some p => p.2 | none => .slice none 0 0) := by
    unfold RH at hv
    cases hf : l.find? (fun p => decide (p.1 = t)) with
    | none => rw [hf] at hv; simp at hv; exact hv.1
    | some p => rw [hf] at hv; simp at hv; exact hv.1
  have key : ∀ {l : List (Int × Value)} {ars : List Ar} {S : Nat → Prop}, AV w gm lo S l ars → ∃ D n c, (match l.find? (fun p => decide (p.1 = t)) with | some p => p.2 | none => Value.slice none 0 0) = .slice D n c ∧ RObjs w D n (match ars.find? (fun a => decide (a.t = t)) with | some a => a.os | none => []) := by
    intro l
    induction l with
    | nil =>
      intro ars S h
      cases ars with
      | nil => exact ⟨none, 0, 0, rfl, rfl, fun h => absurd h (by omega)⟩
      | cons _ _ => exact h.elim
    | cons p l ih =>
      intro ars S h
      cases ars with
      | nil => exact h.elim
      | cons a ars =>
        obtain ⟨S1, S2, _, _, _, _, h4, h5⟩ := h
        obtain ⟨D, n, c, e, hs⟩ := sepAr_cells h4
        unfold arC at e
        simp only [List.cons.injEq, Value.int.injEq, and_true, true_and] at e
        obtain ⟨e1, e2⟩ := e
        rw [List.find?_cons, List.find?_cons, e1]
        by_cases h : a.t = t
        · rw [decide_eq_true h]
          exact ⟨D, n, c, e2, (hs.reads.down (Nat.zero_le _)).robjs⟩
        · rw [decide_eq_false h]
          exact ih h5
  obtain ⟨D, n, c, e1, e2⟩ := key hA
  exact ⟨D, n, c, by rw [← e1, ← hvv]; exact hrun, e2⟩
set_option maxRecDepth 100000 in
set_option maxHeartbeats 1600000 in
theorem storeAll_any (A : Option Addr) (n c : Nat) (os : List Ob) (B : Option Addr) (m d : Nat) (ls : List Ob) (w : World) (h : RObjs w A n os) (hs : storeB os = true) (hl : RObjs w B m ls) (hm : m ≤ 1000) (hls : ∀ x ∈ ls, x.ok = true) :
    Calls Try.prog 65 #[.slice A n c, .slice B m d] w fun e w' => ∃ v, e = .returned (.tuple #[v, .bool (allO os ls).2]) ∧ OwnO w' w.heap.size v (allO os ls).1.length (allO os ls).1 ∧ Below w.heap.size w w' := by
  have hlen := h.1
  have hlm := hl.1
  have h16 := storeB_len hs
  have hn : n ≤ 16 := by omega
  have hsm := storeB_small hs
  have HN := Lib.hid (And.intro hlen hlm)
  clear hlen hlm h16
  go_enter Try.func65, Try.ntmps65
  go_wp2_with fail
  refine (copyObjectsS_any A n c os _ h (by omega) hsm).mono ?_
  rintro e w1 ⟨v, rfl, hOs1, hb1⟩
  have hO1 := hOs1.own
  clear hOs1
  go_wp2_with fail
  go_loopw [6, 15] (fun s i wr => ∃ (k j : Nat) (v : Value) (out : List Ob), k ≤ m ∧ i = .int .i64 k ∧ s = v ∧ OwnO wr w.heap.size v j out ∧ storeB out = true ∧ Hid (allO out (ls.drop k) = allO os ls) ∧ Below w.heap.size w wr) (fun _ i _ => m - (intOf i).toNat)
  case atStart => exact ⟨0, n, v, os, Nat.zero_le _, rfl, rfl, hO1, hs, Lib.hid rfl, hb1⟩
  case round =>
    obtain ⟨k, j, v, out, hk, rfl, rfl, hO, hst, HA, hbr⟩ := hrel
    obtain ⟨A2, c2, rfl, hjc⟩ := hO.form
    by_cases hlt : k < m
    · obtain ⟨b, off, o, rfl, hb, hx, hob⟩ := (hl.next hbr).at_ hlt
      obtain ⟨L, ml, dl, c0, c1, c2', hri, hml, ht⟩ := hob
      have hoo := hls o (List.mem_of_getElem? hx)
      have HS := Lib.hid (allO_step (out := out) hx)
      have hg := putR_good hst hoo
      have hr2 : RObjs wr A2 j out := hO.reads
      have hj16 : j ≤ 16 := by have := storeB_len hst; have := hr2.1; omega
      have hki : (k : Int) < (m : Int) := by omega
      have ea := below_box wr (.cells #[.int .i64 o.k, .slice L ml dl, .string o.t] 33)
      have hbe := below_ext hbr ea
      clear hx
      go_wp2_with fail
      refine (implStorePut_any A2 j c2 out o L ml dl _ (hr2.next ea) (by simp only [maxLen]; omega) (hri.below ea (Nat.le_refl _)) hml).mono ?_
      unfold PutR
      rw [hg]
      rintro e w3 ⟨v3, rfl, hO3, hb3⟩
      have hb33 := below_ext hbe hb3
      have hz3 : w.heap.size ≤ (wr.alloc (.cells #[.int .i64 o.k, .slice L ml dl, .string o.t] 33)).heap.size := hbe.size
      have hO33 := hO3.base hz3
      clear hO3 hb3 hz3
      cases hp : (putO out o).2
      · have HE := Lib.hid (show allO os ls = ([], false) by rw [← HA.out, HS.out, hp]; simp)
        go_wp2_with fail
        refine bodyPost_ret (v := .tuple #[.slice none 0 0, .bool false]) (by simp [results, Try.results65, go_sem]) rfl ?_
        rw [HE.out]
        exact ⟨_, rfl, ⟨[], ⟨by simp, .inl ⟨rfl, rfl⟩⟩, Elems.nil⟩, hb33⟩
      · have HE := Lib.hid (show allO (putO out o).1 (ls.drop (k + 1)) = allO os ls by rw [← HA.out, HS.out, hp]; simp)
        have hst3 : storeB (putO out o).1 = true := by
          have := (putR_store (os := out) (o := o) (by rw [hg]; exact hp)).1
          rwa [hg] at this
        go_wp2_with fail
        go_roundw
        case rel => exact ⟨k + 1, _, v3, _, by omega, by go_num, rfl, hO33, hst3, HE, hb33⟩
        case measure => simp [intOf]; omega
    · obtain rfl : k = m := by omega
      have HE := Lib.hid (show allO os ls = (out, true) by rw [← HA.out, List.drop_of_length_le (by rw [HN.out.2]; exact Nat.le_refl _)]; rfl)
      have hjl : j = out.length := (hO.reads.1).symm
      go_wp2_with fail
      refine bodyPost_ret (v := .tuple #[.slice A2 j c2, .bool true]) (by simp [results, Try.results65, go_sem]) rfl ?_
      rw [HE.out]
      subst hjl
      exact ⟨_, rfl, hO, hbr⟩
/-- a quarantine's reading -/
theorem repQu_row {w : World} {A C : Option Addr} {n c d lo : Nat} {q : Qu} {ars : List Ar} {l : List (Int × Value)} {B : Nat} (h0 : RSl repOb lo w A n q.main) (hn : n ≤ maxLen) (hA : AR lo w l ars) (hl : l.length ≤ 100) (hrow : w.ownsRow B 70 2 (.slice C l.length d) l.length (l.map arC).flatten) (hB : lo ≤ B) : repQu.V lo w [.slice A n c, .slice C l.length d] ⟨q.main, ars⟩ := by
  have hlen : l.length = ars.length := hA.len
  refine repQu_mk h0 hn ⟨hlen.symm, fun hp => ?_⟩ (by simp only [maxLen]; omega)
  obtain ⟨g, rfl, hg1, hg2⟩ := own_addr hrow hp
  refine ⟨g, 0, rfl, hg2, by omega, fun j a ha => ?_⟩
  obtain ⟨p, hp1, hp2, A', n', c', hp3, hp4, hp5⟩ := hA.at_ ha
  refine ⟨[.int .i64 a.t, .slice A' n' c'], fun i u hu => ?_, repAr_mk hp4 hp5⟩
  have hfl : (l.map arC).flatten[j * 2 + i]? = some u := by
    have hi : i < 2 := by have := (List.getElem?_eq_some_iff.1 hu).1; simpa using this
    have := flat_get (m := 2) (css := l.map arC) (fun cs hcs => by obtain ⟨x, _, rfl⟩ := List.mem_map.1 hcs; rfl) j i (arC p) [] (by rw [List.getElem?_map, hp1]; rfl) hi
    rw [List.append_nil] at this
    rw [this]
    unfold arC
    rw [hp2, hp3]
    exact hu
  have := hrow.cells (g := g) rfl (j * 2 + i) u hfl
  rw [add_flat, Nat.zero_add] at this
  rw [show 0 + j * repAr.sz + i = j * 2 + i from by rw [Nat.zero_add]; rfl]
  exact this
theorem repQu_res {w : World} {lo r : Nat} {cs : List Value} {q : Qu} {a b : Value} (h : repQu.V lo w cs q) (hr : r < lo) : repQu.V lo ((w.setCell ⟨r, 0, none⟩ a).setCell ⟨r, 1, none⟩ b) cs q := repQu.far (repQu.far h hr) hr
set_option maxRecDepth 100000 in
set_option maxHeartbeats 3200000 in
theorem copyQuarantine_any (cs : List Value) (q : Qu) (w : World) (hv : repQu.V 0 w cs q) (hq : quarB q = true) :
    Calls Try.prog 66 #[.agg cs.toArray] w fun e w' => ∃ cs', e = .returned (.agg cs'.toArray) ∧ repQu.V w.heap.size w' cs' q ∧ Below w.heap.size w w' := by
  obtain ⟨B0, m0, d0, B1, m1, d1, rfl, hr0, hm0, hr1, hm1⟩ := repQu_cells hv
  have b1 := below_box2 w (.cells #[.slice B0 m0 d0, .slice B1 m1 d1] 26) (.cells #[.slice none 0 0, .slice none 0 0] 26)
  have x0 : Blk ((w.alloc (.cells #[.slice B0 m0 d0, .slice B1 m1 d1] 26)).alloc (.cells #[.slice none 0 0, .slice none 0 0] 26)) w.heap.size 26 [.slice B0 m0 d0, .slice B1 m1 d1] := (Blk.new w _ _).alloc _
  have x1 : Blk ((w.alloc (.cells #[.slice B0 m0 d0, .slice B1 m1 d1] 26)).alloc (.cells #[.slice none 0 0, .slice none 0 0] 26)) (w.heap.size + 1) 26 [.slice none 0 0, .slice none 0 0] := by simpa using Blk.new (w.alloc (.cells #[.slice B0 m0 d0, .slice B1 m1 d1] 26)) 26 [.slice none 0 0, .slice none 0 0]
  obtain ⟨y0, y1⟩ := x0.cells2
  obtain ⟨hm, har, hq4⟩ := quarB_parts hq
  have hlm : q.main.length ≤ 16 := stB_len hm
  have hl0 := hr0.1
  have hsm := ok_small (stB_ok hm)
  have hp0 := quar_pairs hq
  have htx : ∀ a ∈ q.ars, 0 ≤ a.t ∧ a.t ≤ 11 := fun a ha => txn_range (har a ha).1
  have HQ := Lib.hid (And.intro hq4 (And.intro hp0 htx))
  clear hr1 hm har hq4 hp0 htx
  go_enter Try.func66, Try.ntmps66
  go_wp2_with fail
  have hbd : Below ((w.alloc (.cells #[.slice B0 m0 d0, .slice B1 m1 d1] 26)).alloc (.cells #[.slice none 0 0, .slice none 0 0] 26)).heap.size ((w.alloc (.cells #[.slice B0 m0 d0, .slice B1 m1 d1] 26)).alloc (.cells #[.slice none 0 0, .slice none 0 0] 26)) ((w.alloc (.cells #[.slice B0 m0 d0, .slice B1 m1 d1] 26)).alloc (.cells #[.slice none 0 0, .slice none 0 0] 26)).drew := (Below.refl _ _).drew
  have hz1 : ((w.alloc (.cells #[.slice B0 m0 d0, .slice B1 m1 d1] 26)).alloc (.cells #[.slice none 0 0, .slice none 0 0] 26)).heap.size = w.heap.size + 2 := by simp
  generalize (w.alloc (.cells #[.slice B0 m0 d0, .slice B1 m1 d1] 26)).alloc (.cells #[.slice none 0 0, .slice none 0 0] 26) = w1 at *
  have HK := Lib.hid (fun (w' : World) (b : Below w1.heap.size w1 w') => x0.next b)
  have HV := Lib.hid (fun (w' : World) (b : Below w1.heap.size w1 w') => repQu.next hv (below_ext b1 b))
  have HM := Lib.hid (fun (w' : World) (b : Below w1.heap.size w1 w') => (hr0.next (below_ext b1 b)).robjs)
  clear hv hr0
  go_region_held3 (fun w' => w'.cell? ⟨w.heap.size, 0, none⟩ = some (.slice B0 m0 d0) ∧ w'.cell? ⟨w.heap.size, 1, none⟩ = some (.slice B1 m1 d1))
    (first
      | exact ⟨(HK.out _ hbd).cells2.1, (HK.out _ hbd).cells2.2⟩
      | exact ⟨(HK.out _ bz6).cells2.1, (HK.out _ bz6).cells2.2⟩
      | exact ⟨(HK.out _ bz3).cells2.1, (HK.out _ bz3).cells2.2⟩
      | exact ⟨(HK.out _ bz5).cells2.1, (HK.out _ bz5).cells2.2⟩
      | exact ⟨((((HK.out _ bz6).far (by simp) _).far (by simp) _)).cells2.1, ((((HK.out _ bz6).far (by simp) _).far (by simp) _)).cells2.2⟩)
    (first
      | (go_simp; go_at_call 54; refine (copyObjectsS_any B0 m0 d0 q.main w3 (HM.out _ bz3) (by omega) hsm).mono ?_
         rintro e w5 ⟨v5, rfl, hO5, hb5⟩
         obtain ⟨A5, c5, rfl, hAc5⟩ := hO5.own.form
         have bz5 := below_ext bz3 hb5
         have hM9 := hM3.kept (row := none) (grown_noneQ hb5) (by simp)
         have hA9 := hA3.next hb5
         have hz9 : w.heap.size + 2 ≤ w5.heap.size := Nat.le_trans (by omega) bz5.size
         have hR9 := hO5.own.rsl.down (lo' := w.heap.size + 2) (Nat.le_trans (by omega) bz3.size))
      | (go_simp; go_at_call 54; refine (copyObjectsS_any B0 m0 d0 q.main _ (HM.out _ hbd) (by omega) hsm).mono ?_
         rintro e w5 ⟨v5, rfl, hO5, hb5⟩
         obtain ⟨A5, c5, rfl, hAc5⟩ := hO5.own.form
         have bz5 := below_ext hbd hb5)
      | (go_simp; go_at_call 47; refine (areas_any _ q w5 (HV.out _ bz5) hq).mono ?_
         rintro e w3 ⟨gm, l, rfl, hgm, hM9, hAV, hb3⟩
         have bz3 := below_ext bz5 hb3
         have hz5 := bz5.size
         have hA9 := (AR.of hAV).down (lo' := w.heap.size + 2) (by omega)
         have hz9 : w.heap.size + 2 ≤ w3.heap.size := Nat.le_trans (by omega) bz3.size
         have hR9 := (hO5.own.rsl.down (lo' := w.heap.size + 2) (by show w.heap.size + 2 ≤ w1.heap.size; omega)).next hb3)
      | (go_simp; go_at_call 47; refine (areas_any _ q _ (HV.out _ hbd) hq).mono ?_
         rintro e w3 ⟨gm, l, rfl, hgm, hM3, hAV, hb3⟩
         have hA3 := (AR.of hAV).down (lo' := w.heap.size + 2) (by have h1 : w1.heap.size ≤ gm := hgm; omega)
         have bz3 := below_ext hbd hb3)
      | (go_simp; go_at_call 67; refine (quarantineOf_any A5 m0 c5 gm 4 l w3 hM9 (by rw [hA9.len]; have := HQ.out.1; omega) (by rw [hA9.keys]; exact HQ.out.2.1) (fun p hp => by
           have h1 : p.1 ∈ q.ars.map (·.t) := by rw [← hA9.keys]; exact List.mem_map_of_mem hp
           obtain ⟨a, ha, e⟩ := List.mem_map.1 h1
           rw [← e]
           exact HQ.out.2.2 a ha) hA9.slices).mono ?_
         rintro e w6 ⟨C6, d6, rfl, hrow, hb6⟩
         have bz6 := below_ext bz3 hb6
         have x16 := x1.next bz6
         obtain ⟨r0, r1⟩ := x16.cells2
         have f0 := x16.frozen 0
         have f1 := x16.frozen 1
         have hV6 := repQu_row (c := c5) (hR9.next hb6) (by simp only [maxLen]; omega) (hA9.next hb6) (by rw [hA9.len]; have := HQ.out.1; omega) hrow hz9)
      | (go_simp; go_at_call 67; refine (quarantineOf_any A5 m0 c5 gm 4 l w5 hM9 (by rw [hA9.len]; have := HQ.out.1; omega) (by rw [hA9.keys]; exact HQ.out.2.1) (fun p hp => by
           have h1 : p.1 ∈ q.ars.map (·.t) := by rw [← hA9.keys]; exact List.mem_map_of_mem hp
           obtain ⟨a, ha, e⟩ := List.mem_map.1 h1
           rw [← e]
           exact HQ.out.2.2 a ha) hA9.slices).mono ?_
         rintro e w6 ⟨C6, d6, rfl, hrow, hb6⟩
         have bz6 := below_ext bz5 hb6
         have x16 := x1.next bz6
         obtain ⟨r0, r1⟩ := x16.cells2
         have f0 := x16.frozen 0
         have f1 := x16.frozen 1
         have hV6 := repQu_row (c := c5) (hR9.next hb6) (by simp only [maxLen]; omega) (hA9.next hb6) (by rw [hA9.len]; have := HQ.out.1; omega) hrow hz9))
  all_goals (
    have hRR := (x16.set_ 0 (.slice A5 m0 c5)).set_ 1 (.slice C6 l.length d6)
    simp only [List.set_cons_zero, List.set_cons_succ] at hRR
    obtain ⟨t0, t1⟩ := hRR.cells2
    have hVf := repQu.down (repQu_res (r := w.heap.size + 1) (a := .slice A5 m0 c5) (b := .slice C6 l.length d6) hV6 (by omega)) (Nat.le_add_right w.heap.size 2)
    have hbf := ((below_ext b1 bz6).setCell (p := ⟨w.heap.size + 1, 0, none⟩) (Nat.le_succ _) (.slice A5 m0 c5)).setCell (p := ⟨w.heap.size + 1, 1, none⟩) (Nat.le_succ _) (.slice C6 l.length d6)
    go_wp2_with fail
    refine bodyPost_ret (v := .agg #[.slice A5 m0 c5, .slice C6 l.length d6]) (by simp [results, Try.results66, go_sem, t0, t1]) rfl ?_
    exact ⟨_, rfl, hVf, hbf⟩)
end Go.Proofs.Ytjofgbbofagoiaa
/- Walk: the program's QuarantinePut. -/
namespace Go.Proofs.Ytjofgbbofagoiaa
open Go.RowKit Go.Sort Go.Maps

/-- what the program's QuarantinePut hands back, as it reads -/
def QPutI (w : World) (r : Qu × Bool) (e : Ending) (w' : World) : Prop := ∃ cs, e = .returned (.tuple #[.agg cs.toArray, .bool r.2]) ∧ repQu.V 0 w' cs r.1 ∧ Below w.heap.size w w'
set_option maxRecDepth 100000 in
set_option maxHeartbeats 3200000 in
theorem implQuarantinePut_any (cs : List Value) (q : Qu) (t : Int) (D : Option Addr) (r dd : Nat) (ls : List Ob) (w : World) (hv : repQu.V 0 w cs q) (hl : RObjs w D r ls) (hr : r ≤ maxLen) :
    Calls Try.prog 24 #[.agg cs.toArray, .int .i64 t, .slice D r dd] w (QPutI w (qputQ q t ls)) := by
  obtain ⟨B0, m0, d0, B1, m1, d1, rfl, hr0, hm0, hr1, hm1⟩ := repQu_cells hv
  have HL := Lib.hid hl.1
  have b1 := below_box2 w (.cells #[.slice B0 m0 d0, .slice B1 m1 d1] 26) (.cells #[.slice none 0 0, .slice none 0 0] 26)
  have x0 : Blk ((w.alloc (.cells #[.slice B0 m0 d0, .slice B1 m1 d1] 26)).alloc (.cells #[.slice none 0 0, .slice none 0 0] 26)) w.heap.size 26 [.slice B0 m0 d0, .slice B1 m1 d1] := (Blk.new w _ _).alloc _
  have x1 : Blk ((w.alloc (.cells #[.slice B0 m0 d0, .slice B1 m1 d1] 26)).alloc (.cells #[.slice none 0 0, .slice none 0 0] 26)) (w.heap.size + 1) 26 [.slice none 0 0, .slice none 0 0] := by simpa using Blk.new (w.alloc (.cells #[.slice B0 m0 d0, .slice B1 m1 d1] 26)) 26 [.slice none 0 0, .slice none 0 0]
  obtain ⟨y0, y1⟩ := x0.cells2
  clear hr1
  go_enter Try.func24, Try.ntmps24
  go_wp2_with fail
  refine (implQuarantineValid_any _ q _ (repQu.next hv b1)).mono ?_
  rintro e w1 ⟨rfl, hb1⟩
  have bb1 := below_ext b1 hb1
  have x01 := x0.next hb1
  have x11 := x1.next hb1
  have hz1 : w.heap.size + 2 ≤ w1.heap.size := by have := hb1.size; simpa using this
  have hl1 := hl.next bb1
  obtain ⟨z0, z1⟩ := x01.cells2
  have f10 := x11.frozen 0
  have f11 := x11.frozen 1
  obtain ⟨u0, u1⟩ := x11.cells2
  clear y0 y1 x0 x1 hb1 b1
  by_cases hqt : (quarB q && (txnB t && (storeB ls && decide (0 < ls.length)))) = true
  · skip
    have HC := Lib.hid hqt
    simp only [Bool.and_eq_true, decide_eq_true_eq] at hqt
    obtain ⟨hq, ht, hsl, hlp⟩ := hqt
    have htn := txn_range ht
    have hkey := int_key htn
    have hfull : fullB ls = true := by rw [fullB_eq, hsl, decide_eq_true hlp]; rfl
    have hr16 : r ≤ 16 := by have := storeB_len hsl; have := HL.out; omega
    have hlok := storeB_ok hsl
    obtain ⟨hm, har, hq4⟩ := quarB_parts hq
    have hlm : q.main.length ≤ 16 := stB_len hm
    have hl0 := hr0.1
    have hsm := ok_small (stB_ok hm)
    have hpp := quar_pairs hq
    have HP := Lib.hid (And.intro hpp (fun a ha => txn_range (har a ha).1 : ∀ a ∈ q.ars, 0 ≤ a.t ∧ a.t ≤ 11))
    have hXs := areaQ_store hq t
    have hXl := storeB_len hXs
    clear hlp har hpp
    rw [hq]
    go_wp2_with fail
    refine (isTxn_any t w1).mono ?_
    rintro e w2 ⟨rfl, rfl⟩
    rw [ht]
    go_wp2_with fail
    refine (fullStore_any D r dd ls w1 hl1 hr).mono ?_
    rintro e w2 ⟨rfl, hb2⟩
    rw [hfull]
    have bb2 := below_ext bb1 hb2
    have x02 := x01.next hb2
    have x12 := x11.next hb2
    have hz2 := Nat.le_trans hz1 hb2.size
    obtain ⟨y0, y1⟩ := x02.cells2
    clear z0 z1 u0 u1 f10 f11 x01 x11 bb1 hl1 hb2 hz1 hfull
    go_wp2_with fail
    refine (areas_any _ q w2 (repQu.next hv bb2) hq).mono ?_
    rintro e w3 ⟨gm, l, rfl, hgm, hM3, hA3, hb3⟩
    have bb3 := below_ext bb2 hb3
    have hgm3 := hM3.lt
    have x03 := x02.next hb3
    have x13 := x12.next hb3
    obtain ⟨Da, na, ca, hlook, hra⟩ := look_areaT hM3 hA3 htn
    have hna : na ≤ 16 := by have := hra.1; omega
    obtain ⟨z0, z1⟩ := x03.cells2
    clear y0 y1 x02 x12 bb2 hb3
    go_wp2_with fail
    refine (storeAll_any Da na ca (areaQ q t) D r dd ls w3 hra hXs (hl.next bb3) (by omega) hlok).mono ?_
    rintro e w5 ⟨v5, rfl, hO5, hb5⟩
    obtain ⟨A5, c5, rfl, hAc5⟩ := hO5.form
    have bb5 := below_ext bb3 hb5
    have x05 := x03.next hb5
    have x15 := x13.next hb5
    have hM5 := hM3.kept (row := none) (grown_noneQ hb5) (by simp)
    have hlook5 := hlook
    obtain ⟨y0, y1⟩ := x05.cells2
    clear z0 z1 x03 x13 hlook hlook5
    have n0 : some w.heap.size ≠ some gm := fun e => by injection e with e; omega
    have n1 : some (w.heap.size + 1) ≠ some gm := fun e => by injection e with e; omega
    obtain ⟨X, ok1, HX⟩ : ∃ X ok1, Hid (allO (areaQ q t) ls = (X, ok1)) := ⟨_, _, Lib.hid rfl⟩
    rw [HX.out] at hO5
    have hXlen : (allO (areaQ q t) ls).1.length = X.length := by rw [HX.out]
    have hok1 : (allO (areaQ q t) ls).2 = ok1 := by rw [HX.out]
    rw [hXlen, hok1]
    rw [hXlen] at hAc5
    simp only at hO5
    have hXn : X.length ≤ 100 := by
      have := (allO_facts ls (areaQ q t) (storeB_ok hXs) hlok (by omega)).2
      omega
    clear hXlen hok1 hra hna
    cases ok1
    · skip
      have HE := Lib.hid (show qputQ q t ls = (q, false) by unfold qputQ; rw [if_pos HC.out, HX.out]; simp)
      obtain ⟨w7, hrun, hM7, hg7⟩ := hM5.update intK Try.underlying76 (by simp only [maxLen]; omega) hkey (show RH (.slice A5 X.length c5) = some (.held (.slice A5 X.length c5), []) from rfl)
      have hkl : (l.map (·.1)).Pairwise (· < ·) := by rw [parts_keys hA3]; exact HP.out.1
      rw [put_ars hkl] at hM7
      have x07 := x05.grown hg7 n0
      have x17 := x15.grown hg7 n1
      have bb7 : Below w.heap.size w w7 := grownBelowQ bb5 hg7 (by omega)
      have hA7 : AV w7 gm (gm + 1) (Iv (gm + 1) w3.heap.size) l q.ars := Parts.kept hA3 fun b hb hne => (hg7.block b (Nat.lt_of_lt_of_le hb.2 (hb5.size)) (fun e => hne (by injection e))).trans (hb5.block b hb.2)
      have hz7 : w.heap.size + 1 < w7.heap.size := Nat.lt_of_lt_of_le (by omega : w.heap.size + 1 < w3.heap.size) (Nat.le_trans (hb5.size) hg7.size)
      have hL7 := hM7.len Try.underlying76 3
      obtain ⟨r0, r1⟩ := x17.cells2
      have f0 := x17.frozen 0
      have f1 := x17.frozen 1
      obtain ⟨z0, z1⟩ := x07.cells2
      go_wp2_with fail
      refine (copyQuarantine_any _ q w7 (repQu.next hv bb7) hq).mono ?_
      rintro e w8 ⟨cs8, rfl, hV8, hb8⟩
      obtain ⟨C0, k0, e0, C1, k1, e1, rfl, -, -, -, -⟩ := repQu_cells hV8
      have bb8 := below_ext bb7 hb8
      have x18 := x17.next hb8
      obtain ⟨s0, s1⟩ := x18.cells2
      have g0 := x18.frozen 0
      have g1 := x18.frozen 1
      have hRR := (x18.set_ 0 (.slice C0 k0 e0)).set_ 1 (.slice C1 k1 e1)
      simp only [List.set_cons_zero, List.set_cons_succ] at hRR
      obtain ⟨t0, t1⟩ := hRR.cells2
      go_wp2_with fail
      refine bodyPost_ret (v := .tuple #[.agg #[.slice C0 k0 e0, .slice C1 k1 e1], .bool false]) (by simp [results, Try.results24, go_sem, t0, t1]) rfl ?_
      rw [HE.out]
      exact ⟨_, rfl, repQu.down (repQu_res (r := w.heap.size + 1) (a := .slice C0 k0 e0) (b := .slice C1 k1 e1) hV8 hz7) (Nat.zero_le _), (bb8.setCell (p := ⟨w.heap.size + 1, 0, none⟩) (Nat.le_succ _) _).setCell (p := ⟨w.heap.size + 1, 1, none⟩) (Nat.le_succ _) _⟩
    · skip
      have hXst : storeB X = true := by
        have := (allO_store ls _ hXs hlok (by rw [HX.out])).1
        rwa [HX.out] at this
      go_wp2_with fail
      refine (storeAll_any B0 m0 d0 q.main A5 X.length c5 X w5 (hr0.next bb5).robjs hm hO5.reads (by omega) (storeB_ok hXst)).mono ?_
      rintro e w6 ⟨v6, rfl, hO6, hb6⟩
      have bb6 := below_ext bb5 hb6
      have x06 := x05.next hb6
      have x16 := x15.next hb6
      have hM6 := hM5.kept (row := none) (grown_noneQ hb6) (by simp)
      obtain ⟨z0, z1⟩ := x06.cells2
      clear hO6 y0 y1
      obtain ⟨ok2, HY⟩ : ∃ ok2, Hid ((allO q.main X).2 = ok2) := ⟨_, Lib.hid rfl⟩
      rw [HY.out]
      clear z0 z1
      obtain ⟨w7, hrun, hM7, hg7⟩ := hM6.update intK Try.underlying76 (by simp only [maxLen]; omega) hkey (show RH (.slice A5 X.length c5) = some (.held (.slice A5 X.length c5), []) from rfl)
      have hkl : (l.map (·.1)).Pairwise (· < ·) := by rw [parts_keys hA3]; exact HP.out.1
      rw [put_ars hkl] at hM7
      have x07 := x06.grown hg7 n0
      have x17 := x16.grown hg7 n1
      have bb7 : Below w.heap.size w w7 := grownBelowQ bb6 hg7 (by omega)
      have hA7 : AV w7 gm (gm + 1) (Iv (gm + 1) w3.heap.size) l q.ars := Parts.kept hA3 fun b hb hne => (hg7.block b (Nat.lt_of_lt_of_le hb.2 (Nat.le_trans hb5.size hb6.size)) (fun e => hne (by injection e))).trans ((hb6.block b (Nat.lt_of_lt_of_le hb.2 hb5.size)).trans (hb5.block b hb.2))
      have hz7 : w.heap.size + 1 < w7.heap.size := Nat.lt_of_lt_of_le (by omega : w.heap.size + 1 < w3.heap.size) (Nat.le_trans (Nat.le_trans hb5.size hb6.size) hg7.size)
      have hL7 := hM7.len Try.underlying76 3
      obtain ⟨r0, r1⟩ := x17.cells2
      have f0 := x17.frozen 0
      have f1 := x17.frozen 1
      obtain ⟨z0, z1⟩ := x07.cells2
      cases ok2
      · skip
        have HE := Lib.hid (show qputQ q t ls = (q, false) by unfold qputQ; rw [if_pos HC.out, HX.out]; simp [HY.out])
        go_wp2_with fail
        refine (copyQuarantine_any _ q w7 (repQu.next hv bb7) hq).mono ?_
        rintro e w8 ⟨cs8, rfl, hV8, hb8⟩
        obtain ⟨C0, k0, e0, C1, k1, e1, rfl, -, -, -, -⟩ := repQu_cells hV8
        have bb8 := below_ext bb7 hb8
        have x18 := x17.next hb8
        obtain ⟨s0, s1⟩ := x18.cells2
        have g0 := x18.frozen 0
        have g1 := x18.frozen 1
        have hRR := (x18.set_ 0 (.slice C0 k0 e0)).set_ 1 (.slice C1 k1 e1)
        simp only [List.set_cons_zero, List.set_cons_succ] at hRR
        obtain ⟨t0, t1⟩ := hRR.cells2
        go_wp2_with fail
        refine bodyPost_ret (v := .tuple #[.agg #[.slice C0 k0 e0, .slice C1 k1 e1], .bool false]) (by simp [results, Try.results24, go_sem, t0, t1]) rfl ?_
        rw [HE.out]
        exact ⟨_, rfl, repQu.down (repQu_res (r := w.heap.size + 1) (a := .slice C0 k0 e0) (b := .slice C1 k1 e1) hV8 hz7) (Nat.zero_le _), (bb8.setCell (p := ⟨w.heap.size + 1, 0, none⟩) (Nat.le_succ _) _).setCell (p := ⟨w.heap.size + 1, 1, none⟩) (Nat.le_succ _) _⟩
      · skip
        have hAR := AR.of hA7
        have hsz : (triL t (.slice A5 X.length c5) l).length = (tri t X q.ars).length := by
          have h1 := congrArg List.length hAR.keys
          unfold triL tri
          have h2 := ((hAR.filter fun z => decide (z < t)).len)
          have h3 := ((hAR.filter fun z => decide (t < z)).len)
          simp only [List.length_append, List.length_cons]
          omega
        have hsz2 : Maps.size (arsD (triL t (.slice A5 X.length c5) l)) = (tri t X q.ars).length := by
          rw [← hsz]
          simp [Maps.size, arsD]
        rw [hsz2] at hL7
        have HT := Lib.hid (tri_len (t := t) (X := X) (List.pairwise_map.1 HP.out.1))
        clear hsz2 hsz
        by_cases h5 : 4 < (tri t X q.ars).length
        · skip
          have hgt : decide (((tri t X q.ars).length : Int) > 4) = true := decide_eq_true (by omega)
          have hgt2 : decide (4 < ((tri t X q.ars).length : Int)) = true := decide_eq_true (by omega)
          have hgt3 : decide (4 < (tri t X q.ars).length) = true := decide_eq_true h5
          have HE := Lib.hid (show qputQ q t ls = (q, false) by
            have h1 := HT.out
            have h2 : (findA q.ars t).isNone = true ∧ 4 ≤ q.ars.length := by
              rw [findA_none_any]
              cases ha : q.ars.any (fun a => decide (a.t = t))
              · rw [ha] at h1
                simp only [Bool.false_eq_true, if_false] at h1
                exact ⟨rfl, by omega⟩
              · rw [ha] at h1
                simp only [if_true] at h1
                omega
            unfold qputQ
            rw [if_pos HC.out, HX.out]
            simp only [HY.out, h2.1, decide_eq_true h2.2]
            simp)
          clear h5
          go_wp2_with fail
          refine (copyQuarantine_any _ q w7 (repQu.next hv bb7) hq).mono ?_
          rintro e w8 ⟨cs8, rfl, hV8, hb8⟩
          obtain ⟨C0, k0, e0, C1, k1, e1, rfl, -, -, -, -⟩ := repQu_cells hV8
          have bb8 := below_ext bb7 hb8
          have x18 := x17.next hb8
          obtain ⟨s0, s1⟩ := x18.cells2
          have g0 := x18.frozen 0
          have g1 := x18.frozen 1
          have hRR := (x18.set_ 0 (.slice C0 k0 e0)).set_ 1 (.slice C1 k1 e1)
          simp only [List.set_cons_zero, List.set_cons_succ] at hRR
          obtain ⟨t0, t1⟩ := hRR.cells2
          go_wp2_with fail
          refine bodyPost_ret (v := .tuple #[.agg #[.slice C0 k0 e0, .slice C1 k1 e1], .bool false]) (by simp [results, Try.results24, go_sem, t0, t1]) rfl ?_
          rw [HE.out]
          exact ⟨_, rfl, repQu.down (repQu_res (r := w.heap.size + 1) (a := .slice C0 k0 e0) (b := .slice C1 k1 e1) hV8 hz7) (Nat.zero_le _), (bb8.setCell (p := ⟨w.heap.size + 1, 0, none⟩) (Nat.le_succ _) _).setCell (p := ⟨w.heap.size + 1, 1, none⟩) (Nat.le_succ _) _⟩
        · skip
          have hgt : decide (((tri t X q.ars).length : Int) > 4) = false := decide_eq_false (by omega)
          have hgt2 : decide (4 < ((tri t X q.ars).length : Int)) = false := decide_eq_false (by omega)
          have hgt3 : decide (4 < (tri t X q.ars).length) = false := decide_eq_false h5
          have HE := Lib.hid (show qputQ q t ls = (⟨q.main, tri t X q.ars⟩, true) by
            have h1 := HT.out
            have h2 : ((findA q.ars t).isNone && decide (4 ≤ q.ars.length)) = false := by
              rw [findA_none_any]
              cases ha : q.ars.any (fun a => decide (a.t = t))
              · rw [ha] at h1
                simp only [Bool.false_eq_true, if_false] at h1
                rw [decide_eq_false (by omega)]
                rfl
              · rfl
            have h3 : (qputQ q t ls).2 = true := by
              unfold qputQ
              rw [if_pos HC.out, HX.out]
              simp only [HY.out, h2]
              simp
            have := (qputQ_yes h3).2.2.2.2.2.2.2
            rw [this, HX.out])
          have h5' : (tri t X q.ars).length ≤ 4 := by omega
          clear h5
          go_wp2_with fail
          refine (copyObjectsS_any B0 m0 d0 q.main w7 (hr0.next bb7).robjs (by omega) hsm).mono ?_
          rintro e w8 ⟨v8, rfl, hOs8, hb8⟩
          have hO8 := hOs8.own
          obtain ⟨A8, c8, rfl, hAc8⟩ := hO8.form
          have bb8 := below_ext bb7 hb8
          have x18 := x17.next hb8
          have hM8 := hM7.kept (row := none) (grown_noneQ hb8) (by simp)
          have s5 := hb5.size
          have s6 := hb6.size
          have s7 := hg7.size
          have s8 := hb8.size
          have hX8 := (((hO5.next hb6).grownR hg7 (fun g e => by injection e with e; omega)).next hb8).rsl
          have hT8 := ((hAR.down (lo' := w.heap.size + 2) (by omega)).next hb8).tri (t := t) (c := c5) (hX8.down (lo' := w.heap.size + 2) (by omega)) (by simp only [maxLen]; omega)
          have hR8 := hO8.rsl.down (lo' := w.heap.size + 2) (by omega)
          clear hOs8
          go_wp2_with fail
          refine (quarantineOf_any A8 m0 c8 gm _ _ w8 hM8 (by rw [hT8.len]; omega) (by rw [hT8.keys]; exact List.pairwise_map.2 (tri_sorted (List.pairwise_map.1 HP.out.1))) (fun p hp => by
            have h1 : p.1 ∈ (tri t X q.ars).map (·.t) := by rw [← hT8.keys]; exact List.mem_map_of_mem hp
            obtain ⟨a, ha, e⟩ := List.mem_map.1 h1
            rw [← e]
            rcases tri_mem ha with ha | rfl
            · exact HP.out.2 a ha
            · exact htn) hT8.slices).mono ?_
          rintro e w9 ⟨C9, d9, rfl, hrow, hb9⟩
          have bb9 := below_ext bb8 hb9
          have x19 := x18.next hb9
          have hV9 := repQu.down (lo' := 0) (repQu_res (r := w.heap.size + 1) (a := .slice A8 m0 c8) (b := .slice C9 (triL t (.slice A5 X.length c5) l).length d9) (repQu_row (c := c8) (hR8.next hb9) (by simp only [maxLen]; omega) (hT8.next hb9) (by rw [hT8.len]; omega) hrow (by omega)) (by omega)) (Nat.zero_le _)
          obtain ⟨s0, s1⟩ := x19.cells2
          have g0 := x19.frozen 0
          have g1 := x19.frozen 1
          have hRR := (x19.set_ 0 (.slice A8 m0 c8)).set_ 1 (.slice C9 (triL t (.slice A5 X.length c5) l).length d9)
          simp only [List.set_cons_zero, List.set_cons_succ] at hRR
          obtain ⟨t0, t1⟩ := hRR.cells2
          go_wp2_with fail
          refine bodyPost_ret (v := .tuple #[.agg #[.slice A8 m0 c8, .slice C9 (triL t (.slice A5 X.length c5) l).length d9], .bool true]) (by simp [results, Try.results24, go_sem, t0, t1]) rfl ?_
          rw [HE.out]
          exact ⟨_, rfl, hV9, (bb9.setCell (p := ⟨w.heap.size + 1, 0, none⟩) (Nat.le_succ _) _).setCell (p := ⟨w.heap.size + 1, 1, none⟩) (Nat.le_succ _) _⟩
  · skip
    have HE := Lib.hid (show qputQ q t ls = (noQu, false) by unfold qputQ; rw [if_neg hqt])
    have hRR := (x11.set_ 0 (.slice none 0 0)).set_ 1 (.slice none 0 0)
    simp only [List.set_cons_zero, List.set_cons_succ] at hRR
    obtain ⟨t0, t1⟩ := hRR.cells2
    have hfin : ∀ w2, Below w1.heap.size w1 w2 → QPutI w (qputQ q t ls) (.returned (.tuple #[.agg #[.slice none 0 0, .slice none 0 0], .bool false])) ((w2.setCell ⟨w.heap.size + 1, 0, none⟩ (.slice none 0 0)).setCell ⟨w.heap.size + 1, 1, none⟩ (.slice none 0 0)) := by
      intro w2 hb2
      rw [HE.out]
      exact ⟨_, rfl, repQu_mk (x := noQu) (RSl.nil _) (by simp [maxLen]) (RSl.nil _) (by simp [maxLen]), ((below_ext bb1 hb2).setCell (p := ⟨w.heap.size + 1, 0, none⟩) (Nat.le_succ _) _).setCell (p := ⟨w.heap.size + 1, 1, none⟩) (Nat.le_succ _) _⟩
    have HF := Lib.hid hfin
    clear HE hfin
    cases hq : quarB q
    · skip
      go_wp2_with fail
      refine bodyPost_ret (v := .tuple #[.agg #[.slice none 0 0, .slice none 0 0], .bool false]) (by simp [results, Try.results24, go_sem, t0, t1]) rfl (HF.out _ (Below.refl _ _))
    · go_wp2_with fail
      refine (isTxn_any t w1).mono ?_
      rintro e w2 ⟨rfl, rfl⟩
      cases ht : txnB t
      · go_wp2_with fail
        refine bodyPost_ret (v := .tuple #[.agg #[.slice none 0 0, .slice none 0 0], .bool false]) (by simp [results, Try.results24, go_sem, t0, t1]) rfl (HF.out _ (Below.refl _ _))
      · have hfull : fullB ls = false := by
          rw [fullB_eq]
          rw [hq, ht] at hqt
          simpa using hqt
        go_wp2_with fail
        refine (fullStore_any D r dd ls w1 hl1 hr).mono ?_
        rintro e w2 ⟨rfl, hb2⟩
        rw [hfull]
        have x12 := x11.next hb2
        obtain ⟨s0, s1⟩ := x12.cells2
        have g0 := x12.frozen 0
        have g1 := x12.frozen 1
        have hRR2 := (x12.set_ 0 (.slice none 0 0)).set_ 1 (.slice none 0 0)
        simp only [List.set_cons_zero, List.set_cons_succ] at hRR2
        obtain ⟨p0, p1⟩ := hRR2.cells2
        go_wp2_with fail
        refine bodyPost_ret (v := .tuple #[.agg #[.slice none 0 0, .slice none 0 0], .bool false]) (by simp [results, Try.results24, go_sem, p0, p1]) rfl (HF.out _ hb2)
end Go.Proofs.Ytjofgbbofagoiaa
/- Walks: the laws' sameInts, sameObject, sameObjects. -/
namespace Go.Proofs.Ytjofgbbofagoiaa
open Go.RowKit Go.Sort

set_option maxHeartbeats 1600000 in
theorem sameInts_any (A B : Option Addr) (n c m d : Nat) (xs ys : List Int) (w : World) (hx : RInts w A n xs) (hy : RInts w B m ys) (hn : n ≤ maxLen) (hm : m ≤ maxLen) :
    Calls Try.prog 13 #[.slice A n c, .slice B m d] w fun e w' => e = .returned (.bool (eqI xs ys)) ∧ Below w.heap.size w w' := by
  unfold maxLen at hn hm
  by_cases hnm : n = m
  · subst hnm
    go_enter Try.func13, Try.ntmps13
    go_wp2
    go_loopw [5] (fun i wr => ∃ k : Nat, k ≤ n ∧ i = .int .i64 k ∧ Hid (xs.take k = ys.take k) ∧ Below w.heap.size w wr) (fun i _ => n - (intOf i).toNat)
    case atStart => exact ⟨0, Nat.zero_le _, rfl, by show _ = _; simp, Below.refl _ _⟩
    case round =>
      obtain ⟨k, hk, rfl, hasc, hbr⟩ := hrel
      by_cases hlt : k < n
      · obtain ⟨ad, x, rfl, hb, hxk, hc⟩ := (hx.below hbr (Nat.le_refl _)).at_ hlt
        obtain ⟨ad', y, rfl, hb', hyk, hc'⟩ := (hy.below hbr (Nat.le_refl _)).at_ hlt
        have hT := eq_take xs ys k (hx.1.trans hy.1.symm) x y hxk hyk
        have HT := Lib.hid hT
        have hcg := cell_regrown hc
        have hcg' := cell_regrown hc'
        clear hT hxk hyk
        cases he : (x != y)
        · have hxy : x = y := by simpa using he
          go_wp2
          refine wp_region_ext (by kernel_rfl) (by kernel_rfl) ?_
          repeat (go_big_quiet_step (fail))
          refine wpQuiet_nil ?_
          intro w1 hb1
          go_wp2
          go_roundw
          case rel => exact ⟨k + 1, by omega, by go_num, HT.out.2 ⟨hasc.out, hxy⟩, below_ext hbr hb1⟩
          case measure => simp [intOf]; omega
        · have hxy : x ≠ y := by simpa using he
          go_wp2
          refine wp_region_ext (by kernel_rfl) (by kernel_rfl) ?_
          repeat (go_big_quiet_step (fail))
          refine wpQuiet_nil ?_
          intro w1 hb1
          go_wp2
          go_ret
          exact ⟨ret_bool (by
            have : xs ≠ ys := fun hh => hxy ((HT.out.1 (by rw [hh])).2)
            simp [eqI, this]), below_ext hbr hb1⟩
      · obtain rfl : k = n := by omega
        rw [List.take_of_length_le (by rw [hx.1]; exact Nat.le_refl _), List.take_of_length_le (by rw [hy.1]; exact Nat.le_refl _)] at hasc
        go_wp2
        go_ret
        exact ⟨ret_bool (by simp [eqI, hasc.out]), hbr⟩
  · have hne : ((n : Int) != (m : Int)) = true := by simp; omega
    have : xs ≠ ys := fun hh => hnm (by rw [← hx.1, ← hy.1, hh])
    go_enter Try.func13, Try.ntmps13
    go_wp2
    go_ret
    exact ⟨ret_bool (by simp [eqI, this]), Below.refl _ _⟩

set_option maxHeartbeats 1600000 in
theorem sameObject_any (k k' : Int) (A B : Option Addr) (n c m d : Nat) (xs ys : List Int) (t t' : ByteArray) (w : World) (hx : RInts w A n xs) (hy : RInts w B m ys) (hn : n ≤ maxLen) (hm : m ≤ maxLen) :
    Calls Try.prog 76 #[.agg #[.int .i64 k, .slice A n c, .string t], .agg #[.int .i64 k', .slice B m d, .string t']] w fun e w' => e = .returned (.bool ((k == k') && eqI xs ys && (t.toList == t'.toList))) ∧ Below w.heap.size w w' := by
  have h1 := fun (o o' : Obj) => hx.below (below_box2 w o o') (Nat.le_refl _)
  have h2 := fun (o o' : Obj) => hy.below (below_box2 w o o') (Nat.le_refl _)
  cases hk : (k == k')
  · go_enter Try.func76, Try.ntmps76
    go_wp2
    go_ret
    exact ⟨ret_bool (by simp), below_box2 _ _ _⟩
  · cases ht : (t.toList == t'.toList)
    · go_enter Try.func76, Try.ntmps76
      go_wp2
      go_ret
      exact ⟨ret_bool (by simp), below_box2 _ _ _⟩
    · go_enter Try.func76, Try.ntmps76
      go_wp2_with (go_at_call 13; refine (sameInts_any _ _ _ _ _ _ xs ys _ (h1 _ _) (h2 _ _) hn hm).mono ?_; rintro e w1 ⟨rfl, hb⟩; obtain ⟨hc, hf⟩ := bcell hb)
      go_ret
      exact ⟨ret_bool (by simp), below_ext (below_box2 _ _ _) hb⟩
set_option maxHeartbeats 1600000 in
theorem sameObjects_any (A B : Option Addr) (n c m d : Nat) (xs ys : List Ob) (w : World) (hx : RObjs w A n xs) (hy : RObjs w B m ys) (hn : n ≤ maxLen) (hm : m ≤ maxLen) :
    Calls Try.prog 36 #[.slice A n c, .slice B m d] w fun e w' => e = .returned (.bool (eqOs xs ys)) ∧ Below w.heap.size w w' := by
  unfold maxLen at hn hm
  by_cases hnm : n = m
  · subst hnm
    go_enter Try.func36, Try.ntmps36
    go_wp2
    go_loopw [5] (fun i wr => ∃ k : Nat, k ≤ n ∧ i = .int .i64 k ∧ Hid (eqOs (xs.take k) (ys.take k) = true) ∧ Below w.heap.size w wr) (fun i _ => n - (intOf i).toNat)
    case atStart => exact ⟨0, Nat.zero_le _, rfl, by show _ = _; simp [eqOs], Below.refl _ _⟩
    case round =>
      obtain ⟨k, hk, rfl, hasc, hbr⟩ := hrel
      by_cases hlt : k < n
      · obtain ⟨b, off, o, rfl, hb, hxk, hob⟩ := (hx.next hbr).at_ hlt
        obtain ⟨b', off', o', rfl, hb', hyk, hob'⟩ := (hy.next hbr).at_ hlt
        obtain ⟨B, p, q, c0, c1, c2, hri, hp, ht⟩ := hob
        obtain ⟨B', p', q', d0, d1, d2, hri', hp', ht'⟩ := hob'
        have HT := Lib.hid (eqOs_take xs ys k o o' hxk hyk)
        have HF := Lib.hid (fun hh => eqOs_of_take xs ys (k+1) hh)
        clear hxk hyk
        cases he : eqO o o'
        · unfold eqO at he
          go_wp2
          have g0 := cell_regrown c0
          have g1 := cell_regrown c1
          have g2 := cell_regrown c2
          have k0 := cell_regrown d0
          have k1 := cell_regrown d1
          have k2 := cell_regrown d2
          clear c0 c1 c2 d0 d1 d2
          refine wp_region_ext (by kernel_rfl) (by kernel_rfl) ?_
          repeat (go_big_quiet_step ((go_at_call 76; exact rg_below (sameObject_any _ _ _ _ _ _ _ _ o.xs o'.xs _ _ _ (hri.regrown _ _) (hri'.regrown _ _) hp hp'))))
          refine wpQuiet_nil ?_
          intro w1 hb1
          go_wp2
          go_ret
          exact ⟨ret_bool (by
            cases hh : eqOs xs ys
            · rfl
            · have h1 := HF.out hh
              rw [HT.out] at h1
              unfold eqO at h1
              rw [he] at h1; simp at h1), below_ext hbr hb1⟩
        · unfold eqO at he
          go_wp2
          have g0 := cell_regrown c0
          have g1 := cell_regrown c1
          have g2 := cell_regrown c2
          have k0 := cell_regrown d0
          have k1 := cell_regrown d1
          have k2 := cell_regrown d2
          clear c0 c1 c2 d0 d1 d2
          refine wp_region_ext (by kernel_rfl) (by kernel_rfl) ?_
          repeat (go_big_quiet_step ((go_at_call 76; exact rg_below (sameObject_any _ _ _ _ _ _ _ _ o.xs o'.xs _ _ _ (hri.regrown _ _) (hri'.regrown _ _) hp hp'))))
          refine wpQuiet_nil ?_
          intro w1 hb1
          go_wp2
          go_roundw
          case rel => exact ⟨k + 1, by omega, by go_num, by show _ = _; rw [HT.out, hasc.out]; exact he, below_ext hbr hb1⟩
          case measure => simp [intOf]; omega
      · obtain rfl : k = n := by omega
        rw [List.take_of_length_le (by rw [hx.1]; exact Nat.le_refl _), List.take_of_length_le (by rw [hy.1]; exact Nat.le_refl _)] at hasc
        go_wp2
        go_ret
        exact ⟨ret_bool hasc.out.symm, hbr⟩
  · have hne : ((n : Int) != (m : Int)) = true := by simp; omega
    have : eqOs xs ys = false := by
      cases hh : eqOs xs ys
      · rfl
      · exact absurd (eqOs_len _ _ hh) (by rw [hx.1, hy.1]; exact hnm)
    go_enter Try.func36, Try.ntmps36
    go_wp2
    go_ret
    exact ⟨ret_bool this.symm, Below.refl _ _⟩
end Go.Proofs.Ytjofgbbofagoiaa
/- Walk: sameQuarantine of two that hold the same. -/
namespace Go.Proofs.Ytjofgbbofagoiaa
open Go.RowKit Go.Sort

set_option maxRecDepth 100000 in
set_option maxHeartbeats 3200000 in
theorem sameQuarantine_same (cs cs' : List Value) (q : Qu) (w : World) (hv : repQu.V 0 w cs q) (hv' : repQu.V 0 w cs' q) :
    Calls Try.prog 26 #[.agg cs.toArray, .agg cs'.toArray] w fun e w' => e = .returned (.bool true) ∧ Below w.heap.size w w' := by
  obtain ⟨B0, m0, d0, B1, m1, d1, rfl, hr0, hm0, hr1, hm1⟩ := repQu_cells hv
  obtain ⟨D0, k0, e0, D1, k1, e1, rfl, hs0, hn0, hs1, hn1⟩ := repQu_cells hv'
  have hm00 := hm0
  have hm11 := hm1
  unfold maxLen at hm00 hm11
  obtain rfl : k1 = m1 := by have := hr1.1; have := hs1.1; omega
  obtain rfl : k0 = m0 := by have := hr0.1; have := hs0.1; omega
  have b0 := below_box2 w (.cells #[.slice B0 k0 d0, .slice B1 k1 d1] 26) (.cells #[.slice D0 k0 e0, .slice D1 k1 e1] 26)
  have x0 := (Blk.new w 26 [.slice B0 k0 d0, .slice B1 k1 d1]).alloc (.cells #[.slice D0 k0 e0, .slice D1 k1 e1] 26)
  have x1 : Blk ((w.alloc (.cells #[.slice B0 k0 d0, .slice B1 k1 d1] 26)).alloc (.cells #[.slice D0 k0 e0, .slice D1 k1 e1] 26)) (w.heap.size + 1) 26 [.slice D0 k0 e0, .slice D1 k1 e1] := by simpa using Blk.new (w.alloc (.cells #[.slice B0 k0 d0, .slice B1 k1 d1] 26)) 26 [.slice D0 k0 e0, .slice D1 k1 e1]
  obtain ⟨y0, y1⟩ := x0.cells2
  obtain ⟨y2, y3⟩ := x1.cells2
  have hne0 : ((k1 : Int) != (k1 : Int)) = false := by simp
  have HL := Lib.hid hr1.1
  go_enter Try.func26, Try.ntmps26
  go_wp2_with fail
  refine (sameObjects_any B0 D0 k0 d0 k0 e0 q.main q.main _ (hr0.next b0).robjs (hs0.next b0).robjs hm0 hm0).mono ?_
  rw [eqOs_refl]
  rintro e w1 ⟨rfl, hb1⟩
  have bb1 := below_ext b0 hb1
  have x01 := x0.next hb1
  have x11 := x1.next hb1
  obtain ⟨z0, z1⟩ := x01.cells2
  obtain ⟨z2, z3⟩ := x11.cells2
  clear y0 y1 y2 y3 x0 x1 b0 hb1
  go_wp2_with fail
  go_loopw [5] (fun i wr => ∃ k : Nat, k ≤ k1 ∧ i = .int .i64 k ∧ Blk wr w.heap.size 26 [.slice B0 k0 d0, .slice B1 k1 d1] ∧ Blk wr (w.heap.size + 1) 26 [.slice D0 k0 e0, .slice D1 k1 e1] ∧ Below w.heap.size w wr) (fun i _ => k1 - (intOf i).toNat)
  case atStart => exact ⟨0, Nat.zero_le _, rfl, x01, x11, bb1⟩
  case round =>
    obtain ⟨k, hk, rfl, hX, hY, hbr⟩ := hrel
    obtain ⟨u0, u1⟩ := hX.cells2
    obtain ⟨u2, u3⟩ := hY.cells2
    by_cases hlt : k < k1
    · obtain ⟨b, off, x, c1, rfl, hb, hx, hc, hvx⟩ := (hr1.next hbr).at_ hlt
      obtain ⟨b', off', x', c2, rfl, hb', hx', hc', hvx'⟩ := (hs1.next hbr).at_ hlt
      obtain rfl : x = x' := by rw [hx] at hx'; injection hx'
      obtain ⟨L, ml, dl, rfl, hl, hml⟩ := repAr_cells hvx
      obtain ⟨M, mm, dm, rfl, hl', hmm⟩ := repAr_cells hvx'
      have a0 : wr.cell? ⟨b, off + k * 2, none⟩ = some (.int .i64 x.t) := hc 0 _ rfl
      have a1 : wr.cell? ⟨b, off + k * 2 + 1, none⟩ = some (.slice L ml dl) := hc 1 _ rfl
      have a2 : wr.cell? ⟨b', off' + k * 2, none⟩ = some (.int .i64 x.t) := hc' 0 _ rfl
      have a3 : wr.cell? ⟨b', off' + k * 2 + 1, none⟩ = some (.slice M mm dm) := hc' 1 _ rfl
      have hne : (x.t != x.t) = false := by simp
      have hki : (k : Int) < (k1 : Int) := by omega
      have hbd : Below wr.heap.size wr wr.drew := (Below.refl _ _).drew
      clear hc hc' hvx hvx' hx hx'
      go_wp2_with fail
      go_region_held3 (fun w' => w'.cell? ⟨w.heap.size, 1, none⟩ = some (.slice (some ⟨b, off, none⟩) k1 d1) ∧ w'.cell? ⟨w.heap.size + 1, 1, none⟩ = some (.slice (some ⟨b', off', none⟩) k1 e1) ∧ w'.cell? ⟨b, off + k * 2, none⟩ = some (.int .i64 x.t) ∧ w'.cell? ⟨b, off + k * 2 + 1, none⟩ = some (.slice L ml dl) ∧ w'.cell? ⟨b', off' + k * 2, none⟩ = some (.int .i64 x.t) ∧ w'.cell? ⟨b', off' + k * 2 + 1, none⟩ = some (.slice M mm dm))
        (first
          | exact ⟨u1, u3, a0, a1, a2, a3⟩
          | exact ⟨(hX.next bz).cells2.2, (hY.next bz).cells2.2, (bz.cell (p := ⟨b, off + k * 2, none⟩) hb).trans a0, (bz.cell (p := ⟨b, off + k * 2 + 1, none⟩) hb).trans a1, (bz.cell (p := ⟨b', off' + k * 2, none⟩) hb').trans a2, (bz.cell (p := ⟨b', off' + k * 2 + 1, none⟩) hb').trans a3⟩)
        (first
          | (go_simp; go_at_call 36; refine (sameObjects_any L M ml dl mm dm x.os x.os _ (hl.next hbd).robjs (hl'.next hbd).robjs hml hmm).mono ?_
             rw [eqOs_refl]
             rintro e w2 ⟨rfl, hb2⟩
             have bz := below_ext hbd hb2))
      go_wp2_with fail
      go_roundw
      case rel => exact ⟨k + 1, by omega, by go_num, hX.next bz, hY.next bz, below_ext hbr bz⟩
      case measure => simp [intOf]; omega
    · obtain rfl : k = k1 := by omega
      go_wp2_with fail
      go_ret
      exact ⟨rfl, hbr⟩
end Go.Proofs.Ytjofgbbofagoiaa
/- The law FnQuarTwice, walked: for every code it answers true. -/
namespace Go.Proofs.Ytjofgbbofagoiaa
open Go.RowKit Go.Sort Go.Maps

set_option maxRecDepth 100000 in
set_option maxHeartbeats 3200000 in
theorem FnQuarTwice_walk (A : Option Addr) (n c : Nat) (w : World) (h : RBytes w w.heap.size A n ∧ n ≤ c) (hn : n ≤ maxLen) :
    Calls Try.prog 6 #[.slice A n c] w fun e w' => e = .returned (.bool true) ∧ Below w.heap.size w w' := by
  have hn0 := hn
  unfold maxLen at hn0
  by_cases hs : 1048576 < n
  · go_enter Try.func6, Try.ntmps6
    go_wp2_with fail
    go_ret
    exact ⟨rfl, Below.refl _ _⟩
  · go_enter Try.func6, Try.ntmps6
    go_wp2_with fail
    refine (DrawQuarantinePut_any A n c w h.1 hn h.2).mono ?_
    rintro e w1 ⟨cs, q, t, v, rfl, hQ, ⟨m, ls, hO, hm, hok⟩, hb1⟩
    obtain ⟨LA, ld, rfl, hmd⟩ := hO.form
    obtain ⟨RA, rn, rc, C, mm, d, rfl, hqa, hqb⟩ := id hQ
    clear hqa hqb
    have hl1 : RObjs w1 LA m ls := hO.reads
    have eb := below_box w1 (.cells #[.slice RA rn rc, .slice C mm d] 26)
    have x2 := Blk.new w1 26 [.slice RA rn rc, .slice C mm d]
    have hQ2 := (hQ.next eb).rep0
    have hl2 := hl1.next eb
    have bb2 := below_ext hb1 eb
    obtain ⟨y0, y1⟩ := x2.cells2
    clear hQ hb1 eb hl1 hO
    go_wp2_with fail
    generalize w1.alloc (.cells #[.slice RA rn rc, .slice C mm d] 26) = w2 at *
    generalize w1.heap.size = gq at *
    refine (implQuarantinePut_any _ q t LA m ld ls w2 hQ2 hl2 (by simp only [maxLen]; omega)).mono ?_
    rintro e w3 ⟨cs3, rfl, hO3, hb3⟩
    have hQ3 := repQu.next hQ2 hb3
    have hl3 := hl2.next hb3
    have x3 := x2.next hb3
    have bb3 := below_ext bb2 hb3
    clear hQ2 hl2 x2 y0 y1 bb2 hb3
    obtain ⟨OA, om, od, OC, on, oe, rfl, -⟩ := repQu_cells hO3
    have eb := below_box w3 (.cells #[.slice OA om od, .slice OC on oe] 26)
    have xo := Blk.new w3 26 [.slice OA om od, .slice OC on oe]
    have x4 := x3.next eb
    have hO4 := repQu.next hO3 eb
    have hQ4 := repQu.next hQ3 eb
    have hl4 := hl3.next eb
    have bb4 := below_ext bb3 eb
    obtain ⟨y0, y1⟩ := x4.cells2
    clear hO3 hQ3 hl3 x3 eb bb3
    go_wp2_with fail
    generalize w3.alloc (.cells #[.slice OA om od, .slice OC on oe] 26) = w4 at *
    generalize w3.heap.size = go at *
    refine (specQuarantinePut_any _ q t LA m ld ls w4 hQ4 hl4 (by simp only [maxLen]; omega)).mono ?_
    rintro e w5 ⟨cs5, rfl, hS5, hb5⟩
    have hW5 := hS5.rep0
    have hO5 := repQu.next hO4 hb5
    have hl5 := hl4.next hb5
    have xo5 := xo.next hb5
    have bb5 := below_ext bb4 hb5
    clear hS5 hO4 hQ4 hl4 x4 xo y0 y1 bb4 hb5
    obtain ⟨WA, wm, wd, WC, wn, we, rfl, -⟩ := repQu_cells hW5
    have eb := below_box w5 (.cells #[.slice WA wm wd, .slice WC wn we] 26)
    have xw := Blk.new w5 26 [.slice WA wm wd, .slice WC wn we]
    have hW6 := repQu.next hW5 eb
    have hO6 := repQu.next hO5 eb
    have hl6 := hl5.next eb
    have xo6 := xo5.next eb
    have bb6 := below_ext bb5 eb
    obtain ⟨z0, z1⟩ := xo6.cells2
    obtain ⟨u0, u1⟩ := xw.cells2
    clear hW5 hO5 hl5 xo5 eb bb5
    have hnw : ∀ b : Bool, (b != b) = false := fun b => by cases b <;> rfl
    have hne := hnw (qputQ q t ls).2
    have hee : ((qputQ q t ls).2 == (qputQ q t ls).2) = true := by simp
    go_wp2_with fail
    refine (sameQuarantine_same _ _ (qputQ q t ls).1 _ hO6 hW6).mono ?_
    rintro e w7 ⟨rfl, hb7⟩
    have hO7 := repQu.next hO6 hb7
    have hW7 := repQu.next hW6 hb7
    have hl7 := hl6.next hb7
    have xo7 := xo6.next hb7
    have xw7 := xw.next hb7
    have bb7 := below_ext bb6 hb7
    clear hO6 hW6 hl6 xo6 bb6 hb7 z0 z1 u0 u1 xw
    obtain ⟨z0, z1⟩ := xo7.cells2
    obtain ⟨u0, u1⟩ := xw7.cells2
    generalize w5.heap.size = gw at *
    by_cases hB : (qputQ q t ls).2 = true
    · have hag := qputQ_again hB
      have HG := Lib.hid hag.1
      have HE := Lib.hid hag.2
      generalize hR : (qputQ q t ls).1 = R at *
      clear hR hag hW7 xw7 u0 u1
      rw [hB] at hee hne ⊢
      go_wp2_with fail
      refine (implQuarantinePut_any _ R t LA m ld ls w7 hO7 hl7 (by simp only [maxLen]; omega)).mono ?_
      unfold QPutI
      rw [HE.out]
      rintro e w8 ⟨cs8, rfl, hX8, hb8⟩
      have hO8 := repQu.next hO7 hb8
      have xo8 := xo7.next hb8
      have bb8 := below_ext bb7 hb8
      clear hO7 xo7 bb7 hb8 hl7 z0 z1
      obtain ⟨XA, xm, xd, XC, xn, xe, rfl, -⟩ := repQu_cells hX8
      have eb := below_box w8 (.cells #[.slice XA xm xd, .slice XC xn xe] 26)
      have xx := Blk.new w8 26 [.slice XA xm xd, .slice XC xn xe]
      have hX9 := repQu.next hX8 eb
      have hO9 := repQu.next hO8 eb
      have xo9 := xo8.next eb
      have bb9 := below_ext bb8 eb
      obtain ⟨z0, z1⟩ := xo9.cells2
      obtain ⟨u0, u1⟩ := xx.cells2
      clear hX8 hO8 xo8 eb bb8
      go_wp2_with fail
      refine (sameQuarantine_same _ _ R _ hX9 hO9).mono ?_
      rintro e w10 ⟨rfl, hb10⟩
      have hO10 := repQu.next hO9 hb10
      have xo10 := xo9.next hb10
      have bb10 := below_ext bb9 hb10
      clear hX9 hO9 z0 z1 u0 u1
      obtain ⟨z0, z1⟩ := xo10.cells2
      go_wp2_with fail
      refine (implQuarantineValid_any _ R w10 hO10).mono ?_
      rw [HG.out]
      rintro e w11 ⟨rfl, hb11⟩
      go_wp2_with fail
      go_ret
      exact ⟨rfl, below_ext bb10 hb11⟩
    · have hB' : (qputQ q t ls).2 = false := by simpa using hB
      rw [hB'] at hee hne ⊢
      go_wp2_with fail
      refine (sameQuarantine_same _ _ (qputQ q t ls).1 _ hO7 hW7).mono ?_
      rintro e w8 ⟨rfl, hb8⟩
      go_wp2_with fail
      go_ret
      exact ⟨rfl, below_ext bb7 hb8⟩
end Go.Proofs.Ytjofgbbofagoiaa
/- The statement FnQuarTwiceSaid: for every input FnQuarTwice answers true and leaves its arguments as they were. No condition. -/
namespace Go.Proofs.Ytjofgbbofagoiaa
open Go.ChangeShapes Go.WideShapes Go.ChangeAt Go.RowKit Go.Joins Go.Deep

theorem Try.own : ownKnob Try.prog.godebug = none := by kernel_rfl
theorem Try.laidOut : laidOutB Try.prog = true := by kernel_rfl
theorem Try.cellsByte : Try.prog.cellsOf 5 = 1 := by kernel_rfl

set_option maxRecDepth 100000 in
theorem FnQuarTwice_lifted (os : Os) (started : os.Started) (H : Type) (enc : TypeId × Value → H) :
    ReturnsInHanded {} Try.checked os 6 .any (Rows.fnQuarTwiceSpec.pre6 enc Try.prog Try.f6 Rows.fnQuarTwiceRow.domain false) (Rows.fnQuarTwiceSpec.post enc Try.prog Try.f6 false true false false) := by
  refine returnsInHanded_of_change (C := Try.checked) Try.own started (by kernel_rfl) Try.func6
    (ChangeSpec.witness6 (enc := enc) (C := Try.checked) false ⟨#[], #[.slice none 0 0], []⟩ 8 (by kernel_rfl) (by kernel_rfl) (by kernel_rfl) (by kernel_rfl)) ?_
  intro W base args ds gs before hval0 hW _ _
  have hval : ∀ (j : Nat) t v, Try.f6.params[j]? = some t → args[j]? = some v → Value.okWide Try.prog W .any base t v := hval0
  have hW' := hW
  obtain ⟨p, q, hA0, hV, rfl, _, _⟩ := hW
  have hA : DataW.TrodAll enc Try.prog W 0 (fun _ => true) true Try.f6.params.toList args.toList ds p := hA0
  rw [Try.params6] at hA hval
  obtain ⟨v0, d0, rfl, rfl, h0⟩ := trodAll_one hA
  obtain ⟨rfl, rfl⟩ := trodVars_none hV
  obtain ⟨A0, n0, c0, rfl, hr0, hn0⟩ := open_bytes Try.underlying22 Try.underlying5 Try.cellsByte (hval 0 _ v0 rfl rfl) h0
  clear hA0 hval0
  simp only [List.append_nil] at hW'
  have hlt : ∀ x ∈ p, x.block < W.heap.size := fun x hx => hW'.lt x (by simpa using hx)
  refine (FnQuarTwice_walk A0 n0 c0 W hr0 hn0).mono fun e W' ⟨he, hb⟩ => ?_
  subst he
  exact ⟨_, rfl, post_of_below (pa := p) (pv := []) hW' (fun _ _ _ => trodAll_mk1 (shut_bool Try.underlying4 true))
    (fun sp hsp => trodAll_mk1 (arg_stays Try.laidOut (by kernel_rfl) (of_decide_eq_true (by kernel_rfl)) h0 hb hlt hsp)) (fun _ _ => rfl) (by simp) hb
    (ok_one (by kernel_rfl) rfl (okWide_bool_mk Try.underlying4 true))⟩

theorem FnQuarTwice_holds : Rows.FnQuarTwiceSaid :=
  OpenClaim.holds_of_wide 6 Try.f6 rfl rfl rfl rfl rfl rfl rfl ⟨rfl, rfl, rfl, rfl, rfl⟩ rfl rfl rfl rfl rfl (by kernel_rfl) Try.func6 (by kernel_rfl)
    (of_decide_eq_true (by kernel_rfl)) (by unfold Func.isWrapper; rw [if_neg (of_decide_eq_false (by kernel_rfl))]; exact ⟨rfl, rfl⟩)
    (fun os started H enc _ => FnQuarTwice_lifted os started H enc)
end Go.Proofs.Ytjofgbbofagoiaa
