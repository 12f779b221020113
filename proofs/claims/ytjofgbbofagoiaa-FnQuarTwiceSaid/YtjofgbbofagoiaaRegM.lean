/- Law: a region whose order is drawn, with loads that are taken first under a condition that holds until operation m has come up. -/
import Derived.Deep.RegionHeld3
import Derived.Test.YtjofgbbofagoiaaApp
import Derived.WalkSpells
import Derived.WalkLawsBesides
import Derived.Handy
namespace Go.Proofs.Ytjofgbbofagoiaa
open Go.RowKit

/-- p, until b -/
def until_ (b : Bool) (p : Prop) : Prop := b = false → p
section
variable {P : Program} {ops : Array Oper} {Q : Exit → Act → World → Prop} {md : Region.Mode} {S : Bool → World → Prop} {m : Nat}

/-- Whatever order is picked from here on; behind each operation S holds, its strong form until m has come up. -/
def wpAnyL (P : Program) (md : Region.Mode) (ops : Array Oper) (Q : Exit → Act → World → Prop) (S : Bool → World → Prop) (m : Nat) : Nat → Array Bool → Act → World → Prop
  | 0, listed, a, w => Region.ready md ops listed = [] ∧ Q .normal a w
  | fuel + 1, listed, a, w =>
    (Region.ready md ops listed = [] → Q .normal a w) ∧
    ∀ i ∈ Region.ready md ops listed, wpOp P ops Q i (fun a' w' => S ((listed.setIfInBounds i true).getD m true) w' ∧ wpAnyL P md ops Q S m fuel (listed.setIfInBounds i true) a' w') a w

theorem wpAny_of_L : ∀ (fuel : Nat) (listed : Array Bool) (a : Act) (w : World), wpAnyL P md ops Q S m fuel listed a w → wpAny P md ops Q fuel listed a w
  | 0, _, _, _, h => h
  | fuel + 1, _, _, _, h => ⟨h.1, fun i hi => wpOp_mono (fun a' w' h' => wpAny_of_L fuel _ a' w' h'.2) (h.2 i hi)⟩

theorem wpAnyL_first {i : Nat} {oi : Oper} {v : Value} {S0 : World → Prop} (hi : ops[i]? = some oi) (hsel : ∀ (j : Nat) (o : Oper) cs b, ops[j]? = some o → o.op ≠ .select cs b)
    (hQ : ∀ c a w, Q (.panic c) (a.put oi.dst v) w → Q (.panic c) a w) (him : i ≠ m) (hS0 : ∀ b w, S b w → ((∃ om, ops[m]? = some om ∧ ∃ e ∈ om.after, Region.binds md e = true ∧ e.on = i) → b = false) → S0 w) :
    ∀ (fuel : Nat) (listed : Array Bool) (a : Act) (w : World),
      (∀ j oj, ops[j]? = some oj → j ≠ i → listed.getD j true = false → (∀ e ∈ oj.after, Region.binds md e = true → e.on ≠ i) → oi.apart ops oj = true) →
      ((∃ om, ops[m]? = some om ∧ ∃ e ∈ om.after, Region.binds md e = true ∧ e.on = i) → listed.getD m true = false) →
      i ∈ Region.ready md ops listed → YieldsIf P ops S0 oi v a → S (listed.getD m true) w →
      wpAnyL P md ops Q S m fuel (listed.setIfInBounds i true) (a.put oi.dst v) w → wpAnyL P md ops Q S m (fuel + 1) listed a w := by
  intro fuel
  induction fuel with
  | zero =>
    intro listed a w _ hm hr hy hS H
    refine ⟨fun h => (by rw [h] at hr; cases hr), fun j hj => ?_⟩
    by_cases hji : j = i
    · subst hji; exact hy.wpOp hi (hS0 _ _ hS hm) ⟨by rw [getD_set_ne true him]; exact hS, H⟩
    · have := ready_mono hj hji
      rw [H.1] at this
      cases this
  | succ fuel ih =>
    intro listed a w hfree hm hr hy hS H
    refine ⟨fun h => (by rw [h] at hr; cases hr), fun j hj => ?_⟩
    by_cases hji : j = i
    · subst hji; exact hy.wpOp hi (hS0 _ _ hS hm) ⟨by rw [getD_set_ne true him]; exact hS, H⟩
    · have h1 := H.2 j (ready_mono hj hji)
      obtain ⟨hjun, oj, hoj, hall⟩ := mem_ready.1 hj
      have hnot : ∀ e ∈ oj.after, Region.binds md e = true → e.on ≠ i := fun e he hb heq => by
        have h1 := hall e he hb
        have h0 := (mem_ready.1 hr).1
        rw [heq] at h1
        rcases Nat.lt_or_ge i listed.size with h' | h'
        · simp [h'] at h0 h1; rw [h0] at h1; cases h1
        · simp [Array.getElem?_eq_none h'] at h1
      have h2 := wpOp_putIf hoj (hfree j oj hoj hji hjun hnot) (fun cs b => hsel i oi cs b hi) (fun cs b => hsel j oj cs b hoj) hQ hy h1
      have hfree' : ∀ k ok, ops[k]? = some ok → k ≠ i → (listed.setIfInBounds j true).getD k true = false →
          (∀ e ∈ ok.after, Region.binds md e = true → e.on ≠ i) → oi.apart ops ok = true := fun k ok hk hki hun hno => by
        refine hfree k ok hk hki ?_ hno
        by_cases hjk : j = k
        · subst hjk; exact hjun
        · rw [getD_set_ne true hjk] at hun; exact hun
      have hm' : (∃ om, ops[m]? = some om ∧ ∃ e ∈ om.after, Region.binds md e = true ∧ e.on = i) → (listed.setIfInBounds j true).getD m true = false := fun h => by
        have hjm : j ≠ m := fun e => by
          subst e
          obtain ⟨om, ho, e, he, hb, heq⟩ := h
          rw [hoj] at ho
          injection ho with ho
          subst ho
          exact hnot e he hb heq
        rw [getD_set_ne true hjm]
        exact hm h
      refine wpOp_mono (fun a' w' h3 => ?_) h2
      have hSS : S ((listed.setIfInBounds j true).getD m true) w' := by
        have := h3.2.1
        rw [Array.setIfInBounds_comm _ _ (Ne.symm hji), getD_set_ne true him] at this
        exact this
      refine ⟨hSS, ih (listed.setIfInBounds j true) a' w' hfree' hm' (ready_mono hr (Ne.symm hji)) h3.1 hSS ?_⟩
      rw [Array.setIfInBounds_comm _ _ hji]
      exact h3.2.2

/-- does m wait for i -/
def waitsFor (md : Region.Mode) (ops : Array Oper) (m i : Nat) : Bool := ((ops[m]?).map fun o => o.after.any fun e => Region.binds md e && e.on == i).getD false

theorem waits_of {i : Nat} (h : waitsFor md ops m i = false) : ¬ ∃ om, ops[m]? = some om ∧ ∃ e ∈ om.after, Region.binds md e = true ∧ e.on = i := by
  rintro ⟨om, ho, e, he, hb, heq⟩
  unfold waitsFor at h
  rw [ho] at h
  simp only [Option.map_some, Option.getD_some, ← Bool.not_eq_true, Array.any_eq_true'] at h
  exact h ⟨e, he, by simp [hb, heq]⟩

/-- Take number i first: what it yields hangs on nothing that S's weak form does not give. -/
theorem wpAnyL_take {i : Nat} {oi : Oper} {v : Value} {S0 : World → Prop} {fuel : Nat} {listed : Array Bool} {a : Act} {w : World} (hi : ops[i]? = some oi)
    (hs : Region.noSelect ops = true) (hf : Region.free md ops listed i = true) (hr : (Region.ready md ops listed).contains i = true) (him : (i != m) = true)
    (hQ : ∀ c a w, Q (.panic c) (a.put oi.dst v) w → Q (.panic c) a w) {b : Bool} (hb : listed.getD m true = b) (hS : S b w) (hS0 : ∀ b w, S b w → S0 w) (hy : YieldsIf P ops S0 oi v a)
    (hn : waitsFor md ops m i = false)
    (h : wpAnyL P md ops Q S m fuel (listed.setIfInBounds i true) (a.put oi.dst v) w) : wpAnyL P md ops Q S m (fuel + 1) listed a w :=
  wpAnyL_first hi (Region.noSelect_spec hs) hQ (by simpa using him) (fun b w hb _ => hS0 b w hb) fuel listed a w (Region.free_spec hi hf) (fun h => absurd h (waits_of hn)) (by simpa using hr) hy (by rw [hb]; exact hS) h

/-- Take number i first, for which m waits: under S's strong form. -/
theorem wpAnyL_takeS {i : Nat} {oi : Oper} {v : Value} {fuel : Nat} {listed : Array Bool} {a : Act} {w : World} (hi : ops[i]? = some oi)
    (hs : Region.noSelect ops = true) (hf : Region.free md ops listed i = true) (hr : (Region.ready md ops listed).contains i = true) (him : (i != m) = true)
    (hQ : ∀ c a w, Q (.panic c) (a.put oi.dst v) w → Q (.panic c) a w) (hS : S false w) (hw : waitsFor md ops m i = true) (hm : listed.getD m true = false) (hy : YieldsIf P ops (S false) oi v a)
    (h : wpAnyL P md ops Q S m fuel (listed.setIfInBounds i true) (a.put oi.dst v) w) : wpAnyL P md ops Q S m (fuel + 1) listed a w :=
  wpAnyL_first hi (Region.noSelect_spec hs) hQ (by simpa using him) (fun b w hb hh => by
    have : b = false := hh (by
      unfold waitsFor at hw
      cases ho : ops[m]? with
      | none => rw [ho] at hw; simp at hw
      | some om =>
        rw [ho] at hw
        simp only [Option.map_some, Option.getD_some, Array.any_eq_true'] at hw
        obtain ⟨e, he, hb⟩ := hw
        simp only [Bool.and_eq_true, beq_iff_eq] at hb
        exact ⟨om, rfl, e, he, hb.1, hb.2⟩)
    rw [← this]; exact hb) fuel listed a w (Region.free_spec hi hf) (fun _ => hm) (by simpa using hr) hy (by rw [hm]; exact hS) h

/-- Each of the operations 'rs' comes up next; behind it S holds. -/
def AllReadyL (P : Program) (md : Region.Mode) (ops : Array Oper) (Q : Exit → Act → World → Prop) (S : Bool → World → Prop) (m fuel : Nat) (listed : Array Bool) (a : Act) (w : World) (rs : List Nat) : Prop :=
  ∀ i ∈ rs, wpOp P ops Q i (fun a' w' => S ((listed.setIfInBounds i true).getD m true) w' ∧ wpAnyL P md ops Q S m fuel (listed.setIfInBounds i true) a' w') a w
theorem AllReadyL.nil {fuel : Nat} {listed : Array Bool} {a : Act} {w : World} : AllReadyL P md ops Q S m fuel listed a w [] := fun _ h => by cases h
theorem AllReadyL.cons {fuel : Nat} {listed : Array Bool} {a : Act} {w : World} {i : Nat} {o : Oper} {rs : List Nat} {b : Bool} (ho : ops[i]? = some o) (hb : (listed.setIfInBounds i true).getD m true = b)
    (h : ∀ K' : Act → World → Prop, Shut (∀ a w, S b w → (S b w → wpAnyL P md ops Q S m fuel (listed.setIfInBounds i true) a w) → K' a w) → if Region.wanted o (yielded ops a.tmps) = true then Oper.wp P o a w K' Q else K' (a.put o.dst undef) w)
    (hs : AllReadyL P md ops Q S m fuel listed a w rs) : AllReadyL P md ops Q S m fuel listed a w (i :: rs) := fun j hj => by
  subst hb
  rcases List.mem_cons.1 hj with rfl | hj
  · exact wpOp_step ho (fun K' hK => h K' (fun a w hS hW => hK a w ⟨hS, hW hS⟩))
  · exact hs j hj
theorem wpAnyL_ready {rs : List Nat} {fuel : Nat} {listed : Array Bool} {a : Act} {w : World} (hr : Region.ready md ops listed = rs) (hne : rs.isEmpty = false)
    (h : AllReadyL P md ops Q S m fuel listed a w rs) : wpAnyL P md ops Q S m (fuel + 1) listed a w :=
  ⟨fun h0 => by rw [hr] at h0; subst h0; simp at hne, hr ▸ h⟩
theorem wpAnyL_done {listed : Array Bool} {a : Act} {w : World} (hr : Region.ready md ops listed = []) (h : Q .normal a w) : ∀ fuel, wpAnyL P md ops Q S m fuel listed a w
  | 0 => ⟨hr, h⟩
  | _ + 1 => ⟨fun _ => h, by rw [hr]; simp⟩
theorem wp_region_L {id : Nat} {a : Act} {w : World} (S : Bool → World → Prop) (m : Nat) (hm : P.follows .mixedOrders = true) (hS : S false w.drew)
    (h : S false w.drew → wpAnyL P .any ops Q S m ops.size (Array.replicate ops.size false) a w.drew) : (Code.region id ops true).wp P Q a w :=
  wp_region_any hm (wpAny_of_L _ _ _ _ (h hS))
end
theorem op0 {x0 : Oper} {r : List Oper} : (List.toArray (x0 :: r))[0]? = some x0 := rfl
theorem op1 {x0 x1 : Oper} {r : List Oper} : (List.toArray (x0 :: x1 :: r))[1]? = some x1 := rfl
theorem op2 {x0 x1 x2 : Oper} {r : List Oper} : (List.toArray (x0 :: x1 :: x2 :: r))[2]? = some x2 := rfl
theorem op3 {x0 x1 x2 x3 : Oper} {r : List Oper} : (List.toArray (x0 :: x1 :: x2 :: x3 :: r))[3]? = some x3 := rfl
theorem op4 {x0 x1 x2 x3 x4 : Oper} {r : List Oper} : (List.toArray (x0 :: x1 :: x2 :: x3 :: x4 :: r))[4]? = some x4 := rfl
theorem op5 {x0 x1 x2 x3 x4 x5 : Oper} {r : List Oper} : (List.toArray (x0 :: x1 :: x2 :: x3 :: x4 :: x5 :: r))[5]? = some x5 := rfl
theorem op6 {x0 x1 x2 x3 x4 x5 x6 : Oper} {r : List Oper} : (List.toArray (x0 :: x1 :: x2 :: x3 :: x4 :: x5 :: x6 :: r))[6]? = some x6 := rfl
theorem op7 {x0 x1 x2 x3 x4 x5 x6 x7 : Oper} {r : List Oper} : (List.toArray (x0 :: x1 :: x2 :: x3 :: x4 :: x5 :: x6 :: x7 :: r))[7]? = some x7 := rfl
theorem op8 {x0 x1 x2 x3 x4 x5 x6 x7 x8 : Oper} {r : List Oper} : (List.toArray (x0 :: x1 :: x2 :: x3 :: x4 :: x5 :: x6 :: x7 :: x8 :: r))[8]? = some x8 := rfl
theorem op9 {x0 x1 x2 x3 x4 x5 x6 x7 x8 x9 : Oper} {r : List Oper} : (List.toArray (x0 :: x1 :: x2 :: x3 :: x4 :: x5 :: x6 :: x7 :: x8 :: x9 :: r))[9]? = some x9 := rfl
theorem op10 {x0 x1 x2 x3 x4 x5 x6 x7 x8 x9 x10 : Oper} {r : List Oper} : (List.toArray (x0 :: x1 :: x2 :: x3 :: x4 :: x5 :: x6 :: x7 :: x8 :: x9 :: x10 :: r))[10]? = some x10 := rfl
theorem op11 {x0 x1 x2 x3 x4 x5 x6 x7 x8 x9 x10 x11 : Oper} {r : List Oper} : (List.toArray (x0 :: x1 :: x2 :: x3 :: x4 :: x5 :: x6 :: x7 :: x8 :: x9 :: x10 :: x11 :: r))[11]? = some x11 := rfl
theorem op12 {x0 x1 x2 x3 x4 x5 x6 x7 x8 x9 x10 x11 x12 : Oper} {r : List Oper} : (List.toArray (x0 :: x1 :: x2 :: x3 :: x4 :: x5 :: x6 :: x7 :: x8 :: x9 :: x10 :: x11 :: x12 :: r))[12]? = some x12 := rfl
theorem op13 {x0 x1 x2 x3 x4 x5 x6 x7 x8 x9 x10 x11 x12 x13 : Oper} {r : List Oper} : (List.toArray (x0 :: x1 :: x2 :: x3 :: x4 :: x5 :: x6 :: x7 :: x8 :: x9 :: x10 :: x11 :: x12 :: x13 :: r))[13]? = some x13 := rfl
theorem op14 {x0 x1 x2 x3 x4 x5 x6 x7 x8 x9 x10 x11 x12 x13 x14 : Oper} {r : List Oper} : (List.toArray (x0 :: x1 :: x2 :: x3 :: x4 :: x5 :: x6 :: x7 :: x8 :: x9 :: x10 :: x11 :: x12 :: x13 :: x14 :: r))[14]? = some x14 := rfl
theorem op15 {x0 x1 x2 x3 x4 x5 x6 x7 x8 x9 x10 x11 x12 x13 x14 x15 : Oper} {r : List Oper} : (List.toArray (x0 :: x1 :: x2 :: x3 :: x4 :: x5 :: x6 :: x7 :: x8 :: x9 :: x10 :: x11 :: x12 :: x13 :: x14 :: x15 :: r))[15]? = some x15 := rfl
theorem op16 {x0 x1 x2 x3 x4 x5 x6 x7 x8 x9 x10 x11 x12 x13 x14 x15 x16 : Oper} {r : List Oper} : (List.toArray (x0 :: x1 :: x2 :: x3 :: x4 :: x5 :: x6 :: x7 :: x8 :: x9 :: x10 :: x11 :: x12 :: x13 :: x14 :: x15 :: x16 :: r))[16]? = some x16 := rfl
theorem op17 {x0 x1 x2 x3 x4 x5 x6 x7 x8 x9 x10 x11 x12 x13 x14 x15 x16 x17 : Oper} {r : List Oper} : (List.toArray (x0 :: x1 :: x2 :: x3 :: x4 :: x5 :: x6 :: x7 :: x8 :: x9 :: x10 :: x11 :: x12 :: x13 :: x14 :: x15 :: x16 :: x17 :: r))[17]? = some x17 := rfl
theorem op18 {x0 x1 x2 x3 x4 x5 x6 x7 x8 x9 x10 x11 x12 x13 x14 x15 x16 x17 x18 : Oper} {r : List Oper} : (List.toArray (x0 :: x1 :: x2 :: x3 :: x4 :: x5 :: x6 :: x7 :: x8 :: x9 :: x10 :: x11 :: x12 :: x13 :: x14 :: x15 :: x16 :: x17 :: x18 :: r))[18]? = some x18 := rfl
theorem op19 {x0 x1 x2 x3 x4 x5 x6 x7 x8 x9 x10 x11 x12 x13 x14 x15 x16 x17 x18 x19 : Oper} {r : List Oper} : (List.toArray (x0 :: x1 :: x2 :: x3 :: x4 :: x5 :: x6 :: x7 :: x8 :: x9 :: x10 :: x11 :: x12 :: x13 :: x14 :: x15 :: x16 :: x17 :: x18 :: x19 :: r))[19]? = some x19 := rfl
theorem op20 {x0 x1 x2 x3 x4 x5 x6 x7 x8 x9 x10 x11 x12 x13 x14 x15 x16 x17 x18 x19 x20 : Oper} {r : List Oper} : (List.toArray (x0 :: x1 :: x2 :: x3 :: x4 :: x5 :: x6 :: x7 :: x8 :: x9 :: x10 :: x11 :: x12 :: x13 :: x14 :: x15 :: x16 :: x17 :: x18 :: x19 :: x20 :: r))[20]? = some x20 := rfl
theorem op21 {x0 x1 x2 x3 x4 x5 x6 x7 x8 x9 x10 x11 x12 x13 x14 x15 x16 x17 x18 x19 x20 x21 : Oper} {r : List Oper} : (List.toArray (x0 :: x1 :: x2 :: x3 :: x4 :: x5 :: x6 :: x7 :: x8 :: x9 :: x10 :: x11 :: x12 :: x13 :: x14 :: x15 :: x16 :: x17 :: x18 :: x19 :: x20 :: x21 :: r))[21]? = some x21 := rfl
theorem op22 {x0 x1 x2 x3 x4 x5 x6 x7 x8 x9 x10 x11 x12 x13 x14 x15 x16 x17 x18 x19 x20 x21 x22 : Oper} {r : List Oper} : (List.toArray (x0 :: x1 :: x2 :: x3 :: x4 :: x5 :: x6 :: x7 :: x8 :: x9 :: x10 :: x11 :: x12 :: x13 :: x14 :: x15 :: x16 :: x17 :: x18 :: x19 :: x20 :: x21 :: x22 :: r))[22]? = some x22 := rfl
theorem op23 {x0 x1 x2 x3 x4 x5 x6 x7 x8 x9 x10 x11 x12 x13 x14 x15 x16 x17 x18 x19 x20 x21 x22 x23 : Oper} {r : List Oper} : (List.toArray (x0 :: x1 :: x2 :: x3 :: x4 :: x5 :: x6 :: x7 :: x8 :: x9 :: x10 :: x11 :: x12 :: x13 :: x14 :: x15 :: x16 :: x17 :: x18 :: x19 :: x20 :: x21 :: x22 :: x23 :: r))[23]? = some x23 := rfl
end Go.Proofs.Ytjofgbbofagoiaa
