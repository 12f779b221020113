/- Plain: operations of a delta, the longest part of a base, deltas; no program in sight. -/
import Derived.Test.YtkekcgamhhmjnaaPlain
import Derived.Lib.IndexMore
namespace Go.Proofs.Ytkekcgamhhmjnaa
open Go.RowKit

/-- an operation of a delta -/
structure Dp where
  at_ : Int
  sz : Int
  tx : ByteArray
instance : Inhabited Dp := ⟨⟨0, 0, ⟨#[]⟩⟩⟩
/-- the first n bytes of t stand at place i of b -/
def Occ (b t : ByteArray) (i n : Nat) : Prop := i + n ≤ b.size ∧ n ≤ t.size ∧ ∀ j, j < n → b.data[i + j]? = t.data[j]?
theorem Occ.mono {b t : ByteArray} {i n m : Nat} (h : Occ b t i n) (hm : m ≤ n) : Occ b t i m :=
  ⟨by have := h.1; omega, Nat.le_trans hm h.2.1, fun j hj => h.2.2 j (by omega)⟩
theorem Occ.zero {b t : ByteArray} {i : Nat} (h : i ≤ b.size) : Occ b t i 0 := ⟨by omega, Nat.zero_le _, fun j hj => absurd hj (by omega)⟩
theorem Occ.succ {b t : ByteArray} {i n : Nat} (h : Occ b t i n) (h1 : i + n < b.size) (h2 : n < t.size) (h3 : b.data[i + n]? = t.data[n]?) : Occ b t i (n + 1) :=
  ⟨by omega, by omega, fun j hj => by
    by_cases e : j = n
    · subst e; exact h3
    · exact h.2.2 j (by omega)⟩
/-- the first longest part of b with which t begins: place and size -/
def IsLong (b t : ByteArray) (a n : Nat) : Prop :=
  (a = 0 ∧ n = 0 ∧ ∀ i, ¬ Occ b t i 1) ∨ (0 < n ∧ Occ b t a n ∧ (∀ i, i < a → ¬ Occ b t i n) ∧ ∀ i, ¬ Occ b t i (n + 1))
theorem IsLong.uniq {b t : ByteArray} {a n a' n' : Nat} (h : IsLong b t a n) (k : IsLong b t a' n') : a = a' ∧ n = n' := by
  rcases h with ⟨rfl, rfl, h1⟩ | ⟨h0, h1, h2, h3⟩
  · rcases k with ⟨rfl, rfl, _⟩ | ⟨k0, k1, _, _⟩
    · exact ⟨rfl, rfl⟩
    · exact absurd (k1.mono k0) (h1 _)
  · rcases k with ⟨rfl, rfl, k1⟩ | ⟨k0, k1, k2, k3⟩
    · exact absurd (h1.mono h0) (k1 _)
    · have e : n = n' := by
        rcases Nat.lt_trichotomy n n' with hl | hl | hl
        · exact absurd (k1.mono hl) (h3 _)
        · exact hl
        · exact absurd (h1.mono hl) (k3 _)
      subst e
      refine ⟨?_, rfl⟩
      rcases Nat.lt_trichotomy a a' with hl | hl | hl
      · exact absurd h1 (k2 _ hl)
      · exact hl
      · exact absurd k1 (h2 _ hl)
theorem IsLong.le {b t : ByteArray} {a n : Nat} (h : IsLong b t a n) : n ≤ t.size ∧ a + n ≤ b.size := by
  rcases h with ⟨rfl, rfl, _⟩ | ⟨_, h1, _⟩
  · exact ⟨Nat.zero_le _, Nat.zero_le _⟩
  · exact ⟨h1.2.1, h1.1⟩
/-- the state of the reference's loop -/
def LongTo (b t : ByteArray) (i a n : Nat) : Prop :=
  (a = 0 ∧ n = 0 ∧ ∀ k, k < i → ¬ Occ b t k 1) ∨ (0 < n ∧ Occ b t a n ∧ (∀ k, k < a → ¬ Occ b t k n) ∧ a < i ∧ ∀ k, k < i → ¬ Occ b t k (n + 1))
theorem LongTo.start {b t : ByteArray} : LongTo b t 0 0 0 := .inl ⟨rfl, rfl, fun k hk => absurd hk (by omega)⟩
theorem LongTo.no {b t : ByteArray} {i a n : Nat} (h : LongTo b t i a n) : ∀ k, k < i → ¬ Occ b t k (n + 1) := by
  rcases h with ⟨rfl, rfl, h1⟩ | ⟨_, _, _, _, h4⟩
  · exact h1
  · exact h4
theorem LongTo.better {b t : ByteArray} {i a n m : Nat} (h : LongTo b t i a n) (hm : n < m) (ho : Occ b t i m) (hx : ¬ Occ b t i (m + 1)) : LongTo b t (i + 1) i m :=
  .inr ⟨by omega, ho, fun k hk hk2 => h.no k hk (hk2.mono hm), by omega, fun k hk hk2 => by
    by_cases e : k = i
    · subst e; exact hx hk2
    · exact h.no k (by omega) (hk2.mono (by omega))⟩
theorem LongTo.worse {b t : ByteArray} {i a n m : Nat} (h : LongTo b t i a n) (hm : m ≤ n) (hx : ¬ Occ b t i (m + 1)) : LongTo b t (i + 1) a n := by
  have hi : ¬ Occ b t i (n + 1) := fun hk => hx (hk.mono (by omega))
  have hn := h.no
  rcases h with ⟨rfl, rfl, h1⟩ | ⟨h0, h1, h2, h3, h4⟩
  · refine .inl ⟨rfl, rfl, fun k hk => ?_⟩
    by_cases e : k = i
    · subst e; exact hi
    · exact h1 k (by omega)
  · refine .inr ⟨h0, h1, h2, by omega, fun k hk => ?_⟩
    by_cases e : k = i
    · subst e; exact hi
    · exact h4 k (by omega)
theorem LongTo.done {b t : ByteArray} {a n : Nat} (h : LongTo b t b.size a n) : IsLong b t a n := by
  have hb : ∀ k, ¬ Occ b t k (n + 1) := fun k hk => by
    by_cases e : k < b.size
    · exact h.no k e hk
    · have := hk.1; omega
  rcases h with ⟨rfl, rfl, _⟩ | ⟨h0, h1, h2, _, _⟩
  · exact .inl ⟨rfl, rfl, hb⟩
  · exact .inr ⟨h0, h1, h2, hb⟩
theorem bytes_at (b : ByteArray) (i : Nat) : b.data.toList[i]? = b.data[i]? := by simp
/-- an instance, as the library tells it -/
theorem occAt_iff {b t : ByteArray} {i n : Nat} (hn : n ≤ t.size) (h0 : 0 < n) : Lib.occAt b.data.toList (t.extract 0 n).data.toList i = true ↔ Occ b t i n := by
  unfold Lib.occAt
  rw [List.isPrefixOf_iff_prefix]
  have hl : (t.extract 0 n).data.toList.length = n := by
    have : (t.extract 0 n).size = n := by rw [ByteArray.size_extract]; omega
    simpa using this
  have hat : ∀ j, j < n → (t.extract 0 n).data.toList[j]? = t.data[j]? := fun j hj => by
    rw [bytes_at, ByteArray.data_extract, Array.getElem?_extract]
    have : j < min n t.data.size - 0 := by
      have : t.data.size = t.size := rfl
      omega
    rw [if_pos this, Nat.zero_add]
  constructor
  · intro h
    have hle := h.length_le
    rw [hl, List.length_drop] at hle
    have hbl : b.data.toList.length = b.size := by simp
    refine ⟨by omega, hn, fun j hj => ?_⟩
    have := List.prefix_iff_getElem?.1 h j (by omega)
    rw [List.getElem?_drop, bytes_at] at this
    rw [← hat j hj, this, List.getElem?_eq_getElem (by omega)]
  · rintro ⟨h1, h2, h3⟩
    refine List.prefix_iff_getElem?.2 fun j hj => ?_
    rw [hl] at hj
    rw [List.getElem?_drop, bytes_at, h3 j hj, ← hat j hj, List.getElem?_eq_getElem (by omega)]
/-- the state of the program's loop -/
theorem long_hit {b t : ByteArray} {i n : Nat} (h : ∀ k, ¬ Occ b t k (n + 1)) (hn : n ≤ t.size) (h0 : 0 < n) (hi : Lib.index b.data.toList (t.extract 0 n).data.toList = i) : IsLong b t i n := by
  rcases Lib.index_spec b.data.toList (t.extract 0 n).data.toList with ⟨h1, _⟩ | ⟨j, h1, _, h3, h4⟩
  · rw [h1] at hi; omega
  · have : j = i := by omega
    subst this
    refine .inr ⟨h0, (occAt_iff hn h0).1 h3, fun k hk ho => ?_, h⟩
    have h5 := h4 k hk
    rw [(occAt_iff hn h0).2 ho] at h5
    exact Bool.noConfusion h5
theorem long_miss {b t : ByteArray} {n : Nat} (hn : n ≤ t.size) (h0 : 0 < n) (hi : Lib.index b.data.toList (t.extract 0 n).data.toList < 0) : ∀ k, ¬ Occ b t k n := by
  intro k hk
  rcases Lib.index_spec b.data.toList (t.extract 0 n).data.toList with ⟨_, h2⟩ | ⟨j, h1, _⟩
  · have := h2 k (by
      have h1 := hk.1
      have hbl : b.data.toList.length = b.size := by simp
      omega)
    rw [(occAt_iff hn h0).2 hk] at this
    cases this
  · omega
open Classical in
noncomputable def longP (b t : ByteArray) : Nat × Nat := if h : ∃ p : Nat × Nat, IsLong b t p.1 p.2 then h.choose else (0, 0)
theorem IsLong.eq {b t : ByteArray} {a n : Nat} (h : IsLong b t a n) : longP b t = (a, n) := by
  have hex : ∃ p : Nat × Nat, IsLong b t p.1 p.2 := ⟨(a, n), h⟩
  unfold longP
  rw [dif_pos hex]
  have := hex.choose_spec.uniq h
  exact Prod.ext this.1 this.2
/-- one round of a delta's making -/
noncomputable def dstep (b : ByteArray) (ops : List Dp) (t : ByteArray) : List Dp × ByteArray :=
  if 2 ≤ (longP b t).2 then (ops ++ [⟨(longP b t).1, (longP b t).2, ⟨#[]⟩⟩], t.extract (longP b t).2 t.size)
  else match ops.getLast? with
    | some o => if o.sz = 0 then (ops.dropLast ++ [⟨o.at_, o.sz, o.tx ++ t.extract 0 1⟩], t.extract 1 t.size) else (ops ++ [⟨0, 0, t.extract 0 1⟩], t.extract 1 t.size)
    | none => (ops ++ [⟨0, 0, t.extract 0 1⟩], t.extract 1 t.size)
noncomputable def dgo (b : ByteArray) : Nat → List Dp → ByteArray → List Dp
  | 0, ops, _ => ops
  | f + 1, ops, t => if t.size = 0 then ops else dgo b f (dstep b ops t).1 (dstep b ops t).2
/-- the delta that makes t from b -/
noncomputable def dmake (b t : ByteArray) : List Dp := if 8 < b.size ∨ 8 < t.size then [] else dgo b t.size [] t
theorem dgo_step {b t : ByteArray} {f : Nat} {ops : List Dp} (hf : t.size ≤ f) (h : t.size ≠ 0) : dgo b f ops t = dgo b (f - 1) (dstep b ops t).1 (dstep b ops t).2 := by
  obtain ⟨g, rfl⟩ : ∃ g, f = g + 1 := ⟨f - 1, by omega⟩
  rw [dgo, if_neg h]
  rfl
theorem dgo_end {b t : ByteArray} {f : Nat} {ops : List Dp} (h : t.size = 0) : dgo b f ops t = ops := by
  cases f
  · rfl
  · rw [dgo, if_pos h]
theorem dstep_copy {b t : ByteArray} {ops : List Dp} {a n : Nat} (h : longP b t = (a, n)) (hn : 2 ≤ n) : dstep b ops t = (ops ++ [⟨a, n, ⟨#[]⟩⟩], t.extract n t.size) := by
  unfold dstep
  rw [h]
  simp only
  rw [if_pos hn]
theorem dstep_join {b t : ByteArray} {ops : List Dp} {o : Dp} {a n : Nat} (h : longP b t = (a, n)) (hn : ¬ 2 ≤ n) (hz : o.sz = 0) : dstep b (ops ++ [o]) t = (ops ++ [⟨o.at_, o.sz, o.tx ++ t.extract 0 1⟩], t.extract 1 t.size) := by
  unfold dstep
  rw [h]
  simp only
  rw [if_neg hn, List.getLast?_concat]
  simp only
  rw [if_pos hz, List.dropLast_concat]
theorem dstep_new {b t : ByteArray} {ops : List Dp} {a n : Nat} (h : longP b t = (a, n)) (hn : ¬ 2 ≤ n) (hz : ∀ o, ops.getLast? = some o → o.sz ≠ 0) : dstep b ops t = (ops ++ [⟨0, 0, t.extract 0 1⟩], t.extract 1 t.size) := by
  unfold dstep
  rw [h]
  simp only
  rw [if_neg hn]
  cases hl : ops.getLast? with
  | none => rfl
  | some o => simp only; rw [if_neg (hz o hl)]
/-- the sizes of what is made so far -/
def dOk (ops : List Dp) (m : Nat) : Prop := ops.length + m ≤ 8 ∧ ∀ o ∈ ops, o.tx.size + m ≤ 8
theorem longP_le (b t : ByteArray) : (longP b t).2 ≤ t.size := by
  unfold longP
  split
  · rename_i h
    exact h.choose_spec.le.1
  · exact Nat.zero_le _
theorem dOk.snoc {ops : List Dp} {m m' : Nat} {o : Dp} (h : dOk ops m) (hm : m' < m) (ho : o.tx.size + m' ≤ 8) : dOk (ops ++ [o]) m' := by
  obtain ⟨h1, h2⟩ := h
  refine ⟨by rw [List.length_append, List.length_singleton]; omega, fun x hx => ?_⟩
  rcases List.mem_append.1 hx with hx | hx
  · have := h2 x hx; omega
  · rw [List.mem_singleton.1 hx]; exact ho
theorem size_ext1 {t : ByteArray} (h : t.size ≠ 0) : (t.extract 0 1).size = 1 := by rw [ByteArray.size_extract]; omega
theorem dOk_step {b t : ByteArray} {ops : List Dp} (h : dOk ops t.size) (h0 : t.size ≠ 0) : dOk (dstep b ops t).1 (dstep b ops t).2.size := by
  have h8 := h.1
  have hins : dOk (ops ++ [⟨0, 0, t.extract 0 1⟩]) (t.extract 1 t.size).size := h.snoc (by rw [ByteArray.size_extract]; omega) (by
    show (t.extract 0 1).size + _ ≤ 8
    rw [size_ext1 h0, ByteArray.size_extract]; omega)
  unfold dstep
  split
  · rename_i h2
    have := longP_le b t
    exact h.snoc (by rw [ByteArray.size_extract]; omega) (by show (ByteArray.mk #[]).size + _ ≤ 8; rw [show (ByteArray.mk #[]).size = 0 from rfl, ByteArray.size_extract]; omega)
  · split
    · rename_i o ho
      split
      · have hne : ops ≠ [] := fun e => by rw [e] at ho; cases ho
        have hl := List.length_dropLast (xs := ops)
        have hp : 0 < ops.length := List.length_pos_iff.2 hne
        have ho2 := h.2 o (List.mem_of_getLast? ho)
        refine ⟨by rw [List.length_append, List.length_singleton, hl, ByteArray.size_extract]; omega, fun x hx => ?_⟩
        rcases List.mem_append.1 hx with hx | hx
        · have := h.2 x (List.dropLast_subset _ hx)
          rw [ByteArray.size_extract]; omega
        · rw [List.mem_singleton.1 hx]
          show (o.tx ++ t.extract 0 1).size + _ ≤ 8
          rw [ByteArray.size_append, size_ext1 h0, ByteArray.size_extract]; omega
      · exact hins
    · exact hins
theorem dgo_small {b : ByteArray} : ∀ (f : Nat) (ops : List Dp) (t : ByteArray), dOk ops t.size → dOk (dgo b f ops t) 0
  | 0, ops, t, h => ⟨by have := h.1; show ops.length + 0 ≤ 8; omega, fun o ho => by have := h.2 o ho; omega⟩
  | f + 1, ops, t, h => by
    rw [dgo]
    split
    · exact ⟨by have := h.1; omega, fun o ho => by have := h.2 o ho; omega⟩
    · rename_i h0
      exact dgo_small f _ _ (dOk_step h h0)
theorem dmake_small (b t : ByteArray) : dOk (dmake b t) 0 := by
  unfold dmake
  split
  · exact ⟨by simp, fun o h => by cases h⟩
  · exact dgo_small _ _ _ ⟨by simp; omega, fun o h => by cases h⟩
/-- the size of a delta -/
def dsz : List Dp → Nat
  | [] => 0
  | o :: l => 1 + o.tx.size + dsz l
theorem dsz_app (a b : List Dp) : dsz (a ++ b) = dsz a + dsz b := by
  induction a with
  | nil => simp [dsz]
  | cons o l ih => simp only [List.cons_append, dsz, ih]; omega
theorem dsz_take {l : List Dp} {k : Nat} {o : Dp} (h : l[k]? = some o) : dsz (l.take (k + 1)) = dsz (l.take k) + 1 + o.tx.size := by
  obtain ⟨h1, h2⟩ := List.getElem?_eq_some_iff.1 h
  rw [List.take_succ_eq_append_getElem h1, h2, dsz_app]
  simp only [dsz]
  omega
end Go.Proofs.Ytkekcgamhhmjnaa
