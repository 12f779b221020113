/- Plain: marks: data whose every number is written anew, from k on; worlds that differ in some blocks alone; slices of slices laid apart. -/
import Derived.Test.YtkekcgamhhmjnaaSep
namespace Go.Proofs.Ytkekcgamhhmjnaa
open Go.RowKit Go.Sort

/-- only the blocks of S may have been turned -/
structure Only (S : Nat → Prop) (w w' : World) : Prop where
  os : w'.os = w.os
  tape : w'.tape = w.tape
  output : w'.output = w.output
  size : w.heap.size ≤ w'.heap.size
  block : ∀ b, b < w.heap.size → ¬ S b → w'.heap[b]? = w.heap[b]?
section
variable {S S' S1 : Nat → Prop} {a b c w w' : World}
theorem Only.refl (S : Nat → Prop) (w : World) : Only S w w := ⟨rfl, rfl, rfl, Nat.le_refl _, fun _ _ _ => rfl⟩
theorem Only.trans (h : Only S a b) (k : Only S b c) : Only S a c :=
  ⟨k.os.trans h.os, k.tape.trans h.tape, k.output.trans h.output, Nat.le_trans h.size k.size, fun i hi hn => (k.block i (Nat.lt_of_lt_of_le hi h.size) hn).trans (h.block i hi hn)⟩
theorem Only.wide (h : Only S a b) (hw : ∀ i, S i → S' i) : Only S' a b := ⟨h.os, h.tape, h.output, h.size, fun i hi hn => h.block i hi (fun hs => hn (hw i hs))⟩
theorem Only.of_below (h : Below a.heap.size a b) : Only S a b := ⟨h.os, h.tape, h.output, h.size, fun i hi _ => h.block i hi⟩
theorem Only.set (h : Only S a b) {g i : Nat} (hg : S g) (u : Value) : Only S a (b.setCell ⟨g, i, none⟩ u) :=
  ⟨h.os, h.tape, h.output, by simpa [World.setCell] using h.size, fun k hk hn => (Below.heap_setCell b ⟨g, i, none⟩ u k (fun e => hn (by have e' : k = g := e; exact e' ▸ hg))).trans (h.block k hk hn)⟩
theorem Only.below (h : Only S a b) {lo : Nat} (hS : ∀ i, S i → lo ≤ i) (hl : lo ≤ a.heap.size) : Below lo a b :=
  ⟨h.os, h.tape, h.output, h.size, fun i hi => h.block i (by omega) (fun hs => by have := hS i hs; omega)⟩
theorem Only.blk {g : Nat} {t : TypeId} {cs : List Value} (h : Only S w w') (hb : Blk w g t cs) (hg : ¬ S g) : Blk w' g t cs := (h.block g hb.lt hg).trans hb
theorem RepS.only {α : Type} (r : RepS α) {lo : Nat} {cs : List Value} {x : α} (h : r.V lo S1 w cs x) (ho : Only S w w') (hd : ∀ b, S1 b → ¬ S b) (hl : ∀ b, S1 b → b < w.heap.size) : r.V lo S1 w' cs x :=
  r.kept h fun b hb => ho.block b (hl b hb) (hd b hb)
theorem SSl.only {α : Type} {T : TypeId} {r : RepS α} {lo n d : Nat} {A : Option Addr} {xs : List α} (h : SSl T r lo S1 w A n d xs) (ho : Only S w w') (hd : ∀ b, S1 b → ¬ S b) (hl : ∀ b, S1 b → b < w.heap.size) : SSl T r lo S1 w' A n d xs :=
  h.kept fun b hb => ho.block b (hl b hb) (hd b hb)
end
section
variable {α : Type} {r : RepS α} {T : TypeId} {lo n c : Nat} {S : Nat → Prop} {w : World} {A : Option Addr} {xs : List α}
/-- what one element refers to is turned -/
theorem SSl.inner (h : SSl T r lo S w A n c xs) {k : Nat} (hk : k < n) : ∃ (g : Nat) (cs : List Value) (x : α) (N : Nat → Prop), A = some ⟨g, 0, none⟩ ∧ lo ≤ g ∧ S g ∧ g < w.heap.size ∧ xs[k]? = some x ∧ (∀ b, N b → S b) ∧ ¬ N g ∧ r.V lo N w cs x ∧
    (∀ (j : Nat) (u : Value), cs[j]? = some u → w.cell? ⟨g, k * r.rep.sz + j, none⟩ = some u) ∧ (∀ i, w.frozen? ⟨g, i, none⟩ = false) ∧
    (∀ (w' : World) (x' : α), (∀ b, S b → ¬ N b → w'.heap[b]? = w.heap[b]?) → r.V lo N w' cs x' → SSl T r lo S w' A n c (xs.set k x')) := by
  obtain ⟨g, css, cs, x, hA, h1, h2, h3, hx, hc, hown, hp, hcell, hfr⟩ := h.at_ hk
  obtain ⟨N, q1, q4, q5, q6⟩ := hp.focus hc hx
  refine ⟨g, cs, x, N, hA, h1, h2, h3, hx, q1, q4, q5, hcell, hfr, fun w' x' hkeep hv => ⟨by rw [List.length_set]; exact h.1, Or.inr ⟨g, css.set k cs, hA, h2, ?_, q6 w' cs x' (fun b hb hn _ => hkeep b hb hn) hv⟩⟩⟩
  have hcc : css.set k cs = css := by
    have hkc : k < css.length := (List.getElem?_eq_some_iff.1 hc).1
    rw [← (List.getElem?_eq_some_iff.1 hc).2]
    exact List.set_getElem_self hkc
  rw [hcc]
  refine ⟨hown.1, ?_⟩
  rcases hown.2 with h0 | ⟨g1, cap, cur, hv1, hb, hh, r1⟩
  · exact Or.inl h0
  · obtain rfl := own_blk_eq hA hv1
    exact Or.inr ⟨g1, cap, cur, hv1, hb, (hkeep g1 h2 q4).trans hh, r1⟩
theorem SSl.inn (h : SSl T r lo S w A n c xs) {g k : Nat} {x : α} (hA : A = some ⟨g, 0, none⟩) (hx : xs[k]? = some x) : ∃ (cs : List Value) (N : Nat → Prop), S g ∧ lo ≤ g ∧ g < w.heap.size ∧ (∀ b, N b → S b) ∧ ¬ N g ∧ r.V lo N w cs x ∧
    (∀ (j : Nat) (u : Value), cs[j]? = some u → w.cell? ⟨g, k * r.rep.sz + j, none⟩ = some u) ∧ (∀ i, w.frozen? ⟨g, i, none⟩ = false) ∧
    (∀ (w' : World) (x' : α), (∀ b, S b → ¬ N b → w'.heap[b]? = w.heap[b]?) → r.V lo N w' cs x' → SSl T r lo S w' A n c (xs.set k x')) := by
  have hk : k < n := by have := (List.getElem?_eq_some_iff.1 hx).1; have := h.1; omega
  obtain ⟨g', cs, x', N, hA', h1, h2, h3, hx', h4, h5, h6, h7, h8, h9⟩ := h.inner hk
  rw [hA] at hA'
  injection hA' with e
  injection e with e
  subst e
  rw [hx] at hx'
  injection hx' with hx'
  subst hx'
  exact ⟨cs, N, h2, h1, h3, h4, h5, h6, h7, h8, h9⟩
/-- one of its own cells is stored -/
theorem SSl.own (h : SSl T r lo S w A n c xs) {g k : Nat} {x : α} (hA : A = some ⟨g, 0, none⟩) (hx : xs[k]? = some x) (j : Nat) (u : Value) (x' : α) (hj : j < r.rep.sz)
    (hv : ∀ (N : Nat → Prop) (cs : List Value), r.V lo N w cs x → ¬ N g → r.V lo N (w.setCell ⟨g, k * r.rep.sz + j, none⟩ u) (cs.set j u) x') : SSl T r lo S (w.setCell ⟨g, k * r.rep.sz + j, none⟩ u) A n c (xs.set k x') := by
  have hk : k < n := by have := (List.getElem?_eq_some_iff.1 hx).1; have := h.1; omega
  obtain ⟨g', cs, x0, N, hA', h1, h2, h3, hx', h4, h5, h6, h7, h8, h9, _⟩ := h.store hk
  rw [hA] at hA'
  injection hA' with e
  injection e with e
  subst e
  rw [hx] at hx'
  injection hx' with hx'
  subst hx'
  exact h9 j u x' hj (hv N cs h6 h5)
theorem SSl.ownS' (h : SSl T r lo S w A n c xs) : ∀ g, (Value.slice A n c).ownBlock = some g → S g := fun g hg => by
  obtain ⟨_, ⟨rfl, _⟩ | ⟨g', css, rfl, h1, _⟩⟩ := h
  · cases hg
  · simp only [Value.ownBlock] at hg
    injection hg with hg
    exact hg ▸ h1
end
theorem parts_plain {g : Nat} {w : World} {lo : Nat} : ∀ {css : List (List Value)} {xs : List Int} {S : Nat → Prop}, Parts sepIntW g w lo S css xs → Parts sepInt g w lo S css xs ∧ ∀ x ∈ xs, wf64 x
  | [], [], _, _ => ⟨trivial, fun _ h => absurd h (by simp)⟩
  | d :: css, x :: xs, _, ⟨S1, S2, h0, h1, h2, h3, h4, h5⟩ => ⟨⟨S1, S2, h0, h1, h2, h3, h4.1, (parts_plain h5).1⟩, fun y hy => by
    rcases List.mem_cons.1 hy with rfl | hy
    · exact h4.2
    · exact (parts_plain h5).2 y hy⟩
  | [], _ :: _, _, h => h.elim
  | _ :: _, [], _, h => h.elim
theorem parts_toW {g : Nat} {w : World} {lo : Nat} : ∀ {css : List (List Value)} {xs : List Int} {S : Nat → Prop}, Parts sepInt g w lo S css xs → (∀ x ∈ xs, wf64 x) → Parts sepIntW g w lo S css xs
  | [], [], _, _, _ => trivial
  | d :: css, x :: xs, _, ⟨S1, S2, h0, h1, h2, h3, h4, h5⟩, hw => ⟨S1, S2, h0, h1, h2, h3, ⟨h4, hw x (by simp)⟩, parts_toW h5 (fun y hy => hw y (List.mem_cons_of_mem _ hy))⟩
  | [], _ :: _, _, h, _ => h.elim
  | _ :: _, [], _, h, _ => h.elim
theorem SSl.plainW {T : TypeId} {lo n c : Nat} {S : Nat → Prop} {w : World} {A : Option Addr} {xs : List Int} (h : SSl T sepIntW lo S w A n c xs) : SSl T sepInt lo S w A n c xs ∧ ∀ x ∈ xs, wf64 x := by
  obtain ⟨hl, h0 | ⟨g, css, hA, hg, hown, hp⟩⟩ := h
  · refine ⟨⟨hl, Or.inl h0⟩, fun x hx => ?_⟩
    rw [List.eq_nil_of_length_eq_zero (hl.trans h0.2.1)] at hx
    cases hx
  · exact ⟨⟨hl, Or.inr ⟨g, css, hA, hg, hown, (parts_plain hp).1⟩⟩, (parts_plain hp).2⟩
theorem SSl.withW {T : TypeId} {lo n c : Nat} {S : Nat → Prop} {w : World} {A : Option Addr} {xs : List Int} (h : SSl T sepInt lo S w A n c xs) (hw : ∀ x ∈ xs, wf64 x) : SSl T sepIntW lo S w A n c xs := by
  obtain ⟨hl, h0 | ⟨g, css, hA, hg, hown, hp⟩⟩ := h
  · exact ⟨hl, Or.inl h0⟩
  · exact ⟨hl, Or.inr ⟨g, css, hA, hg, hown, parts_toW hp hw⟩⟩

/-- how many marks a list takes, and the list marked from k on -/
def szL {α : Type} (sz : α → Nat) : List α → Nat
  | [] => 0
  | x :: xs => sz x + szL sz xs
def markL {α : Type} (mk : Nat → α → α) (sz : α → Nat) : Nat → List α → List α
  | _, [] => []
  | k, x :: xs => mk k x :: markL mk sz (k + sz x) xs
/-- the first j marked -/
def stL {α : Type} (mk : Nat → α → α) (sz : α → Nat) (k : Nat) (xs : List α) (j : Nat) : List α := markL mk sz k (xs.take j) ++ xs.drop j
/-- the number that comes next -/
def cnL {α : Type} (sz : α → Nat) (k : Nat) (xs : List α) (j : Nat) : Nat := k + szL sz (xs.take j)
section
variable {α : Type} {mk : Nat → α → α} {sz : α → Nat} {x : α}
theorem markL_len : ∀ (k : Nat) (xs : List α), (markL mk sz k xs).length = xs.length
  | _, [] => rfl
  | k, x :: xs => by simp [markL, markL_len _ xs]
theorem szL_snoc (x : α) : ∀ xs : List α, szL sz (xs ++ [x]) = szL sz xs + sz x
  | [] => by simp [szL]
  | y :: xs => by simp [szL, szL_snoc x xs]; omega
theorem markL_snoc (x : α) : ∀ (k : Nat) (xs : List α), markL mk sz k (xs ++ [x]) = markL mk sz k xs ++ [mk (k + szL sz xs) x]
  | k, [] => by simp [markL, szL]
  | k, y :: xs => by simp [markL, szL, markL_snoc x _ xs, Nat.add_assoc]
theorem szL_le {M : Nat} : ∀ {xs : List α}, (∀ x ∈ xs, sz x ≤ M) → szL sz xs ≤ xs.length * M
  | [], _ => by simp [szL]
  | x :: xs, h => by
    have h1 := szL_le (xs := xs) fun y hy => h y (List.mem_cons_of_mem _ hy)
    have h2 := h x (by simp)
    simp only [szL, List.length_cons, Nat.succ_mul]
    omega
theorem cnL_zero (k : Nat) (xs : List α) : cnL sz k xs 0 = k := by simp [cnL, szL]
theorem cnL_succ {k j : Nat} {xs : List α} (h : xs[j]? = some x) : cnL sz k xs (j + 1) = cnL sz k xs j + sz x := by
  obtain ⟨h1, h2⟩ := List.getElem?_eq_some_iff.1 h
  unfold cnL
  rw [List.take_succ_eq_append_getElem h1, szL_snoc, h2]
  omega
theorem szL_take : ∀ (j : Nat) (xs : List α), szL sz (xs.take j) ≤ szL sz xs
  | 0, _ => by simp [szL]
  | _ + 1, [] => by simp [szL]
  | j + 1, x :: xs => by
    have := szL_take j xs
    simp only [List.take_succ_cons, szL]
    omega
theorem cnL_all {k n : Nat} {xs : List α} (h : xs.length = n) : cnL sz k xs n = k + szL sz xs := by
  unfold cnL
  rw [List.take_of_length_le (by omega)]
theorem cnL_le (k j : Nat) (xs : List α) : cnL sz k xs j ≤ k + szL sz xs := by
  have := szL_take (sz := sz) j xs
  unfold cnL
  omega
theorem cnL_room {k j : Nat} {xs : List α} (h : xs[j]? = some x) : cnL sz k xs j + sz x ≤ k + szL sz xs := by
  rw [← cnL_succ h]
  exact cnL_le k (j + 1) xs
theorem stL_zero (k : Nat) (xs : List α) : stL mk sz k xs 0 = xs := by simp [stL, markL]
theorem stL_all {k n : Nat} {xs : List α} (h : xs.length = n) : stL mk sz k xs n = markL mk sz k xs := by
  unfold stL
  rw [List.take_of_length_le (by omega), List.drop_eq_nil_of_le (by omega), List.append_nil]
theorem stL_len (k j : Nat) (xs : List α) : (stL mk sz k xs j).length = xs.length := by
  unfold stL
  rw [List.length_append, markL_len, ← List.length_append, List.take_append_drop]
theorem stL_get {k j : Nat} {xs : List α} : (stL mk sz k xs j)[j]? = xs[j]? := by
  by_cases hj : j < xs.length
  · unfold stL
    rw [List.getElem?_append_right (by rw [markL_len, List.length_take]; omega), markL_len, List.length_take, Nat.min_eq_left (by omega), Nat.sub_self, List.getElem?_drop, Nat.add_zero]
  · rw [List.getElem?_eq_none (by rw [stL_len]; omega), List.getElem?_eq_none (by omega)]
theorem stL_set {k j : Nat} {xs : List α} (h : xs[j]? = some x) : (stL mk sz k xs j).set j (mk (cnL sz k xs j) x) = stL mk sz k xs (j + 1) := by
  obtain ⟨h1, h2⟩ := List.getElem?_eq_some_iff.1 h
  unfold stL cnL
  rw [List.set_append_right _ _ (by rw [markL_len, List.length_take]; omega), markL_len, List.length_take, Nat.min_eq_left (by omega), Nat.sub_self, List.drop_eq_getElem_cons h1, List.set_cons_zero, List.take_succ_eq_append_getElem h1, markL_snoc, h2, List.append_assoc]
  rfl
theorem markL_get {xs : List α} : ∀ {k j : Nat}, xs[j]? = some x → (markL mk sz k xs)[j]? = some (mk (cnL sz k xs j) x) := fun {k j} h => by
  have h1 := (List.getElem?_eq_some_iff.1 h).1
  have h3 : xs = xs.take (j + 1) ++ xs.drop (j + 1) := (List.take_append_drop _ _).symm
  have key : ∀ (a b : List α) (k : Nat), markL mk sz k (a ++ b) = markL mk sz k a ++ markL mk sz (k + szL sz a) b := by
    intro a
    induction a with
    | nil => intro b k; simp [markL, szL]
    | cons y a ih => intro b k; simp [markL, szL, ih, Nat.add_assoc]
  rw [h3, key, List.take_succ_eq_append_getElem h1, (List.getElem?_eq_some_iff.1 h).2, markL_snoc, List.append_assoc, List.getElem?_append_right (by rw [markL_len, List.length_take]; omega), markL_len, List.length_take, Nat.min_eq_left (by omega), Nat.sub_self]
  rw [← (List.getElem?_eq_some_iff.1 h).2, ← List.take_succ_eq_append_getElem h1, ← h3]
  rfl
end
def mkI (k : Nat) (_ : Int) : Int := (k : Int)
def szI1 (_ : Int) : Nat := 1
theorem szL_I : ∀ xs : List Int, szL szI1 xs = xs.length
  | [] => rfl
  | _ :: xs => by simp [szL, szI1, szL_I xs]; omega
theorem markI_wf {k : Nat} {xs : List Int} (h : k + szL szI1 xs ≤ 9000000000000000000) : ∀ y ∈ markL mkI szI1 k xs, wf64 y := fun y hy => by
  obtain ⟨j, hj⟩ := List.mem_iff_getElem?.1 hy
  have hl := (List.getElem?_eq_some_iff.1 hj).1
  rw [markL_len] at hl
  have h2 := List.getElem?_eq_getElem hl
  rw [markL_get h2] at hj
  injection hj with hj
  have := cnL_room (sz := szI1) (k := k) h2
  subst hj
  unfold wf64 mkI
  omega

/-- stores, one cell behind another -/
def stores (w : World) (g i : Nat) : List Value → World
  | [] => w
  | u :: us => stores (w.setCell ⟨g, i, none⟩ u) g (i + 1) us
theorem stores_size : ∀ (us : List Value) (w : World) (g i : Nat), (stores w g i us).heap.size = w.heap.size
  | [], _, _, _ => rfl
  | u :: us, w, g, i => by
    show (stores _ g (i + 1) us).heap.size = _
    rw [stores_size us]
    simp [World.setCell]
theorem stores_far : ∀ (us : List Value) (w : World) (g i b : Nat), b ≠ g → (stores w g i us).heap[b]? = w.heap[b]?
  | [], _, _, _, _, _ => rfl
  | u :: us, w, g, i, b, h => (stores_far us _ g (i + 1) b h).trans (Below.heap_setCell w ⟨g, i, none⟩ u b h)
theorem stores_blk : ∀ (us zs : List Value) (w : World) (g : Nat) (T : TypeId) (a rest : List Value), zs.length = us.length → Blk w g T (a ++ zs ++ rest) → Blk (stores w g a.length us) g T (a ++ us ++ rest)
  | [], [], _, _, _, _, _, _, h => h
  | u :: us, z :: zs, w, g, T, a, rest, hl, h => by
    have h1 := h.set_ a.length u
    rw [List.append_assoc, List.set_append_right _ _ (Nat.le_refl _), Nat.sub_self, List.cons_append, List.set_cons_zero] at h1
    have h2 := stores_blk us zs (w.setCell ⟨g, a.length, none⟩ u) g T (a ++ [u]) rest (by simpa using hl) (by simpa using h1)
    rw [List.length_append] at h2
    show Blk (stores (w.setCell ⟨g, a.length, none⟩ u) g (a.length + 1) us) g T _
    simpa using h2
  | [], _ :: _, _, _, _, _, _, hl, _ => by simp at hl
  | _ :: _, [], _, _, _, _, _, hl, _ => by simp at hl
/-- k of n elements laid, each in blocks of its own behind g and ahead of 'hi' -/
def LaidS {α : Type} (r : RepS α) (w : World) (g : Nat) (T : TypeId) (z : List Value) (xs : List α) (n k hi : Nat) (css : List (List Value)) : Prop :=
  k ≤ n ∧ css.length = k ∧ g < hi ∧ hi ≤ w.heap.size ∧ Blk w g T (css.flatten ++ zeros z (n - k)) ∧ Parts r g w (g + 1) (Iv (g + 1) hi) css (xs.take k)
section
variable {α : Type} {r : RepS α} {w w' : World} {g n k hi : Nat} {T : TypeId} {z : List Value} {xs : List α} {css : List (List Value)}
theorem LaidS.start (w : World) (T : TypeId) (z : List Value) (xs : List α) (n : Nat) : LaidS r (w.alloc (.cells (zeros z n).toArray T)) w.heap.size T z xs n 0 (w.heap.size + 1) [] :=
  ⟨Nat.zero_le _, rfl, by omega, by simp, by simpa using Blk.new w T (zeros z n), by simp [Parts]⟩
theorem LaidS.next (h : LaidS r w g T z xs n k hi css) (hb : Below w.heap.size w w') : LaidS r w' g T z xs n k hi css :=
  ⟨h.1, h.2.1, h.2.2.1, Nat.le_trans h.2.2.2.1 hb.size, h.2.2.2.2.1.next hb, h.2.2.2.2.2.kept fun b hb' _ => hb.block b (by have := hb'.2; have := h.2.2.2.1; omega)⟩
theorem LaidS.cell (h : LaidS r w g T z xs n k hi css) (hz : z.length = r.rep.sz) (hk : k < n) {j : Nat} {u : Value} (hu : z[j]? = some u) : w.cell? ⟨g, k * r.rep.sz + j, none⟩ = some u ∧ w.frozen? ⟨g, k * r.rep.sz + j, none⟩ = false := by
  obtain ⟨_, h1, _, _, h3, hp⟩ := h
  refine ⟨?_, h3.frozen _⟩
  have hfl := flat_len hp.size
  have hj : j < r.rep.sz := by have := (List.getElem?_eq_some_iff.1 hu).1; omega
  rw [h3.cell, List.getElem?_append_right (by rw [hfl, h1]; omega), hfl, h1, show k * r.rep.sz + j - k * r.rep.sz = j by omega]
  rw [show n - k = (n - (k + 1)) + 1 by omega]
  show (zeros z ((n - (k + 1)) + 1))[j]? = _
  unfold zeros
  rw [List.replicate_succ, List.flatten_cons, List.getElem?_append_left (by omega)]
  exact hu
theorem LaidS.step (h : LaidS r w g T z xs n k hi css) (hz : z.length = r.rep.sz) (hk : k < n) {us : List Value} {x : α} {hi' : Nat} (hx : xs[k]? = some x) (hv : r.V (g + 1) (Iv hi hi') w us x) (hh : hi ≤ hi') (hw : hi' ≤ w.heap.size) :
    LaidS r (stores w g (k * r.rep.sz) us) g T z xs n (k + 1) hi' (css ++ [us]) := by
  obtain ⟨_, h1, hg, hhi, h3, hp⟩ := h
  have hfl := flat_len hp.size
  refine ⟨by omega, by simp [h1], by omega, by rw [stores_size]; exact hw, ?_, ?_⟩
  · have hm : zeros z (n - k) = z ++ zeros z (n - (k + 1)) := by
      rw [show n - k = (n - (k + 1)) + 1 by omega]; simp [zeros, List.replicate_succ]
    rw [hm, ← List.append_assoc] at h3
    have := stores_blk us z w g T css.flatten (zeros z (n - (k + 1))) (by rw [hz, r.len hv]) h3
    rw [hfl, h1] at this
    simpa using this
  · obtain ⟨q1, q2⟩ := List.getElem?_eq_some_iff.1 hx
    rw [List.take_succ_eq_append_getElem q1, q2]
    refine (hp.kept fun b _ hn => stores_far us w g _ b hn).snoc (fun b hb => ⟨hb.1, by have := hb.2; omega⟩) (fun b hb => ⟨by have := hb.1; omega, hb.2⟩) (fun b hb hb' => by have := hb.1; have := hb'.2; omega) (fun hb => by have := hb.1; omega) (r.kept hv fun b hb => stores_far us w g _ b (by have := hb.1; omega))
theorem LaidS.done (h : LaidS r w g T z xs n n hi css) (hn : xs.length = n) (hm : n ≤ maxLen) : SSl T r g (Iv g hi) w (some ⟨g, 0, none⟩) n n xs := by
  obtain ⟨_, h1, hg, hhi, h3, hp⟩ := h
  have hfl := flat_len hp.size
  have hz0 : zeros z (n - n) = [] := by simp [zeros]
  rw [hz0, List.append_nil] at h3
  rw [List.take_of_length_le (by omega)] at hp
  refine ⟨hn, Or.inr ⟨g, css, rfl, ⟨Nat.le_refl _, hg⟩, ⟨by rw [hfl, h1], .inr ⟨g, n, css.flatten.toArray, rfl, Nat.le_refl _, h3, Nat.le_refl _, hm, by simp [hfl, h1], by rw [List.take_of_length_le (by simp [hfl, h1])]⟩⟩, ?_⟩⟩
  exact (hp.widen fun b hb => ⟨by have := hb.1; omega, hb.2⟩).down (Nat.le_succ g)
end
end Go.Proofs.Ytkekcgamhhmjnaa
