/- Data laid out in cells, by shape: what the cells of a value say, and that it stays said. Plain lemmas. -/
import Derived.Test.YtkekcgamhhmjnaaRd
import Derived.Test.YtkekcgamhhmjnaaObjLaw
import Derived.Test.YtkekcgamhhmjnaaLaw
namespace Go.Proofs.Ytkekcgamhhmjnaa
open Go.RowKit Go.Sort

/-- what the cells of a value of a shape say; all that it refers to lies in blocks from 'lo' on -/
structure Rep (α : Type) where
  sz : Nat
  V : Nat → World → List Value → α → Prop
  next : ∀ {lo : Nat} {w w' : World} {cs : List Value} {x : α}, V lo w cs x → Below w.heap.size w w' → V lo w' cs x
  far : ∀ {lo : Nat} {w : World} {cs : List Value} {x : α} {g i : Nat} {u : Value}, V lo w cs x → g < lo → V lo (w.setCell ⟨g, i, none⟩ u) cs x
  down : ∀ {lo lo' : Nat} {w : World} {cs : List Value} {x : α}, V lo w cs x → lo' ≤ lo → V lo' w cs x
def repInt : Rep Int := ⟨1, fun _ _ cs x => cs = [.int .i64 x], fun h _ => h, fun h _ => h, fun h _ => h⟩
/-- a number that fits its 64 bits -/
def wf64 (x : Int) : Prop := -9223372036854775808 ≤ x ∧ x ≤ 9223372036854775807
def repIntW : Rep Int := ⟨1, fun _ _ cs x => cs = [.int .i64 x] ∧ wf64 x, fun h _ => h, fun h _ => h, fun h _ => h⟩
def repStr : Rep ByteArray := ⟨1, fun _ _ cs x => cs = [.string x] ∧ x.size ≤ maxLen, fun h _ => h, fun h _ => h, fun h _ => h⟩
section
variable {α β : Type}
/-- a slice whose elements lie in cells one behind the other -/
def RSl (r : Rep α) (lo : Nat) (w : World) (A : Option Addr) (n : Nat) (xs : List α) : Prop :=
  xs.length = n ∧ (0 < n → ∃ b off, A = some ⟨b, off, none⟩ ∧ b < w.heap.size ∧ lo ≤ b ∧ ∀ (i : Nat) (x : α), xs[i]? = some x → ∃ cs, (∀ (j : Nat) (u : Value), cs[j]? = some u → w.cell? ⟨b, off + i * r.sz + j, none⟩ = some u) ∧ r.V lo w cs x)
variable {r : Rep α} {lo lo' n : Nat} {w w' : World} {A : Option Addr} {xs : List α}
theorem RSl.next (h : RSl r lo w A n xs) (hb : Below w.heap.size w w') : RSl r lo w' A n xs :=
  ⟨h.1, fun hn => by
    obtain ⟨b, off, e, hlt, hlo, hc⟩ := h.2 hn
    refine ⟨b, off, e, Nat.lt_of_lt_of_le hlt hb.size, hlo, fun i x hx => ?_⟩
    obtain ⟨cs, h1, h2⟩ := hc i x hx
    exact ⟨cs, fun j u hu => (hb.cell (p := ⟨b, off + i * r.sz + j, none⟩) hlt).trans (h1 j u hu), r.next h2 hb⟩⟩
theorem RSl.far {g i : Nat} {u : Value} (h : RSl r lo w A n xs) (hg : g < lo) : RSl r lo (w.setCell ⟨g, i, none⟩ u) A n xs :=
  ⟨h.1, fun hn => by
    obtain ⟨b, off, e, hlt, hlo, hc⟩ := h.2 hn
    refine ⟨b, off, e, by simpa [World.setCell] using hlt, hlo, fun j x hx => ?_⟩
    obtain ⟨cs, h1, h2⟩ := hc j x hx
    exact ⟨cs, fun q v hv => by rw [setCell_cell_far _ _ _ _ (by show b ≠ g; omega)]; exact h1 q v hv, r.far h2 hg⟩⟩
theorem RSl.down (h : RSl r lo w A n xs) (hl : lo' ≤ lo) : RSl r lo' w A n xs :=
  ⟨h.1, fun hn => by
    obtain ⟨b, off, e, hlt, hlo, hc⟩ := h.2 hn
    refine ⟨b, off, e, hlt, by omega, fun j x hx => ?_⟩
    obtain ⟨cs, h1, h2⟩ := hc j x hx
    exact ⟨cs, h1, r.down h2 hl⟩⟩
theorem RSl.at_ (h : RSl r lo w A n xs) {k : Nat} (hk : k < n) : ∃ b off x cs, A = some ⟨b, off, none⟩ ∧ b < w.heap.size ∧ xs[k]? = some x ∧ (∀ (j : Nat) (u : Value), cs[j]? = some u → w.cell? ⟨b, off + k * r.sz + j, none⟩ = some u) ∧ r.V lo w cs x := by
  obtain ⟨b, off, e, hb, _, hc⟩ := h.2 (by omega)
  have hl : k < xs.length := by have := h.1; omega
  obtain ⟨cs, h1, h2⟩ := hc k _ (List.getElem?_eq_getElem hl)
  exact ⟨b, off, xs[k], cs, e, hb, List.getElem?_eq_getElem hl, h1, h2⟩
theorem RSl.nil (c : Option Addr) : RSl r lo w c 0 [] := ⟨rfl, fun h => absurd h (by omega)⟩
/-- a slice as a value -/
def repSl (r : Rep α) : Rep (List α) := ⟨1, fun lo w cs xs => ∃ A n c, cs = [.slice A n c] ∧ RSl r lo w A n xs ∧ n ≤ maxLen,
  fun ⟨A, n, c, h1, h2, h3⟩ hb => ⟨A, n, c, h1, h2.next hb, h3⟩, fun ⟨A, n, c, h1, h2, h3⟩ hg => ⟨A, n, c, h1, h2.far hg, h3⟩, fun ⟨A, n, c, h1, h2, h3⟩ hl => ⟨A, n, c, h1, h2.down hl, h3⟩⟩
/-- one value behind another -/
def rep2 (r : Rep α) (s : Rep β) : Rep (α × β) := ⟨r.sz + s.sz, fun lo w cs x => ∃ c1 c2, cs = c1 ++ c2 ∧ r.V lo w c1 x.1 ∧ s.V lo w c2 x.2,
  fun ⟨c1, c2, h1, h2, h3⟩ hb => ⟨c1, c2, h1, r.next h2 hb, s.next h3 hb⟩, fun ⟨c1, c2, h1, h2, h3⟩ hg => ⟨c1, c2, h1, r.far h2 hg, s.far h3 hg⟩, fun ⟨c1, c2, h1, h2, h3⟩ hl => ⟨c1, c2, h1, r.down h2 hl, s.down h3 hl⟩⟩
/-- the same cells, read as another type -/
def repAs (r : Rep α) (f : β → α) : Rep β := ⟨r.sz, fun lo w cs x => r.V lo w cs (f x), fun h hb => r.next h hb, fun h hg => r.far h hg, fun h hl => r.down h hl⟩
end

def repOb : Rep Ob := repAs (rep2 repInt (rep2 (repSl repInt) repStr)) fun o => (o.k, o.xs, o.t)
theorem repOb_cells {lo : Nat} {w : World} {cs : List Value} {o : Ob} (h : repOb.V lo w cs o) : ∃ B m d, cs = [.int .i64 o.k, .slice B m d, .string o.t] ∧ RSl repInt lo w B m o.xs ∧ m ≤ maxLen ∧ o.t.size ≤ maxLen := by
  obtain ⟨c1, c2, rfl, h1, c3, c4, rfl, ⟨A, n, c, h2, h3, h4⟩, h5, h6⟩ := h
  have h1' : c1 = [.int .i64 o.k] := h1
  have h5' : c4 = [.string o.t] := h5
  subst h1' h2 h5'
  exact ⟨A, n, c, rfl, h3, h4, h6⟩
theorem repOb_mk {lo : Nat} {w : World} {o : Ob} {B : Option Addr} {m d : Nat} (h : RSl repInt lo w B m o.xs) (hm : m ≤ maxLen) (ht : o.t.size ≤ maxLen) : repOb.V lo w [.int .i64 o.k, .slice B m d, .string o.t] o :=
  ⟨[.int .i64 o.k], [.slice B m d, .string o.t], rfl, rfl, [.slice B m d], [.string o.t], rfl, ⟨B, m, d, rfl, h, hm⟩, rfl, ht⟩
theorem add_flat (b off n : Nat) : (⟨b, off, none⟩ : Addr).add n = ⟨b, off + n, none⟩ := by
  unfold Addr.add; split
  · subst n; rfl
  · rfl
theorem RSl.rints {lo n : Nat} {w : World} {A : Option Addr} {xs : List Int} (h : RSl repInt lo w A n xs) : RInts w A n xs :=
  ⟨h.1, fun hn => by
    obtain ⟨b, off, e, hlt, _, hc⟩ := h.2 hn
    refine ⟨_, e, hlt, fun j x hx => ?_⟩
    obtain ⟨cs, h1, h2⟩ := hc j x hx
    have h2' : cs = [.int .i64 x] := h2
    subst h2'
    have := h1 0 _ rfl
    rw [add_flat]
    simpa [repInt] using this⟩
theorem RSl.robjs {lo n : Nat} {w : World} {A : Option Addr} {os : List Ob} (h : RSl repOb lo w A n os) : RObjs w A n os :=
  ⟨h.1, fun hn => by
    obtain ⟨b, off, e, hlt, _, hc⟩ := h.2 hn
    refine ⟨b, off, e, hlt, fun i o ho => ?_⟩
    obtain ⟨cs, h1, h2⟩ := hc i o ho
    obtain ⟨B, m, d, rfl, h3, h4, h5⟩ := repOb_cells h2
    exact ⟨B, m, d, h1 0 _ rfl, h1 1 _ rfl, h1 2 _ rfl, h3.rints, h4, h5⟩⟩
theorem RSl.plain {lo n : Nat} {w : World} {A : Option Addr} {xs : List Int} (h : RSl repIntW lo w A n xs) : RSl repInt lo w A n xs :=
  ⟨h.1, fun hn => by
    obtain ⟨b, off, e, hlt, hlo, hc⟩ := h.2 hn
    exact ⟨b, off, e, hlt, hlo, fun i x hx => by
      obtain ⟨cs, h1, h2⟩ := hc i x hx
      exact ⟨cs, h1, h2.1⟩⟩⟩
theorem RSl.wf {lo n : Nat} {w : World} {A : Option Addr} {xs : List Int} (h : RSl repIntW lo w A n xs) : ∀ x ∈ xs, wf64 x := fun x hx => by
  obtain ⟨i, hi⟩ := List.mem_iff_getElem?.1 hx
  have hl := (List.getElem?_eq_some_iff.1 hi).1
  obtain ⟨b, off, e, _, _, hc⟩ := h.2 (by have := h.1; omega)
  obtain ⟨cs, _, h2⟩ := hc i x hi
  exact h2.2
theorem RSl.toW {lo n : Nat} {w : World} {A : Option Addr} {xs : List Int} (h : RSl repInt lo w A n xs) (hw : ∀ x ∈ xs, wf64 x) : RSl repIntW lo w A n xs :=
  ⟨h.1, fun hn => by
    obtain ⟨b, off, e, hlt, hlo, hc⟩ := h.2 hn
    exact ⟨b, off, e, hlt, hlo, fun i x hx => by
      obtain ⟨cs, h1, h2⟩ := hc i x hx
      exact ⟨cs, h1, h2, hw x (List.mem_of_getElem? hx)⟩⟩⟩
/-- own blocks -/
theorem RSl.of_blk {lo g n : Nat} {w : World} {T : TypeId} {xs : List Int} (h : Blk w g T (ints xs)) (hlo : lo ≤ g) (hn : n = xs.length) : RSl repInt lo w (some ⟨g, 0, none⟩) n xs :=
  ⟨hn.symm, fun _ => ⟨g, 0, rfl, h.lt, hlo, fun j x hx => ⟨[.int .i64 x], fun q u hu => by
    match q, hu with
    | 0, hu =>
      simp at hu; subst hu
      rw [h.cell, ints, List.getElem?_map]
      simp [repInt, hx], rfl⟩⟩⟩
/-- made of parts, one behind the other: 'done' of them laid -/
def Laid {α : Type} (r : Rep α) (w : World) (g : Nat) (T : TypeId) (z : List Value) (xs : List α) (n k : Nat) (css : List (List Value)) : Prop :=
  css.length = k ∧ (∀ cs ∈ css, cs.length = r.sz) ∧ Blk w g T (css.flatten ++ zeros z (n - k)) ∧ ∀ (i : Nat) (cs : List Value) (x : α), css[i]? = some cs → xs[i]? = some x → r.V (g + 1) w cs x
section
variable {α : Type} {r : Rep α} {w w' : World} {g n k : Nat} {T : TypeId} {z : List Value} {xs : List α} {css : List (List Value)}
theorem flat_len {m : Nat} : ∀ {css : List (List Value)}, (∀ cs ∈ css, cs.length = m) → css.flatten.length = css.length * m
  | [], _ => by simp
  | c :: css, h => by
    rw [List.flatten_cons, List.length_append, h c (by simp), flat_len (fun cs hc => h cs (by simp [hc])), List.length_cons, Nat.succ_mul]
    omega
theorem flat_get {m : Nat} : ∀ {css : List (List Value)} (_ : ∀ cs ∈ css, cs.length = m) (i j : Nat) (cs : List Value) (R : List Value), css[i]? = some cs → j < m → (css.flatten ++ R)[i * m + j]? = cs[j]?
  | [], _, i, _, _, _, h, _ => by simp at h
  | c :: css, hl, 0, j, cs, R, h, hj => by
    simp at h; subst h
    have := hl c (by simp)
    rw [List.flatten_cons, List.append_assoc, Nat.zero_mul, Nat.zero_add, List.getElem?_append_left (by omega)]
  | c :: css, hl, i + 1, j, cs, R, h, hj => by
    have hc := hl c (by simp)
    have ih := flat_get (fun c0 hc0 => hl c0 (List.mem_cons_of_mem _ hc0)) i j cs R (by simpa using h) hj
    rw [List.flatten_cons, List.append_assoc, Nat.succ_mul, List.getElem?_append_right (by omega), hc, show i * m + m + j - m = i * m + j by omega]
    exact ih
theorem Laid.start (w : World) (T : TypeId) (z : List Value) (xs : List α) (n : Nat) : Laid r (w.alloc (.cells (zeros z n).toArray T)) w.heap.size T z xs n 0 [] :=
  ⟨rfl, fun _ h => absurd h (by simp), by simpa using Blk.new w T (zeros z n), fun i _ _ h => by simp at h⟩
theorem Laid.next (h : Laid r w g T z xs n k css) (hb : Below w.heap.size w w') : Laid r w' g T z xs n k css :=
  ⟨h.1, h.2.1, h.2.2.1.next hb, fun i cs x hc hx => r.next (h.2.2.2 i cs x hc hx) hb⟩
theorem Laid.cell (h : Laid r w g T z xs n k css) (hz : z.length = r.sz) (hk : k < n) {j : Nat} {u : Value} (hu : z[j]? = some u) : w.cell? ⟨g, k * r.sz + j, none⟩ = some u ∧ w.frozen? ⟨g, k * r.sz + j, none⟩ = false := by
  obtain ⟨h1, h2, h3, _⟩ := h
  refine ⟨?_, h3.frozen _⟩
  have hfl := flat_len h2
  have hj : j < r.sz := by have := (List.getElem?_eq_some_iff.1 hu).1; omega
  rw [h3.cell, List.getElem?_append_right (by rw [hfl, h1]; omega), hfl, h1, show k * r.sz + j - k * r.sz = j by omega]
  rw [show n - k = (n - (k + 1)) + 1 by omega]
  show (zeros z ((n - (k + 1)) + 1))[j]? = _
  unfold zeros
  rw [List.replicate_succ, List.flatten_cons, List.getElem?_append_left (by omega)]
  exact hu
theorem Laid.step2 (h : Laid r w g T z xs n k css) (hz : z.length = r.sz) (h2 : r.sz = 2) (hk : k < n) {a b : Value} {x : α} (hx : xs[k]? = some x) (hv : r.V (g + 1) w [a, b] x) :
    Laid r ((w.setCell ⟨g, k * r.sz, none⟩ a).setCell ⟨g, k * r.sz + 1, none⟩ b) g T z xs n (k + 1) (css ++ [[a, b]]) := by
  obtain ⟨h1, hl, h3, h4⟩ := h
  have hfl := flat_len hl
  refine ⟨by simp [h1], fun cs hc => ?_, ?_, fun i cs y hc hy => ?_⟩
  · rcases List.mem_append.1 hc with hc | hc
    · exact hl cs hc
    · simp at hc; subst hc; exact h2.symm
  · obtain ⟨z0, z1, rfl⟩ : ∃ a b, z = [a, b] := by
      match z, hz.trans h2 with
      | [a, b], _ => exact ⟨a, b, rfl⟩
    have hm : zeros [z0, z1] (n - k) = z0 :: z1 :: zeros [z0, z1] (n - (k + 1)) := by
      rw [show n - k = (n - (k + 1)) + 1 by omega]; simp [zeros, List.replicate_succ]
    rw [hm] at h3
    have := (h3.set_ (k * r.sz) a).set_ (k * r.sz + 1) b
    rw [← h1, ← hfl] at this
    rw [List.set_append_right _ _ (Nat.le_refl _), Nat.sub_self, List.set_cons_zero, List.set_append_right _ _ (by omega), show css.flatten.length + 1 - css.flatten.length = 1 by omega] at this
    rw [hfl, h1] at this
    simpa using this
  · rcases Nat.lt_or_ge i css.length with hi | hi
    · rw [List.getElem?_append_left hi] at hc
      exact r.far (r.far (h4 i cs y hc hy) (Nat.lt_succ_self g)) (Nat.lt_succ_self g)
    · rw [List.getElem?_append_right hi] at hc
      have hi0 : i = css.length := by
        have := (List.getElem?_eq_some_iff.1 hc).1
        simp at this; omega
      subst hi0
      simp at hc
      subst hc
      rw [h1, hx] at hy
      injection hy with hy
      subst hy
      exact r.far (r.far hv (Nat.lt_succ_self g)) (Nat.lt_succ_self g)
theorem Laid.step3 (h : Laid r w g T z xs n k css) (hz : z.length = r.sz) (h2 : r.sz = 3) (hk : k < n) {a b c : Value} {x : α} (hx : xs[k]? = some x) (hv : r.V (g + 1) w [a, b, c] x) :
    Laid r (((w.setCell ⟨g, k * r.sz, none⟩ a).setCell ⟨g, k * r.sz + 1, none⟩ b).setCell ⟨g, k * r.sz + 2, none⟩ c) g T z xs n (k + 1) (css ++ [[a, b, c]]) := by
  obtain ⟨h1, hl, h3, h4⟩ := h
  have hfl := flat_len hl
  refine ⟨by simp [h1], fun cs hc => ?_, ?_, fun i cs y hc hy => ?_⟩
  · rcases List.mem_append.1 hc with hc | hc
    · exact hl cs hc
    · simp at hc; subst hc; exact h2.symm
  · obtain ⟨z0, z1, z2, rfl⟩ : ∃ a b c, z = [a, b, c] := by
      match z, hz.trans h2 with
      | [a, b, c], _ => exact ⟨a, b, c, rfl⟩
    have hm : zeros [z0, z1, z2] (n - k) = z0 :: z1 :: z2 :: zeros [z0, z1, z2] (n - (k + 1)) := by
      rw [show n - k = (n - (k + 1)) + 1 by omega]; simp [zeros, List.replicate_succ]
    rw [hm] at h3
    have := ((h3.set_ (k * r.sz) a).set_ (k * r.sz + 1) b).set_ (k * r.sz + 2) c
    rw [← h1, ← hfl] at this
    rw [List.set_append_right _ _ (Nat.le_refl _), Nat.sub_self, List.set_cons_zero, List.set_append_right _ _ (by omega), show css.flatten.length + 1 - css.flatten.length = 1 by omega, List.set_append_right _ _ (by omega), show css.flatten.length + 2 - css.flatten.length = 2 by omega] at this
    rw [hfl, h1] at this
    simpa using this
  · rcases Nat.lt_or_ge i css.length with hi | hi
    · rw [List.getElem?_append_left hi] at hc
      exact r.far (r.far (r.far (h4 i cs y hc hy) (Nat.lt_succ_self g)) (Nat.lt_succ_self g)) (Nat.lt_succ_self g)
    · rw [List.getElem?_append_right hi] at hc
      have hi0 : i = css.length := by
        have := (List.getElem?_eq_some_iff.1 hc).1
        simp at this; omega
      subst hi0
      simp at hc
      subst hc
      rw [h1, hx] at hy
      injection hy with hy
      subst hy
      exact r.far (r.far (r.far hv (Nat.lt_succ_self g)) (Nat.lt_succ_self g)) (Nat.lt_succ_self g)
theorem Laid.done (h : Laid r w g T z xs n n css) (hn : xs.length = n) : RSl r g w (some ⟨g, 0, none⟩) n xs := by
  obtain ⟨h1, hl, h3, h4⟩ := h
  refine ⟨hn, fun _ => ⟨g, 0, rfl, h3.lt, Nat.le_refl _, fun i x hx => ?_⟩⟩
  have hi : i < css.length := by have := (List.getElem?_eq_some_iff.1 hx).1; omega
  have hc : css[i]? = some css[i] := List.getElem?_eq_getElem hi
  refine ⟨css[i], fun j u hu => ?_, r.down (h4 i _ x hc hx) (Nat.le_succ g)⟩
  have hj : j < r.sz := by
    have := (List.getElem?_eq_some_iff.1 hu).1
    rw [hl _ (List.getElem_mem hi)] at this
    exact this
  rw [h3.cell, Nat.zero_add, flat_get hl i j _ _ hc hj]
  exact hu
end
/-- copied objects, as data from a block on -/
theorem OObjs.rsl {w : World} {lo g n : Nat} {os : List Ob} {bs : List Nat} (h : OObjs w lo g os bs) (hn : n = os.length) (hs : smallO os) : RSl repOb g w (some ⟨g, 0, none⟩) n os := by
  obtain ⟨h1, _, h3, h4, h5, _⟩ := h
  refine ⟨hn.symm, fun _ => ⟨g, 0, rfl, h3.lt, Nat.le_refl _, fun i o ho => ?_⟩⟩
  have hi : i < os.length := (List.getElem?_eq_some_iff.1 ho).1
  have hb : bs[i]? = some (bs[i]'(by omega)) := List.getElem?_eq_getElem _
  obtain ⟨r0, r1, r2⟩ := cellsO_get os bs i o _ ho hb
  have hsm := hs.2 o (List.mem_of_getElem? ho)
  refine ⟨_, fun j u hu => ?_, repOb_mk (d := o.xs.length) (RSl.of_blk (h4 i o _ ho hb) (Nat.le_of_lt (h5 _ (List.mem_of_getElem? hb))) rfl) (by simp only [maxLen]; omega) (by simp only [maxLen]; omega)⟩
  rw [h3.cell, Nat.zero_add]
  match j, hu with
  | 0, hu => simp at hu; subst hu; exact r0
  | 1, hu => simp at hu; subst hu; exact r1
  | 2, hu => simp at hu; subst hu; exact r2
/-- equality, element by element -/
def eqL {α : Type} (f : α → α → Bool) : List α → List α → Bool
  | [], [] => true
  | x :: a, y :: b => f x y && eqL f a b
  | _, _ => false
section
variable {α : Type} {f : α → α → Bool}
theorem eqL_refl (hf : ∀ x, f x x = true) : ∀ xs : List α, eqL f xs xs = true
  | [] => rfl
  | x :: xs => by simp [eqL, hf, eqL_refl hf xs]
theorem eqL_len : ∀ (a b : List α), eqL f a b = true → a.length = b.length
  | [], [], _ => rfl
  | x :: a, y :: b, h => by simp only [eqL, Bool.and_eq_true] at h; simp [eqL_len a b h.2]
  | [], _ :: _, h => by cases h
  | _ :: _, [], h => by cases h
theorem eqL_take : ∀ (a b : List α) (k : Nat) (x y : α), a[k]? = some x → b[k]? = some y → eqL f (a.take (k+1)) (b.take (k+1)) = (eqL f (a.take k) (b.take k) && f x y)
  | [], _, _, _, _, h, _ => by simp at h
  | _ :: _, [], _, _, _, _, h => by simp at h
  | p :: a, q :: b, 0, x, y, hx, hy => by simp at hx hy; subst hx; subst hy; simp [eqL]
  | p :: a, q :: b, k+1, x, y, hx, hy => by
    have := eqL_take a b k x y (by simpa using hx) (by simpa using hy)
    simp only [List.take_succ_cons, eqL, this, Bool.and_assoc]
theorem eqL_of_take : ∀ (a b : List α) (k : Nat), eqL f a b = true → eqL f (a.take k) (b.take k) = true
  | [], [], k, _ => by simp [eqL]
  | x :: a, y :: b, 0, _ => by simp [eqL]
  | x :: a, y :: b, k+1, h => by
    simp only [eqL, Bool.and_eq_true] at h
    simp [eqL, h.1, eqL_of_take a b k h.2]
  | [], _ :: _, _, h => by cases h
  | _ :: _, [], _, h => by cases h
end
end Go.Proofs.Ytkekcgamhhmjnaa
