/- Data of the call's own: every slice in a block of its own, no two parts of a value in one block. Plain lemmas. -/
import Derived.Test.YtkekcgamhhmjnaaGen
import Derived.Test.YtkekcgamhhmjnaaApp
namespace Go.Proofs.Ytkekcgamhhmjnaa
open Go.RowKit Go.Sort

/-- a shape's data: 'S' tells the blocks that it lies in, all from 'lo' on -/
structure RepS (α : Type) where
  rep : Rep α
  V : Nat → (Nat → Prop) → World → List Value → α → Prop
  len : ∀ {lo : Nat} {S : Nat → Prop} {w : World} {cs : List Value} {x : α}, V lo S w cs x → cs.length = rep.sz
  kept : ∀ {lo : Nat} {S : Nat → Prop} {w w' : World} {cs : List Value} {x : α}, V lo S w cs x → (∀ b, S b → w'.heap[b]? = w.heap[b]?) → V lo S w' cs x
  wide : ∀ {lo : Nat} {S S' : Nat → Prop} {w : World} {cs : List Value} {x : α}, V lo S w cs x → (∀ b, S b → S' b) → V lo S' w cs x
  down : ∀ {lo lo' : Nat} {S : Nat → Prop} {w : World} {cs : List Value} {x : α}, V lo S w cs x → lo' ≤ lo → V lo' S w cs x
  reads : ∀ {lo : Nat} {S : Nat → Prop} {w : World} {cs : List Value} {x : α}, V lo S w cs x → rep.V lo w cs x
def sepInt : RepS Int := ⟨repInt, fun _ _ _ cs x => cs = [.int .i64 x], fun h => by rw [h]; rfl, fun h _ => h, fun h _ => h, fun h _ => h, fun h => h⟩
def sepIntW : RepS Int := ⟨repIntW, fun _ _ _ cs x => cs = [.int .i64 x] ∧ wf64 x, fun h => by rw [h.1]; rfl, fun h _ => h, fun h _ => h, fun h _ => h, fun h => h⟩
section
variable {α β : Type}
/-- two values, in blocks apart -/
def sep2 (r : RepS α) (s : RepS β) : RepS (α × β) := ⟨rep2 r.rep s.rep, fun lo S w cs x => ∃ (c1 c2 : List Value) (S1 S2 : Nat → Prop), cs = c1 ++ c2 ∧ (∀ b, S1 b → S b) ∧ (∀ b, S2 b → S b) ∧ (∀ b, S1 b → ¬ S2 b) ∧ r.V lo S1 w c1 x.1 ∧ s.V lo S2 w c2 x.2,
  fun ⟨c1, c2, _, _, e, _, _, _, h4, h5⟩ => by rw [e, List.length_append, r.len h4, s.len h5]; rfl,
  fun ⟨c1, c2, S1, S2, e, q1, q2, q3, h4, h5⟩ hk => ⟨c1, c2, S1, S2, e, q1, q2, q3, r.kept h4 (fun b hb => hk b (q1 b hb)), s.kept h5 (fun b hb => hk b (q2 b hb))⟩,
  fun ⟨c1, c2, S1, S2, e, q1, q2, q3, h4, h5⟩ hw => ⟨c1, c2, S1, S2, e, fun b hb => hw b (q1 b hb), fun b hb => hw b (q2 b hb), q3, h4, h5⟩,
  fun ⟨c1, c2, S1, S2, e, q1, q2, q3, h4, h5⟩ hl => ⟨c1, c2, S1, S2, e, q1, q2, q3, r.down h4 hl, s.down h5 hl⟩,
  fun ⟨c1, c2, _, _, e, _, _, _, h4, h5⟩ => ⟨c1, c2, e, r.reads h4, s.reads h5⟩⟩
def sepAs (r : RepS α) (f : β → α) : RepS β := ⟨repAs r.rep f, fun lo S w cs x => r.V lo S w cs (f x), fun h => r.len h, fun h hk => r.kept h hk, fun h hw => r.wide h hw, fun h hl => r.down h hl, fun h => r.reads h⟩
/-- elements one behind the other, each in blocks of its own, g not among them -/
def Parts (r : RepS α) (g : Nat) (w : World) (lo : Nat) : (Nat → Prop) → List (List Value) → List α → Prop
  | _, [], [] => True
  | S, cs :: css, x :: xs => ∃ S1 S2 : Nat → Prop, (∀ b, S1 b → S b) ∧ (∀ b, S2 b → S b) ∧ (∀ b, S1 b → ¬ S2 b) ∧ ¬ S1 g ∧ r.V lo S1 w cs x ∧ Parts r g w lo S2 css xs
  | _, _, _ => False
variable {r : RepS α} {g g' lo lo' n c : Nat} {S S' : Nat → Prop} {w w' : World} {A : Option Addr} {css : List (List Value)} {xs : List α} {T : TypeId}
theorem Parts.len : ∀ {css : List (List Value)} {xs : List α} {S : Nat → Prop}, Parts r g w lo S css xs → css.length = xs.length
  | [], [], _, _ => rfl
  | _ :: _, _ :: _, _, ⟨_, _, _, _, _, _, _, h5⟩ => by simp [Parts.len h5]
  | [], _ :: _, _, h => h.elim
  | _ :: _, [], _, h => h.elim
theorem Parts.size : ∀ {css : List (List Value)} {xs : List α} {S : Nat → Prop}, Parts r g w lo S css xs → ∀ cs ∈ css, cs.length = r.rep.sz
  | [], [], _, _, cs, hc => by cases hc
  | _ :: _, _ :: _, _, ⟨_, _, _, _, _, _, h4, h5⟩, cs, hc => by
    rcases List.mem_cons.1 hc with rfl | hc
    · exact r.len h4
    · exact Parts.size h5 cs hc
  | [], _ :: _, _, h, _, _ => h.elim
  | _ :: _, [], _, h, _, _ => h.elim
theorem Parts.kept : ∀ {css : List (List Value)} {xs : List α} {S : Nat → Prop}, Parts r g w lo S css xs → (∀ b, S b → b ≠ g → w'.heap[b]? = w.heap[b]?) → Parts r g w' lo S css xs
  | [], [], _, h, _ => h
  | _ :: _, _ :: _, _, ⟨S1, S2, h1, h2, h3, h3', h4, h5⟩, hk =>
    ⟨S1, S2, h1, h2, h3, h3', r.kept h4 (fun b hb => hk b (h1 b hb) (fun e => h3' (e ▸ hb))), Parts.kept h5 (fun b hb hn => hk b (h2 b hb) hn)⟩
  | [], _ :: _, _, h, _ => h.elim
  | _ :: _, [], _, h, _ => h.elim
theorem Parts.widen : ∀ {css : List (List Value)} {xs : List α} {S S' : Nat → Prop}, Parts r g w lo S css xs → (∀ b, S b → S' b) → Parts r g w lo S' css xs
  | [], [], _, _, _, _ => trivial
  | _ :: _, _ :: _, _, _, ⟨S1, S2, h1, h2, h3⟩, hw => ⟨S1, S2, fun b hb => hw b (h1 b hb), fun b hb => hw b (h2 b hb), h3⟩
  | [], _ :: _, _, _, h, _ => h.elim
  | _ :: _, [], _, _, h, _ => h.elim
theorem Parts.down : ∀ {css : List (List Value)} {xs : List α} {S : Nat → Prop}, Parts r g w lo S css xs → lo' ≤ lo → Parts r g w lo' S css xs
  | [], [], _, _, _ => trivial
  | _ :: _, _ :: _, _, ⟨S1, S2, h1, h2, h3, h3', h4, h5⟩, hl => ⟨S1, S2, h1, h2, h3, h3', r.down h4 hl, Parts.down h5 hl⟩
  | [], _ :: _, _, h, _ => h.elim
  | _ :: _, [], _, h, _ => h.elim
theorem Parts.swap : ∀ {css : List (List Value)} {xs : List α} {S : Nat → Prop}, Parts r g w lo S css xs → ¬ S g' → Parts r g' w lo S css xs
  | [], [], _, h, _ => h
  | _ :: _, _ :: _, _, ⟨S1, S2, h1, h2, h3, _, h4, h5⟩, hg => ⟨S1, S2, h1, h2, h3, fun h => hg (h1 _ h), h4, Parts.swap h5 (fun h => hg (h2 _ h))⟩
  | [], _ :: _, _, h, _ => h.elim
  | _ :: _, [], _, h, _ => h.elim
theorem Parts.snoc {N : Nat → Prop} {cs : List Value} {x : α} : ∀ {css : List (List Value)} {xs : List α} {S S' : Nat → Prop}, Parts r g w lo S css xs → (∀ b, S b → S' b) → (∀ b, N b → S' b) → (∀ b, N b → ¬ S b) → ¬ N g → r.V lo N w cs x → Parts r g w lo S' (css ++ [cs]) (xs ++ [x])
  | [], [], _, _, _, _, h2, _, h4, h5 => ⟨N, fun _ => False, h2, fun _ h => h.elim, fun _ _ h => h, h4, h5, trivial⟩
  | _ :: _, _ :: _, _, _, ⟨S1, S2, q1, q2, q3, q3', q4, q5⟩, h1, h2, h3, h4, h5 =>
    ⟨S1, fun b => S2 b ∨ N b, fun b hb => h1 b (q1 b hb), fun b hb => hb.elim (fun h => h1 b (q2 b h)) (h2 b), fun b hb h => h.elim (q3 b hb) (fun hn => h3 b hn (q1 b hb)), q3', q4,
      Parts.snoc q5 (fun _ h => Or.inl h) (fun _ h => Or.inr h) (fun b hb h => h3 b hb (q2 b h)) h4 h5⟩
  | [], _ :: _, _, _, hp, _, _, _, _, _ => hp.elim
  | _ :: _, [], _, _, hp, _, _, _, _, _ => hp.elim
/-- one element: where it lies, and what may be done to it -/
theorem Parts.focus : ∀ {css : List (List Value)} {xs : List α} {S : Nat → Prop}, Parts r g w lo S css xs → ∀ {k : Nat} {cs : List Value} {x : α}, css[k]? = some cs → xs[k]? = some x →
    ∃ N : Nat → Prop, (∀ b, N b → S b) ∧ ¬ N g ∧ r.V lo N w cs x ∧ ∀ (w' : World) (cs' : List Value) (x' : α), (∀ b, S b → ¬ N b → b ≠ g → w'.heap[b]? = w.heap[b]?) → r.V lo N w' cs' x' → Parts r g w' lo S (css.set k cs') (xs.set k x')
  | [], _, _, _, k, _, _, h, _ => by simp at h
  | _ :: _, [], _, hp, _, _, _, _, _ => hp.elim
  | c0 :: css, x0 :: xs, S, ⟨S1, S2, q1, q2, q3, q3', q4, q5⟩, 0, cs, x, h1, h2 => by
    simp at h1 h2
    subst h1 h2
    exact ⟨S1, q1, q3', q4, fun w' cs' x' hk hv => ⟨S1, S2, q1, q2, q3, q3', hv, q5.kept (fun i hi hn => hk i (q2 i hi) (fun h => q3 i h hi) hn)⟩⟩
  | c0 :: css, x0 :: xs, S, ⟨S1, S2, q1, q2, q3, q3', q4, q5⟩, k + 1, cs, x, h1, h2 => by
    obtain ⟨N, p1, p2, p3, p4⟩ := Parts.focus q5 (k := k) (by simpa using h1) (by simpa using h2)
    exact ⟨N, fun b hb => q2 b (p1 b hb), p2, p3, fun w' cs' x' hk hv => ⟨S1, S2, q1, q2, q3, q3', r.kept q4 (fun i hi => hk i (q1 i hi) (fun h => q3 i hi (p1 i h)) (fun e => q3' (e ▸ hi))), p4 w' cs' x' (fun i hi hn hg => hk i (q2 i hi) hn hg) hv⟩⟩

/-- a slice in a block of its own, its elements in others -/
def SSl (T : TypeId) (r : RepS α) (lo : Nat) (S : Nat → Prop) (w : World) (A : Option Addr) (n c : Nat) (xs : List α) : Prop :=
  xs.length = n ∧ ((A = none ∧ n = 0 ∧ c = 0) ∨ ∃ g css, A = some ⟨g, 0, none⟩ ∧ S g ∧ w.ownsRow lo T r.rep.sz (.slice A n c) n css.flatten ∧ Parts r g w lo S css xs)
theorem SSl.nil : SSl T r lo S w none 0 0 [] := ⟨rfl, Or.inl ⟨rfl, rfl, rfl⟩⟩
theorem own_blk_eq {g g1 cap : Nat} (hA : A = some ⟨g, 0, none⟩) (hv : Value.slice A n c = .slice (some ⟨g1, 0, none⟩) n cap) : g1 = g := by
  rw [hA] at hv
  injection hv with hv
  injection hv with hv
  injection hv with hv
  exact hv.symm
theorem SSl.kept (h : SSl T r lo S w A n c xs) (hk : ∀ b, S b → w'.heap[b]? = w.heap[b]?) : SSl T r lo S w' A n c xs := by
  obtain ⟨hl, h | ⟨g, css, hA, hg, hown, hp⟩⟩ := h
  · exact ⟨hl, Or.inl h⟩
  · refine ⟨hl, Or.inr ⟨g, css, hA, hg, ⟨hown.1, ?_⟩, hp.kept (fun b h1 _ => hk b h1)⟩⟩
    rcases hown.2 with h0 | ⟨g1, cap, cur, hv, hb, hh, r1⟩
    · exact Or.inl h0
    · obtain rfl := own_blk_eq hA hv
      exact Or.inr ⟨g1, cap, cur, hv, hb, (hk g1 hg).trans hh, r1⟩
theorem SSl.wide (h : SSl T r lo S w A n c xs) (hw : ∀ b, S b → S' b) : SSl T r lo S' w A n c xs := by
  obtain ⟨hl0, h | ⟨g, css, hA, hg, hown, hp⟩⟩ := h
  · exact ⟨hl0, Or.inl h⟩
  · exact ⟨hl0, Or.inr ⟨g, css, hA, hw g hg, hown, hp.widen hw⟩⟩
theorem SSl.down (h : SSl T r lo S w A n c xs) (hl : lo' ≤ lo) : SSl T r lo' S w A n c xs := by
  obtain ⟨hl0, h | ⟨g, css, hA, hg, hown, hp⟩⟩ := h
  · exact ⟨hl0, Or.inl h⟩
  · refine ⟨hl0, Or.inr ⟨g, css, hA, hg, ⟨hown.1, ?_⟩, hp.down hl⟩⟩
    rcases hown.2 with h0 | ⟨g1, cap, cur, hv, hb, r1⟩
    · exact Or.inl h0
    · exact Or.inr ⟨g1, cap, cur, hv, by omega, r1⟩
theorem SSl.small (h : SSl T r lo S w A n c xs) : n ≤ c ∧ c ≤ maxLen := by
  obtain ⟨_, ⟨rfl, rfl, rfl⟩ | ⟨g, css, _, _, hown, _⟩⟩ := h
  · simp [maxLen]
  · rcases hown.2 with ⟨h0, h1⟩ | ⟨g1, cap, cur, hv, _, _, h1, h2, _⟩
    · injection h0 with _ e1 e2
      subst e1 e2
      simp [maxLen]
    · injection hv with _ _ e
      subst e
      exact ⟨h1, h2⟩
/-- one element's cells -/
theorem SSl.at_ (h : SSl T r lo S w A n c xs) {k : Nat} (hk : k < n) : ∃ g css cs x, A = some ⟨g, 0, none⟩ ∧ lo ≤ g ∧ S g ∧ g < w.heap.size ∧ xs[k]? = some x ∧ css[k]? = some cs ∧ w.ownsRow lo T r.rep.sz (.slice A n c) n css.flatten ∧ Parts r g w lo S css xs ∧
    (∀ (j : Nat) (u : Value), cs[j]? = some u → w.cell? ⟨g, k * r.rep.sz + j, none⟩ = some u) ∧ ∀ i, w.frozen? ⟨g, i, none⟩ = false := by
  obtain ⟨hl, ⟨_, h0, _⟩ | ⟨g, css, hA, hg, hown, hp⟩⟩ := h
  · omega
  · have hcl := hp.len
    have hx : xs[k]? = some (xs[k]'(by omega)) := List.getElem?_eq_getElem _
    have hc : css[k]? = some (css[k]'(by omega)) := List.getElem?_eq_getElem _
    have hb : lo ≤ g ∧ g < w.heap.size := by
      have := own_addr hown (by omega)
      obtain ⟨g2, e, b1, b2⟩ := this
      rw [hA] at e
      injection e with e
      injection e with e
      subst e
      exact ⟨b1, b2⟩
    have hcell : ∀ (j : Nat) (u : Value), (css[k]'(by omega))[j]? = some u → w.cell? ⟨g, k * r.rep.sz + j, none⟩ = some u := fun j u hu => by
      have hj : j < r.rep.sz := by
        have h1 := (List.getElem?_eq_some_iff.1 hu).1
        have h2 := hp.size _ (List.getElem_mem (show k < css.length by omega))
        omega
      have := hown.cells (g := g) (by rw [hA]; rfl) (k * r.rep.sz + j) u (by
        have := flat_get hp.size k j _ [] hc hj
        rw [List.append_nil] at this
        rw [this]; exact hu)
      rwa [add_flat, Nat.zero_add] at this
    have hfr : ∀ i, w.frozen? ⟨g, i, none⟩ = false := fun i => by
      rcases hown.2 with ⟨h0, _⟩ | ⟨g1, cap, cur, hv, _, hh, _⟩
      · rw [hA] at h0; cases h0
      · obtain rfl := own_blk_eq hA hv
        simp [World.frozen?, hh]
    exact ⟨g, css, _, _, hA, hb.1, hg, hb.2, hx, hc, hown, hp, hcell, hfr⟩
theorem SSl.reads (h : SSl T r lo S w A n c xs) : RSl r.rep lo w A n xs := by
  refine ⟨h.1, fun hn => ?_⟩
  obtain ⟨g, css, _, _, hA, h1, h2, h3, _, _, hown, hp, _, _⟩ := h.at_ hn
  refine ⟨g, 0, hA, h3, h1, fun i x hx => ?_⟩
  have hi : i < n := by have := (List.getElem?_eq_some_iff.1 hx).1; have := h.1; omega
  obtain ⟨g', css', cs, x', hA', _, _, _, hx', hc', hown', hp', hcell, _⟩ := h.at_ hi
  rw [hA] at hA'
  injection hA' with e
  injection e with e
  subst e
  rw [hx] at hx'
  injection hx' with hx'
  subst hx'
  obtain ⟨N, _, _, q5, _⟩ := hp'.focus hc' hx
  exact ⟨cs, fun j u hu => by rw [Nat.zero_add]; exact hcell j u hu, r.reads q5⟩
/-- a store into one element's own cells, or into what it refers to -/
theorem SSl.store (h : SSl T r lo S w A n c xs) {k : Nat} (hk : k < n) : ∃ (g : Nat) (cs : List Value) (x : α) (N : Nat → Prop), A = some ⟨g, 0, none⟩ ∧ lo ≤ g ∧ S g ∧ g < w.heap.size ∧ xs[k]? = some x ∧ (∀ b, N b → S b) ∧ ¬ N g ∧ r.V lo N w cs x ∧
    (∀ (j : Nat) (u : Value), cs[j]? = some u → w.cell? ⟨g, k * r.rep.sz + j, none⟩ = some u) ∧ (∀ i, w.frozen? ⟨g, i, none⟩ = false) ∧
    (∀ (j : Nat) (u : Value) (x' : α), j < r.rep.sz → r.V lo N (w.setCell ⟨g, k * r.rep.sz + j, none⟩ u) (cs.set j u) x' → SSl T r lo S (w.setCell ⟨g, k * r.rep.sz + j, none⟩ u) A n c (xs.set k x')) ∧
    (∀ (b i : Nat) (u : Value) (x' : α), N b → r.V lo N (w.setCell ⟨b, i, none⟩ u) cs x' → SSl T r lo S (w.setCell ⟨b, i, none⟩ u) A n c (xs.set k x')) := by
  obtain ⟨g, css, cs, x, hA, h1, h2, h3, hx, hc, hown, hp, hcell, hfr⟩ := h.at_ hk
  obtain ⟨N, q1, q4, q5, q6⟩ := hp.focus hc hx
  refine ⟨g, cs, x, N, hA, h1, h2, h3, hx, q1, q4, q5, hcell, hfr, fun j u x' hj hv => ?_, fun b i u x' hb hv => ?_⟩
  · refine ⟨by rw [List.length_set]; exact h.1, Or.inr ⟨g, css.set k (cs.set j u), hA, h2, ⟨?_, ?_⟩, q6 _ _ _ (fun b _ _ hn => Below.heap_setCell w ⟨g, k * r.rep.sz + j, none⟩ u b hn) hv⟩⟩
    · have := hown.1
      rw [flat_len (hp.size), hp.len] at this
      rw [flat_len (m := r.rep.sz) (fun d hd => by
        rcases List.mem_or_eq_of_mem_set hd with hd | rfl
        · exact hp.size d hd
        · rw [List.length_set]; exact r.len q5), List.length_set, hp.len]
      exact this
    · rcases hown.2 with ⟨h0, _⟩ | ⟨g1, cap, cur, hv1, hb, hblk, r1, r2, r3, r4⟩
      · rw [hA] at h0; cases h0
      · obtain rfl := own_blk_eq hA hv1
        have hB : Blk w g1 T cur.toList := by unfold Blk; simpa using hblk
        have hB' := hB.set_ (k * r.rep.sz + j) u
        unfold Blk at hB'
        refine Or.inr ⟨g1, cap, (cur.toList.set (k * r.rep.sz + j) u).toArray, hv1, hb, hB', r1, r2, by simpa using r3, ?_⟩
        rw [List.toList_toArray, List.take_set, r4]
        apply List.ext_getElem?
        intro i
        have hcs := r.len q5
        have hkc : k < css.length := (List.getElem?_eq_some_iff.1 hc).1
        have hce : css[k] = cs := (List.getElem?_eq_some_iff.1 hc).2
        have hsz : 0 < r.rep.sz := by omega
        have hall : ∀ d ∈ css.set k (cs.set j u), d.length = r.rep.sz := fun d hd => by
          rcases List.mem_or_eq_of_mem_set hd with hd | rfl
          · exact hp.size d hd
          · rw [List.length_set]; exact hcs
        by_cases hi : i < css.length * r.rep.sz
        · have e1 : i = (i / r.rep.sz) * r.rep.sz + i % r.rep.sz := by rw [Nat.mul_comm]; exact (Nat.div_add_mod i r.rep.sz).symm
          have e2 : i % r.rep.sz < r.rep.sz := Nat.mod_lt _ hsz
          have e3 : i / r.rep.sz < css.length := Nat.div_lt_of_lt_mul (by rw [Nat.mul_comm]; exact hi)
          generalize i / r.rep.sz = a at *
          generalize i % r.rep.sz = b at *
          subst e1
          have g1' := flat_get hp.size a b _ [] (List.getElem?_eq_getElem e3) e2
          have g2' := flat_get hall a b _ [] (List.getElem?_eq_getElem (by rw [List.length_set]; exact e3)) e2
          rw [List.append_nil] at g1' g2'
          rw [g2']
          by_cases hak : a = k
          · subst hak
            rw [List.getElem_set_self]
            by_cases hbj : b = j
            · subst hbj
              rw [List.getElem?_set_self (by rw [flat_len hp.size]; exact hi), List.getElem?_set_self (by omega)]
            · rw [List.getElem?_set_ne (by omega), g1', List.getElem?_set_ne (by omega), hce]
          · have hne : k * r.rep.sz + j ≠ a * r.rep.sz + b := by
              intro he
              rcases Nat.lt_or_gt_of_ne hak with hlt | hlt
              · have : (a + 1) * r.rep.sz ≤ k * r.rep.sz := Nat.mul_le_mul_right _ hlt
                rw [Nat.succ_mul] at this
                omega
              · have : (k + 1) * r.rep.sz ≤ a * r.rep.sz := Nat.mul_le_mul_right _ hlt
                rw [Nat.succ_mul] at this
                omega
            rw [List.getElem?_set_ne hne, g1', List.getElem_set_ne (fun h => hak h.symm)]
        · rw [List.getElem?_eq_none (by rw [List.length_set, flat_len hp.size]; omega), List.getElem?_eq_none (by rw [flat_len hall, List.length_set]; omega)]
  · have hgb : g ≠ b := fun e => q4 (e ▸ hb)
    refine ⟨by rw [List.length_set]; exact h.1, Or.inr ⟨g, css.set k cs, hA, h2, ?_, q6 _ _ _ (fun d _ hd _ => Below.heap_setCell w ⟨b, i, none⟩ u d (fun e => hd (e ▸ hb))) hv⟩⟩
    have hkc : k < css.length := (List.getElem?_eq_some_iff.1 hc).1
    have hcc : css.set k cs = css := by
      rw [← (List.getElem?_eq_some_iff.1 hc).2]
      exact List.set_getElem_self hkc
    rw [hcc]
    refine hown.kept (row := some b) ⟨rfl, rfl, rfl, by simp [World.setCell], fun d hd hne => Below.heap_setCell w ⟨b, i, none⟩ u d (by intro e; exact hne (by rw [e]))⟩ (Or.inr ?_)
    rw [hA]
    intro e
    injection e with e
    exact hgb e
/-- one more element at its end -/
theorem SSl.grow (h : SSl T r lo S w A n c xs) : ∃ cs0, w.ownsRow lo T r.rep.sz (.slice A n c) n cs0 ∧ ∀ (w2 w3 : World) (cs : List Value) (x : α) (N S' : Nat → Prop) (A' : Option Addr) (c' : Nat), (∀ b, S b → w2.heap[b]? = w.heap[b]?) → (∀ b, S b → b < w2.heap.size) → (∀ b, N b → ¬ S b) → (∀ b, N b → b < w2.heap.size) →
    (∀ b, S b → S' b) → (∀ b, N b → S' b) → (w2.heap.size < w3.heap.size → S' w2.heap.size) → r.V lo N w2 cs x →
    w3.ownsRow lo T r.rep.sz (.slice A' (n + 1) c') (n + 1) (cs0 ++ cs) → w2.grownBy w3 (Value.slice A n c).ownBlock → ((Value.slice A' (n + 1) c').ownBlock = (Value.slice A n c).ownBlock ∨ (Value.slice A' (n + 1) c').ownBlock = some w2.heap.size) →
    SSl T r lo S' w3 A' (n + 1) c' (xs ++ [x]) := by
  have hlen := h.1
  obtain ⟨_, ⟨rfl, rfl, rfl⟩ | ⟨g, css, hA, hg, hown, hp⟩⟩ := h
  · refine ⟨[], ⟨by simp, .inl ⟨rfl, rfl⟩⟩, fun w2 w3 cs x N S' A' c' hk hs hd hn s1 s2 s3 hv hown3 hgr hloc => ?_⟩
    obtain rfl : xs = [] := List.eq_nil_of_length_eq_zero hlen
    obtain ⟨g', hA', hb1, hb2⟩ := own_addr hown3 (by omega)
    have hg' : g' = w2.heap.size := by
      rcases hloc with e | e
      · rw [hA'] at e; cases e
      · rw [hA'] at e; injection e
    subst hg'
    refine ⟨rfl, Or.inr ⟨_, [cs], hA', s3 hb2, by simpa using hown3, ?_⟩⟩
    exact ⟨N, fun _ => False, s2, fun _ h => h.elim, fun _ _ h => h, fun h => absurd (hn _ h) (by omega), r.kept hv (fun b hb => hgr.block b (hn b hb) (by simp [Value.ownBlock])), trivial⟩
  · refine ⟨css.flatten, hown, fun w2 w3 cs x N S' A' c' hk hs hd hn s1 s2 s3 hv hown3 hgr hloc => ?_⟩
    obtain ⟨g', hA', hb1, hb2⟩ := own_addr hown3 (by omega)
    have hob : (Value.slice A n c).ownBlock = some g := by rw [hA]; rfl
    have hkg : ∀ b, b < w2.heap.size → b ≠ g → w3.heap[b]? = w2.heap[b]? := fun b hb hne => hgr.block b hb (by rw [hob]; intro e; injection e with e; exact hne e)
    have hp3 : Parts r g w3 lo S css xs := hp.kept (fun b h4 h6 => (hkg b (hs b h4) h6).trans (hk b h4))
    have hNg : ¬ N g := fun h => hd g h hg
    have hv3 : r.V lo N w3 cs x := r.kept hv (fun b h4 => hkg b (hn b h4) (fun e => hNg (e ▸ h4)))
    have hgg : g' = g ∨ g' = w2.heap.size := by
      rcases hloc with e | e
      · rw [hA', hob] at e; left; simpa [Value.ownBlock] using e
      · rw [hA'] at e; right; simpa [Value.ownBlock] using e
    rcases hgg with rfl | rfl
    · exact ⟨by simp [hlen], Or.inr ⟨_, css ++ [cs], hA', s1 _ hg, by simpa using hown3, hp3.snoc s1 s2 hd hNg hv3⟩⟩
    · exact ⟨by simp [hlen], Or.inr ⟨_, css ++ [cs], hA', s3 hb2, by simpa using hown3, (hp3.swap (fun h => absurd (hs _ h) (by omega))).snoc s1 s2 hd (fun h => absurd (hn _ h) (by omega)) hv3⟩⟩
def sepSl (T : TypeId) (r : RepS α) : RepS (List α) := ⟨repSl r.rep, fun lo S w cs xs => ∃ A n c, cs = [.slice A n c] ∧ SSl T r lo S w A n c xs,
  fun ⟨A, n, c, h1, _⟩ => by rw [h1]; rfl, fun ⟨A, n, c, h1, h2⟩ hk => ⟨A, n, c, h1, h2.kept hk⟩, fun ⟨A, n, c, h1, h2⟩ hw => ⟨A, n, c, h1, h2.wide hw⟩, fun ⟨A, n, c, h1, h2⟩ hl => ⟨A, n, c, h1, h2.down hl⟩, fun ⟨A, n, c, h1, h2⟩ => ⟨A, n, c, h1, h2.reads, by have := h2.small; omega⟩⟩
/-- elements that lead to no memory -/
theorem SSl.of_flat (f : α → List Value) (hf : ∀ x ∈ xs, r.V lo (fun _ => False) w (f x) x) (h : w.ownsRow lo T r.rep.sz (.slice A n c) n (xs.map f).flatten) (hl : xs.length = n) (hS : ∀ b, lo ≤ b → b < w.heap.size → (Value.slice A n c).ownBlock = some b → S b) : SSl T r lo S w A n c xs := by
  refine ⟨hl, ?_⟩
  rcases h.2 with ⟨h0, _⟩ | ⟨g, cap, cur, hv, hb, hblk, r1⟩
  · injection h0 with e1 e2 e3
    exact Or.inl ⟨e1, e2, e3⟩
  · injection hv with e1
    have hg : g < w.heap.size := (Array.getElem?_eq_some_iff.1 hblk).1
    have hpp : ∀ (xs : List α), (∀ x ∈ xs, r.V lo (fun _ => False) w (f x) x) → Parts r g w lo S (xs.map f) xs := by
      intro xs hf
      induction xs with
      | nil => trivial
      | cons x xs ih => exact ⟨fun _ => False, S, fun _ h => h.elim, fun _ h => h, fun _ h => h.elim, fun h => h, hf x (by simp), ih (fun y hy => hf y (List.mem_cons_of_mem _ hy))⟩
    exact Or.inr ⟨g, xs.map f, e1, hS g hb hg (by rw [e1]; rfl), h, hpp xs hf⟩
theorem SSl.emp {g : Nat} (h : Blk w g T []) (hlo : lo ≤ g) (hg : S g) : SSl T r lo S w (some ⟨g, 0, none⟩) 0 0 [] :=
  ⟨rfl, Or.inr ⟨g, [], rfl, hg, ⟨by simp, .inr ⟨g, 0, #[], rfl, hlo, h, Nat.le_refl _, by simp [maxLen], by simp, by simp⟩⟩, trivial⟩⟩
theorem SSl.next (h : SSl T r lo S w A n c xs) (hb : Below w.heap.size w w') (hh : ∀ b, S b → b < w.heap.size) : SSl T r lo S w' A n c xs := h.kept fun b hb' => hb.block b (hh b hb')
theorem RepS.next (r : RepS α) {cs : List Value} {x : α} (h : r.V lo S w cs x) (hb : Below w.heap.size w w') (hh : ∀ b, S b → b < w.heap.size) : r.V lo S w' cs x := r.kept h fun b hb' => hb.block b (hh b hb')
end
/-- blocks a .. b-1 -/
def Iv (a b : Nat) (i : Nat) : Prop := a ≤ i ∧ i < b
theorem ints_flat : ∀ xs : List Int, (xs.map fun x => [Value.int .i64 x]).flatten = ints xs
  | [] => rfl
  | x :: xs => by
    have := ints_flat xs
    simp only [List.map_cons, List.flatten_cons, this]
    rfl
/-- slices of ints -/
theorem SSl.of_ints {lo n c : Nat} {S : Nat → Prop} {w : World} {A : Option Addr} {T : TypeId} {xs : List Int} (h : w.ownsRow lo T 1 (.slice A n c) n (ints xs)) (hS : ∀ b, lo ≤ b → b < w.heap.size → (Value.slice A n c).ownBlock = some b → S b) : SSl T sepInt lo S w A n c xs :=
  SSl.of_flat (fun x => [.int .i64 x]) (fun _ _ => rfl) (by rw [ints_flat]; exact h) (by have := h.1; rw [length_ints] at this; omega) hS
theorem SSl.of_intsW {lo n c : Nat} {S : Nat → Prop} {w : World} {A : Option Addr} {T : TypeId} {xs : List Int} (h : w.ownsRow lo T 1 (.slice A n c) n (ints xs)) (hw : ∀ x ∈ xs, wf64 x) (hS : ∀ b, lo ≤ b → b < w.heap.size → (Value.slice A n c).ownBlock = some b → S b) : SSl T sepIntW lo S w A n c xs :=
  SSl.of_flat (fun x => [.int .i64 x]) (fun x hx => ⟨rfl, hw x hx⟩) (by rw [ints_flat]; exact h) (by have := h.1; rw [length_ints] at this; omega) hS
theorem parts_ints {g : Nat} {w : World} {lo : Nat} : ∀ {css : List (List Value)} {xs : List Int} {S : Nat → Prop}, Parts sepInt g w lo S css xs → css.flatten = ints xs
  | [], [], _, _ => rfl
  | d :: css, x :: xs, _, ⟨_, _, _, _, _, _, h4, h5⟩ => by
    have h4' : d = [.int .i64 x] := h4
    rw [List.flatten_cons, parts_ints h5, h4']
    rfl
  | [], _ :: _, _, h => h.elim
  | _ :: _, [], _, h => h.elim
theorem SSl.ints_own {lo n c : Nat} {S : Nat → Prop} {w : World} {A : Option Addr} {T : TypeId} {xs : List Int} (h : SSl T sepInt lo S w A n c xs) : w.ownsRow lo T 1 (.slice A n c) n (ints xs) := by
  obtain ⟨hl, ⟨rfl, rfl, rfl⟩ | ⟨g, css, hA, hg, hown, hp⟩⟩ := h
  · obtain rfl : xs = [] := List.eq_nil_of_length_eq_zero hl
    exact ⟨by simp [ints], .inl ⟨rfl, rfl⟩⟩
  · rw [parts_ints hp] at hown
    exact hown
end Go.Proofs.Ytkekcgamhhmjnaa
