/- Walk: the laws' copies of objects, as rows whose parts lie in blocks apart. -/
import Derived.Test.YtjofgbbofagoiaaSepQ
import Derived.Test.YtjofgbbofagoiaaObjLaw
namespace Go.Proofs.Ytjofgbbofagoiaa
open Go.RowKit Go.Sort

theorem own_blk_q {w : World} {lo g n size : Nat} {T : TypeId} {cs : List Value} (h : Blk w g T cs) (hlo : lo ≤ g) (hl : cs.length = n * size) (hm : n ≤ maxLen) : w.ownsRow lo T size (.slice (some ⟨g, 0, none⟩) n n) n cs :=
  ⟨hl, .inr ⟨g, n, cs.toArray, rfl, hlo, h, Nat.le_refl _, hm, by simpa using hl, by simp [← hl]⟩⟩
theorem own_blk_ints {w : World} {lo g : Nat} {T : TypeId} {xs : List Int} (h : Blk w g T (ints xs)) (hlo : lo ≤ g) (hl : xs.length ≤ maxLen) : w.ownsRow lo T 1 (.slice (some ⟨g, 0, none⟩) xs.length xs.length) xs.length (ints xs) :=
  own_blk_q h hlo (by rw [length_ints]; omega) hl
theorem parts_oobjs {w : World} {lo g : Nat} : ∀ (os : List Ob) (bs : List Nat), bs.length = os.length → (∀ (i : Nat) (o : Ob) (b : Nat), os[i]? = some o → bs[i]? = some b → Blk w b 3 (ints o.xs)) → (∀ b ∈ bs, g < b) → lo ≤ g → bs.Pairwise (· < ·) → (∀ o ∈ os, o.xs.length ≤ maxLen ∧ o.t.size ≤ maxLen) →
    ∃ css, css.flatten = cellsO os bs ∧ Parts sepOb g w lo (fun b => b ∈ bs) css os
  | [], [], _, _, _, _, _, _ => ⟨[], rfl, trivial⟩
  | [], _ :: _, h, _, _, _, _, _ => by simp at h
  | _ :: _, [], h, _, _, _, _, _ => by simp at h
  | o :: os, b :: bs, hl, hb, hg, hlo, hp, hs => by
    rw [List.pairwise_cons] at hp
    obtain ⟨css, h1, h2⟩ := parts_oobjs (w := w) (lo := lo) (g := g) os bs (by simpa using hl) (fun i x c hx hc => hb (i + 1) x c (by simpa using hx) (by simpa using hc)) (fun c hc => hg c (List.mem_cons_of_mem _ hc)) hlo hp.2 (fun x hx => hs x (List.mem_cons_of_mem _ hx))
    have hbg := hg b (by simp)
    refine ⟨_ :: css, by rw [List.flatten_cons, h1]; rfl, fun c => c = b, fun c => c ∈ bs, ?_, ?_, ?_, ?_, sepOb_mk (A := some ⟨b, 0, none⟩) (m := o.xs.length) (d := o.xs.length) (Or.inr ⟨b, _, rfl, by omega, rfl, hb 0 o b rfl rfl, rfl, by rw [List.take_of_length_le (by rw [length_ints]; exact Nat.le_refl _)]⟩) (hs o (by simp)).1 (hs o (by simp)).2, h2⟩
    · rintro c rfl
      exact List.mem_cons_self
    · intro c hc
      exact List.mem_cons_of_mem _ hc
    · rintro c rfl hc
      have := hp.1 c hc
      omega
    · intro e
      omega
theorem OObjs.ssl {w : World} {lo g n : Nat} {os : List Ob} {bs : List Nat} (h : OObjs w lo g os bs) (hn : n = os.length) (hs : smallO os) : SSl 33 sepOb g (Iv g w.heap.size) w (some ⟨g, 0, none⟩) n n os := by
  obtain ⟨h1, _, h3, h4, h5, h6⟩ := h
  have h7 := hs.1
  obtain ⟨css, q1, q2⟩ := parts_oobjs (w := w) (lo := g) (g := g) os bs h1 h4 h5 (Nat.le_refl _) h6 (fun o ho => by have := hs.2 o ho; simp only [maxLen]; omega)
  have hgl := h3.lt
  refine ⟨hn.symm, Or.inr ⟨g, css, rfl, ⟨Nat.le_refl _, hgl⟩, ?_, q2.widen ?_⟩⟩
  · rw [q1]
    exact own_blk_q h3 (Nat.le_refl _) (by rw [length_cellsO os bs h1, hn]; rfl) (by simp only [maxLen]; omega)
  · intro b hb
    obtain ⟨i, hi⟩ := List.mem_iff_getElem?.1 hb
    have hil : i < os.length := by have := (List.getElem?_eq_some_iff.1 hi).1; omega
    exact ⟨Nat.le_of_lt (h5 b hb), (h4 i _ b (List.getElem?_eq_getElem hil) hi).lt⟩
theorem toObjectS_s (A : Option Addr) (n c : Nat) (xs : List Ob) (w : World) (h : RSl repOb 0 w A n xs) (hs : smallO xs) :
    Calls Try.prog 58 #[.slice A n c] w fun e w' => ∃ B, e = .returned (.slice B n n) ∧ SSl 33 sepOb w.heap.size (Iv w.heap.size w'.heap.size) w' B n n xs ∧ Below w.heap.size w w' :=
  (toObjectS_any A n c xs w h.robjs hs).mono fun _ _ ⟨_, he, ho, hb⟩ => ⟨_, he, ho.ssl h.1.symm hs, hb⟩
end Go.Proofs.Ytjofgbbofagoiaa
