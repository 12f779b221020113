/- Areas whose row the call owns; what the reference's quarantine functions compute; walk of l13Find. -/
import Derived.Test.YtjofgbbofagoiaaCopy
import Derived.Test.YtjofgbbofagoiaaPut
import Derived.Test.YtjofgbbofagoiaaStoreTop
import Derived.Test.YtjofgbbofagoiaaQuar
namespace Go.Proofs.Ytjofgbbofagoiaa
open Go.RowKit Go.Sort

theorem ar_info1 : (Try.prog.info? 70).map (fun i => (i.zero, i.size, i.bytes)) = some (some (.agg #[.int .i64 0, .slice none 0 0]), 2, 32) := by kernel_rfl
theorem LinkIn.rsl {w : World} {C m : Nat} {A : Option Addr} {xs : List Int} (h : LinkIn w C A m xs) : RSl repInt C w A m xs := by
  refine ⟨h.1.1, fun hn => ?_⟩
  obtain ⟨ad, e, hb, hc⟩ := h.1.2 hn
  obtain ⟨h1, h2, _⟩ := h.2 ad e
  rw [h2] at e
  refine ⟨ad.block, 0, e, hb, h1, fun i x hx => ⟨[.int .i64 x], fun j u hu => ?_, rfl⟩⟩
  match j, hu with
  | 0, hu =>
    simp at hu
    subst hu
    have := hc i x hx
    rw [h2, add_flat] at this
    simpa [repInt] using this
  | j + 1, hu => simp at hu
theorem OwnO.rsl {w : World} {B n c : Nat} {A : Option Addr} {os : List Ob} (h : OwnO w B (.slice A n c) n os) : RSl repOb B w A n os := by
  have hl := OwnR.len h
  obtain ⟨cs, h1, h2⟩ := h
  refine ⟨hl, fun hn => ?_⟩
  obtain ⟨g, rfl, hBg, hlt⟩ := own_addr h1 hn
  refine ⟨g, 0, rfl, hlt, hBg, fun i o ho => ?_⟩
  obtain ⟨A', m, d, q0, q1, q2, q3, q4, q5⟩ := h2.2 i o ho
  have hc : ∀ (j : Nat) (u : Value), cs[j]? = some u → w.cell? ⟨g, 0 + j, none⟩ = some u := fun j u hu => by
    have := h1.cells (g := g) rfl j u hu
    rwa [add_flat] at this
  refine ⟨_, fun j u hu => ?_, repOb_mk (d := d) q3.rsl q4 q5⟩
  match j, hu with
  | 0, hu => simp at hu; subst hu; exact hc _ _ q0
  | 1, hu => simp at hu; subst hu; rw [Nat.add_assoc]; exact hc _ _ q1
  | 2, hu => simp at hu; subst hu; rw [Nat.add_assoc]; exact hc _ _ q2
  | j + 3, hu => simp at hu
/-- cells that read as areas -/
def ElemsA (cs : List Value) (ars : List Ar) (R : Value → List Ob → Prop) : Prop :=
  cs.length = ars.length * 2 ∧ ∀ (i : Nat) (x : Ar), ars[i]? = some x → ∃ v, cs[i * 2]? = some (.int .i64 x.t) ∧ cs[i * 2 + 1]? = some v ∧ R v x.os
theorem ElemsA.nil {R : Value → List Ob → Prop} : ElemsA [] [] R := ⟨rfl, fun i o h => by simp at h⟩
theorem ElemsA.mono {cs : List Value} {ars : List Ar} {R R' : Value → List Ob → Prop} (h : ElemsA cs ars R) (hR : ∀ v os, R v os → R' v os) : ElemsA cs ars R' :=
  ⟨h.1, fun i o ho => by obtain ⟨v, h0, h1, h2⟩ := h.2 i o ho; exact ⟨v, h0, h1, hR _ _ h2⟩⟩
theorem ElemsA.push {cs : List Value} {ars : List Ar} {R : Value → List Ob → Prop} {x : Ar} {v : Value} (h : ElemsA cs ars R) (hv : R v x.os) : ElemsA (cs ++ [.int .i64 x.t, v]) (ars ++ [x]) R := by
  have hl := h.1
  refine ⟨by simp only [List.length_append, List.length_cons, List.length_nil]; omega, fun i o ho => ?_⟩
  rcases Nat.lt_or_ge i ars.length with hi | hi
  · rw [List.getElem?_append_left hi] at ho
    obtain ⟨u, h0, h1, h2⟩ := h.2 i o ho
    exact ⟨u, by rw [List.getElem?_append_left (by omega)]; exact h0, by rw [List.getElem?_append_left (by omega)]; exact h1, h2⟩
  · rw [List.getElem?_append_right hi] at ho
    obtain rfl : i = ars.length := by
      have := (List.getElem?_eq_some_iff.1 ho).1
      simp at this
      omega
    rw [Nat.sub_self] at ho
    have : x = o := by simpa using ho
    subst this
    exact ⟨v, by rw [List.getElem?_append_right (by omega), ← hl, Nat.sub_self]; rfl, by rw [List.getElem?_append_right (by omega), ← hl, Nat.add_sub_cancel_left]; rfl, hv⟩
/-- objects of an area, of the call's own -/
def ObIn (w : World) (B : Nat) (v : Value) (os : List Ob) : Prop := ∃ A n c, v = .slice A n c ∧ OwnO w B v n os
/-- areas of the call's own -/
def OwnA (w : World) (B : Nat) (v : Value) (n : Nat) (ars : List Ar) : Prop := ∃ cs, w.ownsRow B 70 2 v n cs ∧ ElemsA cs ars (ObIn w B)
section
variable {w w' : World} {B B' n : Nat} {v : Value} {ars : List Ar} {os : List Ob}
theorem ObIn.next (h : ObIn w B v os) (hb : Below w.heap.size w w') : ObIn w' B v os := let ⟨A, n, c, e, h1⟩ := h; ⟨A, n, c, e, h1.next hb⟩
theorem OwnO.other {row : Option Nat} (h : OwnO w B v n os) (hg : w.grownBy w' row) (hrow : ∀ g, row = some g → ∃ cs e fz, w.heap[g]? = some (.cells cs e fz) ∧ e ≠ 3 ∧ e ≠ 33) : OwnO w' B v n os := by
  obtain ⟨cs, h1, h2⟩ := h
  refine ⟨cs, h1.kept hg ?_, h2.mono fun A m xs hx => hx.grown hg (fun g e => by obtain ⟨cs, e, fz, a, b, _⟩ := hrow g e; exact Or.inr ⟨cs, e, fz, a, b⟩)⟩
  cases hv : v.ownBlock with
  | none => exact Or.inl rfl
  | some b =>
    refine Or.inr fun e => ?_
    obtain ⟨cs', e', fz, a, _, hne⟩ := hrow b e.symm
    rcases h1.2 with ⟨rfl, _⟩ | ⟨g', cap, cur, rfl, _, hh, _⟩
    · cases hv
    · have : g' = b := by simpa [Value.ownBlock] using hv
      subst this
      rw [hh] at a
      injection a with a
      injection a with _ a
      exact hne a.symm
theorem ObIn.other {row : Option Nat} (h : ObIn w B v os) (hg : w.grownBy w' row) (hrow : ∀ g, row = some g → ∃ cs e fz, w.heap[g]? = some (.cells cs e fz) ∧ e ≠ 3 ∧ e ≠ 33) : ObIn w' B v os := let ⟨A, n, c, e, h1⟩ := h; ⟨A, n, c, e, h1.other hg hrow⟩
theorem ObIn.base (h : ObIn w B v os) (hB : B' ≤ B) : ObIn w B' v os := let ⟨A, n, c, e, h1⟩ := h; ⟨A, n, c, e, h1.base hB⟩
theorem OwnA.next (h : OwnA w B v n ars) (hb : Below w.heap.size w w') : OwnA w' B v n ars := by
  obtain ⟨cs, h1, h2⟩ := h
  exact ⟨cs, own_below h1 hb, h2.mono fun _ _ hx => hx.next hb⟩
theorem OwnA.base (h : OwnA w B v n ars) (hB : B' ≤ B) : OwnA w B' v n ars := by
  obtain ⟨cs, h1, h2⟩ := h
  exact ⟨cs, own_base h1 hB, h2.mono fun _ _ hx => hx.base hB⟩
theorem OwnA.grown {g : Nat} (h : OwnA w B v n ars) (hg : w.grownBy w' (some g)) (hlt : g < B) : OwnA w' B v n ars := by
  obtain ⟨cs, h1, h2⟩ := h
  exact ⟨cs, own_grown h1 hg hlt, h2.mono fun _ _ ⟨A, n, c, e, h⟩ => ⟨A, n, c, e, h.grown hg hlt⟩⟩
theorem OwnA.len (h : OwnA w B v n ars) : ars.length = n := by
  obtain ⟨cs, h1, h2⟩ := h
  have := h1.1; have := h2.1; omega
theorem OwnA.form (h : OwnA w B v n ars) : ∃ A c, v = .slice A n c ∧ n ≤ c := let ⟨_, h1, _⟩ := h; own_form h1
theorem OwnA.nil : OwnA w B (.slice none 0 0) 0 [] := ⟨[], ⟨by simp, .inl ⟨rfl, rfl⟩⟩, ElemsA.nil⟩
theorem OwnA.emp {g : Nat} (h : Blk w g 70 []) (hB : B ≤ g) : OwnA w B (.slice (some ⟨g, 0, none⟩) 0 0) 0 [] := ⟨[], own_emp h hB, ElemsA.nil⟩
/-- after an append of one area -/
theorem OwnA.push {w1 : World} {m : Nat} {v' v1 : Value} {x : Ar} {cs : List Value} (hown : w.ownsRow B 70 2 v n cs) (hel : ElemsA cs ars (ObIn w B)) (hob : ObIn w B v1 x.os)
    (hg : w.grownBy w1 v.ownBlock) (hown' : w1.ownsRow B 70 2 v' m (cs ++ [.int .i64 x.t, v1])) : OwnA w1 B v' m (ars ++ [x]) :=
  ⟨_, hown', (hel.push hob).mono fun _ _ hx => hx.other hg fun g e => by
    rcases hown.2 with ⟨rfl, _⟩ | ⟨g', cap, cur, rfl, _, hh, _⟩
    · cases e
    · have : g' = g := by simpa [Value.ownBlock] using e
      subst this
      exact ⟨_, _, _, hh, by decide, by decide⟩⟩
theorem OwnO.small {A : Option Addr} {c : Nat} (h : OwnO w B (.slice A n c) n os) : n ≤ maxLen := by
  obtain ⟨cs, h1, _⟩ := h
  rcases h1.2 with ⟨h0, h1⟩ | ⟨g1, cap, cur, hv, _, _, h1, h2, _⟩
  · omega
  · exact Nat.le_trans h1 h2
theorem OwnA.small {A : Option Addr} {c : Nat} (h : OwnA w B (.slice A n c) n ars) : n ≤ maxLen := by
  obtain ⟨cs, h1, _⟩ := h
  rcases h1.2 with ⟨h0, h1⟩ | ⟨g1, cap, cur, hv, _, _, h1, h2, _⟩
  · omega
  · exact Nat.le_trans h1 h2
theorem OwnA.rsl {A : Option Addr} {c : Nat} (h : OwnA w B (.slice A n c) n ars) : RSl repAr B w A n ars := by
  have hl := h.len
  obtain ⟨cs, h1, h2⟩ := h
  refine ⟨hl, fun hn => ?_⟩
  obtain ⟨g, rfl, hBg, hlt⟩ := own_addr h1 hn
  refine ⟨g, 0, rfl, hlt, hBg, fun i o ho => ?_⟩
  obtain ⟨u, q0, q1, A', m, d, rfl, q2⟩ := h2.2 i o ho
  have hc : ∀ (j : Nat) (u : Value), cs[j]? = some u → w.cell? ⟨g, 0 + j, none⟩ = some u := fun j u hu => by
    have := h1.cells (g := g) rfl j u hu
    rwa [add_flat] at this
  refine ⟨_, fun j u hu => ?_, repAr_mk (d1 := d) q2.rsl q2.small⟩
  match j, hu with
  | 0, hu => simp at hu; subst hu; exact hc _ _ q0
  | 1, hu => simp at hu; subst hu; rw [Nat.add_assoc]; exact hc _ _ q1
  | j + 2, hu => simp at hu
end
/-- a quarantine of the call's own -/
def OwnQ (w : World) (B : Nat) (cs : List Value) (q : Qu) : Prop := ∃ A n c C m d, cs = [.slice A n c, .slice C m d] ∧ OwnO w B (.slice A n c) n q.main ∧ OwnA w B (.slice C m d) m q.ars
def QuTo (w : World) (q : Qu) (e : Ending) (w' : World) : Prop := ∃ cs, e = .returned (.agg cs.toArray) ∧ OwnQ w' w.heap.size cs q ∧ Below w.heap.size w w'
theorem OwnQ.rep0 {w : World} {B : Nat} {cs : List Value} {q : Qu} (h : OwnQ w B cs q) : repQu.V 0 w cs q := by
  obtain ⟨A, n, c, C, m, d, rfl, h1, h2⟩ := h
  exact repQu_mk (h1.rsl.down (Nat.zero_le _)) h1.small (h2.rsl.down (Nat.zero_le _)) h2.small
theorem OwnQ.next {w w' : World} {B : Nat} {cs : List Value} {q : Qu} (h : OwnQ w B cs q) (hb : Below w.heap.size w w') : OwnQ w' B cs q := by
  obtain ⟨A, n, c, C, m, d, rfl, h1, h2⟩ := h
  exact ⟨A, n, c, C, m, d, rfl, h1.next hb, h2.next hb⟩
theorem OwnQ.base {w : World} {B B' : Nat} {cs : List Value} {q : Qu} (h : OwnQ w B cs q) (hB : B' ≤ B) : OwnQ w B' cs q := by
  obtain ⟨A, n, c, C, m, d, rfl, h1, h2⟩ := h
  exact ⟨A, n, c, C, m, d, rfl, h1.base hB, h2.base hB⟩
theorem OwnQ.grown {w w' : World} {B g : Nat} {cs : List Value} {q : Qu} (h : OwnQ w B cs q) (hg : w.grownBy w' (some g)) (hlt : g < B) : OwnQ w' B cs q := by
  obtain ⟨A, n, c, C, m, d, rfl, h1, h2⟩ := h
  exact ⟨A, n, c, C, m, d, rfl, h1.grown hg hlt, h2.grown hg hlt⟩

/-- the place of an area -/
def findA (ars : List Ar) (t : Int) : Option Nat := ars.findIdx? (fun a => a.t == t)
def idxA (o : Option Nat) : Int := match o with | some k => (k : Int) | none => -1
theorem findA_some {ars : List Ar} {t : Int} {k : Nat} {a : Ar} (h : ∀ j a, ars[j]? = some a → j < k → a.t ≠ t) (hp : ars[k]? = some a) (hs : a.t = t) : findA ars t = some k := by
  unfold findA
  rw [List.findIdx?_eq_some_iff_getElem]
  obtain ⟨h1, h2⟩ := List.getElem?_eq_some_iff.1 hp
  refine ⟨h1, by rw [h2]; simpa using hs, fun j hj => ?_⟩
  have := h j _ (List.getElem?_eq_getElem (by omega)) hj
  simpa using this
theorem findA_none {ars : List Ar} {t : Int} (h : ∀ (j : Nat) (a : Ar), ars[j]? = some a → a.t ≠ t) : findA ars t = none := by
  unfold findA
  rw [List.findIdx?_eq_none_iff]
  intro p hp
  obtain ⟨i, hi⟩ := List.mem_iff_getElem?.1 hp
  simpa using h i p hi
set_option maxRecDepth 100000 in
set_option maxHeartbeats 1600000 in
theorem l13Find_any (cs : List Value) (q : Qu) (t : Int) (w : World) (hv : repQu.V 0 w cs q) :
    Calls Try.prog 40 #[.agg cs.toArray, .int .i64 t] w fun e w' => e = .returned (.int .i64 (idxA (findA q.ars t))) ∧ Below w.heap.size w w' := by
  obtain ⟨B0, m0, d0, B1, m1, d1, rfl, hr0, hm0, hr1, hm1⟩ := repQu_cells hv
  have hl1 := hr1.1
  unfold maxLen at hm1
  have b0 := below_box w (.cells #[.slice B0 m0 d0, .slice B1 m1 d1] 26)
  have x0 := Blk.new w 26 [.slice B0 m0 d0, .slice B1 m1 d1]
  obtain ⟨y0, y1⟩ := x0.cells2
  have hrw := hr1.next b0
  clear hv hr0 hr1
  have HL := Lib.hid hl1
  clear hl1
  go_enter Try.func40, Try.ntmps40
  go_wp2_with fail
  go_loop [5] (fun i => ∃ k : Nat, k ≤ m1 ∧ i = .int .i64 k ∧ Hid (∀ (j : Nat) (a : Ar), q.ars[j]? = some a → j < k → a.t ≠ t)) (fun i => m1 - (intOf i).toNat)
  case atStart => exact ⟨0, Nat.zero_le _, rfl, Lib.hid fun j a _ h => absurd h (by omega)⟩
  case round =>
    obtain ⟨k, hk, rfl, hno⟩ := hrel
    by_cases hlt : k < m1
    · obtain ⟨b, off, x, cs', rfl, hb, hx, hc, hvx⟩ := hrw.at_ hlt
      obtain ⟨A1, n1, c1, rfl, -, -⟩ := repAr_cells hvx
      have c0 : (w.alloc (.cells #[.slice B0 m0 d0, .slice (some ⟨b, off, none⟩) m1 d1] 26)).cell? ⟨b, off + k * 2, none⟩ = some (.int .i64 x.t) := hc 0 _ rfl
      have HX := Lib.hid hx
      clear hx hc hvx
      by_cases hxt : x.t = t
      · have hxb : (x.t == t) = true := by simp [hxt]
        go_wp2_with fail
        go_ret
        exact ⟨by rw [findA_some hno.out HX.out hxt]; rfl, b0⟩
      · have hxb : (x.t == t) = false := by simp [hxt]
        go_wp2_with fail
        go_round
        case rel => exact ⟨k + 1, by omega, by go_num, Lib.hid fun j a hj hjk => by
          by_cases e : j < k
          · exact hno.out j a hj e
          · obtain rfl : j = k := by omega
            rw [HX.out] at hj
            injection hj with hj
            subst hj
            exact hxt⟩
        case measure => simp [intOf]; omega
    · obtain rfl : k = m1 := by omega
      have HN := Lib.hid (findA_none (ars := q.ars) (t := t) fun j a hj => hno.out j a hj (by have := (List.getElem?_eq_some_iff.1 hj).1; have := HL.out; omega))
      go_wp2_with fail
      go_ret
      exact ⟨by rw [HN.out]; rfl, b0⟩
end Go.Proofs.Ytjofgbbofagoiaa
