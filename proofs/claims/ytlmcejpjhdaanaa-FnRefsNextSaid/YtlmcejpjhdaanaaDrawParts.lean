/- Walks: drawing parts: only what bounds the results is said. -/
import Derived.Test.YtlmcejpjhdaanaaCoP
import Derived.Test.YtlmcejpjhdaanaaDrawUps
namespace Go.Proofs.Ytlmcejpjhdaanaa
open Go.RowKit Go.Sort

/-- cells of ints, three by three -/
theorem ups_of_cells : ∀ (n : Nat) (cs : List Value), cs.length = n * 3 → IntCells cs → ∃ us : List Up, us.length = n ∧ cs = (us.map upV).flatten
  | 0, cs, h, _ => ⟨[], rfl, by simpa using List.eq_nil_of_length_eq_zero (by omega)⟩
  | n + 1, a :: b :: c :: cs, h, hi => by
    obtain ⟨us, h1, h2⟩ := ups_of_cells n cs (by simp at h; omega) (fun v hv => hi v (by simp [hv]))
    obtain ⟨x, hx⟩ := hi a (by simp)
    obtain ⟨y, hy⟩ := hi b (by simp)
    obtain ⟨z, hz⟩ := hi c (by simp)
    refine ⟨⟨x, y, z⟩ :: us, by simp [h1], ?_⟩
    rw [hx, hy, hz]
    simp only [List.map_cons, List.flatten_cons, upV, List.cons_append, List.nil_append]
    rw [h2]
  | n + 1, [], h, _ => by simp at h
  | n + 1, [_], h, _ => by simp at h; omega
  | n + 1, [_, _], h, _ => by simp at h; omega
theorem IsUps.sep {B : Nat} {v : Value} {w : World} (h : IsUps B v w) : ∃ U n c us, v = .slice U n c ∧ n ≤ 4 ∧ us.length = n ∧ SSl 53 sepUp B (Iv B w.heap.size) w U n c us := by
  obtain ⟨U, n, c, cs, rfl, hn, hown, hi⟩ := h
  obtain ⟨us, h1, h2⟩ := ups_of_cells n cs hown.1 hi
  rw [h2] at hown
  exact ⟨U, n, c, us, rfl, hn, h1, SSl.of_flat upV (fun x _ => sepUp_mk x) hown h1 (fun b h1 h2 _ => ⟨h1, h2⟩)⟩
theorem Rd.keepB {w w' : World} {g p B : Nat} (h : Rd w g p) (hb : Below B w w') (hg : g < B) : Rd w' g p := by
  obtain ⟨A, n, c, hbl, hn, hr⟩ := h
  exact ⟨A, n, c, hbl.below hb hg, hn, hr.keep fun a ha => hb.cell (by omega)⟩
theorem grown_belowB {a b c : World} {g B : Nat} (h : a.grownBy b (some g)) (k : Below B b c) (hB : a.heap.size ≤ B) : a.grownBy c (some g) :=
  ⟨k.os.trans h.os, k.tape.trans h.tape, k.output.trans h.output, Nat.le_trans h.size k.size, fun i hi hne => (k.block i (by omega)).trans (h.block i hi hne)⟩
/-- parts while they are drawn -/
def PtP (g : Nat) (w : World) (B : Option Addr) (m d : Nat) (ps : List Pt) (q : Nat) (wx : World) : Prop :=
  SSl 51 sepPt w.heap.size (Iv w.heap.size wx.heap.size) wx B m d ps ∧ (∀ x ∈ ps, x.us.length ≤ 4) ∧ Rd wx g q ∧ w.grownBy wx (some g)
section
variable {g q q' m d : Nat} {w w' w3 : World} {B : Option Addr} {ps : List Pt}
theorem PtP.pick (hgw : g < w.heap.size) (h : PtP g w B m d ps q w') (hr : Rd w3 g q') (hg : w'.grownBy w3 (some g)) : PtP g w B m d ps q' w3 :=
  ⟨(h.1.kept (fun b hb => hg.block b hb.2 (by intro e; injection e with e; have := hb.1; omega))).wide (fun _ hb => ⟨hb.1, Nat.lt_of_lt_of_le hb.2 hg.size⟩), h.2.1, hr, grown_trans h.2.2.2 hg⟩
theorem PtP.next (h : PtP g w B m d ps q w') (hb : Below w'.heap.size w' w3) : PtP g w B m d ps q w3 :=
  ⟨(h.1.next hb (fun _ hb => hb.2)).wide (fun _ hb' => ⟨hb'.1, Nat.lt_of_lt_of_le hb'.2 hb.size⟩), h.2.1, h.2.2.1.keep hb, grown_below h.2.2.2 hb⟩
theorem PtP.app {W0 w9 : World} {cs0 : List Value} {U B' : Option Addr} {n c d' : Nat} {us : List Up} {s : Int} {o : Obj} {P : Nat} (hgw : g < w.heap.size) (h : PtP g w B m d ps q w')
    (hgrow : ∀ (w2 w3 : World) (cs : List Value) (x : Pt) (N S' : Nat → Prop) (A' : Option Addr) (c' : Nat), (∀ b, Iv w.heap.size w'.heap.size b → w2.heap[b]? = w'.heap[b]?) → (∀ b, Iv w.heap.size w'.heap.size b → b < w2.heap.size) → (∀ b, N b → ¬ Iv w.heap.size w'.heap.size b) → (∀ b, N b → b < w2.heap.size) →
      (∀ b, Iv w.heap.size w'.heap.size b → S' b) → (∀ b, N b → S' b) → (w2.heap.size < w3.heap.size → S' w2.heap.size) → sepPt.V w.heap.size N w2 cs x →
      w3.ownsRow w.heap.size 51 sepPt.rep.sz (.slice A' (m + 1) c') (m + 1) (cs0 ++ cs) → w2.grownBy w3 (Value.slice B m d).ownBlock → ((Value.slice A' (m + 1) c').ownBlock = (Value.slice B m d).ownBlock ∨ (Value.slice A' (m + 1) c').ownBlock = some w2.heap.size) →
      SSl 51 sepPt w.heap.size S' w3 A' (m + 1) c' (ps ++ [x]))
    (hP : w'.heap.size ≤ P) (hg0 : w'.grownBy W0 (some g)) (hr0 : Rd W0 g q') (hU : SSl 53 sepUp P (Iv P W0.heap.size) W0 U n c us) (hn : us.length ≤ 4)
    (hown9 : w9.ownsRow w.heap.size 51 2 (.slice B' (m + 1) d') (m + 1) (cs0 ++ [.int .i64 s, .slice U n c])) (hg9 : (W0.alloc o).grownBy w9 (Value.slice B m d).ownBlock)
    (hb9 : Below w.heap.size (W0.alloc o) w9) (hloc9 : (Value.slice B' (m + 1) d').ownBlock = (Value.slice B m d).ownBlock ∨ (Value.slice B' (m + 1) d').ownBlock = some (W0.alloc o).heap.size) :
    PtP g w B' (m + 1) d' (ps ++ [⟨s, us⟩]) q' w9 := by
  have z0 : (W0.alloc o).heap.size = W0.heap.size + 1 := by simp
  have z1 := hg0.size
  have z2 := hg9.size
  have z3 := h.2.2.2.size
  have hba := below_box W0 o
  refine ⟨?_, fun x hx => ?_, (hr0.keep hba).keepB hb9 hgw, grown_belowB (grown_below (grown_trans h.2.2.2 hg0) hba) hb9 (Nat.le_refl _)⟩
  · refine hgrow (W0.alloc o) w9 _ ⟨s, us⟩ (Iv P W0.heap.size) _ B' d' (fun b hb => (hba.block b (by have := hb.2; omega)).trans (hg0.block b hb.2 (by intro e; injection e with e; have := hb.1; omega))) (fun b hb => by have := hb.2; omega) (fun b h1 h2 => by have := h1.1; have := h2.2; omega) (fun b h1 => by have := h1.2; omega)
      (fun b h1 => ⟨h1.1, by have := h1.2; omega⟩) (fun b h1 => ⟨by have := h1.1; omega, by have := h1.2; omega⟩) (fun h1 => ⟨by omega, h1⟩) ?_ hown9 hg9 hloc9
    exact sepPt_mk (p := ⟨s, us⟩) ((hU.next hba (fun _ hb => hb.2)).down (by omega))
  · rcases List.mem_append.1 hx with hx | hx
    · exact h.2.1 x hx
    · simp at hx; subst hx; exact hn
end
end Go.Proofs.Ytlmcejpjhdaanaa
