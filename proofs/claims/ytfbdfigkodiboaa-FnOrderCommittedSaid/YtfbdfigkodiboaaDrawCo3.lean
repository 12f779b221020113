/- Walks: DrawCoordinatorValid, l92Of, DrawCoordinatorTimeout, DrawCoordinatorWaits, DrawCoordinatorBegin. -/
import Derived.Test.YtfbdfigkodiboaaDrawCo2
import Derived.Test.YtfbdfigkodiboaaRegL
namespace Go.Proofs.Ytfbdfigkodiboaa
open Go.RowKit Go.Sort

theorem rbytes_next {w w' : World} {A : Option Addr} {n : Nat} (h : RBytes w w.heap.size A n) (hb : Below w.heap.size w w') : RBytes w' w'.heap.size A n := fun hn => by
  obtain ⟨ad, e, hlt, hcs⟩ := h hn
  exact ⟨ad, e, Nat.lt_of_lt_of_le hlt hb.size, fun j hj => by
    obtain ⟨b, h0, h1, h2⟩ := hcs j hj
    exact ⟨b, h0, h1, by rw [World.cell?_of_block (hb.block _ (by rw [block_of_add]; exact hlt))]; exact h2⟩⟩
/-- a drawn coordinator in blocks from B on -/
def CoAt (B : Nat) (w' : World) (cs : List Value) (q : Co) : Prop := ∃ S, (∀ b, S b → B ≤ b ∧ b < w'.heap.size) ∧ sepCo.V B S w' cs q ∧ tinyQ q
theorem CoAt.next {B : Nat} {w w' : World} {cs : List Value} {q : Co} (h : CoAt B w cs q) (hb : Below w.heap.size w w') : CoAt B w' cs q := by
  obtain ⟨S, h1, h2, h3⟩ := h
  exact ⟨S, fun b hs => ⟨(h1 b hs).1, Nat.lt_of_lt_of_le (h1 b hs).2 hb.size⟩, sepCo.next h2 hb (fun b hs => (h1 b hs).2), h3⟩
theorem CoAt.grown {B g : Nat} {w w' : World} {cs : List Value} {q : Co} (h : CoAt B w cs q) (hg : w.grownBy w' (some g)) (hB : g < B) : CoAt B w' cs q := by
  obtain ⟨S, h1, h2, h3⟩ := h
  exact ⟨S, fun b hs => ⟨(h1 b hs).1, Nat.lt_of_lt_of_le (h1 b hs).2 hg.size⟩, sepCo.kept h2 (fun b hs => hg.block b (h1 b hs).2 (by intro e; injection e with e; have := (h1 b hs).1; omega)), h3⟩
theorem CoAt.store {B b i : Nat} {w : World} {cs : List Value} {q : Co} (h : CoAt B w cs q) (hB : b < B) (u : Value) : CoAt B (w.setCell ⟨b, i, none⟩ u) cs q := by
  obtain ⟨S, h1, h2, h3⟩ := h
  exact ⟨S, fun b hs => ⟨(h1 b hs).1, by rw [sz_set]; exact (h1 b hs).2⟩, sepCo.kept h2 (fun c hs => Below.heap_setCell w ⟨b, i, none⟩ u c (by have := (h1 c hs).1; dsimp only; omega)), h3⟩
theorem CoAt.down {B B' : Nat} {w : World} {cs : List Value} {q : Co} (h : CoAt B w cs q) (hB : B' ≤ B) : CoAt B' w cs q := by
  obtain ⟨S, h1, h2, h3⟩ := h
  exact ⟨S, fun b hs => ⟨Nat.le_trans hB (h1 b hs).1, (h1 b hs).2⟩, sepCo.down h2 hB, h3⟩
theorem CoAt.two {B : Nat} {w : World} {cs : List Value} {q : Co} (h : CoAt B w cs q) : ∃ A n c C m d, cs = [.slice A n c, .slice C m d] := by
  obtain ⟨S, h1, h2, h3⟩ := h
  obtain ⟨A, n, c, C, m, d, _, _, rfl, _⟩ := sepCo_cells h2
  exact ⟨A, n, c, C, m, d, rfl⟩
theorem CoAt.rep0 {B : Nat} {w : World} {cs : List Value} {q : Co} (h : CoAt B w cs q) : repCo.V 0 w cs q := by
  obtain ⟨S, h1, h2, h3⟩ := h
  exact repCo.down (sepCo.reads h2) (Nat.zero_le _)
theorem CoAt.tiny {B : Nat} {w : World} {cs : List Value} {q : Co} (h : CoAt B w cs q) : tinyQ q := h.choose_spec.2.2
theorem grown_toB {w0 w w' : World} {g B : Nat} (h : Below B w0 w) (hg : w.grownBy w' (some g)) (hgB : B ≤ g) (hB : B ≤ w.heap.size) : Below B w0 w' :=
  h.trans ⟨hg.os, hg.tape, hg.output, hg.size, fun k hk => hg.block k (by omega) (by intro e; injection e with e; omega)⟩
theorem belowSet {w0 w : World} {b i B : Nat} (h : Below B w0 w) (hb : B ≤ b) (u : Value) : Below B w0 (w.setCell ⟨b, i, none⟩ u) :=
  ⟨h.os, h.tape, h.output, by rw [sz_set]; exact h.size, fun k hk => (Below.heap_setCell w ⟨b, i, none⟩ u k (by dsimp only; omega)).trans (h.block k hk)⟩

set_option maxRecDepth 100000 in
set_option maxHeartbeats 1600000 in
theorem DrawCoordinatorValid_any (A : Option Addr) (n c : Nat) (w : World) (h : RBytes w w.heap.size A n) (hn : n ≤ maxLen) (hc : n ≤ c) :
    Calls Try.prog 17 #[.slice A n c] w (fun e w' => ∃ cs q, e = .returned (.agg cs.toArray) ∧ CoAt w.heap.size w' cs q ∧ Below w.heap.size w w') := by
  have hR := Blk.new w 30 [.slice none 0 0, .slice none 0 0]
  have b0 := below_box w (.cells #[.slice none 0 0, .slice none 0 0] 30)
  go_enter Try.func17, Try.ntmps17
  go_wp2_with fail
  refine (l6Open_any _ _ _ _ (rbytes_next h b0) hn hc).mono ?_
  rintro e w1 ⟨rfl, hrd0, hb1⟩
  have hrd : Rd w1 (w.heap.size + 1) 0 := by simpa using hrd0
  have hR1 := hR.next hb1
  have b1 : Below w.heap.size w w1 := below_ext b0 hb1
  go_wp2_with fail
  refine (l92Coordinator_any (w.heap.size + 1) 0 _ hrd (by omega)).mono ?_
  rintro e w2 ⟨v, p2, rfl, ⟨cs, q, S, rfl, hS, hq, ht⟩, -, hrd2, hg2⟩
  have hz1 := hrd.lt
  have hQ : CoAt w1.heap.size w2 cs q := ⟨S, hS, hq, ht⟩
  obtain ⟨A2, n2, c2, C2, m2, d2, rfl⟩ := hQ.two
  clear hS hq ht
  have hR2 := hR1.grown hg2 (by simp)
  obtain ⟨s0, s1⟩ := hR2.cells2
  have f0 := hR2.frozen 0
  have f1 := hR2.frozen 1
  have hR3 := (hR2.set_ 0 (.slice A2 n2 c2)).set_ 1 (.slice C2 m2 d2)
  simp only [List.set_cons_zero, List.set_cons_succ] at hR3
  obtain ⟨t0, t1⟩ := hR3.cells2
  go_wp2_with fail
  refine bodyPost_ret (v := .agg #[.slice A2 n2 c2, .slice C2 m2 d2]) (by simp [results, Try.results17, go_sem, t0, t1]) rfl ?_
  exact ⟨_, q, rfl, ((hQ.store (by omega) _).store (by omega) _).down (by omega), belowSet (belowSet (grown_toB b1 hg2 (by omega) (by omega)) (Nat.le_refl _) _) (Nat.le_refl _) _⟩
end Go.Proofs.Ytfbdfigkodiboaa
