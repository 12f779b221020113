/- Walks: DrawCoordinatorValid, l92Of, DrawCoordinatorTimeout, DrawCoordinatorWaits, DrawCoordinatorBegin. -/
import Derived.Test.YtlmcejpjhdaanaaDrawCo2
import Derived.Test.YtlmcejpjhdaanaaRegL
namespace Go.Proofs.Ytlmcejpjhdaanaa
open Go.RowKit Go.Sort

theorem rbytes_next {w w' : World} {A : Option Addr} {n : Nat} (h : RBytes w w.heap.size A n) (hb : Below w.heap.size w w') : RBytes w' w'.heap.size A n := fun hn => by
  obtain ⟨ad, e, hlt, hcs⟩ := h hn
  exact ⟨ad, e, Nat.lt_of_lt_of_le hlt hb.size, fun j hj => by
    obtain ⟨b, h0, h1, h2⟩ := hcs j hj
    exact ⟨b, h0, h1, by rw [World.cell?_of_block (hb.block _ (by rw [block_of_add]; exact hlt))]; exact h2⟩⟩
/-- a drawn coordinator in blocks from B on -/
def CoAt (B : Nat) (w' : World) (cs : List Value) (q : Co) : Prop := ∃ S, (∀ b, S b → B ≤ b ∧ b < w'.heap.size) ∧ sepCo.V B S w' cs q ∧ tinyQ q
theorem CoAt.next {B : Nat} {w w' : World} {cs : List Value} {q : Co} (h : CoAt B w cs q) (hb : Below w.heap.size w w') : CoAt B w' cs q := by
  obtain ⟨S, h1, h2, h3⟩ := h
  exact ⟨S, fun b hs => ⟨(h1 b hs).1, Nat.lt_of_lt_of_le (h1 b hs).2 hb.size⟩, sepCo.next h2 hb (fun b hs => (h1 b hs).2), h3⟩
theorem CoAt.grown {B g : Nat} {w w' : World} {cs : List Value} {q : Co} (h : CoAt B w cs q) (hg : w.grownBy w' (some g)) (hB : g < B) : CoAt B w' cs q := by
  obtain ⟨S, h1, h2, h3⟩ := h
  exact ⟨S, fun b hs => ⟨(h1 b hs).1, Nat.lt_of_lt_of_le (h1 b hs).2 hg.size⟩, sepCo.kept h2 (fun b hs => hg.block b (h1 b hs).2 (by intro e; injection e with e; have := (h1 b hs).1; omega)), h3⟩
theorem CoAt.store {B b i : Nat} {w : World} {cs : List Value} {q : Co} (h : CoAt B w cs q) (hB : b < B) (u : Value) : CoAt B (w.setCell ⟨b, i, none⟩ u) cs q := by
  obtain ⟨S, h1, h2, h3⟩ := h
  exact ⟨S, fun b hs => ⟨(h1 b hs).1, by rw [sz_set]; exact (h1 b hs).2⟩, sepCo.kept h2 (fun c hs => Below.heap_setCell w ⟨b, i, none⟩ u c (by have := (h1 c hs).1; dsimp only; omega)), h3⟩
theorem CoAt.down {B B' : Nat} {w : World} {cs : List Value} {q : Co} (h : CoAt B w cs q) (hB : B' ≤ B) : CoAt B' w cs q := by
  obtain ⟨S, h1, h2, h3⟩ := h
  exact ⟨S, fun b hs => ⟨Nat.le_trans hB (h1 b hs).1, (h1 b hs).2⟩, sepCo.down h2 hB, h3⟩
theorem CoAt.two {B : Nat} {w : World} {cs : List Value} {q : Co} (h : CoAt B w cs q) : ∃ A n c C m d, cs = [.slice A n c, .slice C m d] := by
  obtain ⟨S, h1, h2, h3⟩ := h
  obtain ⟨A, n, c, C, m, d, _, _, rfl, _⟩ := sepCo_cells h2
  exact ⟨A, n, c, C, m, d, rfl⟩
theorem CoAt.rep0 {B : Nat} {w : World} {cs : List Value} {q : Co} (h : CoAt B w cs q) : repCo.V 0 w cs q := by
  obtain ⟨S, h1, h2, h3⟩ := h
  exact repCo.down (sepCo.reads h2) (Nat.zero_le _)
theorem CoAt.tiny {B : Nat} {w : World} {cs : List Value} {q : Co} (h : CoAt B w cs q) : tinyQ q := h.choose_spec.2.2
theorem grown_toB {w0 w w' : World} {g B : Nat} (h : Below B w0 w) (hg : w.grownBy w' (some g)) (hgB : B ≤ g) (hB : B ≤ w.heap.size) : Below B w0 w' :=
  h.trans ⟨hg.os, hg.tape, hg.output, hg.size, fun k hk => hg.block k (by omega) (by intro e; injection e with e; omega)⟩
theorem belowSet {w0 w : World} {b i B : Nat} (h : Below B w0 w) (hb : B ≤ b) (u : Value) : Below B w0 (w.setCell ⟨b, i, none⟩ u) :=
  ⟨h.os, h.tape, h.output, by rw [sz_set]; exact h.size, fun k hk => (Below.heap_setCell w ⟨b, i, none⟩ u k (by dsimp only; omega)).trans (h.block k hk)⟩

set_option maxRecDepth 100000 in
set_option maxHeartbeats 1600000 in
theorem l92Of_any (g p B : Nat) (cs : List Value) (q : Co) (w : World) (h : Rd w g p) (hp : p ≤ 900000) (hQ : CoAt B w cs q) (hB : g < B) :
    Calls Try.prog 31 #[.pointer (some ⟨g, 0, none⟩), .agg cs.toArray] w fun e w' => ∃ z : Int, e = .returned (.int .i64 z) ∧ -2 ≤ z ∧ z ≤ 13 ∧ CoAt B w' cs q ∧ Rd w' g (p + 3) ∧ w.grownBy w' (some g) := by
  obtain ⟨A2, n2, c2, C2, m2, d2, rfl⟩ := hQ.two
  have ht := hQ.tiny.1
  obtain ⟨_, _, _, _, _, _, e9, hr0, hm0, hr1, hm1⟩ := repCo_cells hQ.rep0
  obtain ⟨⟨rfl, rfl, rfl⟩, rfl, rfl, rfl⟩ : (_ ∧ _ ∧ _) ∧ _ ∧ _ ∧ _ := by simpa using e9
  have hl0 := hr0.1
  have hgw := h.lt
  have b0 := below_box w (.cells #[.slice A2 n2 c2, .slice C2 m2 d2] 26)
  have x0 := Blk.new w 26 [.slice A2 n2 c2, .slice C2 m2 d2]
  obtain ⟨y0, y1⟩ := x0.cells2
  have hmax1 : (1 : Int) ≤ max (n2 : Int) 1 := by omega
  have hmax2 : max (n2 : Int) 1 ≤ 1000 := by omega
  have hQ0 := hQ.next b0
  clear e9 hr0 hr1
  go_enter Try.func31, Try.ntmps31
  go_wp2_with fail
  refine (pick_any g _ _ _ (h.keep b0) (by omega) hmax1 hmax2).mono ?_
  rintro e w1 ⟨v1, rfl, i10, i11, i1r, i1g⟩
  go_wp2_with fail
  refine (pick_any g _ 20 _ i1r (by omega) (by omega) (by omega)).mono ?_
  rintro e w2 ⟨v2, rfl, i20, i21, i2r, i2g⟩
  have k1 : IntKind.i64.wrap (v2.tdiv 19) = v2.tdiv 19 := by rw [IntKind.wrap_i64, Int.tdiv_eq_ediv_of_nonneg i20]; omega
  go_wp2_with fail
  refine (pick_any g _ 20 _ i2r (by omega) (by omega) (by omega)).mono ?_
  rintro e w3 ⟨v3, rfl, i30, i31, i3r, i3g⟩
  have hQ3 := ((hQ0.grown i1g hB).grown i2g hB).grown i3g hB
  have hg3 := grown_trans (grown_trans (grown_below (World.grownBy.refl w _) b0) i1g) i2g |> fun h => grown_trans h i3g
  go_wp2_with fail
  go_ret
  exact ⟨_, rfl, by simp only [Int.tdiv_eq_ediv_of_nonneg i20, wrap64]; omega, by simp only [Int.tdiv_eq_ediv_of_nonneg i20, wrap64]; omega, hQ3, i3r, hg3⟩
set_option maxRecDepth 100000 in
set_option maxHeartbeats 1600000 in
theorem DrawCoordinatorTimeout_any (A : Option Addr) (n c : Nat) (w : World) (h : RBytes w w.heap.size A n) (hn : n ≤ maxLen) (hc : n ≤ c) :
    Calls Try.prog 9 #[.slice A n c] w (fun e w' => ∃ cs q z, e = .returned (.tuple #[.agg cs.toArray, .int .i64 z]) ∧ -2 ≤ z ∧ z ≤ 13 ∧ CoAt w.heap.size w' cs q ∧ Below w.heap.size w w') := by
  have hR := Blk.new w 26 [.slice none 0 0, .slice none 0 0]
  have b0 := below_box w (.cells #[.slice none 0 0, .slice none 0 0] 26)
  go_enter Try.func9, Try.ntmps9
  go_wp2_with fail
  refine (l6Open_any _ _ _ _ (rbytes_next h b0) hn hc).mono ?_
  rintro e w1 ⟨rfl, hrd0, hb1⟩
  have hrd : Rd w1 (w.heap.size + 1) 0 := by simpa using hrd0
  rw [show (w.alloc (.cells #[.slice none 0 0, .slice none 0 0] 26)).heap.size = w.heap.size + 1 by simp]
  have hR1 := hR.next hb1
  have b1 : Below w.heap.size w w1 := below_ext b0 hb1
  go_wp2_with fail
  refine (l92Coordinator_any (w.heap.size + 1) 0 _ hrd (by omega)).mono ?_
  rintro e w2 ⟨v, p2, rfl, ⟨cs, q, S, rfl, hS, hq, ht⟩, hp2, hrd2, hg2⟩
  have hz1 := hrd.lt
  have hQ : CoAt w1.heap.size w2 cs q := ⟨S, hS, hq, ht⟩
  obtain ⟨A2, n2, c2, C2, m2, d2, rfl⟩ := hQ.two
  clear hS hq ht
  have hR2 := hR1.grown hg2 (by simp)
  have eb := below_box w2 (.cells #[.slice A2 n2 c2, .slice C2 m2 d2] 26)
  have x2 := Blk.new w2 26 [.slice A2 n2 c2, .slice C2 m2 d2]
  have hQ2 := hQ.next eb
  have hrd3 := hrd2.keep eb
  have hR3 := hR2.next eb
  have b2 := below_ext (grown_toB b1 hg2 (by omega) (by omega)) eb
  have hz2 := hg2.size
  obtain ⟨y0, y1⟩ := x2.cells2
  have HY : w.heap.size + 1 < w2.heap.size := by omega
  go_upto_region 3 with fail
  generalize (w2.alloc (.cells #[.slice A2 n2 c2, .slice C2 m2 d2] 26)) = w3 at *
  generalize w2.heap.size = g2 at *
  have hQ2d := hQ2.next (Below.refl _ _).drew
  have x2d := x2.next (Below.refl _ _).drew
  have hR3d := hR3.next (Below.refl _ _).drew
  have hrd3d := hrd3.keep (Below.refl _ _).drew
  have b2d := b2.drew
  obtain ⟨y0d, y1d⟩ := x2d.cells2
  go_region_held3 (fun w' => w'.cell? ⟨g2, 0, none⟩ = some (.slice A2 n2 c2) ∧ w'.cell? ⟨g2, 1, none⟩ = some (.slice C2 m2 d2)) (first
    | exact ⟨y0, y1⟩
    | exact ⟨z0, z1⟩
    | exact zst _ _) (first
    | (go_simp; go_at_call 31; refine (l92Of_any (w.heap.size + 1) p2 w1.heap.size _ q _ hrd3d (by omega) hQ2d (by omega)).mono ?_
       rintro e w4 ⟨z, rfl, z0', z1', hQ4, hrd4, hg4⟩
       have hR4 := hR3d.grown hg4 (by simp)
       have x4 := x2d.grown hg4 (by intro e; injection e with e; omega)
       obtain ⟨s0, s1⟩ := hR4.cells2
       have f0 := hR4.frozen 0
       have f1 := hR4.frozen 1
       obtain ⟨z0, z1⟩ := x4.cells2
       have zst := fun u v => ((x4.far (p := ⟨w.heap.size, 0, none⟩) (by dsimp only; omega) u).far (p := ⟨w.heap.size, 1, none⟩) (by dsimp only; omega) v).cells2))
  have hR5 := (hR4.set_ 0 (.slice A2 n2 c2)).set_ 1 (.slice C2 m2 d2)
  simp only [List.set_cons_zero, List.set_cons_succ] at hR5
  obtain ⟨t0, t1⟩ := hR5.cells2
  go_wp2_with fail
  refine bodyPost_ret (v := .tuple #[.agg #[.slice A2 n2 c2, .slice C2 m2 d2], .int .i64 z]) (by simp [results, Try.results9, go_sem, t0, t1]) rfl ?_
  exact ⟨_, q, z, rfl, z0', z1', ((hQ4.store (by omega) _).store (by omega) _).down (by omega), belowSet (belowSet (grown_toB b2d hg4 (by omega) (by have := b2d.size; exact this)) (Nat.le_refl _) _) (Nat.le_refl _) _⟩
/-- a drawn coordinator and drawn parts -/
def DrewBegin (w : World) (e : Ending) (w' : World) : Prop := ∃ cs q PA pn pc ps, e = .returned (.tuple #[.agg cs.toArray, .slice PA pn pc]) ∧ CoAt w.heap.size w' cs q ∧ pn ≤ 5 ∧ RSl repPt w.heap.size w' PA pn ps ∧ (∀ x ∈ ps, x.us.length ≤ 4) ∧ Below w.heap.size w w'
end Go.Proofs.Ytlmcejpjhdaanaa
