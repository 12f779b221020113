/- Plain lemmas on memory: blocks that are known whole, slices that the call owns. -/
import Derived.Test.YtkekcgamhhmjnaaPlain
import Derived.Laws.OwnMore
import Derived.Deep.Draws
namespace Go.Proofs.Ytkekcgamhhmjnaa
open Go.RowKit Go.Sort

def Blk (w : World) (g : Nat) (t : TypeId) (cs : List Value) : Prop := w.heap[g]? = some (.cells cs.toArray t (0, 0))
section
variable {w w' : World} {g : Nat} {t : TypeId} {cs : List Value}
theorem Blk.lt (h : Blk w g t cs) : g < w.heap.size := by
  rcases Nat.lt_or_ge g w.heap.size with hlt | hge
  · exact hlt
  · unfold Blk at h; rw [Array.getElem?_eq_none hge] at h; cases h
theorem Blk.cell (h : Blk w g t cs) (i : Nat) : w.cell? ⟨g, i, none⟩ = cs[i]? := by rw [cell_of_row w g i cs.toArray t (0, 0) h]; simp
theorem Blk.frozen (h : Blk w g t cs) (i : Nat) : w.frozen? ⟨g, i, none⟩ = false := by
  unfold Blk at h
  simp [World.frozen?, h]
theorem Blk.new (w : World) (t : TypeId) (cs : List Value) : Blk (w.alloc (.cells cs.toArray t)) w.heap.size t cs := heap_alloc_new w _
theorem Blk.drew (h : Blk w g t cs) : Blk w.drew g t cs := h
theorem Blk.alloc (h : Blk w g t cs) (o : Obj) : Blk (w.alloc o) g t cs := (Below.heap_alloc w o g h.lt).trans h
theorem Blk.set_ (h : Blk w g t cs) (i : Nat) (u : Value) : Blk (w.setCell ⟨g, i, none⟩ u) g t (cs.set i u) := by
  unfold Blk at h ⊢
  simp [World.setCell, Array.getElem?_modify, h]
theorem Blk.far (h : Blk w g t cs) {p : Addr} (hp : g ≠ p.block) (u : Value) : Blk (w.setCell p u) g t cs := (Below.heap_setCell w p u g hp).trans h
theorem Blk.below {B : Nat} (h : Blk w g t cs) (hb : Below B w w') (hg : g < B) : Blk w' g t cs := (hb.block g hg).trans h
theorem Blk.grown {row : Option Nat} (h : Blk w g t cs) (hb : w.grownBy w' row) (hg : some g ≠ row) : Blk w' g t cs := (hb.block g h.lt hg).trans h
end

theorem Blk.next {w w' : World} {g : Nat} {t : TypeId} {cs : List Value} (h : Blk w g t cs) (hb : Below w.heap.size w w') : Blk w' g t cs := h.below hb h.lt
theorem Blk.cells2 {w : World} {g : Nat} {t : TypeId} {a b : Value} (h : Blk w g t [a, b]) : w.cell? ⟨g, 0, none⟩ = some a ∧ w.cell? ⟨g, 1, none⟩ = some b := ⟨h.cell 0, h.cell 1⟩
theorem Blk.cells3 {w : World} {g : Nat} {t : TypeId} {a b c : Value} (h : Blk w g t [a, b, c]) : w.cell? ⟨g, 0, none⟩ = some a ∧ w.cell? ⟨g, 1, none⟩ = some b ∧ w.cell? ⟨g, 2, none⟩ = some c := ⟨h.cell 0, h.cell 1, h.cell 2⟩
theorem RInts.next {w w' : World} {A : Option Addr} {n : Nat} {xs : List Int} (h : RInts w A n xs) (hb : Below w.heap.size w w') : RInts w' A n xs := h.below hb (Nat.le_refl _)

/-- the cells of a slice of ints -/
def ints (xs : List Int) : List Value := xs.map (Value.int .i64)
theorem length_ints (xs : List Int) : (ints xs).length = xs.length := by simp [ints]
theorem RInts.of_blk {w : World} {g n : Nat} {T : TypeId} {xs : List Int} (h : Blk w g T (ints xs)) (hn : n = xs.length) : RInts w (some ⟨g, 0, none⟩) n xs :=
  ⟨hn.symm, fun _ => ⟨_, rfl, h.lt, fun j x hx => by
    have : (⟨g, 0, none⟩ : Addr).add j = ⟨g, j, none⟩ := by unfold Addr.add; split <;> simp_all
    rw [this, h.cell, ints, List.getElem?_map, hx]; rfl⟩⟩
theorem below_store {w0 w : World} {B : Nat} (h : Below B w0 w) {g i : Nat} (hg : B ≤ g) (u : Value) : Below B w0 (w.setCell ⟨g, i, none⟩ u) := h.setCell (p := ⟨g, i, none⟩) hg u
/-- the list of ints after k stores -/
def fillI (xs : List Int) (n k : Nat) : List Int := xs.take k ++ List.replicate (n - k) 0
theorem fillI_set (xs : List Int) (n k : Nat) (x : Int) (hn : xs.length = n) (hx : xs[k]? = some x) : (ints (fillI xs n k)).set k (.int .i64 x) = ints (fillI xs n (k+1)) := by
  have hk : k < xs.length := (List.getElem?_eq_some_iff.1 hx).1
  have hxk : xs[k] = x := (List.getElem?_eq_some_iff.1 hx).2
  have hl : (xs.take k).length = k := by simp; omega
  unfold ints fillI
  rw [show n - k = (n - (k+1)) + 1 by omega, List.replicate_succ, List.map_append, List.map_cons, List.set_append, if_neg (by simp; omega)]
  simp only [List.length_map, hl, Nat.sub_self, List.set_cons_zero]
  rw [List.take_succ_eq_append_getElem hk, hxk]
  simp
theorem fillI_get (xs : List Int) (n k : Nat) (hn : xs.length = n) (hk : k < n) : (ints (fillI xs n k))[k]? = some (.int .i64 0) := by
  unfold ints fillI
  rw [List.map_append, List.getElem?_append_right (by simp; omega)]
  simp only [List.length_map, List.length_take, Nat.min_eq_left (show k ≤ xs.length by omega), Nat.sub_self]
  rw [show n - k = (n - k - 1) + 1 by omega, List.replicate_succ]; rfl
theorem fillI_zero (xs : List Int) (n : Nat) : fillI xs n 0 = List.replicate n 0 := by simp [fillI]
theorem fillI_all (xs : List Int) (n : Nat) (hn : xs.length = n) : fillI xs n n = xs := by simp [fillI, ← hn]
/-- make([]T, n): n times the zero value's cells -/
def zeros (z : List Value) (n : Nat) : List Value := (List.replicate n z).flatten
theorem length_zeros (z : List Value) (n : Nat) : (zeros z n).length = n * z.length := by simp [zeros]
theorem zeros_get (z : List Value) (n i : Nat) (h : i < n * z.length) : (zeros z n)[i]? = z[i % z.length]? := by
  induction n generalizing i with
  | zero => omega
  | succ n ih =>
    have hz : 0 < z.length := by rcases Nat.eq_zero_or_pos z.length with h0 | h0; (· rw [h0] at h; omega); exact h0
    have he : zeros z (n+1) = z ++ zeros z n := by simp [zeros, List.replicate_succ]
    rw [he]
    by_cases hi : i < z.length
    · rw [List.getElem?_append_left hi, Nat.mod_eq_of_lt hi]
    · rw [List.getElem?_append_right (by omega), ih _ (by rw [Nat.succ_mul] at h; omega), ← Nat.mod_eq_sub_mod (by omega)]
theorem madeCells_zeros (z : Array Value) (n : Nat) : madeCells z (n * z.size) = (zeros z.toList n).toArray := by
  apply Array.toList_inj.1
  apply List.ext_getElem?
  intro i
  show (madeCells z (n * z.size)).toList[i]? = (zeros z.toList n)[i]?
  by_cases hi : i < n * z.size
  · have hz : 0 < z.size := by rcases Nat.eq_zero_or_pos z.size with h0 | h0; (· rw [h0] at hi; omega); exact h0
    have hm : i % z.size < z.size := Nat.mod_lt _ hz
    rw [zeros_get _ _ _ (by rw [Array.length_toList]; exact hi)]
    simp [madeCells, hi, hm]
  · rw [List.getElem?_eq_none (by rw [Array.length_toList, size_madeCells]; omega), List.getElem?_eq_none (by rw [length_zeros, Array.length_toList]; omega)]
theorem run_make_rep {P : Program} {t e : TypeId} {z : Value} {size bytes : Nat} (ht : P.underlying t = some (.slice e)) (hi : (P.info? e).map (fun i => (i.zero, i.size, i.bytes)) = some (some z, size, bytes))
    (hs : z.cells.size = size) (n : Nat) (hn : bytes * n ≤ 281474976710656) (h63 : n ≤ 9223372036854775807) (w : World) :
    (Instr.makeSlice t (.int .i64 (n : Int)) (.int .i64 (n : Int))).run P w = .ok (.slice (some ⟨w.heap.size, 0, none⟩) n n) (w.alloc (.cells (zeros z.cells.toList n).toArray e)) := by
  obtain ⟨i0, hi0, hz0, hz1, hz2⟩ := info_parts hi
  have hb : (i0.bytes : Int) * (n : Int) ≤ 281474976710656 := by
    rw [← Int.natCast_mul, hz2]; omega
  have hr := run_make (P := P) w t e i0 z ht hi0 hz0 .i64 .i64 n n (by omega) (by omega) hb (by omega)
  simp only [Int.toNat_natCast] at hr
  rw [hr, hz1, ← hs, madeCells_zeros]
theorem zeros_one (z : Value) (n : Nat) : zeros [z] n = List.replicate n z := by
  induction n with
  | zero => rfl
  | succ n ih => simp only [zeros, List.replicate_succ, List.flatten_cons] at ih ⊢; rw [ih]; rfl
theorem ints_zero (n : Nat) : ints (List.replicate n 0) = List.replicate n (.int .i64 0) := by simp [ints]
theorem run_make_ints {P : Program} {t e : TypeId} (ht : P.underlying t = some (.slice e)) (hi : (P.info? e).map (fun i => (i.zero, i.size, i.bytes)) = some (some (.int .i64 0), 1, 8)) (n : Nat) (hn : n ≤ 2000000) (w : World) :
    (Instr.makeSlice t (.int .i64 (n : Int)) (.int .i64 (n : Int))).run P w = .ok (.slice (some ⟨w.heap.size, 0, none⟩) n n) (w.alloc (.cells (ints (List.replicate n 0)).toArray e)) := by
  rw [run_make_rep ht hi rfl n (by omega) (by omega) w, ints_zero, ← zeros_one]; rfl
end Go.Proofs.Ytkekcgamhhmjnaa
