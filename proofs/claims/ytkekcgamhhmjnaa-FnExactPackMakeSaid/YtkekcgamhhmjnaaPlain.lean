/- Plain lemmas on lists and on memory predicates; nothing of the program is used here. -/
import Derived.WalkKit
import Derived.Lib.Hide
import Derived.Lib.QuietBelow
namespace Go.Proofs.Ytkekcgamhhmjnaa
open Go.RowKit Go.Sort

/-- 'n is an id'. -/
def idB (n : Int) : Bool := decide (0 ≤ n) && decide (n ≤ 990)
/-- ids in range, strictly ascending -/
def ascB : List Int → Bool
  | [] => true
  | [x] => idB x
  | x :: y :: l => idB x && decide (x < y) && ascB (y :: l)
theorem ascB_snoc (l : List Int) (x : Int) : ascB (l ++ [x]) = (ascB l && idB x && (match l.getLast? with | none => true | some y => decide (y < x))) := by
  induction l with
  | nil => simp [ascB]
  | cons a l ih =>
    cases l with
    | nil => simp [ascB]; cases idB a <;> cases idB x <;> cases decide (a < x) <;> rfl
    | cons b l =>
      simp only [List.cons_append, ascB] at ih ⊢
      rw [ih]
      simp only [List.getLast?_cons_cons]
      cases idB a <;> cases decide (a < b) <;> simp
theorem getLast_take (xs : List Int) (k : Nat) (h : k < xs.length) : (xs.take (k+1)).getLast? = some (xs.getD k 0) := by
  rw [List.take_succ_eq_append_getElem h, List.getLast?_append]
  simp [List.getD, List.getElem?_eq_getElem h]
theorem ascB_take (xs : List Int) (k : Nat) (x : Int) (hx : xs[k]? = some x) :
    ascB (xs.take (k+1)) = (ascB (xs.take k) && idB x && (decide (k = 0) || decide (xs.getD (k-1) 0 < x))) := by
  have hk : k < xs.length := (List.getElem?_eq_some_iff.1 hx).1
  have hxk : xs[k] = x := (List.getElem?_eq_some_iff.1 hx).2
  rw [List.take_succ_eq_append_getElem hk, ascB_snoc, hxk]
  congr 1
  cases k with
  | zero => simp
  | succ k => rw [getLast_take xs k (by omega)]; simp
theorem ascB_false (xs : List Int) (k : Nat) (h : ascB (xs.take k) = false) : ascB xs = false := by
  obtain ⟨m, hm⟩ : ∃ m, m = xs.length - k := ⟨_, rfl⟩
  induction m generalizing k with
  | zero => rwa [List.take_of_length_le (by omega)] at h
  | succ m ih =>
    have hk : k < xs.length := by omega
    have h' := ascB_take xs k xs[k] (List.getElem?_eq_getElem hk)
    rw [h] at h'
    exact ih (k+1) (by simpa using h') (by omega)

/-- at most four ids, ascending -/
def idsOkB (xs : List Int) : Bool := ascB xs && decide ((xs.length : Int) ≤ 4)

/-- a slice of ints that reads as xs -/
def RInts (w : World) (A : Option Addr) (n : Nat) (xs : List Int) : Prop :=
  xs.length = n ∧ (0 < n → ∃ ad, A = some ad ∧ ad.block < w.heap.size ∧ ∀ j x, xs[j]? = some x → w.cell? (ad.add j) = some (.int .i64 x))
theorem block_of_add (a : Addr) (n : Nat) : (a.add n).block = a.block := by unfold Addr.add; split <;> rfl
theorem RInts.at_ {w : World} {A : Option Addr} {n : Nat} {xs : List Int} (h : RInts w A n xs) {k : Nat} (hk : k < n) :
    ∃ ad x, A = some ad ∧ ad.block < w.heap.size ∧ xs[k]? = some x ∧ w.cell? (ad.add k) = some (.int .i64 x) := by
  obtain ⟨ad, e, hb, hc⟩ := h.2 (by omega)
  have hl : k < xs.length := by have := h.1; omega
  exact ⟨ad, xs[k], e, hb, List.getElem?_eq_getElem hl, hc k _ (List.getElem?_eq_getElem hl)⟩
theorem RInts.below {w w' : World} {B : Nat} {A : Option Addr} {n : Nat} {xs : List Int} (h : RInts w A n xs) (hb : Below B w w') (hB : w.heap.size ≤ B) : RInts w' A n xs :=
  ⟨h.1, fun hn => by
    obtain ⟨ad, e, hlt, hc⟩ := h.2 hn
    exact ⟨ad, e, Nat.lt_of_lt_of_le hlt hb.size, fun j x hx => (hb.cell (p := ad.add j) (by rw [block_of_add]; omega)).trans (hc j x hx)⟩⟩

/-- a slice of bytes, whatever they are, in a block below B -/
def RBytes (w : World) (B : Nat) (A : Option Addr) (n : Nat) : Prop :=
  0 < n → ∃ ad, A = some ad ∧ ad.block < B ∧ ∀ j, j < n → ∃ b : Int, 0 ≤ b ∧ b ≤ 255 ∧ w.cell? (ad.add j) = some (.int .u8 b)
theorem RBytes.keep {w w' : World} {B : Nat} {A : Option Addr} {n : Nat} (h : RBytes w B A n) (hk : ∀ a : Addr, a.block < B → w'.cell? a = w.cell? a) : RBytes w' B A n := fun hn => by
  obtain ⟨ad, e, hb, hc⟩ := h hn
  exact ⟨ad, e, hb, fun j hj => by obtain ⟨b, h0, h1, h2⟩ := hc j hj; exact ⟨b, h0, h1, by rw [hk _ (by rw [block_of_add]; exact hb)]; exact h2⟩⟩

/-! A region that draws its order and only reads: one walk, every order; behind it a world of which 'Below' is known. -/
theorem wpQuiet_mono {P : Program} {ops : Array Oper} {C : World → Prop} {Q Q' : Act → Prop} (hq : ∀ a, Q a → Q' a) : ∀ (l : List Oper) (a : Act), wpQuiet P ops C Q l a → wpQuiet P ops C Q' l a
  | [], a, h => hq a h
  | o :: l, a, h => by
    unfold wpQuiet at h ⊢
    split
    · rename_i hw; rw [if_pos hw] at h; exact Oper.quiet_mono (fun a' => wpQuiet_mono hq l a') h
    · rename_i hw; rw [if_neg hw] at h; exact wpQuiet_mono hq l _ h
theorem wp_region_ext {P : Program} {id : Nat} {Q : Exit → Act → World → Prop} {a : Act} {w : World} {l : List Oper} (hm : P.follows .mixedOrders = true) (hB : Region.lexB .any l.toArray = true)
    (h : wpQuiet P l.toArray (fun w' => ∃ p : Regrown, w' = grow (redrawn w p.d) p.os) (fun a' => ∀ w', Below w.heap.size w w' → Q .normal a' w') l a) : (Code.region id l.toArray true).wp P Q a w :=
  wp_region_quiet_below hm hB (wpQuiet_mono (fun _ h w' ⟨p, hp⟩ => h w' (by rw [hp]; exact below_regrown _ _ _)) l a h)
theorem rg_same {P : Program} {f : FuncId} {args : Array Value} {w : World} {d : Nat} {os : Array Obj} {v : Value}
    (h : Calls P f args (grow (redrawn w d) os) fun e w' => e = .returned v ∧ grow (redrawn w d) os = w') : Calls P f args (grow (redrawn w d) os) fun e w'' => e = .returned v ∧ ∃ p : Regrown, w'' = grow (redrawn w p.d) p.os :=
  h.mono fun _ _ ⟨he, hw⟩ => ⟨he, ⟨d, os⟩, hw.symm⟩
theorem rg_below {P : Program} {f : FuncId} {args : Array Value} {w : World} {d : Nat} {os : Array Obj} {v : Value}
    (h : Calls P f args (grow (redrawn w d) os) fun e w' => e = .returned v ∧ Below (grow (redrawn w d) os).heap.size (grow (redrawn w d) os) w') : Calls P f args (grow (redrawn w d) os) fun e w'' => e = .returned v ∧ ∃ p : Regrown, w'' = grow (redrawn w p.d) p.os :=
  Calls.regrown_of h
theorem RInts.regrown {w : World} {A : Option Addr} {n : Nat} {xs : List Int} (h : RInts w A n xs) (d : Nat) (os : Array Obj) : RInts (grow (redrawn w d) os) A n xs :=
  h.below (below_regrown w d os) (Nat.le_refl _)
theorem below_ext {a b c : World} (h : Below a.heap.size a b) (k : Below b.heap.size b c) : Below a.heap.size a c := h.trans (k.mono h.size)
theorem box_cell {w w' : World} {cs : Array Value} {T : TypeId} (hb : Below (w.alloc (.cells cs T)).heap.size (w.alloc (.cells cs T)) w') (o : Nat) (v : Value) (h : cs[o]? = some v) : w'.cell? ⟨w.heap.size, o, none⟩ = some v := by
  rw [hb.cell (by simp), cell_of_row _ _ _ cs T (0, 0) (heap_alloc_new w _)]; exact h
theorem below_box (w : World) (o : Obj) : Below w.heap.size w (w.alloc o) := (Below.refl _ _).alloc (Nat.le_refl _) _
theorem below_box2 (w : World) (o o' : Obj) : Below w.heap.size w ((w.alloc o).alloc o') := (below_box w o).alloc (by simp) _
theorem below_box3 (w : World) (o o' o'' : Obj) : Below w.heap.size w (((w.alloc o).alloc o').alloc o'') := (below_box2 w o o').alloc (by simp; omega) _
theorem bcell {W w1 : World} (hb : Below W.heap.size W w1) : (∀ b o, b < W.heap.size → w1.cell? ⟨b, o, none⟩ = W.cell? ⟨b, o, none⟩) ∧ (∀ b o, b < W.heap.size → w1.frozen? ⟨b, o, none⟩ = W.frozen? ⟨b, o, none⟩) :=
  ⟨fun b o h => hb.cell (p := ⟨b, o, none⟩) h, fun b o h => hb.frozen (p := ⟨b, o, none⟩) h⟩
theorem ret_bool {a b : Bool} (h : a = b) : Ending.returned (.bool a) = .returned (.bool b) := by rw [h]
theorem ret_int {a b : Int} (h : a = b) : Ending.returned (.int .i64 a) = .returned (.int .i64 b) := by rw [h]
end Go.Proofs.Ytkekcgamhhmjnaa
