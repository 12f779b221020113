/- The id of an object: what it is, and the walks of the program's and the reference's functions on valid objects. -/
import Derived.Test.YtkekcgamhhmjnaaObj
import Derived.Test.YtkekcgamhhmjnaaMem
namespace Go.Proofs.Ytkekcgamhhmjnaa
open Go.RowKit Go.Sort

/-- byte j of a text, as a number; 0 behind its end -/
def bt (s : ByteArray) (k : Nat) : Int := if h : k < s.size then ((s[k]'h).toNat : Int) else 0
theorem bt_get (s : ByteArray) (k : Nat) (h : k < s.size) : ((s[k]'h).toNat : Int) = bt s k := by unfold bt; rw [dif_pos h]
theorem bt_nonneg (s : ByteArray) (k : Nat) : 0 ≤ bt s k := by unfold bt; split <;> omega
theorem bt_le (s : ByteArray) (k : Nat) : bt s k ≤ 255 := by
  unfold bt; split
  · have := (s[k]).toNat_lt; omega
  · omega

theorem bytesRow_cell (w : World) (s : ByteArray) (cap : Nat) (e : TypeId) (fr : Nat × Nat) (j : Nat) (h : j < s.size) :
    (w.alloc (.cells (bytesRow s cap) e fr)).cell? ⟨w.heap.size, j, none⟩ = some (.int .u8 (bt s j)) := by
  rw [cell_of_row _ _ _ (bytesRow s cap) e fr (heap_alloc_new w _), bytesRow, Array.getElem?_append_left (by simpa using h)]
  have hs : j < s.data.size := h
  rw [Array.getElem?_map, Array.getElem?_eq_getElem hs]
  show some (Value.int .u8 ((s[j]'h).toNat : Int)) = _
  rw [bt_get s j h]

def step6 (n l : Int) : Int := (613 * n + l + 1) % 991
def step2 (n b : Int) : Int := (257 * n + b + 1) % 991
def idL (k : Int) (xs : List Int) (m : Nat) : Int := (xs.take m).foldl step6 (100 * k + xs.length)
def idT (n0 : Int) (t : ByteArray) (m : Nat) : Int := (List.range m).foldl (fun n j => step2 n (bt t j)) n0
/-- the id -/
def idV (k : Int) (xs : List Int) (t : ByteArray) : Int := idT (idL k xs xs.length) t t.size

theorem idL_zero (k : Int) (xs : List Int) : idL k xs 0 = 100 * k + xs.length := by simp [idL]
theorem idL_succ (k : Int) (xs : List Int) (m : Nat) (x : Int) (h : xs[m]? = some x) : idL k xs (m+1) = step6 (idL k xs m) x := by
  have hm : m < xs.length := (List.getElem?_eq_some_iff.1 h).1
  have hx : xs[m] = x := (List.getElem?_eq_some_iff.1 h).2
  unfold idL
  rw [List.take_succ_eq_append_getElem hm, List.foldl_append, hx]; rfl
theorem idT_zero (n0 : Int) (t : ByteArray) : idT n0 t 0 = n0 := rfl
theorem idT_succ (n0 : Int) (t : ByteArray) (m : Nat) : idT n0 t (m+1) = step2 (idT n0 t m) (bt t m) := by
  unfold idT; rw [List.range_succ, List.foldl_append]; rfl

theorem ascB_mem {xs : List Int} (h : ascB xs = true) : ∀ x ∈ xs, 0 ≤ x ∧ x ≤ 990 := by
  induction xs with
  | nil => intro x hx; cases hx
  | cons a l ih =>
    cases l with
    | nil => simp [ascB, idB] at h; intro x hx; simp at hx; omega
    | cons b l =>
      simp only [ascB, Bool.and_eq_true] at h
      intro x hx
      rcases List.mem_cons.1 hx with rfl | hx
      · simp [idB] at h; omega
      · exact ih h.2 x hx

theorem step6_inj (a b l : Int) (h : a % 991 ≠ b % 991) : step6 a l % 991 ≠ step6 b l % 991 := by unfold step6; omega
theorem step2_inj (a b l : Int) (h : a % 991 ≠ b % 991) : step2 a l % 991 ≠ step2 b l % 991 := by unfold step2; omega
theorem fold6_inj (l : List Int) : ∀ a b : Int, a % 991 ≠ b % 991 → l.foldl step6 a % 991 ≠ l.foldl step6 b % 991 := by
  induction l with
  | nil => intro a b h; exact h
  | cons x l ih => intro a b h; exact ih _ _ (step6_inj a b x h)
theorem idT_inj (t : ByteArray) (m : Nat) (a b : Int) (h : a % 991 ≠ b % 991) : idT a t m % 991 ≠ idT b t m % 991 := by
  induction m with
  | zero => exact h
  | succ m ih => rw [idT_succ, idT_succ]; exact step2_inj _ _ _ ih
theorem idV_kind (k k' : Int) (xs : List Int) (t : ByteArray) (h : (100 * k + xs.length) % 991 ≠ (100 * k' + xs.length) % 991) : idV k xs t ≠ idV k' xs t := by
  intro e
  have := idT_inj t t.size (idL k xs xs.length) (idL k' xs xs.length) (fold6_inj _ _ _ h)
  unfold idV at e
  rw [e] at this
  exact this rfl

structure ObjOk (k : Int) (xs : List Int) (t : ByteArray) : Prop where
  k1 : 1 ≤ k
  k3 : k ≤ 3
  asc : ascB xs = true
  len : xs.length ≤ 4
  txt : t.size ≤ 8
theorem ObjOk.of {k : Int} {xs : List Int} {t : ByteArray} (h : objOkB k xs t = true) : ObjOk k xs t := by
  simp only [objOkB, idsOkB, Bool.and_eq_true, decide_eq_true_eq, Bool.not_eq_true', decide_eq_false_iff_not] at h
  obtain ⟨⟨⟨h1, h2⟩, h3⟩, h4⟩ := h
  refine ⟨?_, ?_, h1, by omega, by omega⟩
  all_goals
    by_cases e1 : (k == 1) = true
    · have := beq_iff_eq.1 e1; omega
    · rw [if_neg e1] at h4
      by_cases e2 : (k == 2) = true
      · have := beq_iff_eq.1 e2; omega
      · rw [if_neg e2] at h4
        by_cases e3 : (k == 3) = true
        · have := beq_iff_eq.1 e3; omega
        · rw [if_neg e3] at h4; cases h4
theorem ObjOk.mem {k : Int} {xs : List Int} {t : ByteArray} (h : ObjOk k xs t) {m : Nat} {x : Int} (hx : xs[m]? = some x) : 0 ≤ x ∧ x ≤ 990 :=
  ascB_mem h.asc x (List.mem_of_getElem? hx)
theorem idL_bd {k : Int} {xs : List Int} {t : ByteArray} (h : ObjOk k xs t) (m : Nat) (hm : m ≤ xs.length) : 0 ≤ idL k xs m ∧ idL k xs m ≤ 990 := by
  cases m with
  | zero => rw [idL_zero]; have := h.k1; have := h.k3; have := h.len; omega
  | succ m =>
    rw [idL_succ k xs m xs[m] (List.getElem?_eq_getElem (by omega))]
    unfold step6; omega
theorem idT_bd (n0 : Int) (h0 : 0 ≤ n0) (h1 : n0 ≤ 990) (t : ByteArray) (m : Nat) : 0 ≤ idT n0 t m ∧ idT n0 t m ≤ 990 := by
  cases m with
  | zero => rw [idT_zero]; omega
  | succ m => rw [idT_succ]; unfold step2; omega
theorem idV_bd {k : Int} {xs : List Int} {t : ByteArray} (h : ObjOk k xs t) : 0 ≤ idV k xs t ∧ idV k xs t ≤ 990 := by
  have := idL_bd h xs.length (Nat.le_refl _)
  exact idT_bd _ this.1 this.2 t t.size



/-- what ObjectId answers -/
def idR (k : Int) (xs : List Int) (t : ByteArray) : Int := if objOkB k xs t then idV k xs t else -1


theorem idR_kind {k k' : Int} {xs : List Int} {t : ByteArray} (hv : objOkB k xs t = true) (h : (100 * k + xs.length) % 991 ≠ (100 * k' + xs.length) % 991) : idR k' xs t ≠ idR k xs t := by
  have := (idV_bd (ObjOk.of hv)).1
  have h2 := idV_kind k k' xs t h
  unfold idR
  rw [if_pos hv]
  split
  · exact fun e => h2 e.symm
  · omega
theorem idV_link (k : Int) (ys : List Int) (x x' : Int) (t : ByteArray) (h1 : x < x') (h2 : x' < x + 991) : idV k (ys ++ [x']) t ≠ idV k (ys ++ [x]) t := by
  intro e
  have hL : ∀ z, idL k (ys ++ [z]) (ys ++ [z]).length = step6 (ys.foldl step6 (100 * k + (ys.length + 1 : Nat))) z := by
    intro z; unfold idL; rw [List.take_length, List.foldl_append]; simp
  have hne : step6 (ys.foldl step6 (100 * k + (ys.length + 1 : Nat))) x' % 991 ≠ step6 (ys.foldl step6 (100 * k + (ys.length + 1 : Nat))) x % 991 := by
    unfold step6; omega
  have := idT_inj t t.size _ _ hne
  unfold idV at e
  rw [hL, hL] at e
  rw [e] at this
  exact this rfl
theorem idR_link {k : Int} {xs : List Int} {t : ByteArray} (hv : objOkB k xs t = true) {m : Nat} {x x' : Int} (hm : m = xs.length) (hm0 : 0 < m) (hx : xs[m-1]? = some x) (h1 : x < x') (h2 : x' < x + 991) :
    idR k (xs.set (m-1) x') t ≠ idR k xs t := by
  subst hm
  have hge := (idV_bd (ObjOk.of hv)).1
  have hxs : xs = xs.dropLast ++ [x] := by
    have hne : xs ≠ [] := by intro e; rw [e] at hm0; cases hm0
    rw [← List.getLast?_eq_getElem?, List.getLast?_eq_some_getLast hne] at hx
    injection hx with hx
    rw [← hx]; exact (List.dropLast_concat_getLast hne).symm
  have hset : xs.set (xs.length - 1) x' = xs.dropLast ++ [x'] := by
    conv => lhs; rw [hxs]
    rw [List.set_append, if_neg (by simp)]
    simp
  have hlen : (xs.dropLast).length = xs.length - 1 := by simp
  have hd := idV_link k xs.dropLast x x' t h1 h2
  unfold idR
  rw [if_pos hv, hset]
  split
  · intro e; rw [e] at hd; exact hd (by rw [← hxs])
  · omega
end Go.Proofs.Ytkekcgamhhmjnaa
