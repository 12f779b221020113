/- Walks: slices.Insert of one object into a row of the call's own. -/
import Derived.Test.YtjofgbbofagoiaaImplCopy
import Derived.Shelf.Spec.SlicesInsertGrow
namespace Go.Proofs.Ytjofgbbofagoiaa
open Go.RowKit Go.Sort

section
variable {P : Program}
theorem run_copy_cellsN (w : World) (dT sT ty elem : TypeId) (size : Nat) (b o dLen dCap : Nat) (a : Addr) (sLen sCap : Nat) (cs : List Value)
    (hu : P.underlying dT = some (.slice elem)) (hs : (P.info? elem).map (·.size) = some size) (hn : cs.length = Nat.min sLen dLen * size)
    (hsrc : ∀ j v, cs[j]? = some v → w.cell? (a.add j) = some v) (hc : ∀ j, j < cs.length → (w.cell? ⟨b, o + j, none⟩).isSome = true) (hf : ∀ j, j < cs.length → w.frozen? ⟨b, o + j, none⟩ = false) (h1 : ∀ v ∈ cs, v.oneCell' = true) :
    (Builtin.copy_ #[dT, sT] ty #[.slice (some ⟨b, o, none⟩) dLen dCap, .slice (some a) sLen sCap]).run P w = .ok (goInt (Nat.min sLen dLen)) (w.setCells b o cs) := by
  have hl := run_loadCells_list (P := P) w a cs hsrc
  have hst := run_storeCells_cells (P := P) b o cs 0 w (by simpa using hc) (by simpa using hf) h1
  cases hq : P.info? elem with
  | none => simp [hq] at hs
  | some i =>
    have hi : i.size = size := by simpa [hq] using hs
    simp only [Nat.add_zero] at hst
    have hst' : Sem.run P (storeCells ⟨b, o, none⟩ cs) w = .ok () (w.setCells b o cs) := hst
    simp [Builtin.copy_, run_underlying hu, Builtin.lenOf, Builtin.firstCells, sizeOf, typeInfo, hq, hi, ← hn, hl, hst']
end
def splice : List Value → Nat → List Value → List Value
  | cs, _, [] => cs
  | cs, o, v :: r => splice (cs.set o v) (o + 1) r
theorem splice_len : ∀ (vs cs : List Value) (o : Nat), (splice cs o vs).length = cs.length
  | [], cs, o => rfl
  | v :: r, cs, o => by rw [splice, splice_len r, List.length_set]
theorem splice_eq : ∀ (vs cs : List Value) (o : Nat), o + vs.length ≤ cs.length → splice cs o vs = cs.take o ++ vs ++ cs.drop (o + vs.length)
  | [], cs, o, h => by simp [splice]
  | v :: r, cs, o, h => by
    simp only [List.length_cons] at h
    rw [splice, splice_eq r _ _ (by rw [List.length_set]; omega)]
    have h1 : (cs.set o v).take (o + 1) = cs.take o ++ [v] := by
      rw [List.take_set, List.take_succ_eq_append_getElem (by omega), List.set_append_right _ _ (by rw [List.length_take]; omega)]
      rw [List.length_take, Nat.min_eq_left (by omega), Nat.sub_self]; rfl
    have h2 : (cs.set o v).drop (o + 1 + r.length) = cs.drop (o + (v :: r).length) := by
      rw [List.drop_set, if_pos (by omega)]
      congr 1; simp only [List.length_cons]; omega
    rw [h1, h2]; simp
theorem Blk.setCells {g : Nat} {t : TypeId} : ∀ (vs cs : List Value) (o : Nat) (w : World), Blk w g t cs → Blk (w.setCells g o vs) g t (splice cs o vs)
  | [], _, _, _, h => h
  | v :: r, cs, o, w, h => by
    rw [World.setCells, splice]
    exact Blk.setCells r _ _ _ (h.set_ o v)
theorem splice_ins {CS cs : List Value} {n d k : Nat} (x0 x1 x2 : Value) (h1 : CS.take (n * 3) = cs) (hl : CS.length = d * 3) (hnd : n + 1 ≤ d) (hk : k ≤ n) :
    (splice (splice CS ((k + 1) * 3) (cs.drop (k * 3))) (k * 3) [x0, x1, x2]).take ((n + 1) * 3) = cs.take (k * 3) ++ [x0, x1, x2] ++ cs.drop (k * 3) := by
  have hcl : cs.length = n * 3 := by rw [← h1, List.length_take]; omega
  have hdl : (cs.drop (k * 3)).length = n * 3 - k * 3 := by rw [List.length_drop, hcl]
  rw [splice_eq [x0, x1, x2] _ _ (by rw [splice_len]; simp only [List.length_cons, List.length_nil]; omega), splice_eq _ CS _ (by omega)]
  have ht : (CS.take ((k + 1) * 3)).length = (k + 1) * 3 := by rw [List.length_take]; omega
  have a1 : (CS.take ((k + 1) * 3) ++ cs.drop (k * 3) ++ CS.drop ((k + 1) * 3 + (cs.drop (k * 3)).length)).take (k * 3) = cs.take (k * 3) := by
    rw [List.append_assoc, List.take_append_of_le_length (by omega), List.take_take, ← h1, List.take_take]
    congr 1; omega
  have a2 : (CS.take ((k + 1) * 3) ++ cs.drop (k * 3) ++ CS.drop ((k + 1) * 3 + (cs.drop (k * 3)).length)).drop (k * 3 + [x0, x1, x2].length) = cs.drop (k * 3) ++ CS.drop ((k + 1) * 3 + (cs.drop (k * 3)).length) := by
    rw [List.append_assoc, List.drop_append_of_le_length (by rw [ht]; simp only [List.length_cons, List.length_nil]; omega), List.drop_of_length_le (by rw [ht]; simp only [List.length_cons, List.length_nil]; omega), List.nil_append]
  rw [a1, a2, ← List.append_assoc]
  rw [List.take_append_of_le_length (by simp only [List.length_append, List.length_cons, List.length_nil, List.length_take, hdl, hcl]; omega), List.take_of_length_le (by simp only [List.length_append, List.length_cons, List.length_nil, List.length_take, hdl, hcl]; omega)]
theorem splice_ins2 {R cs : List Value} {n d k : Nat} (x0 x1 x2 : Value) (hcl : cs.length = n * 3) (hl : R.length = d * 3) (hnd : n + 1 ≤ d) (hk : k ≤ n) :
    (splice (splice R (k * 3) [x0, x1, x2]) ((k + 1) * 3) (cs.drop (k * 3))).take ((n + 1) * 3) = R.take (k * 3) ++ [x0, x1, x2] ++ cs.drop (k * 3) := by
  have hdl : (cs.drop (k * 3)).length = n * 3 - k * 3 := by rw [List.length_drop, hcl]
  rw [splice_eq (cs.drop (k * 3)) _ _ (by rw [splice_len]; omega), splice_eq [x0, x1, x2] R _ (by simp only [List.length_cons, List.length_nil]; omega)]
  have hA : (R.take (k * 3) ++ [x0, x1, x2]).length = (k + 1) * 3 := by simp only [List.length_append, List.length_take, List.length_cons, List.length_nil]; omega
  rw [List.take_append_of_le_length (l₁ := R.take (k * 3) ++ [x0, x1, x2]) (by omega), List.take_of_length_le (l := R.take (k * 3) ++ [x0, x1, x2]) (by omega)]
  rw [List.take_append_of_le_length (by rw [List.length_append, hA]; omega), List.take_of_length_le (by rw [List.length_append, hA]; omega)]
theorem grown_setCells {g : Nat} : ∀ (vs : List Value) (o : Nat) {w w' : World}, w.grownBy w' (some g) → w.grownBy (w'.setCells g o vs) (some g)
  | [], o, _, _, h => h
  | v :: r, o, w, w', h => by
    rw [World.setCells]
    exact grown_setCells r _ (grown_setCell h v)
theorem own_blk {w : World} {B g n d size : Nat} {e : TypeId} {xs : List Value} (h : w.ownsRow B e size (.slice (some ⟨g, 0, none⟩) n d) n xs) : ∃ cs, Blk w g e cs ∧ B ≤ g ∧ n ≤ d ∧ d ≤ maxLen ∧ cs.length = d * size ∧ cs.take (n * size) = xs := by
  rcases h.2 with ⟨h0, _⟩ | ⟨g', cap, cur, hv, hb, hh, h1, h2, h3, h4⟩
  · cases h0
  · injection hv with hv1 _ hv3
    injection hv1 with hv1
    injection hv1 with hv1 _ _
    subst hv1
    subst hv3
    exact ⟨cur.toList, by unfold Blk; simpa using hh, hb, h1, h2, by simpa using h3, h4⟩
theorem own_of_blk {w : World} {B g n d size : Nat} {e : TypeId} {cs : List Value} (h : Blk w g e cs) (hB : B ≤ g) (hn : n ≤ d) (hd : d ≤ maxLen) (hl : cs.length = d * size) : w.ownsRow B e size (.slice (some ⟨g, 0, none⟩) n d) n (cs.take (n * size)) := by
  refine ⟨?_, .inr ⟨g, d, cs.toArray, rfl, hB, h, hn, hd, by simpa using hl, by simp⟩⟩
  rw [List.length_take, hl, Nat.min_eq_left]
  exact Nat.mul_le_mul_right _ hn
theorem Elems.one_ {cs : List Value} {os : List Ob} {R : Option Addr → Nat → List Int → Prop} (h : Elems cs os R) : ∀ u ∈ cs, u.oneCell' = true := by
  intro u hu
  obtain ⟨j, hj⟩ := List.mem_iff_getElem?.1 hu
  have hl := h.1
  have hjl := (List.getElem?_eq_some_iff.1 hj).1
  have hq : j / 3 < os.length := by omega
  obtain ⟨A, m, d, e0, e1, e2, _⟩ := h.2 (j / 3) _ (List.getElem?_eq_getElem hq)
  have h3 : j = j / 3 * 3 ∨ j = j / 3 * 3 + 1 ∨ j = j / 3 * 3 + 1 + 1 := by omega
  rcases h3 with h3 | h3 | h3
  · rw [← h3, hj] at e0; injection e0 with e0; subst e0; rfl
  · rw [← h3, hj] at e1; injection e1 with e1; subst e1; rfl
  · rw [← h3, hj] at e2; injection e2 with e2; subst e2; rfl

theorem obj_size : (Try.prog.info? 33).map (·.size) = some 3 := by
  obtain ⟨i, h1, _, h3, _⟩ := info_parts obj_info1
  rw [h1]; simp [h3]

theorem shape_of {w : World} {g : Nat} {t : TypeId} {cs : List Value} (h : Blk w g t cs) : w.shape? g = some (t, cs.length) := by
  unfold Blk at h
  unfold World.shape?
  rw [h]; simp

set_option maxHeartbeats 4000000 in
set_option maxRecDepth 100000 in
/-- there is room: in place -/
theorem insert_room (g n d k gv : Nat) (cs : List Value) (x0 x1 x2 : Value) (B : Nat) (w : World) (hown : w.ownsRow B 33 3 (.slice (some ⟨g, 0, none⟩) n d) n cs) (hk : k < n) (hroom : n + 1 ≤ d) (hn : n ≤ 1000)
    (hv : Blk w gv 33 [x0, x1, x2]) (hne : gv ≠ g) (h1c : ∀ v ∈ cs, v.oneCell' = true) (h1v : ∀ v ∈ [x0, x1, x2], v.oneCell' = true) :
    Calls Try.prog 117 #[.slice (some ⟨g, 0, none⟩) n d, .int .i64 k, .slice (some ⟨gv, 0, none⟩) 1 1] w fun e w' =>
      e = .returned (.slice (some ⟨g, 0, none⟩) (n + 1) d) ∧ w'.ownsRow B 33 3 (.slice (some ⟨g, 0, none⟩) (n + 1) d) (n + 1) (cs.take (k * 3) ++ [x0, x1, x2] ++ cs.drop (k * 3)) ∧ w.grownBy w' (some g) := by
  obtain ⟨CS, hB, hBg, hnd, hdm, hCl, hCt⟩ := own_blk hown
  have hcl : cs.length = n * 3 := hown.1
  have hu := Try.underlying23
  have hov : ∀ lb cb, (callFunc 133 #[.slice (some ⟨gv, 0, none⟩) 1 1, .slice (some ⟨g, (k + 1) * 3, none⟩) lb cb]).run Try.prog w = .ok (.value (.bool false)) w := fun lb cb => by
    rw [run_callFunc_extern Try.func133 (by kernel_rfl) (by kernel_rfl) (by kernel_rfl) (e := Extern.SlicesOverlaps.overlaps #[23, 23] #[4]) (by kernel_rfl),
      Lib.run_overlaps_apart w 23 4 33 hu 3 Try.sizeOf33 ⟨gv, 0, none⟩ ⟨g, (k + 1) * 3, none⟩ 1 1 lb cb hne 33 33 3 (d * 3) (shape_of hv) (by rw [shape_of hB, hCl]) (by omega) (hv.frozen 0) (hv.frozen 3)]
    rfl
  have hdl : (cs.drop (k * 3)).length = (n - k) * 3 := by rw [List.length_drop, hcl]; omega
  have hc0 := own_cellsOf hown
  have hsp : ∀ j, j < d * 3 → (w.cell? ⟨g, j, none⟩).isSome = true := fun j hj => by rw [hB.cell, List.getElem?_eq_getElem (by omega)]; rfl
  have hcp1 : ∀ ty dc sc, (Builtin.copy_ #[23, 23] ty #[.slice (some ⟨g, (k + 1) * 3, none⟩) (n + 1 - (k + 1)) dc, .slice (some ⟨g, k * 3, none⟩) (n + 1 - k) sc]).run Try.prog w.drew = .ok (goInt (Nat.min (n + 1 - k) (n + 1 - (k + 1)))) (w.drew.setCells g ((k + 1) * 3) (cs.drop (k * 3))) := fun ty dc sc =>
    run_copy_cellsN w.drew _ _ ty 33 3 g ((k + 1) * 3) (n + 1 - (k + 1)) dc ⟨g, k * 3, none⟩ (n + 1 - k) sc (cs.drop (k * 3)) hu obj_size (by rw [hdl]; simp only [Nat.min_def]; split <;> omega)
      (fun j v hj => by rw [add_at]; exact hc0 _ v (by rwa [List.getElem?_drop] at hj))
      (fun j hj => hsp _ (by omega)) (fun j hj => hB.frozen _) (fun v hv => h1c v (List.mem_of_mem_drop hv))
  obtain ⟨W1, hW1⟩ : ∃ W1, W1 = w.drew.setCells g ((k + 1) * 3) (cs.drop (k * 3)) := ⟨_, rfl⟩
  have hB1 : Blk W1 g 33 (splice CS ((k + 1) * 3) (cs.drop (k * 3))) := by rw [hW1]; exact Blk.setCells _ _ _ _ hB.drew
  have hG1 : w.grownBy W1 (some g) := by rw [hW1]; exact grown_setCells _ _ ⟨rfl, rfl, rfl, Nat.le_refl _, fun _ _ _ => rfl⟩
  have hv1 : Blk W1 gv 33 [x0, x1, x2] := hv.grown hG1 (fun e => by injection e with e; exact hne e)
  have hcp2 : ∀ (W : World), (∀ x, W.cell? x = W1.cell? x) → (∀ x, W.frozen? x = W1.frozen? x) → ∀ ty dc, (Builtin.copy_ #[23, 23] ty #[.slice (some ⟨g, k * 3, none⟩) (n + 1 - k) dc, .slice (some ⟨gv, 0, none⟩) 1 1]).run Try.prog W = .ok (goInt (Nat.min 1 (n + 1 - k))) (W.setCells g (k * 3) [x0, x1, x2]) := fun W hWc hWf ty dc =>
    run_copy_cellsN W _ _ ty 33 3 g (k * 3) (n + 1 - k) dc ⟨gv, 0, none⟩ 1 1 [x0, x1, x2] hu obj_size (by simp only [Nat.min_def]; split <;> simp <;> omega)
      (fun j v hj => by rw [hWc]; exact hv1.cellsAt j v hj)
      (fun j hj => by rw [hWc, hB1.cell, List.getElem?_eq_getElem (by rw [splice_len]; simp at hj; omega)]; rfl) (fun j hj => by rw [hWf]; exact hB1.frozen _) h1v
  rw [← hW1] at hcp1
  have HW1 := Lib.hid hW1
  clear hW1
  have mixed : Try.prog.follows Departure.mixedOrders = true := by kernel_rfl
  have hz2 : ¬ ((k : Int) = (n : Int)) := by omega
  have hw1 : IntKind.i64.wrap ((k : Int) + 1) = (k : Int) + 1 := by rw [IntKind.wrap_i64]; omega
  have hw2 : IntKind.i64.wrap ((n : Int) + 1) = (n : Int) + 1 := by rw [IntKind.wrap_i64]; omega
  have hb1 : (0 : Int) ≤ (k : Int) + 1 := by omega
  have hb0 : (0 : Int) ≤ (n : Int) + 1 := by omega
  have hin : (k : Int) ≤ (n : Int) := by omega
  have hid : (k : Int) ≤ (d : Int) := by omega
  have hb2 : ¬ (d = k + 1) := by omega
  have hb3 : (k : Int) ≤ (n : Int) + 1 := by omega
  have hb4 : ¬ (d = k) := by omega
  have hb5 : (n : Int) + 1 ≤ (d : Int) := by omega
  have hb6 : (n : Int) ≤ (d : Int) := by omega
  have hb7 : (k : Int) + 1 ≤ (n : Int) + 1 := by omega
  have hb8 : ¬ ((d : Int) < (n : Int) + 1) := by omega
  go_enter Try.func117, Try.ntmps117
  go_wp2_with (simp only [hov])
  go_region_law_o (refine step_copy_runI rfl _ _ 23 23 rfl (.slice (some ⟨g, (k + 1) * 3, none⟩) (n + 1 - (k + 1)) (d - (k + 1))) (.slice (some ⟨g, k * 3, none⟩) (n + 1 - k) (d - k)) (by simp [Act.eval, Act.put]) (by simp [Act.eval, Act.put]) (hcp1 _ _ _) ?_)
  go_wp2_with (at_builtin; refine wpList_copy_runI _ rfl _ _ 23 23 rfl _ _ rfl rfl (hcp2 _ (fun _ => rfl) (fun _ => rfl) _ _) ?_)
  go_ret
  have hf := own_of_blk (n := n + 1) (size := 3) (Blk.setCells [x0, x1, x2] _ (k * 3) _ hB1) hBg hroom hdm (by rw [splice_len, splice_len]; exact hCl)
  rw [splice_ins x0 x1 x2 hCt hCl hroom (Nat.le_of_lt hk)] at hf
  exact ⟨rfl, hf, grown_setCells _ _ hG1⟩

set_option maxHeartbeats 4000000 in
set_option maxRecDepth 100000 in
/-- no room: a new row -/
theorem insert_grow (g n d k gv : Nat) (cs : List Value) (x0 x1 x2 : Value) (B : Nat) (w : World) (hown : w.ownsRow B 33 3 (.slice (some ⟨g, 0, none⟩) n d) n cs) (hk : k < n) (hroom : d < n + 1) (hn : n ≤ 1000)
    (hv : Blk w gv 33 [x0, x1, x2]) (hBw : B ≤ w.heap.size) (h1c : ∀ v ∈ cs, v.oneCell' = true) (h1v : ∀ v ∈ [x0, x1, x2], v.oneCell' = true) :
    Calls Try.prog 117 #[.slice (some ⟨g, 0, none⟩) n d, .int .i64 k, .slice (some ⟨gv, 0, none⟩) 1 1] w fun e w' =>
      ∃ g' d', e = .returned (.slice (some ⟨g', 0, none⟩) (n + 1) d') ∧ w'.ownsRow B 33 3 (.slice (some ⟨g', 0, none⟩) (n + 1) d') (n + 1) (cs.take (k * 3) ++ [x0, x1, x2] ++ cs.drop (k * 3)) ∧ Below w.heap.size w w' := by
  obtain ⟨CS, hB, hBg, hnd, hdm, hCl, hCt⟩ := own_blk hown
  have hcl : cs.length = n * 3 := hown.1
  have hu := Try.underlying23
  have hui := Try.underlying3
  obtain ⟨i0, hi0, hz0, hzs, hzb⟩ := info_parts obj_info1
  have hc0 := own_cellsOf hown
  have hgw := hB.lt
  have hvw := hv.lt
  have hkk : (n : Int) + 1 - (k : Int) = ((n + 1 - k : Nat) : Int) := by omega
  have hik : k + (n + 1 - k) = n + 1 := by omega
  have hold : (Builtin.firstCells i0.size k (.slice (some ⟨g, 0, none⟩) k d)).run Try.prog w.drew = .ok (cs.take (k * 3)).toArray w.drew := by
    rw [hzs]
    exact run_firstCells_some w.drew 3 k ⟨g, 0, none⟩ k d (cs.take (k * 3)) (by rw [List.length_take]; omega) (fun j v hj => by
      rw [add_at, Nat.zero_add]
      rw [List.getElem?_take] at hj
      split at hj
      · exact hc0 j v hj
      · cases hj)
  have hrz : ∀ ty, (Builtin.append_ #[23, 3] ty #[.slice (some ⟨g, 0, none⟩) k d, .int .i64 ((n : Int) + 1 - (k : Int))]).run Try.prog w =
      .ok (.slice (some ⟨w.heap.size, 0, none⟩) (n + 1) (grownCap w (n + 1) d 33)) (w.drew.alloc (.cells ((cs.take (k * 3)).toArray ++ Builtin.zeroCells (Value.agg #[.int .i64 0, .slice none 0 0, .string ⟨#[]⟩]).cells (n + 1 - k) ++ Builtin.zeroCells (Value.agg #[.int .i64 0, .slice none 0 0, .string ⟨#[]⟩]).cells (grownCap w (n + 1) d 33 - (n + 1))) 33)) := fun ty => by
    have h := Lib.run_append_grow_zeros w 23 3 ty 33 i0 _ .i64 .i64 hu hui hi0 hz0 (some ⟨g, 0, none⟩) k d (cs.take (k * 3)) hold (n + 1 - k) (by omega) (by omega) (by omega) (by omega) (by rw [hzb]; omega) (by rw [hzb, hik]; exact growslice_fits hroom (by omega))
    rw [hik] at h
    rw [hkk]
    exact h
  obtain ⟨G, hG⟩ : ∃ G, G = grownCap w (n + 1) d 33 := ⟨_, rfl⟩
  rw [← hG] at hrz
  obtain ⟨ROW, hROW⟩ : ∃ ROW : Array Value, ROW = (cs.take (k * 3)).toArray ++ Builtin.zeroCells (Value.agg #[.int .i64 0, .slice none 0 0, .string ⟨#[]⟩]).cells (n + 1 - k) ++ Builtin.zeroCells (Value.agg #[.int .i64 0, .slice none 0 0, .string ⟨#[]⟩]).cells (G - (n + 1)) := ⟨_, rfl⟩
  rw [← hROW] at hrz
  have hGn : n + 1 ≤ G := by rw [hG]; exact grownCap_ge w _ _ _
  have hGm : G ≤ maxLen := by rw [hG]; exact grownCap_le_maxLen w (n + 1) d 33 (by unfold maxLen; omega)
  have hzc : ∀ q, (Builtin.zeroCells (Value.agg #[.int .i64 0, .slice none 0 0, .string ⟨#[]⟩]).cells q).size = q * 3 := fun q => by
    simp [Builtin.zeroCells, Value.cells]
  have hRl : ROW.size = G * 3 := by
    rw [hROW, Array.size_append, Array.size_append, hzc, hzc]
    simp only [List.size_toArray, List.length_take, hcl]
    omega
  have hRt : ROW.toList.take (k * 3) = cs.take (k * 3) := by
    rw [hROW, Array.toList_append, Array.toList_append, List.append_assoc, List.take_append_of_le_length (by simp only [List.length_take, hcl]; omega)]
    rw [List.toList_toArray, List.take_take, Nat.min_self]
  clear hROW
  obtain ⟨W1, hW1⟩ : ∃ W1, W1 = w.drew.alloc (.cells ROW 33) := ⟨_, rfl⟩
  rw [← hW1] at hrz
  have hB1 : Blk W1 w.heap.size 33 ROW.toList := by
    rw [hW1]
    have := Blk.new w.drew 33 ROW.toList
    simpa using this
  have hb1 : Below w.heap.size w W1 := by rw [hW1]; exact (Below.refl w.heap.size w).drew.trans (below_box w.drew _)
  have hv1 : Blk W1 gv 33 [x0, x1, x2] := hv.next hb1
  have hRll : ROW.toList.length = G * 3 := by simpa using hRl
  have hcpA : ∀ (W : World), (∀ x, W.cell? x = W1.cell? x) → (∀ x, W.frozen? x = W1.frozen? x) → ∀ ty dc, (Builtin.copy_ #[23, 23] ty #[.slice (some ⟨w.heap.size, k * 3, none⟩) (n + 1 - k) dc, .slice (some ⟨gv, 0, none⟩) 1 1]).run Try.prog W = .ok (goInt (Nat.min 1 (n + 1 - k))) (W.setCells w.heap.size (k * 3) [x0, x1, x2]) := fun W hWc hWf ty dc =>
    run_copy_cellsN W _ _ ty 33 3 w.heap.size (k * 3) (n + 1 - k) dc ⟨gv, 0, none⟩ 1 1 [x0, x1, x2] hu obj_size (by simp only [Nat.min_def]; split <;> simp <;> omega)
      (fun j v hj => by rw [hWc]; exact hv1.cellsAt j v hj)
      (fun j hj => by rw [hWc, hB1.cell, List.getElem?_eq_getElem (by simp at hj; omega)]; rfl) (fun j hj => by rw [hWf]; exact hB1.frozen _) h1v
  have hB2 := Blk.setCells [x0, x1, x2] _ (k * 3) _ hB1
  have hdl : (cs.drop (k * 3)).length = (n - k) * 3 := by rw [List.length_drop, hcl]; omega
  have hcpB : ∀ (W : World), (∀ x, W.cell? x = (W1.setCells w.heap.size (k * 3) [x0, x1, x2]).cell? x) → (∀ x, W.frozen? x = (W1.setCells w.heap.size (k * 3) [x0, x1, x2]).frozen? x) → ∀ ty dc sc, (Builtin.copy_ #[23, 23] ty #[.slice (some ⟨w.heap.size, (k + 1) * 3, none⟩) (n + 1 - (k + 1)) dc, .slice (some ⟨g, k * 3, none⟩) (n - k) sc]).run Try.prog W = .ok (goInt (Nat.min (n - k) (n + 1 - (k + 1)))) (W.setCells w.heap.size ((k + 1) * 3) (cs.drop (k * 3))) := fun W hWc hWf ty dc sc =>
    run_copy_cellsN W _ _ ty 33 3 w.heap.size ((k + 1) * 3) (n + 1 - (k + 1)) dc ⟨g, k * 3, none⟩ (n - k) sc (cs.drop (k * 3)) hu obj_size (by rw [hdl]; simp only [Nat.min_def]; split <;> omega)
      (fun j v hj => by
        rw [add_at, hWc, World.cell?_setCells_out _ _ _ _ _ (fun h _ => absurd (show g = w.heap.size from h) (by omega)), hb1.cell (p := ⟨g, k * 3 + j, none⟩) hgw]
        exact hc0 _ v (by rwa [List.getElem?_drop] at hj))
      (fun j hj => by rw [hWc, hB2.cell, List.getElem?_eq_getElem (by rw [splice_len]; omega)]; rfl)
      (fun j hj => by rw [hWf]; exact hB2.frozen _) (fun v hv => h1c v (List.mem_of_mem_drop hv))
  have HW1 := Lib.hid hW1
  have mixed : Try.prog.follows Departure.mixedOrders = true := by kernel_rfl
  have hz2 : ¬ ((k : Int) = (n : Int)) := by omega
  have hw1 : IntKind.i64.wrap ((k : Int) + 1) = (k : Int) + 1 := by rw [IntKind.wrap_i64]; omega
  have hw2 : IntKind.i64.wrap ((n : Int) + 1) = (n : Int) + 1 := by rw [IntKind.wrap_i64]; omega
  have hw3 : IntKind.i64.wrap ((n : Int) + 1 - (k : Int)) = (n : Int) + 1 - (k : Int) := by rw [IntKind.wrap_i64]; omega
  have ib0 : (0 : Int) ≤ (k : Int) := by omega
  have ib1 : (0 : Int) ≤ (k : Int) + 1 := by omega
  have ib2 : (k : Int) ≤ (n : Int) := by omega
  have ib3 : (k : Int) ≤ (d : Int) := by omega
  have ib4 : (n : Int) ≤ (d : Int) := by omega
  have ib5 : (k : Int) ≤ (n : Int) + 1 := by omega
  have ib6 : (k : Int) + 1 ≤ (n : Int) + 1 := by omega
  have ib7 : (n : Int) + 1 ≤ (G : Int) := by omega
  have ib8 : (d : Int) < (n : Int) + 1 := by omega
  have ic1 : ¬ (G = k) := by omega
  have ic2 : ¬ (G = k + 1) := by omega
  have ic3 : ¬ (d = k) := by omega
  have hF1 : ∀ x, (W1.setCells w.heap.size (k * 3) [x0, x1, x2]).drew.cell? x = (W1.setCells w.heap.size (k * 3) [x0, x1, x2]).cell? x := fun x => rfl
  have hF2 : ∀ x, (W1.setCells w.heap.size (k * 3) [x0, x1, x2]).drew.frozen? x = (W1.setCells w.heap.size (k * 3) [x0, x1, x2]).frozen? x := fun x => rfl
  clear hkk hik hold hG hW1
  go_enter Try.func117, Try.ntmps117
  go_wp2_with (first
    | (at_builtin; refine Lib.wpList_append_run _ rfl _ _ _ _ rfl _ _ rfl rfl _ _ (hrz _) ?_)
    | (at_builtin; refine wpList_copy_runI _ rfl _ _ 23 23 rfl _ _ rfl rfl (hcpA _ (fun _ => rfl) (fun _ => rfl) _ _) ?_))
  go_region_law_o (refine step_copy_runI rfl _ _ 23 23 rfl (.slice (some ⟨w.heap.size, (k + 1) * 3, none⟩) (n + 1 - (k + 1)) (G - (k + 1))) (.slice (some ⟨g, k * 3, none⟩) (n - k) (d - k)) (by simp [Act.eval, Act.put]) (by simp [Act.eval, Act.put]) (hcpB _ hF1 hF2 3 (G - (k + 1)) (d - k)) ?_)
  go_wp2_with fail
  go_ret
  have hf := own_of_blk (n := n + 1) (size := 3) (Blk.setCells (cs.drop (k * 3)) _ ((k + 1) * 3) _ hB2.drew) hBw hGn hGm (by rw [splice_len, splice_len]; exact hRll)
  rw [splice_ins2 x0 x1 x2 hcl hRll hGn (Nat.le_of_lt hk), hRt] at hf
  refine ⟨_, _, rfl, hf, ?_⟩
  have g1 : w.grownBy W1 (some w.heap.size) := ⟨hb1.os, hb1.tape, hb1.output, hb1.size, fun i hi _ => hb1.block i hi⟩
  have g2 := grown_setCells (cs.drop (k * 3)) ((k + 1) * 3) (grown_drewN (grown_setCells [x0, x1, x2] (k * 3) g1) 1)
  exact ⟨g2.os, g2.tape, g2.output, g2.size, fun i hi => g2.block i hi (by intro e; injection e with e; omega)⟩
end Go.Proofs.Ytjofgbbofagoiaa
