/- Data of packs: operations and entries, laid out in cells; what is told of packs by plain functions. Plain lemmas. -/
import Derived.Test.YtkekcgamhhmjnaaMarkG
import Derived.Test.YtkekcgamhhmjnaaPkMakeS
import Derived.Test.YtkekcgamhhmjnaaClone
namespace Go.Proofs.Ytkekcgamhhmjnaa
open Go.RowKit Go.Sort

/-- an entry of a pack -/
structure Pe where
  k : Int
  xs : List Int
  b : Int
  ops : List Dp
instance : Inhabited Pe := ⟨⟨0, [], 0, []⟩⟩
def repDp : Rep Dp := repAs (rep2 repInt (rep2 repInt repStr)) fun x => (x.at_, x.sz, x.tx)
def repPe : Rep Pe := repAs (rep2 repInt (rep2 (repSl repInt) (rep2 repInt (repSl repDp)))) fun x => (x.k, x.xs, x.b, x.ops)
def sepStr : RepS ByteArray := ⟨repStr, fun _ _ _ cs x => cs = [.string x] ∧ x.size ≤ maxLen, fun h => by rw [h.1]; rfl, fun h _ => h, fun h _ => h, fun h _ => h, fun h => h⟩
def sepDp : RepS Dp := sepAs (sep2 sepInt (sep2 sepInt sepStr)) fun x => (x.at_, x.sz, x.tx)
def sepPe : RepS Pe := sepAs (sep2 sepInt (sep2 (sepSl 3 sepInt) (sep2 sepInt (sepSl 62 sepDp)))) fun x => (x.k, x.xs, x.b, x.ops)
def noB (_ : Nat) : Prop := False
section
variable {lo n c : Nat} {S : Nat → Prop} {w w' : World} {cs : List Value} {A : Option Addr}
theorem repDp_cells {x : Dp} (h : repDp.V lo w cs x) : cs = [.int .i64 x.at_, .int .i64 x.sz, .string x.tx] ∧ x.tx.size ≤ maxLen := by
  obtain ⟨c0, e0, rfl, p0, c1, e1, rfl, p1, q1, q2⟩ := h
  have z0 : c0 = [.int .i64 x.at_] := p0
  subst z0
  have z1 : c1 = [.int .i64 x.sz] := p1
  subst z1
  have z2 : e1 = [.string x.tx] := q1
  subst z2
  exact ⟨rfl, q2⟩
theorem sepDp_mk {x : Dp} (h : x.tx.size ≤ maxLen) : sepDp.V lo S w (dpC x) x :=
  ⟨[.int .i64 x.at_], [.int .i64 x.sz, .string x.tx], noB, noB, rfl, fun _ h => h.elim, fun _ h => h.elim, fun _ h => h.elim, rfl, [.int .i64 x.sz], [.string x.tx], noB, noB, rfl, fun _ h => h.elim, fun _ h => h.elim, fun _ h => h.elim, rfl, rfl, h⟩
theorem sepDp_cells {x : Dp} (h : sepDp.V lo S w cs x) : cs = [.int .i64 x.at_, .int .i64 x.sz, .string x.tx] ∧ x.tx.size ≤ maxLen := repDp_cells (sepDp.reads h)
theorem repPe_cells {x : Pe} (h : repPe.V lo w cs x) : ∃ B1 m1 d1 B3 m3 d3, cs = [.int .i64 x.k, .slice B1 m1 d1, .int .i64 x.b, .slice B3 m3 d3] ∧ RSl repInt lo w B1 m1 x.xs ∧ m1 ≤ maxLen ∧ RSl repDp lo w B3 m3 x.ops ∧ m3 ≤ maxLen := by
  obtain ⟨c0, e0, rfl, p0, c1, e1, rfl, ⟨B1, m1, d1, rfl, r1, s1⟩, c2, e2, rfl, p2, ⟨B3, m3, d3, rfl, r3, s3⟩⟩ := h
  have z0 : c0 = [.int .i64 x.k] := p0
  subst z0
  have z2 : c2 = [.int .i64 x.b] := p2
  subst z2
  exact ⟨B1, m1, d1, B3, m3, d3, rfl, r1, s1, r3, s3⟩
theorem sepPe_cells {x : Pe} (h : sepPe.V lo S w cs x) : ∃ A n c B m d S1 S2, cs = [.int .i64 x.k, .slice A n c, .int .i64 x.b, .slice B m d] ∧ (∀ b, S1 b → S b) ∧ (∀ b, S2 b → S b) ∧ (∀ b, S1 b → ¬ S2 b) ∧
    SSl 3 sepInt lo S1 w A n c x.xs ∧ SSl 62 sepDp lo S2 w B m d x.ops := by
  obtain ⟨c1, c2, T1, T2, rfl, _, t2, _, h4, c3, c4, S1, S2, rfl, q1, q2, q3, ⟨A, n, c, e1, h5⟩, c5, c6, S3, S4, rfl, _, q5, _, h6, ⟨B, m, d, e2, h7⟩⟩ := h
  have h4' : c1 = [.int .i64 x.k] := h4
  have h6' : c5 = [.int .i64 x.b] := h6
  subst e1 e2 h4' h6'
  exact ⟨A, n, c, B, m, d, S1, S4, rfl, fun b hb => t2 b (q1 b hb), fun b hb => t2 b (q2 b (q5 b hb)), fun b hb h => q3 b hb (q5 b h), h5, h7⟩
theorem sepPe_mk {x : Pe} {B : Option Addr} {m d : Nat} {S1 S2 : Nat → Prop} (q1 : ∀ b, S1 b → S b) (q2 : ∀ b, S2 b → S b) (q3 : ∀ b, S1 b → ¬ S2 b) (h4 : SSl 3 sepInt lo S1 w A n c x.xs) (h5 : SSl 62 sepDp lo S2 w B m d x.ops) :
    sepPe.V lo S w [.int .i64 x.k, .slice A n c, .int .i64 x.b, .slice B m d] x :=
  ⟨[.int .i64 x.k], [.slice A n c, .int .i64 x.b, .slice B m d], noB, S, rfl, fun _ h => h.elim, fun _ h => h, fun _ h => h.elim, rfl,
    [.slice A n c], [.int .i64 x.b, .slice B m d], S1, S2, rfl, q1, q2, q3, ⟨A, n, c, rfl, h4⟩, [.int .i64 x.b], [.slice B m d], noB, S2, rfl, fun _ h => h.elim, fun _ h => h, fun _ h => h.elim, rfl, ⟨B, m, d, rfl, h5⟩⟩
theorem OwnD.ssl {ops : List Dp} (h : OwnD w lo A n c ops) (ht : ∀ o ∈ ops, o.tx.size ≤ maxLen) (hS : ∀ b, lo ≤ b → b < w.heap.size → (Value.slice A n c).ownBlock = some b → S b) : SSl 62 sepDp lo S w A n c ops :=
  SSl.of_flat dpC (fun x hx => sepDp_mk (ht x hx)) h h.len.symm hS
theorem RSl.below {α : Type} {r : Rep α} {xs : List α} (h : RSl r lo w A n xs) (hb : Below w.heap.size w w') : RSl r lo w' A n xs := h.next hb
theorem RSl.take {α : Type} {r : Rep α} {xs : List α} (h : RSl r lo w A n xs) {k : Nat} (hk : k ≤ n) : RSl r lo w A k (xs.take k) := by
  refine ⟨by rw [List.length_take, h.1]; omega, fun h0 => ?_⟩
  obtain ⟨b, off, e, h1, h2, hc⟩ := h.2 (by omega)
  refine ⟨b, off, e, h1, h2, fun i x hx => ?_⟩
  have hi : i < k := by have := (List.getElem?_eq_some_iff.1 hx).1; rw [List.length_take] at this; omega
  rw [List.getElem?_take_of_lt hi] at hx
  exact hc i x hx
end
/-- own operations, read -/
theorem DelTo.reads {w w' : World} {b t : ByteArray} {e : Ending} (h : DelTo w (dmake b t) e w') : ∃ A n c, e = .returned (.slice A n c) ∧ n ≤ 8 ∧ SSl 62 sepDp w.heap.size (Iv w.heap.size w'.heap.size) w' A n c (dmake b t) ∧ RSl repDp w.heap.size w' A n (dmake b t) ∧ Below w.heap.size w w' := by
  obtain ⟨A, n, c, e1, h1, h2⟩ := h
  have hs := dmake_small b t
  have h3 := h1.ssl (S := Iv w.heap.size w'.heap.size) (fun o ho => by have := hs.2 o ho; simp only [maxLen]; omega) (fun b h1 h2 _ => ⟨h1, h2⟩)
  exact ⟨A, n, c, e1, by have := h1.len; have := hs.1; omega, h3, h3.reads, h2⟩

/-- the number of deltas on which an entry depends: by the list of bases -/
def depF (bs : List Int) : Nat → Nat → Nat
  | 0, _ => 0
  | f + 1, i => if 0 ≤ bs.getD i (-1) ∧ (bs.getD i (-1)).toNat < i then depF bs f (bs.getD i (-1)).toNat + 1 else 0
def dep (bs : List Int) (i : Nat) : Nat := depF bs (i + 1) i
theorem depF_same {bs : List Int} : ∀ (f g i : Nat), i < f → i < g → depF bs f i = depF bs g i
  | 0, _, _, h, _ => by omega
  | _ + 1, 0, _, _, h => by omega
  | f + 1, g + 1, i, h1, h2 => by
    rw [depF, depF]
    split
    · rename_i hc
      rw [depF_same f g _ (by omega) (by omega)]
    · rfl
theorem dep_eq (bs : List Int) (i : Nat) : dep bs i = if 0 ≤ bs.getD i (-1) ∧ (bs.getD i (-1)).toNat < i then dep bs (bs.getD i (-1)).toNat + 1 else 0 := by
  unfold dep
  rw [depF]
  split
  · rename_i hc
    rw [depF_same i _ _ (by omega) (Nat.lt_succ_self _)]
  · rfl
theorem dep_congr {bs cs : List Int} : ∀ (i : Nat), (∀ j, j ≤ i → bs.getD j (-1) = cs.getD j (-1)) → dep bs i = dep cs i := by
  intro i
  induction i using Nat.strongRecOn with
  | _ i ih =>
    intro h
    rw [dep_eq bs, dep_eq cs]
    rw [h i (Nat.le_refl _)]
    split
    · rename_i hc
      rw [ih _ hc.2 (fun j hj => h j (by omega))]
    · rfl
theorem dep_app {bs cs : List Int} {i : Nat} (h : i < bs.length) : dep (bs ++ cs) i = dep bs i :=
  dep_congr i fun j hj => by simp [List.getD, List.getElem?_append_left (show j < bs.length by omega)]
theorem dep_neg {bs : List Int} {i : Nat} (h : bs.getD i (-1) < 0) : dep bs i = 0 := by
  rw [dep_eq, if_neg (by omega)]
theorem dep_pos {bs : List Int} {i : Nat} (h : 0 ≤ bs.getD i (-1)) (h2 : (bs.getD i (-1)).toNat < i) : dep bs i = dep bs (bs.getD i (-1)).toNat + 1 := by
  rw [dep_eq, if_pos ⟨h, h2⟩]
/-- bases come earlier -/
def OkB (bs : List Int) : Prop := ∀ (i : Nat) (b : Int), bs[i]? = some b → -1 ≤ b ∧ b < i
/-- the best base among the first ones, and its delta -/
noncomputable def bestTo (t : ByteArray) (ts : List ByteArray) (bs : List Int) : Nat → Int × List Dp
  | 0 => (-1, dmake ⟨#[]⟩ t)
  | i + 1 => if dep bs i < 2 ∧ dsz (dmake (ts.getD i ⟨#[]⟩) t) < dsz (bestTo t ts bs i).2 then ((i : Int), dmake (ts.getD i ⟨#[]⟩) t) else bestTo t ts bs i
theorem bestTo_range {t : ByteArray} {ts : List ByteArray} {bs : List Int} : ∀ k, -1 ≤ (bestTo t ts bs k).1 ∧ (bestTo t ts bs k).1 < k
  | 0 => by simp [bestTo]
  | k + 1 => by
    have ih := bestTo_range (t := t) (ts := ts) (bs := bs) k
    rw [bestTo]
    split
    · constructor <;> simp only <;> omega
    · omega
theorem bestTo_ops {t : ByteArray} {ts : List ByteArray} {bs : List Int} : ∀ k, (bestTo t ts bs k).2 = dmake (if 0 ≤ (bestTo t ts bs k).1 then ts.getD (bestTo t ts bs k).1.toNat ⟨#[]⟩ else ⟨#[]⟩) t
  | 0 => by simp [bestTo]
  | k + 1 => by
    have ih := bestTo_ops (t := t) (ts := ts) (bs := bs) k
    rw [bestTo]
    split
    · simp
    · exact ih
theorem bestTo_dep {t : ByteArray} {ts : List ByteArray} {bs : List Int} : ∀ k, 0 ≤ (bestTo t ts bs k).1 → dep bs (bestTo t ts bs k).1.toNat < 2
  | 0, h => by simp [bestTo] at h
  | k + 1, h => by
    have ih := bestTo_dep (t := t) (ts := ts) (bs := bs) k
    rw [bestTo] at h ⊢
    split
    · rename_i hc
      simpa using hc.1
    · rename_i hc
      rw [if_neg hc] at h
      exact ih h
theorem bestTo_small {t : ByteArray} {ts : List ByteArray} {bs : List Int} : ∀ k, dsz (bestTo t ts bs k).2 ≤ dsz (dmake ⟨#[]⟩ t) ∧ (0 ≤ (bestTo t ts bs k).1 → dsz (bestTo t ts bs k).2 < dsz (dmake ⟨#[]⟩ t))
  | 0 => by simp [bestTo]
  | k + 1 => by
    have ih := bestTo_small (t := t) (ts := ts) (bs := bs) k
    rw [bestTo]
    split
    · rename_i hc
      constructor <;> intros <;> simp only <;> omega
    · exact ih
theorem bestTo_best {t : ByteArray} {ts : List ByteArray} {bs : List Int} : ∀ k j, j < k → dep bs j < 2 → ¬ dsz (dmake (ts.getD j ⟨#[]⟩) t) < dsz (bestTo t ts bs k).2
  | 0, j, h, _ => by omega
  | k + 1, j, h, hd => by
    have ih := bestTo_best (t := t) (ts := ts) (bs := bs) k j
    rw [bestTo]
    split
    · rename_i hc
      by_cases e : j = k
      · subst e; simp only; omega
      · have := ih (by omega) hd; simp only; omega
    · rename_i hc
      by_cases e : j = k
      · subst e; omega
      · exact ih (by omega) hd
theorem bestTo_congr {t : ByteArray} {ts ts' : List ByteArray} {bs bs' : List Int} : ∀ k, (∀ j, j < k → ts.getD j ⟨#[]⟩ = ts'.getD j ⟨#[]⟩) → (∀ j, j < k → bs.getD j (-1) = bs'.getD j (-1)) → bestTo t ts bs k = bestTo t ts' bs' k
  | 0, _, _ => rfl
  | k + 1, h1, h2 => by
    rw [bestTo, bestTo, bestTo_congr k (fun j hj => h1 j (by omega)) (fun j hj => h2 j (by omega)), h1 k (by omega), dep_congr k (fun j hj => h2 j (by omega))]
/-- the pack of the first k objects -/
noncomputable def packTo (os : List Ob) : Nat → List Pe
  | 0 => []
  | k + 1 => packTo os k ++ [⟨(os.getD k ⟨0, [], ⟨#[]⟩⟩).k, (os.getD k ⟨0, [], ⟨#[]⟩⟩).xs, (bestTo (os.getD k ⟨0, [], ⟨#[]⟩⟩).t (os.map Ob.t) ((packTo os k).map Pe.b) k).1, (bestTo (os.getD k ⟨0, [], ⟨#[]⟩⟩).t (os.map Ob.t) ((packTo os k).map Pe.b) k).2⟩]
theorem packTo_len (os : List Ob) : ∀ k, (packTo os k).length = k
  | 0 => rfl
  | k + 1 => by rw [packTo, List.length_append, packTo_len os k]; rfl
/-- what can be packed -/
def packable (os : List Ob) : Bool := decide (os.length ≤ 16) && os.all Ob.ok
noncomputable def packP (os : List Ob) : List Pe × Bool := if packable os = true then (packTo os os.length, true) else ([], false)
theorem packTo_at {os : List Ob} {i : Nat} : ∀ k, i < k → (packTo os k)[i]? = some ⟨(os.getD i ⟨0, [], ⟨#[]⟩⟩).k, (os.getD i ⟨0, [], ⟨#[]⟩⟩).xs, (bestTo (os.getD i ⟨0, [], ⟨#[]⟩⟩).t (os.map Ob.t) ((packTo os i).map Pe.b) i).1, (bestTo (os.getD i ⟨0, [], ⟨#[]⟩⟩).t (os.map Ob.t) ((packTo os i).map Pe.b) i).2⟩
  | 0, h => by omega
  | k + 1, h => by
    rw [packTo]
    by_cases e : i = k
    · subst e
      rw [List.getElem?_append_right (by rw [packTo_len]; exact Nat.le_refl _), packTo_len, Nat.sub_self]
      rfl
    · rw [List.getElem?_append_left (by rw [packTo_len]; omega)]
      exact packTo_at k (by omega)
theorem packTo_take {os : List Ob} {k : Nat} : ∀ n, k ≤ n → (packTo os n).take k = packTo os k
  | 0, h => by
    obtain rfl : k = 0 := by omega
    rfl
  | n + 1, h => by
    by_cases e : k = n + 1
    · subst e
      exact List.take_of_length_le (by rw [packTo_len]; exact Nat.le_refl _)
    · rw [packTo, List.take_append_of_le_length (by rw [packTo_len]; omega)]
      exact packTo_take n (by omega)
theorem getD_take {α : Type} (l : List α) (d : α) {j k : Nat} (h : j < k) : (l.take k).getD j d = l.getD j d := by
  simp [List.getD, List.getElem?_take_of_lt h]
theorem packTo_part {os : List Ob} {m : Nat} : ∀ k, k ≤ m → packTo (os.take m) k = packTo os k
  | 0, _ => rfl
  | k + 1, h => by
    rw [packTo, packTo, packTo_part k (by omega), getD_take _ _ (show k < m by omega), bestTo_congr (ts := (os.take m).map Ob.t) (ts' := os.map Ob.t) k (fun j hj => by rw [List.map_take, getD_take _ _ (show j < m by omega)]) (fun _ _ => rfl)]
theorem packTo_okB (os : List Ob) (n : Nat) : OkB ((packTo os n).map Pe.b) := fun i b h => by
  rw [List.getElem?_map] at h
  have hi : i < n := by
    rcases Nat.lt_or_ge i n with h1 | h1
    · exact h1
    · rw [List.getElem?_eq_none (by rw [packTo_len]; exact h1)] at h; cases h
  rw [packTo_at n hi] at h
  simp only [Option.map_some, Option.some.injEq] at h
  subst h
  exact bestTo_range i
theorem packTo_dep (os : List Ob) (n : Nat) {i : Nat} (hi : i < n) : dep ((packTo os n).map Pe.b) i ≤ 2 := by
  have hb : ((packTo os n).map Pe.b).getD i (-1) = (bestTo (os.getD i ⟨0, [], ⟨#[]⟩⟩).t (os.map Ob.t) ((packTo os i).map Pe.b) i).1 := by
    simp [List.getD, packTo_at n hi]
  have hr := bestTo_range (t := (os.getD i ⟨0, [], ⟨#[]⟩⟩).t) (ts := os.map Ob.t) (bs := (packTo os i).map Pe.b) i
  rcases Int.lt_or_le (((packTo os n).map Pe.b).getD i (-1)) 0 with h | h
  · rw [dep_neg h]; omega
  · rw [dep_pos h (by rw [hb]; rw [hb] at h; omega), hb]
    rw [hb] at h
    have h2 := bestTo_dep (t := (os.getD i ⟨0, [], ⟨#[]⟩⟩).t) (ts := os.map Ob.t) (bs := (packTo os i).map Pe.b) i h
    have h3 : dep ((packTo os n).map Pe.b) (bestTo (os.getD i ⟨0, [], ⟨#[]⟩⟩).t (os.map Ob.t) ((packTo os i).map Pe.b) i).1.toNat = dep ((packTo os i).map Pe.b) (bestTo (os.getD i ⟨0, [], ⟨#[]⟩⟩).t (os.map Ob.t) ((packTo os i).map Pe.b) i).1.toNat := by
      have e : (packTo os n).map Pe.b = (packTo os i).map Pe.b ++ ((packTo os n).map Pe.b).drop i := by
        rw [← packTo_take n (Nat.le_of_lt hi), List.map_take, List.take_append_drop]
      rw [e]
      exact dep_app (by rw [List.length_map, packTo_len]; omega)
    omega
end Go.Proofs.Ytkekcgamhhmjnaa
