/- Walks: the reference's DeltaMake, DeltaSize. -/
import Derived.Test.YtkekcgamhhmjnaaPkLongS
import Derived.Test.YtkekcgamhhmjnaaApp
import Derived.Test.YtkekcgamhhmjnaaAppS
import Derived.Test.YtkekcgamhhmjnaaLaw
import Derived.Deep.RegionHeld3
import Derived.BigRegion
namespace Go.Proofs.Ytkekcgamhhmjnaa
open Go.RowKit Go.Sort

def dpC (o : Dp) : List Value := [.int .i64 o.at_, .int .i64 o.sz, .string o.tx]
def dpL (ops : List Dp) : List Value := (ops.map dpC).flatten
theorem op_info1 : (Try.prog.info? 62).map (fun i => (i.zero, i.size, i.bytes)) = some (some (.agg #[.int .i64 0, .int .i64 0, .string ⟨#[]⟩]), 3, 32) := by kernel_rfl
theorem dpL_len (ops : List Dp) : (dpL ops).length = ops.length * 3 := by
  unfold dpL
  induction ops with
  | nil => rfl
  | cons o l ih => rw [List.map_cons, List.flatten_cons, List.length_append, ih, List.length_cons]; simp only [dpC, List.length_cons, List.length_nil]; omega
theorem dpL_app (a b : List Dp) : dpL (a ++ b) = dpL a ++ dpL b := by unfold dpL; rw [List.map_append, List.flatten_append]
theorem dpL_one (o : Dp) : dpL [o] = dpC o := by simp [dpL]
theorem dpL_at {ops : List Dp} {k j : Nat} {o : Dp} (h : ops[k]? = some o) (hj : j < 3) : (dpL ops)[k * 3 + j]? = (dpC o)[j]? := by
  induction ops generalizing k with
  | nil => simp at h
  | cons x l ih =>
    have hx : dpL (x :: l) = dpC x ++ dpL l := by unfold dpL; rw [List.map_cons, List.flatten_cons]
    rw [hx]
    cases k with
    | zero =>
      simp at h
      subst h
      rw [Nat.zero_mul, Nat.zero_add, List.getElem?_append_left (by simpa [dpC] using hj)]
    | succ k =>
      rw [List.getElem?_append_right (by simp [dpC]; omega)]
      simp only [dpC, List.length_cons, List.length_nil]
      rw [show (k + 1) * 3 + j - (0 + 1 + 1 + 1) = k * 3 + j by omega]
      exact ih (by simpa using h)
theorem dpL_join (ops : List Dp) (o : Dp) (t : ByteArray) : (dpL (ops ++ [o])).set (ops.length * 3 + 2) (.string t) = dpL (ops ++ [⟨o.at_, o.sz, t⟩]) := by
  rw [dpL_app, dpL_app, dpL_one, dpL_one, List.set_append_right _ _ (by rw [dpL_len]; omega), dpL_len]
  congr 1
  rw [show ops.length * 3 + 2 - ops.length * 3 = 2 by omega]
  rfl
/-- own operations -/
def OwnD (w : World) (B : Nat) (A : Option Addr) (n c : Nat) (ops : List Dp) : Prop := w.ownsRow B 62 3 (.slice A n c) n (dpL ops)
theorem OwnD.len {w : World} {B n c : Nat} {A : Option Addr} {ops : List Dp} (h : OwnD w B A n c ops) : n = ops.length := by
  have := h.1
  rw [dpL_len] at this
  omega
theorem OwnD.nil {w : World} {B : Nat} : OwnD w B none 0 0 [] := ⟨by simp [dpL], .inl ⟨rfl, rfl⟩⟩
theorem OwnD.next {w w' : World} {B n c : Nat} {A : Option Addr} {ops : List Dp} (h : OwnD w B A n c ops) (hb : Below w.heap.size w w') : OwnD w' B A n c ops := own_below h hb
theorem dp_cell (w : World) (o : Dp) : ∀ (j : Nat) (u : Value), (dpC o)[j]? = some u → (w.alloc (.cells (dpC o).toArray 62)).cell? ((⟨w.heap.size, 0, none⟩ : Addr).add j) = some u := fun j u hu => by
  have := (Blk.new w 62 (dpC o)).cell j
  rw [hu] at this
  rw [show (⟨w.heap.size, 0, none⟩ : Addr).add j = ⟨w.heap.size, j, none⟩ by unfold Addr.add; split <;> simp_all]
  exact this
theorem dp_one (o : Dp) : ∀ u ∈ dpC o, u.oneCell' = true := fun u hu => by
  simp only [dpC, List.mem_cons, List.not_mem_nil, or_false] at hu
  rcases hu with rfl | rfl | rfl <;> rfl
theorem own_setD {w : World} {base g n d size : Nat} {e : TypeId} {xs : List Value} (h : w.ownsRow base e size (.slice (some ⟨g, 0, none⟩) n d) n xs) (i : Nat) (u : Value) :
    (w.setCell ⟨g, i, none⟩ u).ownsRow base e size (.slice (some ⟨g, 0, none⟩) n d) n (xs.set i u) := by
  refine ⟨by rw [List.length_set]; exact h.1, ?_⟩
  rcases h.2 with ⟨h0, _⟩ | ⟨g', cap, cur, hv, hb, hh, h1, h2, h3, h4⟩
  · cases h0
  · injection hv with hv1 _ hv3
    injection hv1 with hv1
    injection hv1 with hv1 _ _
    subst hv1
    subst hv3
    have hB : Blk w g e cur.toList := by unfold Blk; simpa using hh
    have hB' := hB.set_ i u
    unfold Blk at hB'
    refine .inr ⟨g, d, (cur.toList.set i u).toArray, rfl, hb, hB', h1, h2, by simpa using h3, ?_⟩
    rw [List.toList_toArray, ← h4, List.take_set]
theorem own_frozenD {w : World} {base g n d size : Nat} {e : TypeId} {xs : List Value} (h : w.ownsRow base e size (.slice (some ⟨g, 0, none⟩) n d) n xs) (i : Nat) : w.frozen? ⟨g, i, none⟩ = false := by
  rcases h.2 with ⟨h0, _⟩ | ⟨g', cap, cur, hv, hb, hh, _⟩
  · cases h0
  · injection hv with hv1 _ hv3
    injection hv1 with hv1
    injection hv1 with hv1 _ _
    subst hv1
    have hB : Blk w g e cur.toList := by unfold Blk; simpa using hh
    exact hB.frozen i
def strOf : Value → Nat
  | .string t => t.size
  | _ => 0
/-- a delta, as the reference hands it back -/
def DelTo (w : World) (ops : List Dp) (e : Ending) (w' : World) : Prop := ∃ A n c, e = .returned (.slice A n c) ∧ OwnD w' w.heap.size A n c ops ∧ Below w.heap.size w w'
set_option maxRecDepth 100000 in
set_option maxHeartbeats 3200000 in
theorem specDeltaMake_any (b t : ByteArray) (w : World) :
    Calls Try.prog 35 #[.string b, .string t] w (DelTo w (dmake b t)) := by
  have E1 := Blk.new w 62 []
  have b0 := below_box w (.cells #[] 62)
  have hO0 : OwnD (w.alloc (.cells #[] 62)) w.heap.size (some ⟨w.heap.size, 0, none⟩) 0 0 [] := own_emp E1 (Nat.le_refl _)
  have bad : 8 < b.size ∨ 8 < t.size → DelTo w (dmake b t) (.returned (.slice (some ⟨w.heap.size, 0, none⟩) 0 0)) (w.alloc (.cells #[] 62)) := fun h => by
    unfold dmake
    rw [if_pos h]
    exact ⟨_, 0, 0, rfl, hO0, b0⟩
  have HB := Lib.hid bad
  clear bad
  go_enter Try.func35, Try.ntmps35
  by_cases hb : 8 < b.size
  · have hd : decide ((b.size : Int) > 8) = true := decide_eq_true (by omega)
    have hd2 : decide (8 < (b.size : Int)) = true := decide_eq_true (by omega)
    go_wp2_with fail
    go_ret
    exact HB.out (.inl hb)
  · have hd : decide ((b.size : Int) > 8) = false := decide_eq_false (by omega)
    have hd2 : decide (8 < (b.size : Int)) = false := decide_eq_false (by omega)
    by_cases ht : 8 < t.size
    · have hd3 : decide ((t.size : Int) > 8) = true := decide_eq_true (by omega)
      have hd4 : decide (8 < (t.size : Int)) = true := decide_eq_true (by omega)
      go_wp2_with fail
      go_ret
      exact HB.out (.inr ht)
    · have hd3 : decide ((t.size : Int) > 8) = false := decide_eq_false (by omega)
      have hd4 : decide (8 < (t.size : Int)) = false := decide_eq_false (by omega)
      go_wp2_with fail
      have hdm : dmake b t = dgo b t.size [] t := by unfold dmake; rw [if_neg (by omega)]
      go_loopw [1, 5] (fun s v wr => ∃ (x : ByteArray) (ops : List Dp) (A : Option Addr) (n c f : Nat), s = .string x ∧ v = .slice A n c ∧ OwnD wr w.heap.size A n c ops ∧ Hid (dOk ops x.size) ∧ x.size ≤ f ∧ Hid (dgo b f ops x = dmake b t) ∧ Below w.heap.size w wr) (fun s _ _ => strOf s)
      case atStart => exact ⟨t, [], _, 0, 0, t.size, rfl, rfl, hO0, Lib.hid ⟨by simp; omega, fun o h => by cases h⟩, Nat.le_refl _, Lib.hid hdm.symm, b0⟩
      case round =>
        obtain ⟨x, ops, A, n, c, f, rfl, rfl, hO, HOK, hf, HD, hbr⟩ := hrel
        have HN := Lib.hid hO.len
        have hn8 : n ≤ 8 := by have := HN.out; have := HOK.out.1; omega
        have hx8 : x.size ≤ 8 := by have := HOK.out.1; omega
        by_cases hx : 0 < x.size
        · have hxd : decide ((x.size : Int) > 0) = true := decide_eq_true (by omega)
          have HS := Lib.hid (dgo_step (b := b) (ops := ops) hf (by omega))
          have HOK2 := Lib.hid (dOk_step (b := b) HOK.out (by omega))
          go_wp2_with fail
          refine (l2Longest_any b x wr (by omega) (by omega)).mono ?_
          rintro e w1 ⟨a, m, rfl, hL, hb1⟩
          have hm := hL.le.1
          have HL := Lib.hid hL.eq
          have hO1 := hO.next hb1
          have hbr1 := below_ext hbr hb1
          clear hL hO hb1 hbr
          by_cases hm2 : 2 ≤ m
          · have hmd : decide ((m : Int) ≥ 2) = true := decide_eq_true (by omega)
            have hmd2 : decide (2 ≤ (m : Int)) = true := decide_eq_true (by omega)
            have hm0 : (0 : Int) ≤ (m : Int) := by omega
            have hmx : (m : Int) ≤ (x.size : Int) := by omega
            have HC := Lib.hid (dstep_copy (ops := ops) HL.out hm2)
            have hba := below_box w1 (.cells (dpC ⟨a, m, ⟨#[]⟩⟩).toArray 62)
            have hOa : OwnD (w1.alloc (.cells (dpC ⟨a, m, ⟨#[]⟩⟩).toArray 62)) w.heap.size A n c ops := hO1.next hba
            have hza : w.heap.size ≤ (w1.alloc (.cells (dpC ⟨a, m, ⟨#[]⟩⟩).toArray 62)).heap.size := Nat.le_trans hbr1.size hba.size
            have E6 := dp_cell w1 ⟨a, m, ⟨#[]⟩⟩
            go_wp2_with (at_builtin; go_loud (refine wpList_app rfl (.tmp 40) (.tmp 44) 30 rfl w.heap.size 62 Try.underlying30 op_info1 rfl (by omega) (by omega) _ n _ rfl hOa ⟨w1.heap.size, 0, none⟩ 1 1 (dpC ⟨a, m, ⟨#[]⟩⟩) rfl rfl E6 (dp_one _) (by omega) hza ?_; intro A9 c9 w9 hown9 hc9 hb9 hg9 _))
            have hO9 : OwnD w9 w.heap.size A9 (n + 1) c9 (ops ++ [⟨a, m, ⟨#[]⟩⟩]) := by
              unfold OwnD
              rw [dpL_app, dpL_one]
              exact hown9
            have hbr9 : Below w.heap.size w w9 := (below_ext hbr1 hba).trans hb9
            go_roundw
            case rel => exact ⟨x.extract m x.size, _, A9, n + 1, c9, f - 1, rfl, rfl, hO9, Lib.hid (by have := HOK2.out; rwa [HC.out] at this), by rw [ByteArray.size_extract]; omega, Lib.hid (by rw [← HD.out, HS.out, HC.out]), hbr9⟩
            case measure =>
              simp only [strOf]
              rw [ByteArray.size_extract]
              omega
          · have hmd : decide ((m : Int) ≥ 2) = false := decide_eq_false (by omega)
            have hmd2 : decide (2 ≤ (m : Int)) = false := decide_eq_false (by omega)
            have hx1 : (1 : Int) ≤ (x.size : Int) := by omega
            rcases List.eq_nil_or_concat ops with rfl | ⟨l, o, hlo⟩
            · obtain rfl : n = 0 := by simpa using HN.out
              have HC := Lib.hid (dstep_new (ops := []) HL.out hm2 (fun o h => by cases h))
              have hba := below_box w1 (.cells (dpC ⟨0, 0, x.extract 0 1⟩).toArray 62)
              have hOa : OwnD (w1.alloc (.cells (dpC ⟨0, 0, x.extract 0 1⟩).toArray 62)) w.heap.size A 0 c [] := hO1.next hba
              have hza : w.heap.size ≤ (w1.alloc (.cells (dpC ⟨0, 0, x.extract 0 1⟩).toArray 62)).heap.size := Nat.le_trans hbr1.size hba.size
              have E6 := dp_cell w1 ⟨0, 0, x.extract 0 1⟩
              go_wp2_with (at_builtin; go_loud (refine wpList_app rfl (.tmp 31) (.tmp 35) 30 rfl w.heap.size 62 Try.underlying30 op_info1 rfl (by omega) (by omega) _ 0 _ rfl hOa ⟨w1.heap.size, 0, none⟩ 1 1 (dpC ⟨0, 0, x.extract 0 1⟩) rfl rfl E6 (dp_one _) (by omega) hza ?_; intro A9 c9 w9 hown9 hc9 hb9 hg9 _))
              have hO9 : OwnD w9 w.heap.size A9 1 c9 ([] ++ [⟨0, 0, x.extract 0 1⟩]) := by
                unfold OwnD
                rw [dpL_app, dpL_one]
                exact hown9
              have hbr9 : Below w.heap.size w w9 := (below_ext hbr1 hba).trans hb9
              go_roundw
              case rel => exact ⟨x.extract 1 x.size, _, A9, 1, c9, f - 1, rfl, rfl, hO9, Lib.hid (by have := HOK2.out; rwa [HC.out] at this), by rw [ByteArray.size_extract]; omega, Lib.hid (by rw [← HD.out, HS.out, HC.out]), hbr9⟩
              case measure =>
                simp only [strOf]
                rw [ByteArray.size_extract]
                omega
            · have hlo' : ops = l ++ [o] := by rw [hlo, List.concat_eq_append]
              clear hlo
              subst hlo'
              have HL1 := Lib.hid (show n = l.length + 1 by simpa using HN.out)
              obtain ⟨g, rfl, hg1, hg2⟩ := own_addr hO1 (by have := HL1.out; omega)
              have hgo : (l ++ [o])[l.length]? = some o := by simp
              have c1 : w1.cell? ⟨g, l.length * 3 + 1, none⟩ = some (.int .i64 o.sz) := by
                have := hO1.cells (g := g) rfl (l.length * 3 + 1) _ (dpL_at hgo (by omega))
                rw [show (⟨g, 0, none⟩ : Addr).add (l.length * 3 + 1) = ⟨g, l.length * 3 + 1, none⟩ by unfold Addr.add; split <;> simp_all] at this
                exact this
              have c2 : w1.cell? ⟨g, l.length * 3 + 2, none⟩ = some (.string o.tx) := by
                have := hO1.cells (g := g) rfl (l.length * 3 + 2) _ (dpL_at hgo (by omega))
                rw [show (⟨g, 0, none⟩ : Addr).add (l.length * 3 + 2) = ⟨g, l.length * 3 + 2, none⟩ by unfold Addr.add; split <;> simp_all] at this
                exact this
              have hw1 : IntKind.i64.wrap ((n : Int) - 1) = (l.length : Int) := by rw [IntKind.wrap_i64]; have := HL1.out; omega
              have hw2 : (n : Int) - 1 = (l.length : Int) := by have := HL1.out; omega
              have hk0 : (0 : Int) ≤ (l.length : Int) := by omega
              have hkn : (l.length : Int) < (n : Int) := by have := HL1.out; omega
              have hkd : decide ((l.length : Int) ≥ 0) = true := decide_eq_true (by omega)
              by_cases hz : o.sz = 0
              · have hzb : (o.sz == 0) = true := by simp [hz]
                have HC := Lib.hid (dstep_join (ops := l) HL.out hm2 hz)
                have hto8 := (HOK.out.2 o (by simp))
                have hset := own_setD (w := w1) (base := w.heap.size) (g := g) hO1 (l.length * 3 + 2) (.string (o.tx ++ x.extract 0 1))
                rw [dpL_join] at hset
                have hfz := own_frozenD hO1 (l.length * 3 + 2)
                have HSET : Hid (OwnD (w1.setCell ⟨g, l.length * 3 + 2, none⟩ (.string (o.tx ++ x.extract 0 1))).drew w.heap.size (some ⟨g, 0, none⟩) n c (l ++ [⟨o.at_, o.sz, o.tx ++ x.extract 0 1⟩])) := Lib.hid hset
                clear hset
                go_wp2_with fail
                go_region
                go_wp2_with fail
                go_roundw
                case rel => exact ⟨x.extract 1 x.size, l ++ [⟨o.at_, o.sz, o.tx ++ x.extract 0 1⟩], some ⟨g, 0, none⟩, n, c, f - 1, rfl, rfl, HSET.out, Lib.hid (by have := HOK2.out; rwa [HC.out] at this), by rw [ByteArray.size_extract]; omega, Lib.hid (by rw [← HD.out, HS.out, HC.out]), (hbr1.setCell (p := ⟨g, l.length * 3 + 2, none⟩) hg1 _).drew⟩
                case measure =>
                  simp only [strOf]
                  rw [ByteArray.size_extract]
                  omega
              · have hzb : (o.sz == 0) = false := by simp [hz]
                have HC := Lib.hid (dstep_new (ops := l ++ [o]) HL.out hm2 (fun o' h => by rw [List.getLast?_concat] at h; injection h with h; rw [← h]; exact hz))
                have hba := below_box w1 (.cells (dpC ⟨0, 0, x.extract 0 1⟩).toArray 62)
                have hOa : OwnD (w1.alloc (.cells (dpC ⟨0, 0, x.extract 0 1⟩).toArray 62)) w.heap.size (some ⟨g, 0, none⟩) n c (l ++ [o]) := hO1.next hba
                have hza : w.heap.size ≤ (w1.alloc (.cells (dpC ⟨0, 0, x.extract 0 1⟩).toArray 62)).heap.size := Nat.le_trans hbr1.size hba.size
                have E6 := dp_cell w1 ⟨0, 0, x.extract 0 1⟩
                go_wp2_with (at_builtin; go_loud (refine wpList_app rfl (.tmp 31) (.tmp 35) 30 rfl w.heap.size 62 Try.underlying30 op_info1 rfl (by omega) (by omega) _ n _ rfl hOa ⟨w1.heap.size, 0, none⟩ 1 1 (dpC ⟨0, 0, x.extract 0 1⟩) rfl rfl E6 (dp_one _) (by omega) hza ?_; intro A9 c9 w9 hown9 hc9 hb9 hg9 _))
                have hO9 : OwnD w9 w.heap.size A9 (n + 1) c9 (l ++ [o] ++ [⟨0, 0, x.extract 0 1⟩]) := by
                  unfold OwnD
                  rw [dpL_app, dpL_one]
                  exact hown9
                have hbr9 : Below w.heap.size w w9 := (below_ext hbr1 hba).trans hb9
                go_roundw
                case rel => exact ⟨x.extract 1 x.size, _, A9, n + 1, c9, f - 1, rfl, rfl, hO9, Lib.hid (by have := HOK2.out; rwa [HC.out] at this), by rw [ByteArray.size_extract]; omega, Lib.hid (by rw [← HD.out, HS.out, HC.out]), hbr9⟩
                case measure =>
                  simp only [strOf]
                  rw [ByteArray.size_extract]
                  omega
        · have hxd : decide ((x.size : Int) > 0) = false := decide_eq_false (by omega)
          have HE := Lib.hid (dgo_end (b := b) (f := f) (ops := ops) (t := x) (by omega))
          go_wp2_with fail
          go_ret
          rw [← HD.out, HE.out]
          exact ⟨A, n, c, rfl, hO, hbr⟩
end Go.Proofs.Ytkekcgamhhmjnaa
