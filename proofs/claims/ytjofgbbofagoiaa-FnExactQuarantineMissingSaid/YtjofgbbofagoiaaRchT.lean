/- Walks: the reference's l1From, l1Missing, StoreReach, StoreMissing. -/
import Derived.Test.YtjofgbbofagoiaaRchS
import Derived.Test.YtjofgbbofagoiaaRchQ
import Derived.Test.YtjofgbbofagoiaaObjs
import Derived.Test.YtjofgbbofagoiaaIds
import Derived.Test.YtjofgbbofagoiaaAppS
namespace Go.Proofs.Ytjofgbbofagoiaa
open Go.RowKit Go.Sort

/-- the ids that are reached, and stored (b) or not -/
def IsRch (os : List Ob) (fs : List Int) (b : Bool) (L : List Int) : Prop := if (storeB os && idsOkB fs) = true then AscMem L (fun x => Rch os fs x ∧ isSt os x = b) else L = []
theorem IsRch.uniq {os : List Ob} {fs L M : List Int} {b : Bool} (h : IsRch os fs b L) (k : IsRch os fs b M) : L = M := by
  unfold IsRch at h k
  split at h
  · rename_i hv
    rw [if_pos hv] at k
    exact h.uniq k
  · rename_i hv
    rw [if_neg hv] at k
    rw [h, k]
def RchTo (w : World) (os : List Ob) (fs : List Int) (b : Bool) (e : Ending) (w' : World) : Prop := ∃ B d L, e = .returned (.slice B L.length d) ∧ IsRch os fs b L ∧ w'.ownsRow w.heap.size 3 1 (.slice B L.length d) L.length (ints L) ∧ Below w.heap.size w w'
theorem ascB_pw : ∀ {xs : List Int}, ascB xs = true → xs.Pairwise (· < ·)
  | [], _ => List.Pairwise.nil
  | [x], _ => by simp
  | x :: y :: l, h => by
    unfold ascB at h
    simp only [Bool.and_eq_true, decide_eq_true_eq] at h
    have ih := ascB_pw (xs := y :: l) h.2
    refine List.Pairwise.cons (fun z hz => ?_) ih
    rcases List.mem_cons.1 hz with rfl | hz
    · exact h.1.2
    · have := (List.pairwise_cons.1 ih).1 z hz
      have := h.1.2
      omega
theorem idsOk_facts {fs : List Int} (h : idsOkB fs = true) : fs.Nodup ∧ (∀ x ∈ fs, inR x) ∧ fs.length ≤ 4 ∧ ascB fs = true := by
  unfold idsOkB at h
  simp only [Bool.and_eq_true, decide_eq_true_eq] at h
  exact ⟨asc_nodup (ascB_pw h.1), fun x hx => ascB_mem h.1 x hx, by omega, h.1⟩
theorem storeB_all {os : List Ob} (h : storeB os = true) : (∀ o ∈ os, o.ok = true) ∧ os.length ≤ 16 := ⟨((storeB_iff os).1 h).1, ((storeB_iff os).1 h).2.2⟩
theorem IsLoc.neg {os : List Ob} {z v : Int} (h : IsLoc os z v) : decide (v < 0) = !isSt os z := by
  unfold IsLoc at h
  unfold isSt
  cases hg : getO os z with
  | none => rw [hg] at h; subst h; rfl
  | some o => rw [hg] at h; obtain ⟨k, rfl, _⟩ := h; simp
theorem IsLoc.pos {os : List Ob} {z v : Int} (h : IsLoc os z v) : decide (v ≥ 0) = isSt os z := by
  unfold IsLoc at h
  unfold isSt
  cases hg : getO os z with
  | none => rw [hg] at h; subst h; rfl
  | some o => rw [hg] at h; obtain ⟨k, rfl, _⟩ := h; simp
theorem filt_take {O : List Int} {i : Nat} {x : Int} (p : Int → Bool) (hx : O[i]? = some x) : (O.take (i + 1)).filter p = (O.take i).filter p ++ (if p x then [x] else []) := by
  obtain ⟨h1, h2⟩ := List.getElem?_eq_some_iff.1 hx
  rw [List.take_succ_eq_append_getElem h1, List.filter_append, h2, List.filter_cons, List.filter_nil]
theorem app_blk {n n' c c' : Nat} {A A' : Option Addr} {k : Nat} (h : (Value.slice A' n' c').ownBlock = (Value.slice A n c).ownBlock ∨ (Value.slice A' n' c').ownBlock = some k) : ∀ a, A' = some a → (∃ b, A = some b ∧ b.block = a.block) ∨ a.block = k := fun a e => by
  subst e
  rw [ownb] at h
  rcases h with e1 | e1
  · cases A with
    | none => rw [ownb_none] at e1; cases e1
    | some b => rw [ownb] at e1; injection e1 with e1; exact Or.inl ⟨b, rfl, e1.symm⟩
  · injection e1 with e1; exact Or.inr e1
set_option maxRecDepth 100000 in
set_option maxHeartbeats 3200000 in
theorem l1Missing_any (A : Option Addr) (n c : Nat) (os : List Ob) (F : Option Addr) (m d : Nat) (fs : List Int) (w : World) (h : RObjs w A n os) (hn : n ≤ 1000000) (ha : ∀ o ∈ os, o.ok = true) (hf : RInts w F m fs) (hm : m ≤ 4) (hfn : fs.Nodup) (hfr : ∀ x ∈ fs, inR x) :
    Calls Try.prog 50 #[.slice A n c, .slice F m d] w fun e w' => ∃ B d' L, e = .returned (.slice B L.length d') ∧ AscMem L (fun x => Rch os fs x ∧ isSt os x = false) ∧ w'.ownsRow w.heap.size 3 1 (.slice B L.length d') L.length (ints L) ∧ Below w.heap.size w w' := by
  have b0 := below_box w (.cells #[] 3)
  have E1 := Blk.new w 3 []
  have hz : (w.alloc (.cells #[] 3)).heap.size = w.heap.size + 1 := by simp
  go_enter Try.func50, Try.ntmps50
  go_wp2_with fail
  refine (l1Reach_any A n c os F m d fs _ (h.next b0) hn ha (hf.below b0 (Nat.le_refl _)) hm hfn hfr).mono ?_
  rintro e w1 ⟨B, dO, O, rfl, hAO, hownO, hb1⟩
  have hown0 : w1.ownsRow w.heap.size 3 1 (.slice (some ⟨w.heap.size, 0, none⟩) 0 0) 0 (ints []) := own_below (own_emp E1 (Nat.le_refl _)) hb1
  rw [hz] at hownO
  have bb1 := below_ext b0 hb1
  clear E1 b0 hz hb1
  have hON : O.length ≤ 991 := nodup_len (asc_nodup hAO.1) (fun x hx => Rch.range ha hfr x ((hAO.2 x).1 hx))
  have HO := Lib.hid hAO
  clear hAO
  go_wp2_with fail
  go_loopw [5, 7] (fun vo vi wr => ∃ (L : List Int) (A : Option Addr) (c i : Nat), vo = .slice A L.length c ∧ vi = .int .i64 (i : Int) ∧ i ≤ O.length ∧ Hid (L = (O.take i).filter (fun x => !isSt os x)) ∧ wr.ownsRow w.heap.size 3 1 (.slice A L.length c) L.length (ints L) ∧ wr.ownsRow (w.heap.size + 1) 3 1 (.slice B O.length dO) O.length (ints O) ∧ Hid (∀ a b, A = some a → B = some b → a.block ≠ b.block) ∧ Below w.heap.size w wr) (fun _ vi _ => O.length - (intOf vi).toNat)
  case atStart => exact ⟨[], _, 0, 0, rfl, rfl, Nat.zero_le _, Lib.hid rfl, hown0, hownO, Lib.hid fun a b e1 e2 => (by have := (row_lt hownO e2).1; injection e1 with e1; subst e1; dsimp only; omega), bb1⟩
  case round =>
    obtain ⟨L, A2, c2, i, rfl, rfl, hi, HLf, hown, hOr, hap, hbr⟩ := hrel
    by_cases hlt : i < O.length
    · obtain ⟨g, hBg, hg1, hg2⟩ := own_addr hOr (by omega)
      subst hBg
      obtain ⟨x, hx⟩ : ∃ x, O[i]? = some x := ⟨_, List.getElem?_eq_getElem hlt⟩
      have hcx : wr.cell? ⟨g, i, none⟩ = some (.int .i64 x) := by
        have := hOr.cells (g := g) rfl i _ (show (ints O)[i]? = some (.int .i64 x) by simp [ints, hx])
        rwa [add_fls, Nat.zero_add] at this
      have hii : (i : Int) < (O.length : Int) := by omega
      have hLl : L.length ≤ 991 := by
        have h1 := HLf.out
        have h2 : ((O.take i).filter (fun x => !isSt os x)).length ≤ (O.take i).length := List.length_filter_le _ _
        rw [← h1, List.length_take] at h2
        omega
      have HX := Lib.hid hx
      have HF := Lib.hid (filt_take (fun x => !isSt os x) hx)
      clear hx
      go_wp2_with fail
      refine (l1GetF_any A n c os x wr (h.next hbr) hn ha).mono ?_
      rintro e w5 ⟨⟨v, rfl, hv5⟩, hb5⟩
      have hvn := hv5.neg
      have hbr5 := below_ext hbr hb5
      have hown5 := own_below hown hb5
      have hOr5 := own_below hOr hb5
      have hcx5 : w5.cell? ⟨g, i, none⟩ = some (.int .i64 x) := (hb5.cell (p := ⟨g, i, none⟩) hg2).trans hcx
      clear hv5
      cases hst : isSt os x
      · rw [hst] at hvn
        have HL2 := Lib.hid (show L ++ [x] = (O.take (i + 1)).filter (fun x => !isSt os x) by rw [HF.out, HLf.out]; simp [hst])
        clear hst
        have E1 := below_box w5 (.cells #[.int .i64 x] 3)
        have E2 := Blk.new w5 3 [.int .i64 x]
        have E3 := own_below hown5 E1
        have E4 := own_below hOr5 E1
        have E6 : ∀ (q : Nat) (u : Value), [Value.int .i64 x][q]? = some u → (w5.alloc (.cells #[.int .i64 x] 3)).cell? ((⟨w5.heap.size, 0, none⟩ : Addr).add q) = some u := fun q u hu => by
          have := E2.cell q
          rw [hu] at this
          rw [add_fls, Nat.zero_add]
          exact this
        have E7 : ∀ u ∈ [Value.int .i64 x], u.oneCell' = true := fun u hu => by
          rw [List.mem_singleton.1 hu]
          rfl
        have E8 : w.heap.size ≤ (w5.alloc (.cells #[.int .i64 x] 3)).heap.size := by
          have h1 := hbr5.size
          simp only [World.alloc, Array.size_push]
          omega
        go_wp2_with (at_builtin; go_loud (refine wpList_app rfl (.tmp 25) (.tmp 30) 27 rfl w.heap.size 3 Try.underlying27 int_info1 rfl (by omega) (by omega) _ L.length _ rfl E3 _ 1 1 _ rfl rfl E6 E7 (by omega) E8 ?_; intro A9 c9 w9 hown9 hc9 hb9 hg9 hl9))
        have hA9 := app_blk hl9
        have hg9' : (w5.alloc (.cells #[.int .i64 x] 3)).grownBy w9 (Value.slice A2 L.length c2).ownBlock := hg9
        have hOr9 := own_keep E4 hg9' (fun b e e' => by
          cases A2 with
          | none => rw [ownb_none] at e'; cases e'
          | some a => rw [ownb] at e'; injection e' with e'; exact hap.out a b rfl e e')
        go_roundw
        case rel => exact ⟨L ++ [x], A9, c9, i + 1, by simp, by go_num, by omega, HL2, by simpa [ints] using hown9, hOr9, Lib.hid fun a b e1 e2 => (by
          rcases hA9 a e1 with ⟨a0, e3, e4⟩ | e3
          · rw [← e4]; exact hap.out a0 b e3 e2
          · have h1 := (row_lt hOr5 e2).2.1
            have h2 := e3
            simp only [World.alloc, Array.size_push] at h2
            omega), (below_ext hbr5 E1).trans hb9⟩
        case measure => simp [intOf]; omega
      · rw [hst] at hvn
        have HL2 := Lib.hid (show L = (O.take (i + 1)).filter (fun x => !isSt os x) by rw [HF.out, HLf.out]; simp [hst])
        clear hst
        go_wp2_with fail
        go_roundw
        case rel => exact ⟨L, A2, c2, i + 1, rfl, by go_num, by omega, HL2, hown5, hOr5, hap, hbr5⟩
        case measure => simp [intOf]; omega
    · obtain rfl : i = O.length := by omega
      rw [List.take_of_length_le (Nat.le_refl _)] at HLf
      have hfin : AscMem L (fun x => Rch os fs x ∧ isSt os x = false) := by
        rw [HLf.out]
        have := HO.out.filter (fun x => !isSt os x)
        exact ⟨this.1, fun x => by rw [this.2 x]; simp⟩
      go_wp2_with fail
      go_ret
      exact ⟨A2, c2, L, rfl, hfin, hown, hbr⟩
end Go.Proofs.Ytjofgbbofagoiaa
