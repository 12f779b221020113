/- Walks: the laws' own helpers on slices of objects: sizes, copies, comparisons. -/
import Derived.Test.YtkekcgamhhmjnaaObjs
import Derived.Test.YtkekcgamhhmjnaaLaw
namespace Go.Proofs.Ytkekcgamhhmjnaa
open Go.RowKit Go.Sort

def smallO (os : List Ob) : Prop := os.length ≤ 1048576 ∧ ∀ o ∈ os, o.xs.length ≤ 1048576 ∧ o.t.size ≤ 1048576
/-- what is left of a budget; if it is not spent, all is small -/
def IsLeft (l : Int) (S : Prop) (v : Value) : Prop := ∃ r : Int, v = .int .i64 r ∧ (r < 0 ∨ (0 ≤ r ∧ r ≤ l ∧ S))

set_option maxHeartbeats 1600000 in
theorem szObjectS_any (A : Option Addr) (n c : Nat) (os : List Ob) (l : Int) (w : World) (h : RObjs w A n os) (hn : n ≤ maxLen) (h0 : 0 ≤ l) (h1 : l ≤ 1048576) :
    Calls Try.prog 19 #[.slice A n c, .int .i64 l] w fun e w' => (∃ v, e = .returned v ∧ IsLeft l (smallO os) v) ∧ Below w.heap.size w w' := by
  have hn0 := hn
  unfold maxLen at hn0
  by_cases hs : l - n < 0
  · go_enter Try.func19, Try.ntmps19
    go_wp2
    go_ret
    exact ⟨⟨_, rfl, _, rfl, Or.inl (by omega)⟩, Below.refl _ _⟩
  · have hn2 : n ≤ 1048576 := by omega
    go_enter Try.func19, Try.ntmps19
    go_wp2
    go_loopw [1, 5] (fun s i wr => ∃ (k : Nat) (r : Int), k ≤ n ∧ i = .int .i64 k ∧ s = .int .i64 r ∧ 0 ≤ r ∧ r ≤ l ∧ Hid (∀ (j : Nat) (o : Ob), j < k → os[j]? = some o → o.xs.length ≤ 1048576 ∧ o.t.size ≤ 1048576) ∧ Below w.heap.size w wr) (fun _ i _ => n - (intOf i).toNat)
    case atStart => exact ⟨0, _, Nat.zero_le _, rfl, rfl, by omega, by omega, fun j o hj => absurd hj (by omega), Below.refl _ _⟩
    case round =>
      obtain ⟨k, r, hk, rfl, rfl, hr0, hrl, hsm, hbr⟩ := hrel
      have hr := h.next hbr
      by_cases hlt : k < n
      · obtain ⟨b, off, o, rfl, hb, hx, hob⟩ := hr.at_ hlt
        obtain ⟨B, m, d, c0, c1, c2, hri, hm, ht⟩ := hob
        have HX := Lib.hid hx
        have HM := Lib.hid hri.1
        clear hx
        by_cases hneg : szO r m o.t.size < 0
        · go_wp2_with (go_at_call 41; refine (szObject_any _ _ _ _ _ _ _ hr0 (by omega) hm ht).mono ?_; rintro e w1 ⟨rfl, hb1⟩)
          go_ret
          exact ⟨⟨_, rfl, _, rfl, Or.inl (by omega)⟩, below_ext hbr hb1⟩
        · have hge : 0 ≤ szO r m o.t.size := by omega
          have hle : szO r m o.t.size ≤ r ∧ (m : Int) ≤ r ∧ (o.t.size : Int) ≤ r := by unfold szO szI at hge ⊢; split at hge <;> (try split at hge) <;> (try split) <;> omega
          obtain ⟨hle1, hle2, hle3⟩ := hle
          go_wp2_with (go_at_call 41; refine (szObject_any _ _ _ _ _ _ _ hr0 (by omega) hm ht).mono ?_; rintro e w1 ⟨rfl, hb1⟩)
          go_roundw
          case rel => exact ⟨k + 1, _, by omega, by go_num, rfl, hge, by omega, fun j o' hj ho' => by
            by_cases hjk : j < k
            · exact hsm.out j o' hjk ho'
            · obtain rfl : j = k := by omega
              rw [HX.out] at ho'; injection ho' with ho'; subst ho'
              have := HM.out
              exact ⟨by omega, by omega⟩, below_ext hbr hb1⟩
          case measure => simp [intOf]; omega
      · obtain rfl : k = n := by omega
        go_wp2
        go_ret
        exact ⟨⟨_, rfl, r, rfl, Or.inr ⟨hr0, hrl, ⟨by rw [h.1]; omega, fun o ho => by
          obtain ⟨j, hj⟩ := List.mem_iff_getElem?.1 ho
          exact hsm.out j o (by have := (List.getElem?_eq_some_iff.1 hj).1; have := h.1; omega) hj⟩⟩⟩, hbr⟩

/-- the cells of objects whose links lie in blocks of their own -/
def cellsO : List Ob → List Nat → List Value
  | o :: os, b :: bs => .int .i64 o.k :: .slice (some ⟨b, 0, none⟩) o.xs.length o.xs.length :: .string o.t :: cellsO os bs
  | _, _ => []
theorem length_cellsO (os : List Ob) : ∀ bs : List Nat, bs.length = os.length → (cellsO os bs).length = os.length * 3 := by
  induction os with
  | nil => intro bs _; cases bs <;> rfl
  | cons o os ih =>
    intro bs h
    cases bs with
    | nil => cases h
    | cons b bs => simp only [cellsO, List.length_cons] at h ⊢; rw [ih bs (by omega)]; omega
theorem cellsO_snoc (os : List Ob) (o : Ob) (b : Nat) : ∀ bs : List Nat, bs.length = os.length → cellsO (os ++ [o]) (bs ++ [b]) = cellsO os bs ++ [.int .i64 o.k, .slice (some ⟨b, 0, none⟩) o.xs.length o.xs.length, .string o.t] := by
  induction os with
  | nil => intro bs h; cases bs with
    | nil => rfl
    | cons => cases h
  | cons o' os ih =>
    intro bs h
    cases bs with
    | nil => cases h
    | cons b' bs => simp only [List.cons_append, cellsO]; rw [ih bs (by simpa using h)]
theorem cellsO_get (os : List Ob) : ∀ (bs : List Nat) (i : Nat) (o : Ob) (b : Nat), os[i]? = some o → bs[i]? = some b →
    (cellsO os bs)[i * 3]? = some (.int .i64 o.k) ∧ (cellsO os bs)[i * 3 + 1]? = some (.slice (some ⟨b, 0, none⟩) o.xs.length o.xs.length) ∧ (cellsO os bs)[i * 3 + 1 + 1]? = some (.string o.t) := by
  induction os with
  | nil => intro bs i o b h; cases h
  | cons o' os ih =>
    intro bs i o b ho hb
    cases bs with
    | nil => cases hb
    | cons b' bs =>
      cases i with
      | zero => simp at ho hb; subst ho hb; exact ⟨rfl, rfl, rfl⟩
      | succ i =>
        have := ih bs i o b (by simpa using ho) (by simpa using hb)
        simp only [cellsO, Nat.succ_mul]
        exact this
/-- objects in blocks of the call's own, from block 'lo' on, all different -/
def OObjs (w : World) (lo g : Nat) (os : List Ob) (bs : List Nat) : Prop :=
  bs.length = os.length ∧ lo ≤ g ∧ Blk w g 34 (cellsO os bs) ∧ (∀ (i : Nat) (o : Ob) (b : Nat), os[i]? = some o → bs[i]? = some b → Blk w b 3 (ints o.xs)) ∧ (∀ b ∈ bs, g < b) ∧ bs.Pairwise (· < ·)
theorem OObjs.next {w w' : World} {lo g : Nat} {os : List Ob} {bs : List Nat} (h : OObjs w lo g os bs) (hb : Below w.heap.size w w') : OObjs w' lo g os bs :=
  ⟨h.1, h.2.1, h.2.2.1.next hb, fun i o b ho hbb => (h.2.2.2.1 i o b ho hbb).next hb, h.2.2.2.2⟩
theorem OObjs.reads {w : World} {lo g n : Nat} {os : List Ob} {bs : List Nat} (h : OObjs w lo g os bs) (hn : n = os.length) (hs : smallO os) : RObjs w (some ⟨g, 0, none⟩) n os := by
  obtain ⟨h1, _, h3, h4, _, _⟩ := h
  refine ⟨hn.symm, fun _ => ⟨g, 0, rfl, h3.lt, fun i o ho => ?_⟩⟩
  have hi : i < os.length := (List.getElem?_eq_some_iff.1 ho).1
  have hb : bs[i]? = some (bs[i]'(by omega)) := List.getElem?_eq_getElem _
  obtain ⟨r0, r1, r2⟩ := cellsO_get os bs i o _ ho hb
  have hsm := hs.2 o (List.mem_of_getElem? ho)
  exact ⟨_, _, _, by rw [Nat.zero_add, h3.cell]; exact r0, by rw [Nat.zero_add, h3.cell]; exact r1, by rw [Nat.zero_add, h3.cell]; exact r2, RInts.of_blk (h4 i o _ ho hb) rfl, by simp only [maxLen]; omega, by simp only [maxLen]; omega⟩
theorem set3 (A R : List Value) (z0 z1 z2 x y z : Value) (k : Nat) (hk : A.length = k * 3) : (((A ++ z0 :: z1 :: z2 :: R).set (k * 3) x).set (k * 3 + 1) y).set (k * 3 + 2) z = A ++ [x, y, z] ++ R := by
  rw [← hk]
  rw [List.set_append_right _ _ (Nat.le_refl _), Nat.sub_self, List.set_cons_zero]
  rw [List.set_append_right _ _ (by omega), show A.length + 1 - A.length = 1 by omega]
  rw [List.set_append_right _ _ (by omega), show A.length + 2 - A.length = 2 by omega]
  simp

theorem obj_info : (Try.prog.info? 34).map (fun i => (i.zero, i.size, i.bytes)) = some (some (.agg #[.int .i64 0, .slice none 0 0, .string ⟨#[]⟩]), 3, 48) := by kernel_rfl
def zO : List Value := [.int .i64 0, .slice none 0 0, .string ⟨#[]⟩]

/-- after k of n objects have been copied -/
def TO (wr : World) (g : Nat) (os : List Ob) (n k : Nat) (bs : List Nat) : Prop :=
  bs.length = k ∧ Blk wr g 34 (cellsO (os.take k) bs ++ zeros zO (n - k)) ∧ (∀ (i : Nat) (o : Ob) (b : Nat), os[i]? = some o → bs[i]? = some b → Blk wr b 3 (ints o.xs)) ∧ (∀ b ∈ bs, g < b ∧ b < wr.heap.size) ∧ bs.Pairwise (· < ·)
theorem TO.start (w : World) (os : List Ob) (n : Nat) : TO (w.alloc (.cells (zeros zO n).toArray 34)) w.heap.size os n 0 [] :=
  ⟨rfl, by simpa [cellsO] using Blk.new w 34 (zeros zO n), fun i o b _ hb => by simp at hb, fun b hb => by simp at hb, List.Pairwise.nil⟩
section
variable {w1 wr : World} {g n k : Nat} {os : List Ob} {bs : List Nat}
theorem TO.len (h : TO wr g os n k bs) (hn : os.length = n) (hk : k ≤ n) : (cellsO (os.take k) bs).length = k * 3 := by
  rw [length_cellsO _ _ (by rw [h.1, List.length_take]; omega), List.length_take, Nat.min_eq_left (by omega)]
theorem TO.more (hk : k < n) : zeros zO (n - k) = .int .i64 0 :: .slice none 0 0 :: .string ⟨#[]⟩ :: zeros zO (n - (k + 1)) := by
  rw [show n - k = (n - (k + 1)) + 1 by omega]; simp [zeros, zO, List.replicate_succ]
theorem TO.cells (h : TO wr g os n k bs) (hn : os.length = n) (hk : k < n) (hb : Below wr.heap.size wr w1) :
    (w1.cell? ⟨g, k * 3, none⟩ = some (.int .i64 0) ∧ w1.frozen? ⟨g, k * 3, none⟩ = false) ∧ (w1.cell? ⟨g, k * 3 + 1, none⟩ = some (.slice none 0 0) ∧ w1.frozen? ⟨g, k * 3 + 1, none⟩ = false) ∧
    (w1.cell? ⟨g, k * 3 + 2, none⟩ = some (.string ⟨#[]⟩) ∧ w1.frozen? ⟨g, k * 3 + 2, none⟩ = false) := by
  have hl := h.len hn (by omega)
  have hbk := h.2.1.next hb
  rw [TO.more hk] at hbk
  refine ⟨⟨?_, hbk.frozen _⟩, ⟨?_, hbk.frozen _⟩, ⟨?_, hbk.frozen _⟩⟩
  · rw [hbk.cell, List.getElem?_append_right (by omega), hl, Nat.sub_self]; rfl
  · rw [hbk.cell, List.getElem?_append_right (by omega), hl, show k * 3 + 1 - k * 3 = 1 by omega]; rfl
  · rw [hbk.cell, List.getElem?_append_right (by omega), hl, show k * 3 + 2 - k * 3 = 2 by omega]; rfl
theorem TO.step (h : TO wr g os n k bs) {o : Ob} {b1 m : Nat} (hn : os.length = n) (hk : k < n) (hg : g < wr.heap.size) (hx : os[k]? = some o) (hm : o.xs.length = m) (hb : Below wr.heap.size wr w1) (ha : wr.heap.size ≤ b1) (hblk : Blk w1 b1 3 (ints o.xs)) :
    TO (((w1.setCell ⟨g, k * 3, none⟩ (.int .i64 o.k)).setCell ⟨g, k * 3 + 1, none⟩ (.slice (some ⟨b1, 0, none⟩) m m)).setCell ⟨g, k * 3 + 2, none⟩ (.string o.t)) g os n (k + 1) (bs ++ [b1]) := by
  have hl := h.len hn (by omega)
  obtain ⟨h1, h2, h3, h4, h5⟩ := h
  have hbk := h2.next hb
  rw [TO.more hk] at hbk
  have hs1 := hblk.lt
  refine ⟨by simp [h1], ?_, ?_, ?_, ?_⟩
  · have := ((hbk.set_ (k * 3) (.int .i64 o.k)).set_ (k * 3 + 1) (.slice (some ⟨b1, 0, none⟩) m m)).set_ (k * 3 + 2) (.string o.t)
    rw [set3 _ _ _ _ _ _ _ _ _ hl] at this
    have hki : k < os.length := by omega
    have hke : os[k] = o := (List.getElem?_eq_some_iff.1 hx).2
    rw [List.take_succ_eq_append_getElem hki, hke, cellsO_snoc _ _ _ _ (by rw [List.length_take]; omega), hm]
    exact this
  · intro i o' b ho' hb'
    rcases Nat.lt_or_ge i bs.length with hi | hi
    · rw [List.getElem?_append_left hi] at hb'
      have := h4 b (List.mem_of_getElem? hb')
      have hne : b ≠ g := by omega
      exact (((((h3 i o' b ho' hb').next hb).far (p := ⟨g, _, none⟩) hne _).far (p := ⟨g, _, none⟩) hne _).far (p := ⟨g, _, none⟩) hne _)
    · have hi2 : i = bs.length := by
        have := (List.getElem?_eq_some_iff.1 hb').1
        simp at this; omega
      subst hi2
      rw [List.getElem?_append_right (Nat.le_refl _)] at hb'
      simp at hb'
      subst hb'
      rw [h1, hx] at ho'
      injection ho' with ho'
      subst ho'
      have hne : b1 ≠ g := by omega
      exact (((hblk.far (p := ⟨g, _, none⟩) hne _).far (p := ⟨g, _, none⟩) hne _).far (p := ⟨g, _, none⟩) hne _)
  · intro b hb'
    have hsz := hb.size
    have : b < w1.heap.size ∧ g < b := by
      rcases List.mem_append.1 hb' with hb' | hb'
      · have := h4 b hb'; omega
      · simp at hb'; subst hb'; omega
    simp only [World.setCell, Array.size_modify]; omega
  · refine List.pairwise_append.2 ⟨h5, List.pairwise_singleton _ _, fun a ha' b hb' => ?_⟩
    simp at hb'; subst hb'
    have := h4 a ha'; omega
theorem TO.done (h : TO wr g os n n bs) (hn : os.length = n) : OObjs wr g g os bs := by
  obtain ⟨h1, h2, h3, h4, h5⟩ := h
  refine ⟨by omega, Nat.le_refl _, ?_, h3, fun b hb => (h4 b hb).1, h5⟩
  rw [Nat.sub_self, List.take_of_length_le (by omega)] at h2
  simpa [zeros] using h2
end

set_option maxHeartbeats 1600000 in
theorem toObjectS_any (A : Option Addr) (n c : Nat) (os : List Ob) (w : World) (h : RObjs w A n os) (hs : smallO os) :
    Calls Try.prog 20 #[.slice A n c] w fun e w' => ∃ bs, e = .returned (.slice (some ⟨w.heap.size, 0, none⟩) n n) ∧ OObjs w' w.heap.size w.heap.size os bs ∧ Below w.heap.size w w' := by
  have hn : n ≤ 1048576 := by have := hs.1; have := h.1; omega
  have hmk := run_make_rep (P := Try.prog) Try.underlying23 obj_info rfl n (by omega) (by omega)
  go_enter Try.func20, Try.ntmps20
  go_wp2
  go_loopw [4] (fun i wr => ∃ (k : Nat) (bs : List Nat), k ≤ n ∧ i = .int .i64 k ∧ TO wr w.heap.size os n k bs ∧ w.heap.size < wr.heap.size ∧ Below w.heap.size w wr) (fun i _ => n - (intOf i).toNat)
  case atStart => exact ⟨0, [], Nat.zero_le _, rfl, TO.start w os n, by simp, below_box _ _⟩
  case round =>
    obtain ⟨k, bs, hk, rfl, hto, hgz, hbr⟩ := hrel
    have hr := h.next hbr
    by_cases hlt : k < n
    · obtain ⟨b, off, o, rfl, hb, hx, hob⟩ := hr.at_ hlt
      obtain ⟨B, m, d, c0, c1, c2, hri, hm, ht⟩ := hob
      have hsm := hs.2 o (List.mem_of_getElem? hx)
      have HM := Lib.hid hri.1
      have hm2 : m ≤ 1048576 := by have := hri.1; omega
      have HX := Lib.hid hx
      clear hx
      go_wp2_with fail
      refine (toObject_any _ _ _ _ o.xs _ _ hri (by omega)).mono ?_
      rintro e w1 ⟨b1, rfl, hb1a, hblk1, hb1⟩
      obtain ⟨⟨e0, f0⟩, ⟨e1, f1⟩, ⟨e2, f2⟩⟩ := hto.cells h.1 hlt hb1
      have hsz := hb1.size
      go_wp2
      go_roundw
      case rel => exact ⟨k + 1, bs ++ [b1], by omega, by go_num, hto.step h.1 hlt hgz HX.out HM.out hb1 hb1a hblk1, by simp; omega, (((below_ext hbr hb1).setCell (p := ⟨w.heap.size, _, none⟩) (Nat.le_refl _) _).setCell (p := ⟨w.heap.size, _, none⟩) (Nat.le_refl _) _).setCell (p := ⟨w.heap.size, _, none⟩) (Nat.le_refl _) _⟩
      case measure => simp [intOf]; omega
    · obtain rfl : k = n := by omega
      go_wp2
      go_ret
      exact ⟨bs, rfl, hto.done h.1, hbr⟩

def eqO (o o' : Ob) : Bool := (o.k == o'.k) && eqI o.xs o'.xs && (o.t.toList == o'.t.toList)
theorem eqO_refl (o : Ob) : eqO o o = true := by simp [eqO, eqI]
def eqOs : List Ob → List Ob → Bool
  | [], [] => true
  | x :: a, y :: b => eqO x y && eqOs a b
  | _, _ => false
theorem eqOs_refl (os : List Ob) : eqOs os os = true := by
  induction os with
  | nil => rfl
  | cons o os ih => simp [eqOs, eqO_refl, ih]
theorem eqOs_len : ∀ (a b : List Ob), eqOs a b = true → a.length = b.length
  | [], [], _ => rfl
  | x :: a, y :: b, h => by simp only [eqOs, Bool.and_eq_true] at h; simp [eqOs_len a b h.2]
  | [], _ :: _, h => by cases h
  | _ :: _, [], h => by cases h
theorem eqOs_take : ∀ (a b : List Ob) (k : Nat) (x y : Ob), a[k]? = some x → b[k]? = some y → eqOs (a.take (k+1)) (b.take (k+1)) = (eqOs (a.take k) (b.take k) && eqO x y)
  | [], _, _, _, _, h, _ => by simp at h
  | _ :: _, [], _, _, _, _, h => by simp at h
  | p :: a, q :: b, 0, x, y, hx, hy => by simp at hx hy; subst hx; subst hy; simp [eqOs]
  | p :: a, q :: b, k+1, x, y, hx, hy => by
    have := eqOs_take a b k x y (by simpa using hx) (by simpa using hy)
    simp only [List.take_succ_cons, eqOs, this, Bool.and_assoc]
theorem eqOs_of_take : ∀ (a b : List Ob) (k : Nat), eqOs a b = true → eqOs (a.take k) (b.take k) = true
  | [], [], k, _ => by simp [eqOs]
  | x :: a, y :: b, 0, _ => by simp [eqOs]
  | x :: a, y :: b, k+1, h => by
    simp only [eqOs, Bool.and_eq_true] at h
    simp [eqOs, h.1, eqOs_of_take a b k h.2]
  | [], _ :: _, _, h => by cases h
  | _ :: _, [], _, h => by cases h

set_option maxHeartbeats 1600000 in
theorem eqObjectS_any (A B : Option Addr) (n c m d : Nat) (xs ys : List Ob) (w : World) (hx : RObjs w A n xs) (hy : RObjs w B m ys) (hn : n ≤ maxLen) (hm : m ≤ maxLen) :
    Calls Try.prog 22 #[.slice A n c, .slice B m d] w fun e w' => e = .returned (.bool (eqOs xs ys)) ∧ Below w.heap.size w w' := by
  unfold maxLen at hn hm
  by_cases hnm : n = m
  · subst hnm
    go_enter Try.func22, Try.ntmps22
    go_wp2
    go_loopw [5] (fun i wr => ∃ k : Nat, k ≤ n ∧ i = .int .i64 k ∧ Hid (eqOs (xs.take k) (ys.take k) = true) ∧ Below w.heap.size w wr) (fun i _ => n - (intOf i).toNat)
    case atStart => exact ⟨0, Nat.zero_le _, rfl, by show _ = _; simp [eqOs], Below.refl _ _⟩
    case round =>
      obtain ⟨k, hk, rfl, hasc, hbr⟩ := hrel
      by_cases hlt : k < n
      · obtain ⟨b, off, o, rfl, hb, hxk, hob⟩ := (hx.next hbr).at_ hlt
        obtain ⟨b', off', o', rfl, hb', hyk, hob'⟩ := (hy.next hbr).at_ hlt
        obtain ⟨B, p, q, c0, c1, c2, hri, hp, ht⟩ := hob
        obtain ⟨B', p', q', d0, d1, d2, hri', hp', ht'⟩ := hob'
        have HT := Lib.hid (eqOs_take xs ys k o o' hxk hyk)
        have HF := Lib.hid (fun hh => eqOs_of_take xs ys (k+1) hh)
        clear hxk hyk
        cases he : eqO o o'
        · unfold eqO at he
          go_wp2
          have g0 := cell_regrown c0
          have g1 := cell_regrown c1
          have g2 := cell_regrown c2
          have k0 := cell_regrown d0
          have k1 := cell_regrown d1
          have k2 := cell_regrown d2
          clear c0 c1 c2 d0 d1 d2
          refine wp_region_ext (by kernel_rfl) (by kernel_rfl) ?_
          repeat (go_big_quiet_step ((go_at_call 44; exact rg_below (eqObject_any _ _ _ _ _ _ _ _ o.xs o'.xs _ _ _ (hri.regrown _ _) (hri'.regrown _ _) hp hp'))))
          refine wpQuiet_nil ?_
          intro w1 hb1
          go_wp2
          go_ret
          exact ⟨ret_bool (by
            cases hh : eqOs xs ys
            · rfl
            · have h1 := HF.out hh
              rw [HT.out] at h1
              unfold eqO at h1
              rw [he] at h1; simp at h1), below_ext hbr hb1⟩
        · unfold eqO at he
          go_wp2
          have g0 := cell_regrown c0
          have g1 := cell_regrown c1
          have g2 := cell_regrown c2
          have k0 := cell_regrown d0
          have k1 := cell_regrown d1
          have k2 := cell_regrown d2
          clear c0 c1 c2 d0 d1 d2
          refine wp_region_ext (by kernel_rfl) (by kernel_rfl) ?_
          repeat (go_big_quiet_step ((go_at_call 44; exact rg_below (eqObject_any _ _ _ _ _ _ _ _ o.xs o'.xs _ _ _ (hri.regrown _ _) (hri'.regrown _ _) hp hp'))))
          refine wpQuiet_nil ?_
          intro w1 hb1
          go_wp2
          go_roundw
          case rel => exact ⟨k + 1, by omega, by go_num, by show _ = _; rw [HT.out, hasc.out]; exact he, below_ext hbr hb1⟩
          case measure => simp [intOf]; omega
      · obtain rfl : k = n := by omega
        rw [List.take_of_length_le (by rw [hx.1]; exact Nat.le_refl _), List.take_of_length_le (by rw [hy.1]; exact Nat.le_refl _)] at hasc
        go_wp2
        go_ret
        exact ⟨ret_bool hasc.out.symm, hbr⟩
  · have hne : ((n : Int) != (m : Int)) = true := by simp; omega
    have : eqOs xs ys = false := by
      cases hh : eqOs xs ys
      · rfl
      · exact absurd (eqOs_len _ _ hh) (by rw [hx.1, hy.1]; exact hnm)
    go_enter Try.func22, Try.ntmps22
    go_wp2
    go_ret
    exact ⟨ret_bool this.symm, Below.refl _ _⟩
end Go.Proofs.Ytkekcgamhhmjnaa
