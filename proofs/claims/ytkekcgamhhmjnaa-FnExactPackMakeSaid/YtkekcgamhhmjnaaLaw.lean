/- Walks: the laws' own helpers on slices of ints and on objects: copies, comparisons, sizes. -/
import Derived.Test.YtkekcgamhhmjnaaIds
import Derived.Test.YtkekcgamhhmjnaaMem
namespace Go.Proofs.Ytkekcgamhhmjnaa
open Go.RowKit Go.Sort

theorem int_info : (Try.prog.info? 3).map (fun i => (i.zero, i.size, i.bytes)) = some (some (.int .i64 0), 1, 8) := by kernel_rfl

set_option maxHeartbeats 1600000 in
theorem toIntS_any (A : Option Addr) (n c : Nat) (xs : List Int) (w : World) (h : RInts w A n xs) (hn : n ≤ 2000000) :
    Calls Try.prog 61 #[.slice A n c] w fun e w' => e = .returned (.slice (some ⟨w.heap.size, 0, none⟩) n n) ∧ Blk w' w.heap.size 3 (ints xs) ∧ Below w.heap.size w w' := by
  have hmk := run_make_ints Try.underlying29 int_info n hn
  go_enter Try.func61, Try.ntmps61
  go_wp2
  go_loopw [4] (fun i wr => ∃ k : Nat, k ≤ n ∧ i = .int .i64 k ∧ Blk wr w.heap.size 3 (ints (fillI xs n k)) ∧ Below w.heap.size w wr) (fun i _ => n - (intOf i).toNat)
  case atStart => exact ⟨0, Nat.zero_le _, rfl, by rw [fillI_zero]; exact Blk.new _ _ _, below_box _ _⟩
  case round =>
    obtain ⟨k, hk, rfl, hblk, hbr⟩ := hrel
    have hr := h.below hbr (Nat.le_refl _)
    by_cases hlt : k < n
    · obtain ⟨ad, x, rfl, hb, hx, hc⟩ := hr.at_ hlt
      have hfr := hblk.frozen k
      have hce := (hblk.cell k).trans (fillI_get xs n k h.1 hlt)
      have hset := hblk.set_ k (.int .i64 x)
      rw [fillI_set xs n k x h.1 hx] at hset
      have hbs := below_store hbr (g := w.heap.size) (i := k) (Nat.le_refl _) (.int .i64 x)
      clear hx
      go_wp2
      go_roundw
      case rel => exact ⟨k + 1, by omega, by go_num, hset, hbs⟩
      case measure => simp [intOf]; omega
    · obtain rfl : k = n := by omega
      rw [fillI_all xs k h.1] at hblk
      go_wp2
      go_ret
      exact ⟨rfl, hblk, hbr⟩

/-- what is left of a budget -/
def szI (l : Int) (n : Nat) : Int := if l - n < 0 then -1 else l - n

set_option maxHeartbeats 400000 in
theorem szIntS_any (A : Option Addr) (n c : Nat) (l : Int) (w : World) (h0 : 0 ≤ l) (h1 : l ≤ 1048576) (hn : n ≤ maxLen) :
    Calls Try.prog 60 #[.slice A n c, .int .i64 l] w fun e w' => e = .returned (.int .i64 (szI l n)) ∧ w = w' := by
  unfold maxLen at hn
  go_enter Try.func60, Try.ntmps60
  go_wp2
  all_goals (go_ret; refine ⟨ret_int ?_, rfl⟩; unfold szI)
  · rw [if_pos (by omega)]
  · rw [if_neg (by omega)]

/-- of an object: its links, then its text -/
def szO (l : Int) (n m : Nat) : Int := if szI l n < 0 then -1 else szI (szI l n) m

set_option maxHeartbeats 800000 in
theorem szObject_any (k : Int) (A : Option Addr) (n c : Nat) (t : ByteArray) (l : Int) (w : World) (h0 : 0 ≤ l) (h1 : l ≤ 1048576) (hn : n ≤ maxLen) (ht : t.size ≤ maxLen) :
    Calls Try.prog 41 #[.agg #[.int .i64 k, .slice A n c, .string t], .int .i64 l] w fun e w' => e = .returned (.int .i64 (szO l n t.size)) ∧ Below w.heap.size w w' := by
  unfold maxLen at ht
  by_cases hneg : l - n < 0
  · have e0 : szI l n = -1 := if_pos hneg
    go_enter Try.func41, Try.ntmps41
    go_wp2_with (go_at_call 60; refine (szIntS_any _ _ _ _ _ h0 h1 hn).mono ?_; rintro e w' ⟨rfl, rfl⟩)
    go_ret
    exact ⟨ret_int (by simp [szO, e0]), below_box _ _⟩
  · have e0 : szI l n = l - n := if_neg hneg
    have hnn : (0 : Int) ≤ l - n := by omega
    go_enter Try.func41, Try.ntmps41
    go_wp2_with (go_at_call 60; refine (szIntS_any _ _ _ _ _ h0 h1 hn).mono ?_; rintro e w' ⟨rfl, rfl⟩)
    all_goals (go_ret; refine ⟨ret_int ?_, below_box _ _⟩; unfold szO; rw [e0, if_neg (by omega), szI])
    · rw [if_pos (by omega)]
    · rw [if_neg (by omega)]

theorem eq_take (xs ys : List Int) (k : Nat) (hl : xs.length = ys.length) (x y : Int) (hx : xs[k]? = some x) (hy : ys[k]? = some y) : (xs.take (k+1) = ys.take (k+1)) ↔ (xs.take k = ys.take k ∧ x = y) := by
  have hk : k < xs.length := (List.getElem?_eq_some_iff.1 hx).1
  have hk' : k < ys.length := by omega
  have hxk : xs[k] = x := (List.getElem?_eq_some_iff.1 hx).2
  have hyk : ys[k] = y := (List.getElem?_eq_some_iff.1 hy).2
  rw [List.take_succ_eq_append_getElem hk, List.take_succ_eq_append_getElem hk', hxk, hyk]
  constructor
  · intro h
    have := List.append_inj h (by simp; omega)
    exact ⟨this.1, by simpa using this.2⟩
  · rintro ⟨h1, h2⟩; rw [h1, h2]

def eqI (xs ys : List Int) : Bool := decide (xs = ys)

set_option maxHeartbeats 1600000 in
theorem eqIntS_any (A B : Option Addr) (n c m d : Nat) (xs ys : List Int) (w : World) (hx : RInts w A n xs) (hy : RInts w B m ys) (hn : n ≤ maxLen) (hm : m ≤ maxLen) :
    Calls Try.prog 62 #[.slice A n c, .slice B m d] w fun e w' => e = .returned (.bool (eqI xs ys)) ∧ Below w.heap.size w w' := by
  unfold maxLen at hn hm
  by_cases hnm : n = m
  · subst hnm
    go_enter Try.func62, Try.ntmps62
    go_wp2
    go_loopw [5] (fun i wr => ∃ k : Nat, k ≤ n ∧ i = .int .i64 k ∧ Hid (xs.take k = ys.take k) ∧ Below w.heap.size w wr) (fun i _ => n - (intOf i).toNat)
    case atStart => exact ⟨0, Nat.zero_le _, rfl, by show _ = _; simp, Below.refl _ _⟩
    case round =>
      obtain ⟨k, hk, rfl, hasc, hbr⟩ := hrel
      by_cases hlt : k < n
      · obtain ⟨ad, x, rfl, hb, hxk, hc⟩ := (hx.below hbr (Nat.le_refl _)).at_ hlt
        obtain ⟨ad', y, rfl, hb', hyk, hc'⟩ := (hy.below hbr (Nat.le_refl _)).at_ hlt
        have hT := eq_take xs ys k (hx.1.trans hy.1.symm) x y hxk hyk
        have HT := Lib.hid hT
        have hcg := cell_regrown hc
        have hcg' := cell_regrown hc'
        clear hT hxk hyk
        cases he : (x != y)
        · have hxy : x = y := by simpa using he
          go_wp2
          refine wp_region_ext (by kernel_rfl) (by kernel_rfl) ?_
          repeat (go_big_quiet_step (fail))
          refine wpQuiet_nil ?_
          intro w1 hb1
          go_wp2
          go_roundw
          case rel => exact ⟨k + 1, by omega, by go_num, HT.out.2 ⟨hasc.out, hxy⟩, below_ext hbr hb1⟩
          case measure => simp [intOf]; omega
        · have hxy : x ≠ y := by simpa using he
          go_wp2
          refine wp_region_ext (by kernel_rfl) (by kernel_rfl) ?_
          repeat (go_big_quiet_step (fail))
          refine wpQuiet_nil ?_
          intro w1 hb1
          go_wp2
          go_ret
          exact ⟨ret_bool (by
            have : xs ≠ ys := fun hh => hxy ((HT.out.1 (by rw [hh])).2)
            simp [eqI, this]), below_ext hbr hb1⟩
      · obtain rfl : k = n := by omega
        rw [List.take_of_length_le (by rw [hx.1]; exact Nat.le_refl _), List.take_of_length_le (by rw [hy.1]; exact Nat.le_refl _)] at hasc
        go_wp2
        go_ret
        exact ⟨ret_bool (by simp [eqI, hasc.out]), hbr⟩
  · have hne : ((n : Int) != (m : Int)) = true := by simp; omega
    have : xs ≠ ys := fun hh => hnm (by rw [← hx.1, ← hy.1, hh])
    go_enter Try.func62, Try.ntmps62
    go_wp2
    go_ret
    exact ⟨ret_bool (by simp [eqI, this]), Below.refl _ _⟩

set_option maxHeartbeats 800000 in
theorem toObject_any (k : Int) (A : Option Addr) (n c : Nat) (xs : List Int) (t : ByteArray) (w : World) (h : RInts w A n xs) (hn : n ≤ 2000000) :
    Calls Try.prog 42 #[.agg #[.int .i64 k, .slice A n c, .string t]] w fun e w' => ∃ b, e = .returned (.agg #[.int .i64 k, .slice (some ⟨b, 0, none⟩) n n, .string t]) ∧ Hid (w.heap.size ≤ b) ∧ Blk w' b 3 (ints xs) ∧ Below w.heap.size w w' := by
  have h1 := fun (o o' o'' : Obj) => h.below (w' := ((w.alloc o).alloc o').alloc o'') (((below_box w o).alloc (by simp) o').alloc (by simp; omega) o'') (Nat.le_refl _)
  go_enter Try.func42, Try.ntmps42
  go_wp2_with (go_at_call 61; refine (toIntS_any _ _ _ xs _ (h1 _ _ _) hn).mono ?_; rintro e w1 ⟨rfl, hblk, hb⟩; obtain ⟨hc, hf⟩ := bcell hb; have hz := hb.size)
  refine bodyPost_ret (v := .agg #[.int .i64 k, .slice (some ⟨w.heap.size + 1 + 1 + 1, 0, none⟩) n n, .string t]) (by simp [results, Try.results42, go_sem, hc]) rfl ⟨_, rfl, ?_, ?_, ?_⟩
  · show _ ≤ _; omega
  · repeat (refine Blk.far ?_ (by simp <;> omega) _)
    simpa using hblk
  · repeat (refine Below.setCell ?_ (by simp <;> omega) _)
    exact below_ext (below_box3 _ _ _ _) hb
set_option maxHeartbeats 800000 in
theorem eqObject_any (k k' : Int) (A B : Option Addr) (n c m d : Nat) (xs ys : List Int) (t t' : ByteArray) (w : World) (hx : RInts w A n xs) (hy : RInts w B m ys) (hn : n ≤ maxLen) (hm : m ≤ maxLen) :
    Calls Try.prog 44 #[.agg #[.int .i64 k, .slice A n c, .string t], .agg #[.int .i64 k', .slice B m d, .string t']] w fun e w' => e = .returned (.bool ((k == k') && eqI xs ys && (t.toList == t'.toList))) ∧ Below w.heap.size w w' := by
  have h1 := fun (o o' : Obj) => hx.below (below_box2 w o o') (Nat.le_refl _)
  have h2 := fun (o o' : Obj) => hy.below (below_box2 w o o') (Nat.le_refl _)
  cases hk : (k != k')
  · have hk' : (k == k') = true := by simpa using hk
    cases he : eqI xs ys
    · go_enter Try.func44, Try.ntmps44
      go_wp2_with (go_at_call 62; refine (eqIntS_any _ _ _ _ _ _ xs ys _ (h1 _ _) (h2 _ _) hn hm).mono ?_; rintro e w1 ⟨rfl, hb⟩; obtain ⟨hc, hf⟩ := bcell hb)
      go_ret
      exact ⟨ret_bool (by simp), below_ext (below_box2 _ _ _) hb⟩
    · cases ht : (t.toList == t'.toList)
      · go_enter Try.func44, Try.ntmps44
        go_wp2_with (go_at_call 62; refine (eqIntS_any _ _ _ _ _ _ xs ys _ (h1 _ _) (h2 _ _) hn hm).mono ?_; rintro e w1 ⟨rfl, hb⟩; obtain ⟨hc, hf⟩ := bcell hb)
        go_ret
        exact ⟨ret_bool (by simp), below_ext (below_box2 _ _ _) hb⟩
      · go_enter Try.func44, Try.ntmps44
        go_wp2_with (go_at_call 62; refine (eqIntS_any _ _ _ _ _ _ xs ys _ (h1 _ _) (h2 _ _) hn hm).mono ?_; rintro e w1 ⟨rfl, hb⟩; obtain ⟨hc, hf⟩ := bcell hb)
        go_ret
        exact ⟨ret_bool (by simp [hk']), below_ext (below_box2 _ _ _) hb⟩
  · have hk' : (k == k') = false := by simpa using hk
    go_enter Try.func44, Try.ntmps44
    go_wp2
    go_ret
    exact ⟨ret_bool (by simp [hk']), below_box2 _ _ _⟩

/-- eqObject at equal data -/
theorem eqObject_same (k : Int) (A B : Option Addr) (n c m d : Nat) (xs : List Int) (t : ByteArray) (w : World) (hx : RInts w A n xs) (hy : RInts w B m xs) (hn : n ≤ maxLen) (hm : m ≤ maxLen) :
    Calls Try.prog 44 #[.agg #[.int .i64 k, .slice A n c, .string t], .agg #[.int .i64 k, .slice B m d, .string t]] w fun e w' => e = .returned (.bool true) ∧ Below w.heap.size w w' :=
  (eqObject_any k k A B n c m d xs xs t t w hx hy hn hm).mono fun _ _ ⟨he, hb⟩ => ⟨by rw [he]; simp [eqI], hb⟩
end Go.Proofs.Ytkekcgamhhmjnaa
