/- Walks: the laws' marks: markIntS, heldIntS, markText, markObject, heldObject, markObjectS. -/
import Derived.Test.YtkekcgamhhmjnaaPutLaw
import Derived.Test.YtkekcgamhhmjnaaObjLaw
import Derived.Test.YtkekcgamhhmjnaaDraw
namespace Go.Proofs.Ytkekcgamhhmjnaa
open Go.RowKit Go.Sort

/-- k, k + 1, .. -/
def marks (k : Int) (n : Nat) : List Int := (List.range n).map fun (j : Nat) => k + (j : Int)
theorem marks_len (k : Int) (n : Nat) : (marks k n).length = n := by simp [marks]
theorem marks_get (k : Int) (n j : Nat) (h : j < n) : (marks k n)[j]? = some (k + (j : Int)) := by simp [marks, h]
theorem marks_set (k : Int) (cs : List Value) (j : Nat) (h : j < cs.length) : (ints (marks k j) ++ cs.drop j).set j (.int .i64 (k + (j : Int))) = ints (marks k (j + 1)) ++ cs.drop (j + 1) := by
  have hl : (ints (marks k j)).length = j := by rw [length_ints, marks_len]
  rw [List.set_append_right (s := ints (marks k j)) (h := by omega), hl, Nat.sub_self, List.drop_eq_getElem_cons h, List.set_cons_zero]
  simp [marks, ints, List.range_succ]

/-- nothing outside the blocks lo .. hi - 1 is turned -/
structure Mid (lo hi : Nat) (w w' : World) : Prop where
  os : w'.os = w.os
  tape : w'.tape = w.tape
  output : w'.output = w.output
  size : w.heap.size ≤ w'.heap.size
  block : ∀ k, k < w.heap.size → k < lo ∨ hi ≤ k → w'.heap[k]? = w.heap[k]?
theorem Mid.refl (lo hi : Nat) (w : World) : Mid lo hi w w := ⟨rfl, rfl, rfl, Nat.le_refl _, fun _ _ _ => rfl⟩
theorem Mid.trans {lo hi : Nat} {a b c : World} (h : Mid lo hi a b) (k : Mid lo hi b c) : Mid lo hi a c :=
  ⟨k.os.trans h.os, k.tape.trans h.tape, k.output.trans h.output, Nat.le_trans h.size k.size, fun i hi hne => (k.block i (Nat.lt_of_lt_of_le hi h.size) hne).trans (h.block i hi hne)⟩
theorem Mid.of_below {lo hi : Nat} {a b : World} (h : Below a.heap.size a b) : Mid lo hi a b := ⟨h.os, h.tape, h.output, h.size, fun i hi _ => h.block i hi⟩
theorem Mid.of_grown {lo hi : Nat} {a b : World} {row : Option Nat} (h : a.grownBy b row) (hr : ∀ g, row = some g → lo ≤ g ∧ g < hi) : Mid lo hi a b :=
  ⟨h.os, h.tape, h.output, h.size, fun i hi hne => h.block i hi (fun e => by have := hr i e.symm; omega)⟩
theorem Mid.below {lo hi : Nat} {a b : World} (h : Mid lo hi a b) (hl : lo ≤ a.heap.size) : Below lo a b := ⟨h.os, h.tape, h.output, h.size, fun i hi => h.block i (by omega) (Or.inl hi)⟩
theorem Mid.set {lo hi : Nat} {a b : World} (h : Mid lo hi a b) {g i : Nat} (hg : lo ≤ g) (hg' : g < hi) (u : Value) : Mid lo hi a (b.setCell ⟨g, i, none⟩ u) :=
  h.trans (Mid.of_grown (grown_setCell (World.grownBy.refl b (some g)) u) (fun g' e => by injection e with e; subst e; exact ⟨hg, hg'⟩))
theorem Mid.blk {lo hi : Nat} {a b : World} (h : Mid lo hi a b) {g : Nat} {t : TypeId} {cs : List Value} (hb : Blk a g t cs) (hg : g < lo ∨ hi ≤ g) : Blk b g t cs := (h.block g hb.lt hg).trans hb
theorem LinkIn.mid {lo hi C : Nat} {w w' : World} {A : Option Addr} {m : Nat} {xs : List Int} (h : LinkIn w C A m xs) (hm : Mid lo hi w w') (hC : hi ≤ C) : LinkIn w' C A m xs := by
  refine ⟨⟨h.1.1, fun hn => ?_⟩, fun ad e => ?_⟩
  · obtain ⟨ad, e, hlt, hc⟩ := h.1.2 hn
    have hb := (h.2 ad e).1
    exact ⟨ad, e, Nat.lt_of_lt_of_le hlt hm.size, fun j x hx => (World.cell?_of_block (hm.block (ad.add j).block (by rw [block_of_add]; exact hlt) (by rw [block_of_add]; omega))).trans (hc j x hx)⟩
  · obtain ⟨h1, h2, cs, h3⟩ := h.2 ad e
    exact ⟨h1, h2, cs, hm.blk h3 (by omega)⟩

/-- n cells of ints that may be written -/
def WI (lo hi : Nat) (w : World) (A : Option Addr) (n : Nat) : Prop := 0 < n → ∃ b cs, A = some ⟨b, 0, none⟩ ∧ lo ≤ b ∧ b < hi ∧ Blk w b 3 cs ∧ n ≤ cs.length
theorem LinkIn.wi {w : World} {C : Nat} {A : Option Addr} {m : Nat} {xs : List Int} (h : LinkIn w C A m xs) : WI C w.heap.size w A m := by
  intro hm
  obtain ⟨ad, e, hlt, hc⟩ := h.1.2 hm
  obtain ⟨h1, h2, cs, h3⟩ := h.2 ad e
  refine ⟨ad.block, cs, by rw [← h2]; exact e, h1, hlt, h3, ?_⟩
  have hl := h.1.1
  have hx : xs[m - 1]? = some xs[m - 1] := List.getElem?_eq_getElem (by omega)
  have h4 := hc _ _ hx
  rw [h2, add_at, h3.cell] at h4
  have := (List.getElem?_eq_some_iff.1 h4).1
  omega

theorem WI.next {lo hi : Nat} {w w' : World} {A : Option Addr} {n : Nat} (h : WI lo hi w A n) (hb : Below w.heap.size w w') : WI lo hi w' A n := fun hn => by
  obtain ⟨b, cs, e, h1, h2, h3, h4⟩ := h hn
  exact ⟨b, cs, e, h1, h2, h3.next hb, h4⟩
theorem blk_same {w : World} {g : Nat} {t t' : TypeId} {cs cs' : List Value} (h : Blk w g t cs) (h' : Blk w g t' cs') : t = t' ∧ cs = cs' := by
  unfold Blk at h h'
  rw [h] at h'
  injection h' with h'
  injection h' with h1 h2
  exact ⟨h2, by simpa using h1⟩
theorem WI.far {lo hi : Nat} {w : World} {A : Option Addr} {n : Nat} (h : WI lo hi w A n) {g i : Nat} {cs : List Value} (hg : Blk w g 34 cs) (u : Value) : WI lo hi (w.setCell ⟨g, i, none⟩ u) A n := fun hn => by
  obtain ⟨b, cs', e, h1, h2, h3, h4⟩ := h hn
  refine ⟨b, cs', e, h1, h2, h3.far (p := ⟨g, i, none⟩) (fun e => ?_) u, h4⟩
  have e' : b = g := e
  subst e'
  exact absurd (blk_same h3 hg).1 (by decide)

/-- what markIntS does -/
def MarkedI (A : Option Addr) (n c : Nat) (k : Int) (w : World) (e : Ending) (w' : World) : Prop := e = .returned (.int .i64 (k + n)) ∧ w.grownBy w' (Value.slice A n c).ownBlock ∧ (n = 0 → w' = w) ∧
  ∀ b cs, A = some ⟨b, 0, none⟩ → Blk w b 3 cs → n ≤ cs.length → Blk w' b 3 (ints (marks k n) ++ cs.drop n)

set_option maxHeartbeats 1600000 in
theorem markIntS_any (lo hi : Nat) (A : Option Addr) (n c : Nat) (k : Int) (w : World) (h : WI lo hi w A n) (hk0 : 0 ≤ k) (hk1 : k + n ≤ 9000000000000000000) :
    Calls Try.prog 45 #[.slice A n c, .int .i64 k] w (MarkedI A n c k w) := by
  go_enter Try.func45, Try.ntmps45
  go_wp2_with fail
  go_loopw [1, 5] (fun q i wr => ∃ j : Nat, j ≤ n ∧ i = .int .i64 j ∧ q = .int .i64 (k + j) ∧ w.grownBy wr (Value.slice A n c).ownBlock ∧ Hid (n = 0 → wr = w) ∧ (∀ b cs, A = some ⟨b, 0, none⟩ → Blk w b 3 cs → n ≤ cs.length → Blk wr b 3 (ints (marks k j) ++ cs.drop j))) (fun _ i _ => n - (intOf i).toNat)
  case atStart => exact ⟨0, Nat.zero_le _, rfl, by simp, World.grownBy.refl _ _, (show n = 0 → w = w from fun _ => rfl), fun b cs _ hb _ => by simpa [marks, ints] using hb⟩
  case round =>
    obtain ⟨j, hj, rfl, rfl, hg, h0, hB⟩ := hrel
    by_cases hlt : j < n
    · obtain ⟨b, cs, rfl, hb1, hb2, hbl, hcs⟩ := h (by omega)
      have hbr := hB b cs rfl hbl hcs
      have hfr := hbr.frozen j
      have hcl : (wr.cell? ⟨b, j, none⟩).isSome = true := by
        rw [hbr.cell, List.getElem?_eq_getElem (by rw [List.length_append, length_ints, marks_len, List.length_drop]; omega)]; rfl
      obtain ⟨u, hu⟩ := Option.isSome_iff_exists.1 hcl
      have hset := hbr.set_ j (.int .i64 (k + j))
      rw [marks_set k cs j (by omega)] at hset
      have hg' : w.grownBy (wr.setCell ⟨b, j, none⟩ (.int .i64 (k + j))) (Value.slice (some ⟨b, 0, none⟩) n c).ownBlock := grown_setCell hg _
      have hw : IntKind.i64.wrap (k + (j : Int) + 1) = k + (j : Int) + 1 := by rw [IntKind.wrap_i64]; omega
      have HS := Lib.hid (fun b' cs' (hA : (some (⟨b, 0, none⟩ : Addr)) = some ⟨b', 0, none⟩) (hb' : Blk w b' 3 cs') (_ : n ≤ cs'.length) => (by
        injection hA with hA; injection hA with hA
        subst hA
        obtain ⟨-, e⟩ := blk_same hbl hb'
        subst e
        exact hset : Blk (wr.setCell ⟨b, j, none⟩ (.int .i64 (k + j))) b' 3 (ints (marks k (j + 1)) ++ cs'.drop (j + 1))))
      clear hset hB hcl
      go_wp2_with fail
      go_roundw
      case rel => exact ⟨j + 1, by omega, by go_num, by go_num, hg', (show n = 0 → _ from fun e => by omega), HS.out⟩
      case measure => simp [intOf]; omega
    · obtain rfl : j = n := by omega
      go_wp2_with fail
      go_ret
      exact ⟨rfl, hg, h0.out, hB⟩

theorem LinkIn.marked {w w' : World} {C n c : Nat} {A : Option Addr} {xs : List Int} {k : Int} {e : Ending} (h : LinkIn w C A n xs) (hm : MarkedI A n c k w e w') : LinkIn w' C A n (marks k n) := by
  obtain ⟨-, hg, h0, hB⟩ := hm
  have key : ∀ ad, A = some ad → C ≤ ad.block ∧ ad = ⟨ad.block, 0, none⟩ ∧ ∃ cs, Blk w' ad.block 3 cs ∧ n ≤ cs.length ∧ cs.take n = ints (marks k n) := by
    intro ad e
    obtain ⟨h1, h2, cs, h3⟩ := h.2 ad e
    have hl : n ≤ cs.length := by
      by_cases hn : 0 < n
      · obtain ⟨b, cs', e', _, _, h5, h6⟩ := h.wi hn
        rw [e] at e'; injection e' with e'
        rw [h2] at e'; injection e' with e'
        subst e'
        rw [(blk_same h3 h5).2]; exact h6
      · omega
    refine ⟨h1, h2, _, hB ad.block cs (by rw [← h2]; exact e) h3 hl, ?_, ?_⟩
    · rw [List.length_append, length_ints, marks_len, List.length_drop]; omega
    · rw [List.take_append_of_le_length (by rw [length_ints, marks_len]; exact Nat.le_refl _), List.take_of_length_le (by rw [length_ints, marks_len]; exact Nat.le_refl _)]
  refine ⟨⟨marks_len k n, fun hn => ?_⟩, fun ad e => ?_⟩
  · obtain ⟨ad, e, hlt, hc⟩ := h.1.2 hn
    obtain ⟨_, h2, cs, h3, h4, h5⟩ := key ad e
    refine ⟨ad, e, h3.lt, fun j x hx => ?_⟩
    have hj : j < n := by have := (List.getElem?_eq_some_iff.1 hx).1; rw [marks_len] at this; exact this
    have : (cs.take n)[j]? = some (.int .i64 x) := by rw [h5, ints, List.getElem?_map, hx]; rfl
    rw [List.getElem?_take, if_pos hj] at this
    rw [h2, add_at, h3.cell, Nat.zero_add]; exact this
  · obtain ⟨h1, h2, cs, h3, _⟩ := key ad e
    exact ⟨h1, h2, cs, h3⟩

set_option maxHeartbeats 1600000 in
theorem heldIntS_any (A : Option Addr) (n c : Nat) (k : Int) (w : World) (h : RInts w A n (marks k n)) (hk0 : 0 ≤ k) (hk1 : k + n ≤ 9000000000000000000) :
    Calls Try.prog 48 #[.slice A n c, .int .i64 k] w fun e w' => e = .returned (.int .i64 (k + n)) ∧ Below w.heap.size w w' := by
  go_enter Try.func48, Try.ntmps48
  go_wp2_with fail
  go_loopw [1, 5] (fun q i wr => ∃ j : Nat, j ≤ n ∧ i = .int .i64 j ∧ q = .int .i64 (k + j) ∧ Below w.heap.size w wr) (fun _ i _ => n - (intOf i).toNat)
  case atStart => exact ⟨0, Nat.zero_le _, rfl, by simp, Below.refl _ _⟩
  case round =>
    obtain ⟨j, hj, rfl, rfl, hbr⟩ := hrel
    by_cases hlt : j < n
    · obtain ⟨ad, x, rfl, hb, hx, hc⟩ := (h.next hbr).at_ hlt
      have hxe : x = k + (j : Int) := by rw [marks_get k n j hlt] at hx; injection hx with hx; exact hx.symm
      subst hxe
      clear hx
      have hw : IntKind.i64.wrap (k + (j : Int) + 1) = k + (j : Int) + 1 := by rw [IntKind.wrap_i64]; omega
      have he : ((k + (j : Int)) != (k + (j : Int))) = false := by simp
      go_wp2_with fail
      go_roundw
      case rel => exact ⟨j + 1, by omega, by go_num, by go_num, hbr⟩
      case measure => simp [intOf]; omega
    · obtain rfl : j = n := by omega
      go_wp2_with fail
      go_ret
      exact ⟨rfl, hbr⟩



/-- the digits of k ahead of acc -/
def mdg : Nat → Nat → ByteArray → ByteArray
  | 0, _, acc => acc
  | f + 1, k, acc => if k = 0 then acc else mdg f (k / 10) (⟨#[48 + UInt8.ofNat (k % 10)]⟩ ++ acc)
theorem mdg_zero (f : Nat) (acc : ByteArray) : mdg f 0 acc = acc := by cases f <;> simp [mdg]
def mtext (k : Nat) : ByteArray := if k = 0 then ⟨#[109, 48]⟩ else ⟨#[109]⟩ ++ mdg k k ⟨#[]⟩

set_option maxHeartbeats 1600000 in
theorem markText_any (k : Nat) (w : World) (hk : k ≤ 9000000000000000000) :
    Calls Try.prog 46 #[.int .i64 k] w fun e w' => e = .returned (.string (mtext k)) ∧ Below w.heap.size w w' := by
  by_cases h0 : k = 0
  · subst h0
    go_enter Try.func46, Try.ntmps46
    go_wp2_with fail
    go_ret
    exact ⟨rfl, Below.refl _ _⟩
  · have hk1 : decide ((k : Int) ≤ 0) = false := by simp; omega
    go_enter Try.func46, Try.ntmps46
    go_wp2_with fail
    go_loopw [0, 3] (fun q s wr => ∃ (r f : Nat) (acc : ByteArray), acc.size + r ≤ k ∧ r ≤ f ∧ q = .int .i64 r ∧ s = .string acc ∧ Hid (mdg f r acc = mdg k k ⟨#[]⟩) ∧ Below w.heap.size w wr) (fun q _ _ => (intOf q).toNat)
    case atStart => exact ⟨k, k, ⟨#[]⟩, by simp [ByteArray.size], Nat.le_refl _, rfl, rfl, (show mdg k k ⟨#[]⟩ = mdg k k ⟨#[]⟩ from rfl), Below.refl _ _⟩
    case round =>
      obtain ⟨r, f, acc, hr, hrf, rfl, rfl, hm, hbr⟩ := hrel
      by_cases hlt : 0 < r
      · have hpos : decide ((r : Int) > 0) = true := by simp; omega
        have hcv := fun c => byte_str (P := Try.prog) Try.underlying22 Try.underlying5 Try.underlying9 wr (48 + (r : Int) % 10) (by omega) (by omega) c
        go_wp2_with fail
        go_roundw
        case rel => exact ⟨r / 10, f - 1, _, by rw [ByteArray.size_append]; have h1 : (ByteArray.mk #[48 + UInt8.ofNat (r % 10)]).size = 1 := rfl; omega, by omega, by go_num, rfl, (show mdg (f - 1) (r / 10) _ = mdg k k ⟨#[]⟩ from by
          rw [← hm.out]
          obtain ⟨f', rfl⟩ : ∃ f', f = f' + 1 := ⟨f - 1, by omega⟩
          rw [mdg, if_neg (by omega)]
          rfl), below_ext hbr (below_box _ _)⟩
        case measure => simp [intOf]; omega
      · obtain rfl : r = 0 := by omega
        go_wp2_with fail
        go_ret
        refine ⟨?_, hbr⟩
        have := hm.out
        rw [mdg_zero] at this
        unfold mtext
        rw [if_neg h0, ← this]
        rfl
end Go.Proofs.Ytkekcgamhhmjnaa
