/- Walks: drawing texts, ids and objects: only what bounds the results is said. -/
import Derived.Test.YtkekcgamhhmjnaaRd
import Derived.Test.YtkekcgamhhmjnaaIds
import Derived.Deep.Cut
import Derived.Deep.CutRange
import Derived.Deep.DeepCutAuto
namespace Go.Proofs.Ytkekcgamhhmjnaa
open Go.RowKit Go.Sort

theorem grown_trans {a b c : World} {g : Nat} (h : a.grownBy b (some g)) (k : b.grownBy c (some g)) : a.grownBy c (some g) :=
  ⟨k.os.trans h.os, k.tape.trans h.tape, k.output.trans h.output, Nat.le_trans h.size k.size, fun i hi hne => (k.block i (Nat.lt_of_lt_of_le hi h.size) hne).trans (h.block i hi hne)⟩
theorem grown_below {a b c : World} {g : Nat} (h : a.grownBy b (some g)) (k : Below b.heap.size b c) : a.grownBy c (some g) :=
  ⟨k.os.trans h.os, k.tape.trans h.tape, k.output.trans h.output, Nat.le_trans h.size k.size, fun i hi hne => (k.block i (Nat.lt_of_lt_of_le hi h.size)).trans (h.block i hi hne)⟩

set_option maxHeartbeats 400000 in
theorem l6Open_any (A : Option Addr) (n c : Nat) (w : World) (h : RBytes w w.heap.size A n) (hn : n ≤ maxLen) (hc : n ≤ c) :
    Calls Try.prog 27 #[.slice A n c] w fun e w' => e = .returned (.pointer (some ⟨w.heap.size, 0, none⟩)) ∧ Rd w' w.heap.size 0 ∧ Below w.heap.size w w' := by
  unfold maxLen at hn
  by_cases hl : 2000 < n
  · obtain ⟨ad, rfl, hb, hcs⟩ := h (by omega)
    go_enter Try.func27, Try.ntmps27
    go_wp2
    go_ret
    refine ⟨rfl, ⟨_, _, _, Blk.new w _ _, by omega, fun hn => ⟨_, rfl, hb, fun j hj => ?_⟩⟩, below_box _ _⟩
    obtain ⟨b, h0, h1, h2⟩ := hcs j (by omega)
    exact ⟨b, h0, h1, by rw [World.cell?_alloc_lt w _ _ (by rw [block_of_add]; exact hb)]; exact h2⟩
  · go_enter Try.func27, Try.ntmps27
    go_wp2
    go_ret
    exact ⟨rfl, ⟨_, _, _, Blk.new w _ _, by omega, h.keep fun a ha => World.cell?_alloc_lt w _ _ ha⟩, below_box _ _⟩

/-- what a draw leaves: a value of which R holds, the reader at most K places further -/
def Drawn (g p K : Nat) (w : World) (R : Value → World → Prop) (e : Ending) (w' : World) : Prop := ∃ v p', e = .returned v ∧ R v w' ∧ p' ≤ p + K ∧ Rd w' g p' ∧ w.grownBy w' (some g)
/-- a text of at most m bytes -/
def IsText (m : Nat) (v : Value) (_ : World) : Prop := ∃ t : ByteArray, v = .string t ∧ t.size ≤ m

theorem byte_str {P : Program} {src dst e : TypeId} (hs : P.underlying src = some (.slice e)) (he : P.underlying e = some (.int .u8)) (hd : P.underlying dst = some .string) (w : World) (x : Int) (h0 : 0 ≤ x) (h1 : x ≤ 255) (c : Nat) :
    (convert src dst (.slice (some ⟨w.heap.size, 0, none⟩) 1 c)).run P (w.alloc (.cells #[.int .u8 x] e)) = .ok (.string ⟨#[UInt8.ofNat x.toNat]⟩) (w.alloc (.cells #[.int .u8 x] e)) := by
  have := run_convert_bytes_back (P := P) (w.alloc (.cells #[.int .u8 x] e)) src dst e ⟨w.heap.size, 0, none⟩ c [UInt8.ofNat x.toNat] hs he hd (fun j hj => by
    have hj0 : j = 0 := by simp at hj; exact hj
    subst hj0
    rw [show (⟨w.heap.size, 0, none⟩ : Addr).add 0 = ⟨w.heap.size, 0, none⟩ by simp [Addr.add], cell_of_row _ _ _ #[.int .u8 x] e (0, 0) (heap_alloc_new w _)]
    simp
    omega)
  simpa using this

set_option maxHeartbeats 1600000 in
theorem l91Text_any (g p : Nat) (w : World) (h : Rd w g p) (hp : p ≤ 900000) :
    Calls Try.prog 64 #[.pointer (some ⟨g, 0, none⟩)] w (Drawn g p 20 w (IsText 9)) := by
  go_enter Try.func64, Try.ntmps64
  go_wp2_with fail
  refine (pick_any g p 9 _ h (by omega) (by omega) (by omega)).mono ?_
  rintro e w1 ⟨v1, rfl, h10, h11, hr1, hg1⟩
  go_wp2_with fail
  go_upto_if 10 with (go_at_call 50; refine (pick_any g _ 24 _ hr1 (by omega) (by omega) (by omega)).mono ?_; rintro e w2 ⟨v2, rfl, h20, h21, hr2, hg2⟩)
  go_cut [4] from 6 (fun s wx => ∃ (v : Int) (q : Nat), s = .int .i64 v ∧ 0 ≤ v ∧ v ≤ 9 ∧ q ≤ p + 3 ∧ Rd wx g q ∧ w.grownBy wx (some g))
  case first =>
    go_wp2_with (go_at_call 50; refine (pick_any g _ 2 _ hr2 (by omega) (by omega) (by omega)).mono ?_; rintro e w3 ⟨v3, rfl, h30, h31, hr3, hg3⟩)
    · go_meet
      case rel => exact ⟨_, _, rfl, by omega, by omega, by omega, hr3, grown_trans (grown_trans hg1 hg2) hg3⟩
    · go_meet
      case rel => exact ⟨_, _, rfl, by omega, by omega, by omega, hr2, grown_trans hg1 hg2⟩
  case rest =>
    obtain ⟨v, q, rfl, hv0, hv9, hq, hrq, hgq⟩ := hcut
    go_wp2
    go_loopw [3, 5] (fun s i wr => ∃ (k : Nat) (t : ByteArray) (q' : Nat), (k : Int) ≤ v ∧ i = .int .i64 k ∧ s = .string t ∧ t.size ≤ k ∧ q' ≤ q + k ∧ Rd wr g q' ∧ w.grownBy wr (some g)) (fun _ i _ => 9 - (intOf i).toNat)
    case atStart => exact ⟨0, ⟨#[]⟩, q, by omega, rfl, rfl, by simp [ByteArray.size], by omega, hrq, hgq⟩
    case round =>
      obtain ⟨k, t, q', hk, rfl, rfl, ht, hq', hr, hg⟩ := hrel
      by_cases hlt : (k : Int) < v
      · go_wp2_with (go_at_call 50; refine (pick_any g _ 3 _ hr (by omega) (by omega) (by omega)).mono ?_; rintro e w3 ⟨v3, rfl, h30, h31, hr3, hg3⟩; have hcv := fun c => byte_str (P := Try.prog) Try.underlying22 Try.underlying5 Try.underlying9 w3 (97 + v3) (by omega) (by omega) c)
        go_roundw
        case rel => exact ⟨k + 1, _, _, by omega, by go_num, rfl, by rw [ByteArray.size_append]; have h1 : (ByteArray.mk #[UInt8.ofNat (97 + v3).toNat]).size = 1 := rfl; omega, by omega, hr3.keep (below_box _ _), grown_below (grown_trans hg hg3) (below_box _ _)⟩
        case measure => simp [intOf]; omega
      · go_wp2
        go_ret
        exact ⟨_, q', rfl, ⟨t, rfl, by omega⟩, by omega, hr, hg⟩
end Go.Proofs.Ytkekcgamhhmjnaa
