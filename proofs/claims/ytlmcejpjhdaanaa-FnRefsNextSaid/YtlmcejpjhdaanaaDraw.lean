/- Walks: drawing texts, ids and objects: only what bounds the results is said. -/
import Derived.Test.YtlmcejpjhdaanaaRd
import Derived.Test.YtlmcejpjhdaanaaIds
import Derived.Deep.Cut
import Derived.Deep.CutRange
import Derived.Deep.DeepCutAuto
namespace Go.Proofs.Ytlmcejpjhdaanaa
open Go.RowKit Go.Sort

theorem grown_trans {a b c : World} {g : Nat} (h : a.grownBy b (some g)) (k : b.grownBy c (some g)) : a.grownBy c (some g) :=
  ⟨k.os.trans h.os, k.tape.trans h.tape, k.output.trans h.output, Nat.le_trans h.size k.size, fun i hi hne => (k.block i (Nat.lt_of_lt_of_le hi h.size) hne).trans (h.block i hi hne)⟩
theorem grown_below {a b c : World} {g : Nat} (h : a.grownBy b (some g)) (k : Below b.heap.size b c) : a.grownBy c (some g) :=
  ⟨k.os.trans h.os, k.tape.trans h.tape, k.output.trans h.output, Nat.le_trans h.size k.size, fun i hi hne => (k.block i (Nat.lt_of_lt_of_le hi h.size)).trans (h.block i hi hne)⟩

set_option maxHeartbeats 400000 in
theorem l6Open_any (A : Option Addr) (n c : Nat) (w : World) (h : RBytes w w.heap.size A n) (hn : n ≤ maxLen) (hc : n ≤ c) :
    Calls Try.prog 29 #[.slice A n c] w fun e w' => e = .returned (.pointer (some ⟨w.heap.size, 0, none⟩)) ∧ Rd w' w.heap.size 0 ∧ Below w.heap.size w w' := by
  unfold maxLen at hn
  by_cases hl : 2000 < n
  · obtain ⟨ad, rfl, hb, hcs⟩ := h (by omega)
    go_enter Try.func29, Try.ntmps29
    go_wp2
    go_ret
    refine ⟨rfl, ⟨_, _, _, Blk.new w _ _, by omega, fun hn => ⟨_, rfl, hb, fun j hj => ?_⟩⟩, below_box _ _⟩
    obtain ⟨b, h0, h1, h2⟩ := hcs j (by omega)
    exact ⟨b, h0, h1, by rw [World.cell?_alloc_lt w _ _ (by rw [block_of_add]; exact hb)]; exact h2⟩
  · go_enter Try.func29, Try.ntmps29
    go_wp2
    go_ret
    exact ⟨rfl, ⟨_, _, _, Blk.new w _ _, by omega, h.keep fun a ha => World.cell?_alloc_lt w _ _ ha⟩, below_box _ _⟩

/-- what a draw leaves: a value of which R holds, the reader at most K places further -/
def Drawn (g p K : Nat) (w : World) (R : Value → World → Prop) (e : Ending) (w' : World) : Prop := ∃ v p', e = .returned v ∧ R v w' ∧ p' ≤ p + K ∧ Rd w' g p' ∧ w.grownBy w' (some g)
/-- a text of at most m bytes -/
def IsText (m : Nat) (v : Value) (_ : World) : Prop := ∃ t : ByteArray, v = .string t ∧ t.size ≤ m

theorem byte_str {P : Program} {src dst e : TypeId} (hs : P.underlying src = some (.slice e)) (he : P.underlying e = some (.int .u8)) (hd : P.underlying dst = some .string) (w : World) (x : Int) (h0 : 0 ≤ x) (h1 : x ≤ 255) (c : Nat) :
    (convert src dst (.slice (some ⟨w.heap.size, 0, none⟩) 1 c)).run P (w.alloc (.cells #[.int .u8 x] e)) = .ok (.string ⟨#[UInt8.ofNat x.toNat]⟩) (w.alloc (.cells #[.int .u8 x] e)) := by
  have := run_convert_bytes_back (P := P) (w.alloc (.cells #[.int .u8 x] e)) src dst e ⟨w.heap.size, 0, none⟩ c [UInt8.ofNat x.toNat] hs he hd (fun j hj => by
    have hj0 : j = 0 := by simp at hj; exact hj
    subst hj0
    rw [show (⟨w.heap.size, 0, none⟩ : Addr).add 0 = ⟨w.heap.size, 0, none⟩ by simp [Addr.add], cell_of_row _ _ _ #[.int .u8 x] e (0, 0) (heap_alloc_new w _)]
    simp
    omega)
  simpa using this

end Go.Proofs.Ytlmcejpjhdaanaa
