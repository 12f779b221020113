/- slices.Backward over lists of objects: its iterator's contract. -/
import Derived.Test.YtjofgbbofagoiaaRchPlain
import Derived.RangeFuncNested
import Derived.RangeFuncBound
import Derived.RangeFuncCalls
import Derived.RangeFuncLeaves
import Derived.RangeFuncWrites
import Derived.Shelf.Abstract
import Derived.Shelf.RegionOpen
import Derived.WalkKit
import Derived.OwnWalkIn
import Derived.TacticsInMore
import Derived.LoopNIn
import Derived.LoopIn
namespace Go.Proofs.Ytjofgbbofagoiaa
open Go.RowKit Go.Sort Go.Shelf

attribute [local go_sem] Oper.semAt_some

/-- k - 1, .., 0: the first j of them -/
def dn (k j : Nat) : List Nat := (List.range j).map fun i => k - 1 - i
theorem dn_succ (k j : Nat) : dn k (j + 1) = dn k j ++ [k - 1 - j] := by simp [dn, List.range_succ]
theorem dn_len (k j : Nat) : (dn k j).length = j := by simp [dn]
/-- what a round keeps: whatever lay below n0, and the box of the lists -/
def KpB (n0 Bs : Nat) (W W' : World) : Prop := Below n0 W W' ∧ W'.heap[Bs]? = W.heap[Bs]?
theorem KpB.trans {n0 Bs : Nat} {X Y Z : World} (h : KpB n0 Bs X Y) (k : KpB n0 Bs Y Z) : KpB n0 Bs X Z := ⟨h.1.trans k.1, k.2.trans h.2⟩
theorem KpB.refl (n0 Bs : Nat) (W : World) : KpB n0 Bs W W := ⟨Below.refl _ _, rfl⟩
set_option maxRecDepth 100000 in
set_option maxHeartbeats 2000000 in
theorem back1_in (F : Fence) (n : Nat) (hf : F.fn 112) (hro : F.round = none) (hn : 1 ≤ n) (l Bs n0 b cap k : Nat) (V : Nat → Value) (hk : k ≤ 100) (hb : b < n0) (J Jx : List Nat → World → Prop)
    (hY : ∀ (pre : List Nat) (x : Nat) (W : World), J pre W → pre.length < k → YieldAt F (n - 1) Try.prog l #[.int .i64 (x : Int), V x] W fun e W' =>
      (e = .returned (.bool true) ∧ J (pre ++ [x]) W' ∧ KpB n0 Bs W W') ∨ (e = .returned (.bool false) ∧ Jx (pre ++ [x]) W'))
    (W : World) (hBs : W.cell? ⟨Bs, 0, none⟩ = some (.slice (some ⟨b, 0, none⟩) k cap)) (hc : ∀ j, j < k → W.cell? ⟨b, j, none⟩ = some (V j)) (h0 : J [] W) :
    CallsIn F n Try.prog 112 #[.func (.yield l) #[] #[], .pointer (some ⟨Bs, 0, none⟩)] W fun e W' => (∃ v, e = .returned v) ∧
      ((∃ ys, ys = dn k k ∧ J ys W') ∨ (∃ pre, True ∧ Jx pre W')) := by
  refine callsIn_of_wp Try.func112 rfl hf ?_ hro
  simp only [Try.ntmps112, List.size_toArray, List.length_cons, List.length_nil, Nat.reduceAdd, Nat.reduceSub, Array.replicate_succ, Array.replicate_zero, List.push_toArray, List.append_toArray, List.nil_append, List.cons_append]
  have hw0 : IntKind.i64.wrap ((k : Int) - 1) = (k : Int) - 1 := by rw [IntKind.wrap_i64]; omega
  gi_wp2
  gi_loopw [3] (fun i wr => ∃ j : Nat, j ≤ k ∧ i = .int .i64 ((k : Int) - 1 - j) ∧ J (dn k j) wr ∧ KpB n0 Bs W wr)
    (fun i _ => (intOf i + 1).toNat)
  case atStart => exact ⟨0, Nat.zero_le _, by simp, by simpa [dn] using h0, KpB.refl _ _ _⟩
  case round =>
    obtain ⟨j, hj, rfl, hJs, hnx⟩ := hrel
    have hBr : wr.cell? ⟨Bs, 0, none⟩ = some (.slice (some ⟨b, 0, none⟩) k cap) := (World.cell?_of_block (a := ⟨Bs, 0, none⟩) hnx.2).trans hBs
    by_cases hlt : j < k
    · have hcx : wr.cell? ⟨b, k - 1 - j, none⟩ = some (V (k - 1 - j)) := (hnx.1.cell (p := ⟨b, k - 1 - j, none⟩) hb).trans (hc _ (by omega))
      have he : ((k : Int) - 1 - (j : Int)) = ((k - 1 - j : Nat) : Int) := by omega
      obtain ⟨fn, tmps, assign, body, hy, hR⟩ := hY _ (k - 1 - j) wr hJs (by rw [dn_len]; exact hlt)
      have hJ1 := dn_succ k j
      have hw1 : IntKind.i64.wrap (((k - 1 - j : Nat) : Int) - 1) = ((k - 1 - j : Nat) : Int) - 1 := by rw [IntKind.wrap_i64]; omega
      have hi1 : ((k - 1 - j : Nat) : Int) - 1 = (k : Int) - 1 - ((j + 1 : Nat) : Int) := by omega
      have hkk : k - 1 - j < k := by omega
      have HI1 := Lib.hid hi1
      have HJ1 := Lib.hid hJ1
      have HE := Lib.hid he
      rw [he]
      generalize k - 1 - j = q at *
      clear he hi1 hJ1
      gi_wp2
      refine hR.mono ?_
      rintro e W3 (⟨rfl, hJ3, hk3⟩ | ⟨rfl, hJx3⟩)
      · have hBr3 : W3.cell? ⟨Bs, 0, none⟩ = some (.slice (some ⟨b, 0, none⟩) k cap) := (World.cell?_of_block (a := ⟨Bs, 0, none⟩) hk3.2).trans hBr
        gi_wp2
        go_roundw
        case rel => exact ⟨j + 1, by omega, by rw [HI1.out], by rw [HJ1.out]; exact hJ3, hnx.trans hk3⟩
        case measure => simp [intOf]
      · gi_wp2
        refine bodyPost_ret (results_none rfl _ _ _) rfl ?_
        exact ⟨⟨_, rfl⟩, .inr ⟨_, trivial, hJx3⟩⟩
    · obtain rfl : j = k := by omega
      gi_wp2
      go_end0
      exact ⟨⟨_, rfl⟩, .inl ⟨_, rfl, hJs⟩⟩
set_option maxHeartbeats 1000000 in
theorem back_in (F : Fence) (n : Nat) (hf : F.fn 85) (hro : F.round = none) (a : Option Addr) (len cap : Nat) (w : World) :
    CallsIn F n Try.prog 85 #[.slice a len cap] w fun e w' => e = .returned (.func (.func 112) #[] #[.pointer (some ⟨w.heap.size, 0, none⟩)]) ∧ w' = w.alloc (.cells #[.slice a len cap] 105) := by
  refine callsIn_of_wp Try.func85 rfl hf ?_ hro
  simp only [Try.ntmps85, List.size_toArray, List.length_cons, List.length_nil, Nat.reduceAdd, Nat.reduceSub, Array.replicate_succ, Array.replicate_zero, List.push_toArray, List.append_toArray, List.nil_append, List.cons_append]
  gi_wp2
  go_ret
  exact ⟨rfl, rfl⟩
theorem back_stops (F : Fence) (n : Nat) (hf : F.fn 112) (hro : F.round = none) (hn : 1 ≤ n) (Bs n0 b cap k : Nat) (V : Nat → Value) (hk : k ≤ 100) (hb : b < n0) (w : World) (hBl : Bs < w.heap.size) (hn0 : n0 ≤ w.heap.size)
    (hBs : w.cell? ⟨Bs, 0, none⟩ = some (.slice (some ⟨b, 0, none⟩) k cap)) (hc : ∀ j, j < k → w.cell? ⟨b, j, none⟩ = some (V j)) :
    SeqStopsK F n Try.prog 112 #[.pointer (some ⟨Bs, 0, none⟩)] (fun x : Nat => #[.int .i64 (x : Int), V x]) (KpB n0 Bs) (fun ys => ys = dn k k) (fun _ => True) k w := fun l J Jx W hW _ _ hY h0 =>
  back1_in F n hf hro hn l Bs n0 b cap k V hk hb J Jx hY W ((hW.cell (p := ⟨Bs, 0, none⟩) hBl).trans hBs) (fun j hj => (hW.cell (p := ⟨b, j, none⟩) (by dsimp only; omega)).trans (hc j hj)) h0
end Go.Proofs.Ytjofgbbofagoiaa
