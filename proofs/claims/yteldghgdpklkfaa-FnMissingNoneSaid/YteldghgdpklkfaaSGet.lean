/- Walk: the program's StoreGet, as the laws on reach use it. -/
import Derived.Test.YteldghgdpklkfaaDrawRch
import Derived.Test.YteldghgdpklkfaaRchI
namespace Go.Proofs.Yteldghgdpklkfaa
open Go.RowKit Go.Sort

theorem sget_any (A : Option Addr) (n c : Nat) (os : List Ob) (z : Int) (w : World) (h : RObjs w A n os) (hn : n ≤ maxLen) (hc : n ≤ c) (hs : storeB os = true) :
    Calls Try.prog 30 #[.slice A n c, .int .i64 z] w fun e w' => ∃ k t B m d, e = .returned (.tuple #[.agg #[.int .i64 k, .slice B m d, .string t], .bool (isSt os z)]) ∧ RInts w' B m (lnk os z) ∧ m ≤ 4 ∧ Below w.heap.size w w' := by
  refine (implStoreGet_any A n c os z w h hn hc).mono ?_
  rintro e w' ⟨B, m, d, rfl, hl, -, -, hb⟩
  have hx : (getR os z).isSome = isSt os z := by rw [getR_eq hs]; rfl
  have hy : ((getR os z).getD zeroO).xs = lnk os z := by
    rw [getR_eq hs]
    unfold lnk
    cases getO os z <;> rfl
  rw [hy] at hl
  refine ⟨_, _, B, m, d, by rw [hx], hl.1, ?_, hb⟩
  have h4 := (lnk_ok (storeB_all hs).1 z).1
  have := hl.1.1
  omega
theorem has_mem {L : List Int} {x : Int} (h : x ∈ L) : hasI L x = true := by simpa [hasI] using h
end Go.Proofs.Yteldghgdpklkfaa
