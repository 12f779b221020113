/- Walks: whether a number is a transaction (for seats without locks). -/
import Derived.Test.YtjofgbbofagoiaaIds
import Derived.Test.YtjofgbbofagoiaaMem
namespace Go.Proofs.Ytjofgbbofagoiaa
open Go.RowKit Go.Sort

def txnB (n : Int) : Bool := decide (0 ≤ n) && decide (n ≤ 11)
set_option maxHeartbeats 400000 in
theorem isTxn_any (n : Int) (w : World) : Calls Try.prog 43 #[.int .i64 n] w fun e w' => e = .returned (.bool (txnB n)) ∧ w = w' := by
  go_enter Try.func43, Try.ntmps43
  go_wp2_with (go_at_call 82; refine (inRange_any _ _ _ _).mono ?_; rintro e w' ⟨rfl, rfl⟩)
  go_ret
  exact ⟨rfl, rfl⟩
set_option maxHeartbeats 400000 in
theorem l12Txn_any (n : Int) (w : World) : Calls Try.prog 48 #[.int .i64 n] w fun e w' => e = .returned (.bool (txnB n)) ∧ w = w' := by
  go_enter Try.func48, Try.ntmps48
  go_wp2_with (go_at_call 87; refine (l6In_any _ _ _ _).mono ?_; rintro e w' ⟨rfl, rfl⟩)
  go_ret
  exact ⟨rfl, rfl⟩
end Go.Proofs.Ytjofgbbofagoiaa
