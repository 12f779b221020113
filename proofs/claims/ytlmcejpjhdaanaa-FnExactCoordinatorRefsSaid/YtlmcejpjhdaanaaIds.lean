/- Walks: numbers in range, lists of ids in order. -/
import Derived.Test.YtlmcejpjhdaanaaProg
import Derived.Test.YtlmcejpjhdaanaaPlain
import Derived.WalkSpells
import Derived.WalkLawsBesides
import Derived.Handy
import Derived.BigQuiet
namespace Go.Proofs.Ytlmcejpjhdaanaa
open Go.RowKit

set_option maxHeartbeats 400000 in
theorem inRange_any (n low high : Int) (w : World) :
    Calls Try.prog 51 #[.int .i64 n, .int .i64 low, .int .i64 high] w fun e w' => e = .returned (.bool (decide (low ≤ n) && decide (n ≤ high))) ∧ w = w' := by
  by_cases h : low ≤ n
  · go_enter Try.func51, Try.ntmps51
    go_wp2
    go_ret
    exact ⟨by simp [h], rfl⟩
  · have h' : decide (low ≤ n) = false := by simpa using h
    go_enter Try.func51, Try.ntmps51
    go_wp2
    go_ret
    exact ⟨by simp, rfl⟩



set_option maxHeartbeats 400000 in
theorem l6In_any (n low high : Int) (w : World) :
    Calls Try.prog 35 #[.int .i64 n, .int .i64 low, .int .i64 high] w fun e w' => e = .returned (.bool (decide (low ≤ n) && decide (n ≤ high))) ∧ w = w' := by
  by_cases h : low ≤ n
  · go_enter Try.func35, Try.ntmps35
    go_wp2
    go_ret
    exact ⟨by simp [h], rfl⟩
  · have h' : decide (low ≤ n) = false := by simpa using h
    go_enter Try.func35, Try.ntmps35
    go_wp2
    go_ret
    exact ⟨by simp, rfl⟩


end Go.Proofs.Ytlmcejpjhdaanaa
