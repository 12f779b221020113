/- Walks: numbers in range, lists of ids in order. -/
import Derived.Test.YtpanclbmfpgalaaDoorProg
import Derived.Test.YtpanclbmfpgalaaDoorPlain
import Derived.WalkSpells
import Derived.WalkLawsBesides
import Derived.Handy
import Derived.BigQuiet
namespace Go.Proofs.YtpanclbmfpgalaaDoor
open Go.RowKit

set_option maxHeartbeats 400000 in
theorem inRange_any (n low high : Int) (w : World) :
    Calls Tryd.prog 35 #[.int .i64 n, .int .i64 low, .int .i64 high] w fun e w' => e = .returned (.bool (decide (low ≤ n) && decide (n ≤ high))) ∧ w = w' := by
  by_cases h : low ≤ n
  · go_enter Tryd.func35, Tryd.ntmps35
    go_wp2
    go_ret
    exact ⟨by simp [h], rfl⟩
  · have h' : decide (low ≤ n) = false := by simpa using h
    go_enter Tryd.func35, Tryd.ntmps35
    go_wp2
    go_ret
    exact ⟨by simp, rfl⟩



set_option maxHeartbeats 400000 in
theorem l6In_any (n low high : Int) (w : World) :
    Calls Tryd.prog 39 #[.int .i64 n, .int .i64 low, .int .i64 high] w fun e w' => e = .returned (.bool (decide (low ≤ n) && decide (n ≤ high))) ∧ w = w' := by
  by_cases h : low ≤ n
  · go_enter Tryd.func39, Tryd.ntmps39
    go_wp2
    go_ret
    exact ⟨by simp [h], rfl⟩
  · have h' : decide (low ≤ n) = false := by simpa using h
    go_enter Tryd.func39, Tryd.ntmps39
    go_wp2
    go_ret
    exact ⟨by simp, rfl⟩


end Go.Proofs.YtpanclbmfpgalaaDoor
