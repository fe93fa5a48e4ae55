/- What the laws' big computes. No condition. -/
import Derived.Test.YtgafdkaiiajieaaBase
namespace Go.Proofs.Ytgafdkaiiajieaa
open Go.RowKit

set_option maxHeartbeats 400000 in
theorem big_any (a : Option Addr) (len cap : Nat) (w : World) : Calls Try.prog 11 #[.slice a len cap] w fun e w' => e = .returned (.bool (decide (4096 < len))) ∧ w = w' := by
  by_cases h : 4096 < len
  all_goals
    go_enter Try.func11, Try.ntmps11
    go_wp2
    go_ret
    exact ⟨by simp only [h, decide_true, decide_false]; simp; omega, rfl⟩

end Go.Proofs.Ytgafdkaiiajieaa
