/- What the laws' big computes. No condition. -/
import Derived.Test.YtnpgdijafmkmkaaBase
namespace Go.Proofs.Ytnpgdijafmkmkaa
open Go.RowKit

set_option maxHeartbeats 400000 in
theorem big_any (a : Option Addr) (len cap : Nat) (w : World) : Calls Try.prog 36 #[.slice a len cap] w fun e w' => e = .returned (.bool (decide (4096 < len))) ∧ w = w' := by
  by_cases h : 4096 < len
  all_goals
    go_enter Try.func36, Try.ntmps36
    go_wp2
    go_ret
    exact ⟨by simp only [h, decide_true, decide_false]; simp; omega, rfl⟩

end Go.Proofs.Ytnpgdijafmkmkaa
