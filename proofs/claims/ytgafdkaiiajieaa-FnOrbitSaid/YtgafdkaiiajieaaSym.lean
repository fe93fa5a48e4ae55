/- What the program's and the reference's functions on one symmetry compute: within, IsSym, toSym, eqSym. Each contract holds for all arguments and worlds. -/
import Derived.Test.YtgafdkaiiajieaaBase
namespace Go.Proofs.Ytgafdkaiiajieaa
open Go.RowKit

set_option maxHeartbeats 400000 in
theorem within_any (n lo hi : Int) (w : World) :
    Calls Try.prog 74 #[.int .i64 n, .int .i64 lo, .int .i64 hi] w fun e w' => e = .returned (.bool (win n lo hi)) ∧ w = w' := by
  by_cases h1 : lo ≤ n <;> by_cases h2 : n ≤ hi
  all_goals
    have H : Hid (win n lo hi = (decide (lo ≤ n) && decide (n ≤ hi))) := rfl
    go_enter Try.func74, Try.ntmps74
    go_wp2
    go_ret
    exact ⟨by rw [H.out]; simp [*], rfl⟩

set_option maxHeartbeats 400000 in
theorem isSym_any (t : Int) (f : Bool) (w : World) :
    Calls Try.prog 44 #[.agg #[.int .i64 t, .bool f]] w fun e w' => e = .returned (.bool (win t 0 3)) ∧ w.alloc (.cells #[.int .i64 t, .bool f] 28) = w' := by
  go_enter Try.func44, Try.ntmps44
  go_wp2_with (go_at_call 74; refine (within_any _ _ _ _).mono ?_; rintro e w' ⟨rfl, rfl⟩)
  go_ret
  exact ⟨rfl, rfl⟩

end Go.Proofs.Ytgafdkaiiajieaa
