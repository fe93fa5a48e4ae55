/- What the program's FarColours and BrightOf compute. For all colours and worlds. -/
import Derived.Test.YtgafdkaiiajieaaEach
import Derived.Test.YtgafdkaiiajieaaFilt
namespace Go.Proofs.Ytgafdkaiiajieaa
open Go.RowKit
open Fl

/-- How far two parts are from each other. -/
def farF (x y : Nat) : Nat := if FloatKind.f32.format.order x y == some .lt then diffF y x else diffF x y

/-- The greatest of three. -/
def grF (a b c : Nat) : Nat :=
  if FloatKind.f32.format.order b a == some .gt then (if FloatKind.f32.format.order c b == some .gt then c else b)
  else (if FloatKind.f32.format.order c a == some .gt then c else a)

def farV (v : Bool) (r g b r' g' b' : Nat) : Nat := if v then grF (farF r r') (farF g g') (farF b b') else 0


set_option maxHeartbeats 400000 in
theorem greatest_any (a b c : Nat) (w : World) :
    Calls Try.prog 60 #[.agg #[.float .f32 a, .float .f32 b, .float .f32 c]] w fun e w' => e = .returned (.float .f32 (grF a b c)) ∧ w.alloc (.cells #[.float .f32 a, .float .f32 b, .float .f32 c] 41) = w' := by
  have H : Hid (grF a b c = if FloatKind.f32.format.order b a == some .gt then (if FloatKind.f32.format.order c b == some .gt then c else b) else (if FloatKind.f32.format.order c a == some .gt then c else a)) := rfl
  cases h : (FloatKind.f32.format.order b a == some .gt)
  · rw [h] at H
    cases h2 : (FloatKind.f32.format.order c a == some .gt)
    all_goals
      rw [h2] at H
      go_enter Try.func60, Try.ntmps60
      go_wp2
      go_ret
      exact ⟨by rw [H.out]; simp, rfl⟩
  · rw [h] at H
    cases h2 : (FloatKind.f32.format.order c b == some .gt)
    all_goals
      rw [h2] at H
      go_enter Try.func60, Try.ntmps60
      go_wp2
      go_ret
      exact ⟨by rw [H.out]; simp, rfl⟩

def brtV (v : Bool) (r g b : Nat) : Nat := if v then grF r g b else 0

set_option maxHeartbeats 400000 in
theorem bright_any (r g b : Nat) (w : World) :
    Calls Try.prog 25 #[.agg #[.float .f32 r, .float .f32 g, .float .f32 b]] w fun e w' => e = .returned (.float .f32 (brtV (isCol r g b) r g b)) ∧ Below w.heap.size w w' := by
  cases hv : isCol r g b
  · have H : Hid (brtV false r g b = 0) := rfl
    go_enter Try.func25, Try.ntmps25
    go_wp2_with (go_at_call 23; refine (isColour_any _ _ _ _).mono ?_; rintro e w' ⟨rfl, rfl⟩)
    go_ret
    exact ⟨by rw [H.out]; simp, (by repeat (first | exact Below.refl _ _ | assumption | refine Below.drew ?_ | refine Below.alloc ?_ (by first | omega | (simp; omega) | simp) _))⟩
  · have H : Hid (brtV true r g b = grF r g b) := rfl
    go_enter Try.func25, Try.ntmps25
    go_wp2_with (first | (go_at_call 23; refine (isColour_any _ _ _ _).mono ?_; rintro e w' ⟨rfl, rfl⟩) | (go_at_call 60; refine (greatest_any _ _ _ _).mono ?_; rintro e w' ⟨rfl, rfl⟩))
    go_ret
    exact ⟨by rw [H.out]; simp, (by repeat (first | exact Below.refl _ _ | assumption | refine Below.drew ?_ | refine Below.alloc ?_ (by first | omega | (simp; omega) | simp) _))⟩

end Go.Proofs.Ytgafdkaiiajieaa
