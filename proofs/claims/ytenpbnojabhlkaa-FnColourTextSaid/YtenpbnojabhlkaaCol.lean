/- What IsColour, toColour and eqColour compute. For all arguments; eqColour of a colour with finite parts and itself. -/
import Derived.Test.YtenpbnojabhlkaaPart
namespace Go.Proofs.Ytenpbnojabhlkaa
open Go.RowKit
open Fl

def isCol (r g b : Nat) : Bool := part r && part g && part b

set_option maxHeartbeats 400000 in
theorem toColour_any (r g b : Nat) (w : World) :
    Calls Try.prog 15 #[.agg #[.float .f32 r, .float .f32 g, .float .f32 b]] w fun e w' => e = .returned (.agg #[.float .f32 r, .float .f32 g, .float .f32 b]) ∧ ((w.alloc (.cells #[.float .f32 r, .float .f32 g, .float .f32 b] 24)).alloc (.cells #[.float .f32 r, .float .f32 g, .float .f32 b] 26)).alloc (.cells #[.float .f32 r, .float .f32 g, .float .f32 b] 26) = w' := by
  go_enter Try.func15, Try.ntmps15
  go_wp2
  exact bodyPost_ret (v := .agg #[.float .f32 r, .float .f32 g, .float .f32 b]) (by simp [results, Try.results15, go_sem]) rfl ⟨rfl, rfl⟩

set_option maxHeartbeats 400000 in
theorem isColour_any (r g b : Nat) (w : World) :
    Calls Try.prog 16 #[.agg #[.float .f32 r, .float .f32 g, .float .f32 b]] w fun e w' => e = .returned (.bool (isCol r g b)) ∧ w.alloc (.cells #[.float .f32 r, .float .f32 g, .float .f32 b] 26) = w' := by
  have H : Hid (isCol r g b = (part r && part g && part b)) := rfl
  cases hr : part r <;> cases hg : part g
  all_goals
    rw [hr, hg] at H
    go_enter Try.func16, Try.ntmps16
    go_wp2_with (go_at_call 38; refine (isPart_any _ _).mono ?_; rintro e w' ⟨rfl, rfl⟩)
    go_ret
    exact ⟨by rw [H.out]; simp, rfl⟩

set_option maxHeartbeats 400000 in
theorem sIsColour_any (r g b : Nat) (w : World) :
    Calls Try.prog 14 #[.agg #[.float .f32 r, .float .f32 g, .float .f32 b]] w fun e w' => e = .returned (.bool (isCol r g b)) ∧ Below w.heap.size w w' := by
  have H : Hid (isCol r g b = (part r && part g && part b)) := rfl
  cases hr : part r
  · rw [hr] at H
    go_enter Try.func14, Try.ntmps14
    go_wp2_with fail
    refine (l2Part_any _ _).mono ?_
    rintro e w1 ⟨rfl, hbw1⟩
    have bww1 : Below w.heap.size w w1 := by
      refine Below.trans ?_ (hbw1.mono ?_)
      · repeat (first | exact Below.refl _ _ | assumption | refine Below.drew ?_ | refine Below.alloc ?_ (by first | omega | (simp; omega) | simp) _)
      · first | omega | (simp; omega) | simp
    have hsw1 := bww1.size
    obtain ⟨hcw1, hfw1⟩ := bcell hbw1
    go_wp2_with fail
    go_ret
    exact ⟨by rw [H.out]; simp, bww1⟩
  · cases hg : part g
    · rw [hr, hg] at H
      go_enter Try.func14, Try.ntmps14
      go_wp2_with fail
      refine (l2Part_any _ _).mono ?_
      rintro e w1 ⟨rfl, hbw1⟩
      have bww1 : Below w.heap.size w w1 := by
        refine Below.trans ?_ (hbw1.mono ?_)
        · repeat (first | exact Below.refl _ _ | assumption | refine Below.drew ?_ | refine Below.alloc ?_ (by first | omega | (simp; omega) | simp) _)
        · first | omega | (simp; omega) | simp
      have hsw1 := bww1.size
      have hzw1w0 : w.heap.size < w1.heap.size := by have := hbw1.size; (try simp at this); omega
      obtain ⟨hcw1, hfw1⟩ := bcell hbw1
      go_wp2_with fail
      refine (l2Part_any _ _).mono ?_
      rintro e w2 ⟨rfl, hbw2⟩
      have bww2 : Below w.heap.size w w2 := by
        refine Below.trans ?_ (hbw2.mono ?_)
        · repeat (first | exact Below.refl _ _ | assumption | refine Below.drew ?_ | refine Below.alloc ?_ (by first | omega | (simp; omega) | simp) _)
        · first | omega | (simp; omega) | simp
      have hsw2 := bww2.size
      obtain ⟨hcw2, hfw2⟩ := bcell hbw2
      go_wp2_with fail
      go_ret
      exact ⟨by rw [H.out]; simp, bww2⟩
    · rw [hr, hg] at H
      go_enter Try.func14, Try.ntmps14
      go_wp2_with fail
      refine (l2Part_any _ _).mono ?_
      rintro e w1 ⟨rfl, hbw1⟩
      have bww1 : Below w.heap.size w w1 := by
        refine Below.trans ?_ (hbw1.mono ?_)
        · repeat (first | exact Below.refl _ _ | assumption | refine Below.drew ?_ | refine Below.alloc ?_ (by first | omega | (simp; omega) | simp) _)
        · first | omega | (simp; omega) | simp
      have hsw1 := bww1.size
      have hzw1w0 : w.heap.size < w1.heap.size := by have := hbw1.size; (try simp at this); omega
      obtain ⟨hcw1, hfw1⟩ := bcell hbw1
      go_wp2_with fail
      refine (l2Part_any _ _).mono ?_
      rintro e w2 ⟨rfl, hbw2⟩
      have bww2 : Below w.heap.size w w2 := by
        refine Below.trans ?_ (hbw2.mono ?_)
        · repeat (first | exact Below.refl _ _ | assumption | refine Below.drew ?_ | refine Below.alloc ?_ (by first | omega | (simp; omega) | simp) _)
        · first | omega | (simp; omega) | simp
      have hsw2 := bww2.size
      have hzw2w0 : w.heap.size < w2.heap.size := by have := hbw2.size; (try simp at this); omega
      obtain ⟨hcw2, hfw2⟩ := bcell hbw2
      have hzz : w.heap.size < w1.heap.size := hzw1w0
      go_wp2_with fail
      refine (l2Part_any _ _).mono ?_
      rintro e w3 ⟨rfl, hbw3⟩
      have bww3 : Below w.heap.size w w3 := by
        refine Below.trans ?_ (hbw3.mono ?_)
        · repeat (first | exact Below.refl _ _ | assumption | refine Below.drew ?_ | refine Below.alloc ?_ (by first | omega | (simp; omega) | simp) _)
        · first | omega | (simp; omega) | simp
      have hsw3 := bww3.size
      obtain ⟨hcw3, hfw3⟩ := bcell hbw3
      go_wp2_with fail
      go_ret
      exact ⟨by rw [H.out]; simp, bww3⟩

end Go.Proofs.Ytenpbnojabhlkaa
