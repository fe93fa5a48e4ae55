/- What the program's FarColours and BrightOf compute. For all colours and worlds. -/
import Derived.Test.YtenpbnojabhlkaaEach
import Derived.Test.YtenpbnojabhlkaaFilt
namespace Go.Proofs.Ytenpbnojabhlkaa
open Go.RowKit
open Fl

/-- How far two parts are from each other. -/
def farF (x y : Nat) : Nat := if FloatKind.f32.format.order x y == some .lt then diffF y x else diffF x y

/-- The greatest of three. -/
def grF (a b c : Nat) : Nat :=
  if FloatKind.f32.format.order b a == some .gt then (if FloatKind.f32.format.order c b == some .gt then c else b)
  else (if FloatKind.f32.format.order c a == some .gt then c else a)

def farV (v : Bool) (r g b r' g' b' : Nat) : Nat := if v then grF (farF r r') (farF g g') (farF b b') else 0

set_option maxHeartbeats 400000 in
theorem far1_any (x y : Nat) (w : World) (hx : part x = true) (hy : part y = true) :
    Calls Try.prog 50 #[.float .f32 x, .float .f32 y] w fun e w' => e = .returned (.float .f32 (farF x y)) ∧ w = w' := by
  have H : Hid (farF x y = if FloatKind.f32.format.order x y == some .lt then diffF y x else diffF x y) := rfl
  have H1 := hide (fun w => diff_fin y x w (part_fin hy) (part_fin hx) (diff2_fin_part hy hx))
  have H2 := hide (fun w => diff_fin x y w (part_fin hx) (part_fin hy) (diff2_fin_part hx hy))
  clear hx hy
  cases h : (FloatKind.f32.format.order x y == some .lt)
  · rw [h] at H
    go_enter Try.func50, Try.ntmps50
    go_wp2_with (go_at_call 47; refine (H2.out _).mono ?_; rintro e w' ⟨rfl, rfl⟩)
    go_ret
    exact ⟨by rw [H.out]; simp, rfl⟩
  · rw [h] at H
    go_enter Try.func50, Try.ntmps50
    go_wp2_with (go_at_call 47; refine (H1.out _).mono ?_; rintro e w' ⟨rfl, rfl⟩)
    go_ret
    exact ⟨by rw [H.out]; simp, rfl⟩

set_option maxHeartbeats 1000000 in
theorem eachPart_far (r g b r' g' b' : Nat) (w : World)
    (h1 : ∀ w, Calls Try.prog 50 #[.float .f32 r, .float .f32 r'] w fun e w' => e = .returned (.float .f32 (farF r r')) ∧ w = w')
    (h2 : ∀ w, Calls Try.prog 50 #[.float .f32 g, .float .f32 g'] w fun e w' => e = .returned (.float .f32 (farF g g')) ∧ w = w')
    (h3 : ∀ w, Calls Try.prog 50 #[.float .f32 b, .float .f32 b'] w fun e w' => e = .returned (.float .f32 (farF b b')) ∧ w = w') :
    Calls Try.prog 44 #[.agg #[.float .f32 r, .float .f32 g, .float .f32 b], .agg #[.float .f32 r', .float .f32 g', .float .f32 b'], .func (.func 50) #[] #[]] w fun e w' => e = .returned (.agg #[.float .f32 (farF r r'), .float .f32 (farF g g'), .float .f32 (farF b b')]) ∧ (((w.alloc (.cells #[.float .f32 r, .float .f32 g, .float .f32 b] 26)).alloc (.cells #[.float .f32 r', .float .f32 g', .float .f32 b'] 26)).alloc (.cells #[.float .f32 (farF r r'), .float .f32 (farF g g'), .float .f32 (farF b b')] 26)).drew = w' := by
  have H1 := hide h1
  have H2 := hide h2
  have H3 := hide h3
  clear h1 h2 h3
  go_enter Try.func44, Try.ntmps44
  go_wp2_with fail
  go_region_held3 (fun w' => w'.cell? ⟨w.heap.size, 0, none⟩ = some (.float .f32 r) ∧ w'.cell? ⟨w.heap.size, 1, none⟩ = some (.float .f32 g) ∧ w'.cell? ⟨w.heap.size, 2, none⟩ = some (.float .f32 b) ∧ w'.cell? ⟨w.heap.size + 1, 0, none⟩ = some (.float .f32 r') ∧ w'.cell? ⟨w.heap.size + 1, 1, none⟩ = some (.float .f32 g') ∧ w'.cell? ⟨w.heap.size + 1, 2, none⟩ = some (.float .f32 b'))
    (refine ⟨?_, ?_, ?_, ?_, ?_, ?_⟩ <;> (go_simp; done))
    (first | (go_at_call 50; (first | (with_reducible refine (H1.out _).mono ?_) | (with_reducible refine (H2.out _).mono ?_) | (with_reducible refine (H3.out _).mono ?_)); rintro e w' ⟨rfl, rfl⟩))
  go_wp2_with fail
  exact bodyPost_ret (v := .agg #[.float .f32 (farF r r'), .float .f32 (farF g g'), .float .f32 (farF b b')]) (by simp [results, Try.results44, go_sem]) rfl ⟨rfl, rfl⟩


set_option maxHeartbeats 400000 in
theorem greatest_any (a b c : Nat) (w : World) :
    Calls Try.prog 49 #[.agg #[.float .f32 a, .float .f32 b, .float .f32 c]] w fun e w' => e = .returned (.float .f32 (grF a b c)) ∧ w.alloc (.cells #[.float .f32 a, .float .f32 b, .float .f32 c] 26) = w' := by
  have H : Hid (grF a b c = if FloatKind.f32.format.order b a == some .gt then (if FloatKind.f32.format.order c b == some .gt then c else b) else (if FloatKind.f32.format.order c a == some .gt then c else a)) := rfl
  cases h : (FloatKind.f32.format.order b a == some .gt)
  · rw [h] at H
    cases h2 : (FloatKind.f32.format.order c a == some .gt)
    all_goals
      rw [h2] at H
      go_enter Try.func49, Try.ntmps49
      go_wp2
      go_ret
      exact ⟨by rw [H.out]; simp, rfl⟩
  · rw [h] at H
    cases h2 : (FloatKind.f32.format.order c b == some .gt)
    all_goals
      rw [h2] at H
      go_enter Try.func49, Try.ntmps49
      go_wp2
      go_ret
      exact ⟨by rw [H.out]; simp, rfl⟩

set_option maxHeartbeats 1000000 in
theorem far_any (r g b r' g' b' : Nat) (w : World) :
    Calls Try.prog 27 #[.agg #[.float .f32 r, .float .f32 g, .float .f32 b], .agg #[.float .f32 r', .float .f32 g', .float .f32 b']] w fun e w' => e = .returned (.float .f32 (farV (isCol r g b && isCol r' g' b') r g b r' g' b')) ∧ Below w.heap.size w w' := by
  cases hv : isCol r g b
  · have H : Hid (farV (false && isCol r' g' b') r g b r' g' b' = 0) := rfl
    go_enter Try.func27, Try.ntmps27
    go_wp2_with (go_at_call 16; refine (isColour_any _ _ _ _).mono ?_; rintro e w' ⟨rfl, rfl⟩)
    go_ret
    exact ⟨by rw [H.out]; simp, (by repeat (first | exact Below.refl _ _ | assumption | refine Below.drew ?_ | refine Below.alloc ?_ (by first | omega | (simp; omega) | simp) _))⟩
  · cases hv' : isCol r' g' b'
    · have H : Hid (farV (true && false) r g b r' g' b' = 0) := rfl
      go_enter Try.func27, Try.ntmps27
      go_wp2_with (go_at_call 16; refine (isColour_any _ _ _ _).mono ?_; rintro e w' ⟨rfl, rfl⟩)
      go_ret
      exact ⟨by rw [H.out]; simp, (by repeat (first | exact Below.refl _ _ | assumption | refine Below.drew ?_ | refine Below.alloc ?_ (by first | omega | (simp; omega) | simp) _))⟩
    · have H : Hid (farV (true && true) r g b r' g' b' = grF (farF r r') (farF g g') (farF b b')) := rfl
      obtain ⟨pr, pg, pb⟩ := isCol_parts hv
      obtain ⟨pr', pg', pb'⟩ := isCol_parts hv'
      have HE := hide (fun w => eachPart_far r g b r' g' b' w (fun w => far1_any r r' w pr pr') (fun w => far1_any g g' w pg pg') (fun w => far1_any b b' w pb pb'))
      clear pr pg pb pr' pg' pb'
      go_enter Try.func27, Try.ntmps27
      go_wp2_with (first | (go_at_call 16; refine (isColour_any _ _ _ _).mono ?_; rintro e w' ⟨rfl, rfl⟩) | (go_at_call 44; refine (HE.out _).mono ?_; rintro e w' ⟨rfl, rfl⟩) | (go_at_call 49; refine (greatest_any _ _ _ _).mono ?_; rintro e w' ⟨rfl, rfl⟩))
      go_ret
      exact ⟨by rw [H.out]; simp, (by repeat (first | exact Below.refl _ _ | assumption | refine Below.drew ?_ | refine Below.alloc ?_ (by first | omega | (simp; omega) | simp) _))⟩

def brtV (v : Bool) (r g b : Nat) : Nat := if v then grF r g b else 0

set_option maxHeartbeats 400000 in
theorem bright_any (r g b : Nat) (w : World) :
    Calls Try.prog 34 #[.agg #[.float .f32 r, .float .f32 g, .float .f32 b]] w fun e w' => e = .returned (.float .f32 (brtV (isCol r g b) r g b)) ∧ Below w.heap.size w w' := by
  cases hv : isCol r g b
  · have H : Hid (brtV false r g b = 0) := rfl
    go_enter Try.func34, Try.ntmps34
    go_wp2_with (go_at_call 16; refine (isColour_any _ _ _ _).mono ?_; rintro e w' ⟨rfl, rfl⟩)
    go_ret
    exact ⟨by rw [H.out]; simp, (by repeat (first | exact Below.refl _ _ | assumption | refine Below.drew ?_ | refine Below.alloc ?_ (by first | omega | (simp; omega) | simp) _))⟩
  · have H : Hid (brtV true r g b = grF r g b) := rfl
    go_enter Try.func34, Try.ntmps34
    go_wp2_with (first | (go_at_call 16; refine (isColour_any _ _ _ _).mono ?_; rintro e w' ⟨rfl, rfl⟩) | (go_at_call 49; refine (greatest_any _ _ _ _).mono ?_; rintro e w' ⟨rfl, rfl⟩))
    go_ret
    exact ⟨by rw [H.out]; simp, (by repeat (first | exact Below.refl _ _ | assumption | refine Below.drew ?_ | refine Below.alloc ?_ (by first | omega | (simp; omega) | simp) _))⟩

end Go.Proofs.Ytenpbnojabhlkaa
