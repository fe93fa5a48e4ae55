/- What FilterColour and InverseColour compute, the program's and the reference's. For all colours and worlds. -/
import Derived.Test.YtgafdkaiiajieaaEach
namespace Go.Proofs.Ytgafdkaiiajieaa
open Go.RowKit
open Fl

theorem isCol_parts {r g b : Nat} (h : isCol r g b = true) : part r = true ∧ part g = true ∧ part b = true := by
  unfold isCol at h
  simp only [Bool.and_eq_true] at h
  exact ⟨h.1.1, h.1.2, h.2⟩

/-- A part of the filtered colour; 0 where one of both is not valid. -/
def filF (v : Bool) (x y : Nat) : Nat := if v then timesF x y else 0
def invF (v : Bool) (x : Nat) : Nat := if v then diffF one x else 0

set_option maxHeartbeats 1000000 in
theorem filter_any (r g b r' g' b' : Nat) (w : World) :
    Calls Try.prog 21 #[.agg #[.float .f32 r, .float .f32 g, .float .f32 b], .agg #[.float .f32 r', .float .f32 g', .float .f32 b']] w fun e w' => e = .returned (.agg #[.float .f32 (filF (isCol r g b && isCol r' g' b') r r'), .float .f32 (filF (isCol r g b && isCol r' g' b') g g'), .float .f32 (filF (isCol r g b && isCol r' g' b') b b')]) ∧ Below w.heap.size w w' := by
  cases hv : isCol r g b
  · have H : Hid (∀ x y, filF (false && isCol r' g' b') x y = 0) := fun x y => rfl
    go_enter Try.func21, Try.ntmps21
    go_wp2_with (go_at_call 23; refine (isColour_any _ _ _ _).mono ?_; rintro e w' ⟨rfl, rfl⟩)
    exact bodyPost_ret (v := .agg #[.float .f32 0, .float .f32 0, .float .f32 0]) (by simp [results, Try.results21, go_sem]) rfl ⟨by simp only [H.out], (by repeat (first | exact Below.refl _ _ | assumption | refine Below.drew ?_ | refine Below.alloc ?_ (by first | omega | (simp; omega) | simp) _))⟩
  · cases hv' : isCol r' g' b'
    · have H : Hid (∀ x y, filF (true && false) x y = 0) := fun x y => rfl
      go_enter Try.func21, Try.ntmps21
      go_wp2_with (go_at_call 23; refine (isColour_any _ _ _ _).mono ?_; rintro e w' ⟨rfl, rfl⟩)
      exact bodyPost_ret (v := .agg #[.float .f32 0, .float .f32 0, .float .f32 0]) (by simp [results, Try.results21, go_sem]) rfl ⟨by simp only [H.out], (by repeat (first | exact Below.refl _ _ | assumption | refine Below.drew ?_ | refine Below.alloc ?_ (by first | omega | (simp; omega) | simp) _))⟩
    · have H : Hid (∀ x y, filF (true && true) x y = timesF x y) := fun x y => rfl
      obtain ⟨pr, pg, pb⟩ := isCol_parts hv
      obtain ⟨pr', pg', pb'⟩ := isCol_parts hv'
      have HE := hide (fun w => eachPart_times r g b r' g' b' w (fun w => times_fin r r' w (part_fin pr) (part_fin pr') (times_fin_part pr pr')) (fun w => times_fin g g' w (part_fin pg) (part_fin pg') (times_fin_part pg pg')) (fun w => times_fin b b' w (part_fin pb) (part_fin pb') (times_fin_part pb pb')))
      clear pr pg pb pr' pg' pb'
      go_enter Try.func21, Try.ntmps21
      go_wp2_with (first | (go_at_call 23; refine (isColour_any _ _ _ _).mono ?_; rintro e w' ⟨rfl, rfl⟩) | (go_at_call 54; refine (HE.out _).mono ?_; rintro e w' ⟨rfl, rfl⟩))
      exact bodyPost_ret (v := .agg #[.float .f32 (timesF r r'), .float .f32 (timesF g g'), .float .f32 (timesF b b')]) (by simp [results, Try.results21, go_sem]) rfl ⟨by simp only [H.out], (by repeat (first | exact Below.refl _ _ | assumption | refine Below.drew ?_ | refine Below.alloc ?_ (by first | omega | (simp; omega) | simp) _))⟩

set_option maxHeartbeats 1000000 in
theorem inverse_any (r g b : Nat) (w : World) :
    Calls Try.prog 59 #[.agg #[.float .f32 r, .float .f32 g, .float .f32 b]] w fun e w' => e = .returned (.agg #[.float .f32 (invF (isCol r g b) r), .float .f32 (invF (isCol r g b) g), .float .f32 (invF (isCol r g b) b)]) ∧ Below w.heap.size w w' := by
  cases hv : isCol r g b
  · have H : Hid (∀ x, invF false x = 0) := fun x => rfl
    go_enter Try.func59, Try.ntmps59
    go_wp2_with (go_at_call 23; refine (isColour_any _ _ _ _).mono ?_; rintro e w' ⟨rfl, rfl⟩)
    exact bodyPost_ret (v := .agg #[.float .f32 0, .float .f32 0, .float .f32 0]) (by simp [results, Try.results59, go_sem]) rfl ⟨by simp only [H.out], (by repeat (first | exact Below.refl _ _ | assumption | refine Below.drew ?_ | refine Below.alloc ?_ (by first | omega | (simp; omega) | simp) _))⟩
  · have H : Hid (∀ x, invF true x = diffF one x) := fun x => rfl
    obtain ⟨pr, pg, pb⟩ := isCol_parts hv
    have HE := hide (fun w => eachPart_diff one one one r g b w (fun w => diff_fin one r w fin_one (part_fin pr) (diff_fin_part pr)) (fun w => diff_fin one g w fin_one (part_fin pg) (diff_fin_part pg)) (fun w => diff_fin one b w fin_one (part_fin pb) (diff_fin_part pb)))
    clear pr pg pb
    go_enter Try.func59, Try.ntmps59
    go_wp2_with (first | (go_at_call 23; refine (isColour_any _ _ _ _).mono ?_; rintro e w' ⟨rfl, rfl⟩) | (go_at_call 54; refine (HE.out _).mono ?_; rintro e w' ⟨rfl, rfl⟩))
    exact bodyPost_ret (v := .agg #[.float .f32 (diffF one r), .float .f32 (diffF one g), .float .f32 (diffF one b)]) (by simp [results, Try.results59, go_sem]) rfl ⟨by simp only [H.out], (by repeat (first | exact Below.refl _ _ | assumption | refine Below.drew ?_ | refine Below.alloc ?_ (by first | omega | (simp; omega) | simp) _))⟩

end Go.Proofs.Ytgafdkaiiajieaa
