/- What ScreenColours computes, the program's and the reference's. For all colours and worlds. -/
import Derived.Test.YtgafdkaiiajieaaFiltS
namespace Go.Proofs.Ytgafdkaiiajieaa
open Go.RowKit
open Fl

def scrF (v : Bool) (x y : Nat) : Nat := if v then diffF one (timesF (diffF one x) (diffF one y)) else 0

theorem isCol_of {r g b : Nat} (hr : part r = true) (hg : part g = true) (hb : part b = true) : isCol r g b = true := by
  unfold isCol; rw [hr, hg, hb]; rfl

theorem inverse_yes (r g b : Nat) (w : World) (hr : part r = true) (hg : part g = true) (hb : part b = true) :
    Calls Try.prog 59 #[.agg #[.float .f32 r, .float .f32 g, .float .f32 b]] w fun e w' => e = .returned (.agg #[.float .f32 (diffF one r), .float .f32 (diffF one g), .float .f32 (diffF one b)]) ∧ Below w.heap.size w w' := by
  have h := inverse_any r g b w
  rw [isCol_of hr hg hb] at h
  exact h

theorem filter_yes (r g b r' g' b' : Nat) (w : World) (hr : part r = true) (hg : part g = true) (hb : part b = true) (hr' : part r' = true) (hg' : part g' = true) (hb' : part b' = true) :
    Calls Try.prog 21 #[.agg #[.float .f32 r, .float .f32 g, .float .f32 b], .agg #[.float .f32 r', .float .f32 g', .float .f32 b']] w fun e w' => e = .returned (.agg #[.float .f32 (timesF r r'), .float .f32 (timesF g g'), .float .f32 (timesF b b')]) ∧ Below w.heap.size w w' := by
  have h := filter_any r g b r' g' b' w
  rw [isCol_of hr hg hb, isCol_of hr' hg' hb'] at h
  exact h

theorem isColourB_any (r g b : Nat) (w : World) :
    Calls Try.prog 23 #[.agg #[.float .f32 r, .float .f32 g, .float .f32 b]] w fun e w' => e = .returned (.bool (isCol r g b)) ∧ Below w.heap.size w w' :=
  (isColour_any r g b w).mono fun _ _ ⟨he, hw⟩ => ⟨he, hw ▸ ((Below.refl _ _).alloc (Nat.le_refl _) _)⟩

set_option maxHeartbeats 4000000 in
theorem screen_any (r g b r' g' b' : Nat) (w : World) :
    Calls Try.prog 24 #[.agg #[.float .f32 r, .float .f32 g, .float .f32 b], .agg #[.float .f32 r', .float .f32 g', .float .f32 b']] w fun e w' => e = .returned (.agg #[.float .f32 (scrF (isCol r g b && isCol r' g' b') r r'), .float .f32 (scrF (isCol r g b && isCol r' g' b') g g'), .float .f32 (scrF (isCol r g b && isCol r' g' b') b b')]) ∧ Below w.heap.size w w' := by
  have kr : w.heap.size ≤ w.heap.size + 1 + 1 := by omega
  cases hv : isCol r g b
  · have H : Hid (∀ x y, scrF (false && isCol r' g' b') x y = 0) := fun x y => rfl
    go_enter Try.func24, Try.ntmps24
    go_wp2_with fail
    have cf : ∀ j, (((w.alloc (.cells #[.float .f32 r, .float .f32 g, .float .f32 b] 41)).alloc (.cells #[.float .f32 r', .float .f32 g', .float .f32 b'] 41)).alloc (.cells #[.float .f32 0, .float .f32 0, .float .f32 0] 41)).frozen? ⟨w.heap.size + 1 + 1, j, none⟩ = false := fun j => by go_simp
    have a0 : (((w.alloc (.cells #[.float .f32 r, .float .f32 g, .float .f32 b] 41)).alloc (.cells #[.float .f32 r', .float .f32 g', .float .f32 b'] 41)).alloc (.cells #[.float .f32 0, .float .f32 0, .float .f32 0] 41)).cell? ⟨w.heap.size, 0, none⟩ = some (.float .f32 r) := by go_simp
    have a1 : (((w.alloc (.cells #[.float .f32 r, .float .f32 g, .float .f32 b] 41)).alloc (.cells #[.float .f32 r', .float .f32 g', .float .f32 b'] 41)).alloc (.cells #[.float .f32 0, .float .f32 0, .float .f32 0] 41)).cell? ⟨w.heap.size, 1, none⟩ = some (.float .f32 g) := by go_simp
    have a2 : (((w.alloc (.cells #[.float .f32 r, .float .f32 g, .float .f32 b] 41)).alloc (.cells #[.float .f32 r', .float .f32 g', .float .f32 b'] 41)).alloc (.cells #[.float .f32 0, .float .f32 0, .float .f32 0] 41)).cell? ⟨w.heap.size, 2, none⟩ = some (.float .f32 b) := by go_simp
    have b0 : (((w.alloc (.cells #[.float .f32 r, .float .f32 g, .float .f32 b] 41)).alloc (.cells #[.float .f32 r', .float .f32 g', .float .f32 b'] 41)).alloc (.cells #[.float .f32 0, .float .f32 0, .float .f32 0] 41)).cell? ⟨w.heap.size + 1, 0, none⟩ = some (.float .f32 r') := by go_simp
    have b1 : (((w.alloc (.cells #[.float .f32 r, .float .f32 g, .float .f32 b] 41)).alloc (.cells #[.float .f32 r', .float .f32 g', .float .f32 b'] 41)).alloc (.cells #[.float .f32 0, .float .f32 0, .float .f32 0] 41)).cell? ⟨w.heap.size + 1, 1, none⟩ = some (.float .f32 g') := by go_simp
    have b2 : (((w.alloc (.cells #[.float .f32 r, .float .f32 g, .float .f32 b] 41)).alloc (.cells #[.float .f32 r', .float .f32 g', .float .f32 b'] 41)).alloc (.cells #[.float .f32 0, .float .f32 0, .float .f32 0] 41)).cell? ⟨w.heap.size + 1, 2, none⟩ = some (.float .f32 b') := by go_simp
    have c0 : (((w.alloc (.cells #[.float .f32 r, .float .f32 g, .float .f32 b] 41)).alloc (.cells #[.float .f32 r', .float .f32 g', .float .f32 b'] 41)).alloc (.cells #[.float .f32 0, .float .f32 0, .float .f32 0] 41)).cell? ⟨w.heap.size + 1 + 1, 0, none⟩ = some (.float .f32 0) := by go_simp
    have c1 : (((w.alloc (.cells #[.float .f32 r, .float .f32 g, .float .f32 b] 41)).alloc (.cells #[.float .f32 r', .float .f32 g', .float .f32 b'] 41)).alloc (.cells #[.float .f32 0, .float .f32 0, .float .f32 0] 41)).cell? ⟨w.heap.size + 1 + 1, 1, none⟩ = some (.float .f32 0) := by go_simp
    have c2 : (((w.alloc (.cells #[.float .f32 r, .float .f32 g, .float .f32 b] 41)).alloc (.cells #[.float .f32 r', .float .f32 g', .float .f32 b'] 41)).alloc (.cells #[.float .f32 0, .float .f32 0, .float .f32 0] 41)).cell? ⟨w.heap.size + 1 + 1, 2, none⟩ = some (.float .f32 0) := by go_simp
    have bel : Below w.heap.size w (((w.alloc (.cells #[.float .f32 r, .float .f32 g, .float .f32 b] 41)).alloc (.cells #[.float .f32 r', .float .f32 g', .float .f32 b'] 41)).alloc (.cells #[.float .f32 0, .float .f32 0, .float .f32 0] 41)) := (by repeat (first | exact Below.refl _ _ | assumption | refine Below.drew ?_ | refine Below.setCell ?_ (by first | (dsimp only; omega) | (simp; omega) | simp) _ | refine Below.alloc ?_ (by first | omega | (simp; omega) | simp) _))
    generalize ((w.alloc (.cells #[.float .f32 r, .float .f32 g, .float .f32 b] 41)).alloc (.cells #[.float .f32 r', .float .f32 g', .float .f32 b'] 41)).alloc (.cells #[.float .f32 0, .float .f32 0, .float .f32 0] 41) = wA at a0 a1 a2 b0 b1 b2 c0 c1 c2 cf bel ⊢
    have hswA := bel.size
    refine (isColourB_any _ _ _ _).mono ?_
    rintro e w1 ⟨rfl, hb1⟩
    have cf := frz hb1 c0 cf
    have a0 := keepc hb1 a0
    have a1 := keepc hb1 a1
    have a2 := keepc hb1 a2
    have b0 := keepc hb1 b0
    have b1 := keepc hb1 b1
    have b2 := keepc hb1 b2
    have c0 := keepc hb1 c0
    have c1 := keepc hb1 c1
    have c2 := keepc hb1 c2
    have bel := belowOf bel hb1
    clear hb1
    go_wp2_with fail
    exact bodyPost_ret (v := .agg #[.float .f32 0, .float .f32 0, .float .f32 0]) (by simp [results, Try.results24, go_sem, c0, c1, c2]) rfl ⟨by simp only [H.out], (by repeat (first | exact Below.refl _ _ | assumption | refine Below.drew ?_ | refine Below.setCell ?_ (by first | (dsimp only; omega) | (simp; omega) | simp) _ | refine Below.alloc ?_ (by first | omega | (simp; omega) | simp) _))⟩
  · cases hv' : isCol r' g' b'
    · have H : Hid (∀ x y, scrF (true && false) x y = 0) := fun x y => rfl
      go_enter Try.func24, Try.ntmps24
      go_wp2_with fail
      have cf : ∀ j, (((w.alloc (.cells #[.float .f32 r, .float .f32 g, .float .f32 b] 41)).alloc (.cells #[.float .f32 r', .float .f32 g', .float .f32 b'] 41)).alloc (.cells #[.float .f32 0, .float .f32 0, .float .f32 0] 41)).frozen? ⟨w.heap.size + 1 + 1, j, none⟩ = false := fun j => by go_simp
      have a0 : (((w.alloc (.cells #[.float .f32 r, .float .f32 g, .float .f32 b] 41)).alloc (.cells #[.float .f32 r', .float .f32 g', .float .f32 b'] 41)).alloc (.cells #[.float .f32 0, .float .f32 0, .float .f32 0] 41)).cell? ⟨w.heap.size, 0, none⟩ = some (.float .f32 r) := by go_simp
      have a1 : (((w.alloc (.cells #[.float .f32 r, .float .f32 g, .float .f32 b] 41)).alloc (.cells #[.float .f32 r', .float .f32 g', .float .f32 b'] 41)).alloc (.cells #[.float .f32 0, .float .f32 0, .float .f32 0] 41)).cell? ⟨w.heap.size, 1, none⟩ = some (.float .f32 g) := by go_simp
      have a2 : (((w.alloc (.cells #[.float .f32 r, .float .f32 g, .float .f32 b] 41)).alloc (.cells #[.float .f32 r', .float .f32 g', .float .f32 b'] 41)).alloc (.cells #[.float .f32 0, .float .f32 0, .float .f32 0] 41)).cell? ⟨w.heap.size, 2, none⟩ = some (.float .f32 b) := by go_simp
      have b0 : (((w.alloc (.cells #[.float .f32 r, .float .f32 g, .float .f32 b] 41)).alloc (.cells #[.float .f32 r', .float .f32 g', .float .f32 b'] 41)).alloc (.cells #[.float .f32 0, .float .f32 0, .float .f32 0] 41)).cell? ⟨w.heap.size + 1, 0, none⟩ = some (.float .f32 r') := by go_simp
      have b1 : (((w.alloc (.cells #[.float .f32 r, .float .f32 g, .float .f32 b] 41)).alloc (.cells #[.float .f32 r', .float .f32 g', .float .f32 b'] 41)).alloc (.cells #[.float .f32 0, .float .f32 0, .float .f32 0] 41)).cell? ⟨w.heap.size + 1, 1, none⟩ = some (.float .f32 g') := by go_simp
      have b2 : (((w.alloc (.cells #[.float .f32 r, .float .f32 g, .float .f32 b] 41)).alloc (.cells #[.float .f32 r', .float .f32 g', .float .f32 b'] 41)).alloc (.cells #[.float .f32 0, .float .f32 0, .float .f32 0] 41)).cell? ⟨w.heap.size + 1, 2, none⟩ = some (.float .f32 b') := by go_simp
      have c0 : (((w.alloc (.cells #[.float .f32 r, .float .f32 g, .float .f32 b] 41)).alloc (.cells #[.float .f32 r', .float .f32 g', .float .f32 b'] 41)).alloc (.cells #[.float .f32 0, .float .f32 0, .float .f32 0] 41)).cell? ⟨w.heap.size + 1 + 1, 0, none⟩ = some (.float .f32 0) := by go_simp
      have c1 : (((w.alloc (.cells #[.float .f32 r, .float .f32 g, .float .f32 b] 41)).alloc (.cells #[.float .f32 r', .float .f32 g', .float .f32 b'] 41)).alloc (.cells #[.float .f32 0, .float .f32 0, .float .f32 0] 41)).cell? ⟨w.heap.size + 1 + 1, 1, none⟩ = some (.float .f32 0) := by go_simp
      have c2 : (((w.alloc (.cells #[.float .f32 r, .float .f32 g, .float .f32 b] 41)).alloc (.cells #[.float .f32 r', .float .f32 g', .float .f32 b'] 41)).alloc (.cells #[.float .f32 0, .float .f32 0, .float .f32 0] 41)).cell? ⟨w.heap.size + 1 + 1, 2, none⟩ = some (.float .f32 0) := by go_simp
      have bel : Below w.heap.size w (((w.alloc (.cells #[.float .f32 r, .float .f32 g, .float .f32 b] 41)).alloc (.cells #[.float .f32 r', .float .f32 g', .float .f32 b'] 41)).alloc (.cells #[.float .f32 0, .float .f32 0, .float .f32 0] 41)) := (by repeat (first | exact Below.refl _ _ | assumption | refine Below.drew ?_ | refine Below.setCell ?_ (by first | (dsimp only; omega) | (simp; omega) | simp) _ | refine Below.alloc ?_ (by first | omega | (simp; omega) | simp) _))
      generalize ((w.alloc (.cells #[.float .f32 r, .float .f32 g, .float .f32 b] 41)).alloc (.cells #[.float .f32 r', .float .f32 g', .float .f32 b'] 41)).alloc (.cells #[.float .f32 0, .float .f32 0, .float .f32 0] 41) = wA at a0 a1 a2 b0 b1 b2 c0 c1 c2 cf bel ⊢
      have hswA := bel.size
      refine (isColourB_any _ _ _ _).mono ?_
      rintro e w1 ⟨rfl, hb1⟩
      have cf := frz hb1 c0 cf
      have a0 := keepc hb1 a0
      have a1 := keepc hb1 a1
      have a2 := keepc hb1 a2
      have b0 := keepc hb1 b0
      have b1 := keepc hb1 b1
      have b2 := keepc hb1 b2
      have c0 := keepc hb1 c0
      have c1 := keepc hb1 c1
      have c2 := keepc hb1 c2
      have bel := belowOf bel hb1
      clear hb1
      go_wp2_with fail
      refine (isColourB_any _ _ _ _).mono ?_
      rintro e w2 ⟨rfl, hb2⟩
      have cf := frz hb2 c0 cf
      have a0 := keepc hb2 a0
      have a1 := keepc hb2 a1
      have a2 := keepc hb2 a2
      have b0 := keepc hb2 b0
      have b1 := keepc hb2 b1
      have b2 := keepc hb2 b2
      have c0 := keepc hb2 c0
      have c1 := keepc hb2 c1
      have c2 := keepc hb2 c2
      have bel := belowOf bel hb2
      clear hb2
      go_wp2_with fail
      exact bodyPost_ret (v := .agg #[.float .f32 0, .float .f32 0, .float .f32 0]) (by simp [results, Try.results24, go_sem, c0, c1, c2]) rfl ⟨by simp only [H.out], (by repeat (first | exact Below.refl _ _ | assumption | refine Below.drew ?_ | refine Below.setCell ?_ (by first | (dsimp only; omega) | (simp; omega) | simp) _ | refine Below.alloc ?_ (by first | omega | (simp; omega) | simp) _))⟩
    · have H : Hid (∀ x y, scrF (true && true) x y = diffF one (timesF (diffF one x) (diffF one y))) := fun x y => rfl
      obtain ⟨pr, pg, pb⟩ := isCol_parts hv
      obtain ⟨pr', pg', pb'⟩ := isCol_parts hv'
      have H1 := hide (fun w => inverse_yes r g b w pr pg pb)
      have H2 := hide (fun w => inverse_yes r' g' b' w pr' pg' pb')
      have H3 := hide (fun w => filter_yes _ _ _ _ _ _ w (part_diff pr) (part_diff pg) (part_diff pb) (part_diff pr') (part_diff pg') (part_diff pb'))
      have H4 := hide (fun w => inverse_yes _ _ _ w (part_times (part_diff pr) (part_diff pr')) (part_times (part_diff pg) (part_diff pg')) (part_times (part_diff pb) (part_diff pb')))
      clear pr pg pb pr' pg' pb'
      go_enter Try.func24, Try.ntmps24
      go_wp2_with fail
      have cf : ∀ j, (((w.alloc (.cells #[.float .f32 r, .float .f32 g, .float .f32 b] 41)).alloc (.cells #[.float .f32 r', .float .f32 g', .float .f32 b'] 41)).alloc (.cells #[.float .f32 0, .float .f32 0, .float .f32 0] 41)).frozen? ⟨w.heap.size + 1 + 1, j, none⟩ = false := fun j => by go_simp
      have a0 : (((w.alloc (.cells #[.float .f32 r, .float .f32 g, .float .f32 b] 41)).alloc (.cells #[.float .f32 r', .float .f32 g', .float .f32 b'] 41)).alloc (.cells #[.float .f32 0, .float .f32 0, .float .f32 0] 41)).cell? ⟨w.heap.size, 0, none⟩ = some (.float .f32 r) := by go_simp
      have a1 : (((w.alloc (.cells #[.float .f32 r, .float .f32 g, .float .f32 b] 41)).alloc (.cells #[.float .f32 r', .float .f32 g', .float .f32 b'] 41)).alloc (.cells #[.float .f32 0, .float .f32 0, .float .f32 0] 41)).cell? ⟨w.heap.size, 1, none⟩ = some (.float .f32 g) := by go_simp
      have a2 : (((w.alloc (.cells #[.float .f32 r, .float .f32 g, .float .f32 b] 41)).alloc (.cells #[.float .f32 r', .float .f32 g', .float .f32 b'] 41)).alloc (.cells #[.float .f32 0, .float .f32 0, .float .f32 0] 41)).cell? ⟨w.heap.size, 2, none⟩ = some (.float .f32 b) := by go_simp
      have b0 : (((w.alloc (.cells #[.float .f32 r, .float .f32 g, .float .f32 b] 41)).alloc (.cells #[.float .f32 r', .float .f32 g', .float .f32 b'] 41)).alloc (.cells #[.float .f32 0, .float .f32 0, .float .f32 0] 41)).cell? ⟨w.heap.size + 1, 0, none⟩ = some (.float .f32 r') := by go_simp
      have b1 : (((w.alloc (.cells #[.float .f32 r, .float .f32 g, .float .f32 b] 41)).alloc (.cells #[.float .f32 r', .float .f32 g', .float .f32 b'] 41)).alloc (.cells #[.float .f32 0, .float .f32 0, .float .f32 0] 41)).cell? ⟨w.heap.size + 1, 1, none⟩ = some (.float .f32 g') := by go_simp
      have b2 : (((w.alloc (.cells #[.float .f32 r, .float .f32 g, .float .f32 b] 41)).alloc (.cells #[.float .f32 r', .float .f32 g', .float .f32 b'] 41)).alloc (.cells #[.float .f32 0, .float .f32 0, .float .f32 0] 41)).cell? ⟨w.heap.size + 1, 2, none⟩ = some (.float .f32 b') := by go_simp
      have c0 : (((w.alloc (.cells #[.float .f32 r, .float .f32 g, .float .f32 b] 41)).alloc (.cells #[.float .f32 r', .float .f32 g', .float .f32 b'] 41)).alloc (.cells #[.float .f32 0, .float .f32 0, .float .f32 0] 41)).cell? ⟨w.heap.size + 1 + 1, 0, none⟩ = some (.float .f32 0) := by go_simp
      have c1 : (((w.alloc (.cells #[.float .f32 r, .float .f32 g, .float .f32 b] 41)).alloc (.cells #[.float .f32 r', .float .f32 g', .float .f32 b'] 41)).alloc (.cells #[.float .f32 0, .float .f32 0, .float .f32 0] 41)).cell? ⟨w.heap.size + 1 + 1, 1, none⟩ = some (.float .f32 0) := by go_simp
      have c2 : (((w.alloc (.cells #[.float .f32 r, .float .f32 g, .float .f32 b] 41)).alloc (.cells #[.float .f32 r', .float .f32 g', .float .f32 b'] 41)).alloc (.cells #[.float .f32 0, .float .f32 0, .float .f32 0] 41)).cell? ⟨w.heap.size + 1 + 1, 2, none⟩ = some (.float .f32 0) := by go_simp
      have bel : Below w.heap.size w (((w.alloc (.cells #[.float .f32 r, .float .f32 g, .float .f32 b] 41)).alloc (.cells #[.float .f32 r', .float .f32 g', .float .f32 b'] 41)).alloc (.cells #[.float .f32 0, .float .f32 0, .float .f32 0] 41)) := (by repeat (first | exact Below.refl _ _ | assumption | refine Below.drew ?_ | refine Below.setCell ?_ (by first | (dsimp only; omega) | (simp; omega) | simp) _ | refine Below.alloc ?_ (by first | omega | (simp; omega) | simp) _))
      generalize ((w.alloc (.cells #[.float .f32 r, .float .f32 g, .float .f32 b] 41)).alloc (.cells #[.float .f32 r', .float .f32 g', .float .f32 b'] 41)).alloc (.cells #[.float .f32 0, .float .f32 0, .float .f32 0] 41) = wA at a0 a1 a2 b0 b1 b2 c0 c1 c2 cf bel ⊢
      have hswA := bel.size
      refine (isColourB_any _ _ _ _).mono ?_
      rintro e w1 ⟨rfl, hb1⟩
      have cf := frz hb1 c0 cf
      have a0 := keepc hb1 a0
      have a1 := keepc hb1 a1
      have a2 := keepc hb1 a2
      have b0 := keepc hb1 b0
      have b1 := keepc hb1 b1
      have b2 := keepc hb1 b2
      have c0 := keepc hb1 c0
      have c1 := keepc hb1 c1
      have c2 := keepc hb1 c2
      have bel := belowOf bel hb1
      clear hb1
      go_wp2_with fail
      refine (isColourB_any _ _ _ _).mono ?_
      rintro e w2 ⟨rfl, hb2⟩
      have cf := frz hb2 c0 cf
      have a0 := keepc hb2 a0
      have a1 := keepc hb2 a1
      have a2 := keepc hb2 a2
      have b0 := keepc hb2 b0
      have b1 := keepc hb2 b1
      have b2 := keepc hb2 b2
      have c0 := keepc hb2 c0
      have c1 := keepc hb2 c1
      have c2 := keepc hb2 c2
      have bel := belowOf bel hb2
      clear hb2
      go_wp2_with fail
      have nf0 := Below.refl w2.heap.size w2
      go_region_held3 (fun w' => w'.cell? ⟨w.heap.size, 0, none⟩ = some (.float .f32 r) ∧ w'.cell? ⟨w.heap.size, 1, none⟩ = some (.float .f32 g) ∧ w'.cell? ⟨w.heap.size, 2, none⟩ = some (.float .f32 b) ∧ w'.cell? ⟨w.heap.size + 1, 0, none⟩ = some (.float .f32 r') ∧ w'.cell? ⟨w.heap.size + 1, 1, none⟩ = some (.float .f32 g') ∧ w'.cell? ⟨w.heap.size + 1, 2, none⟩ = some (.float .f32 b'))
        (first | exact ⟨aq0, aq1, aq2, bq0, bq1, bq2⟩ | exact ⟨a0, a1, a2, b0, b1, b2⟩ | (refine ⟨?_, ?_, ?_, ?_, ?_, ?_⟩ <;> (go_simp; done)))
        (first | (go_at_call 59; (first | (with_reducible refine (H1.out _).mono ?_) | (with_reducible refine (H2.out _).mono ?_) | (with_reducible refine (H4.out _).mono ?_)); rintro e wq ⟨rfl, hbq⟩; have bwq : Below w2.heap.size w2 wq := (by refine Below.trans ?_ (hbq.mono ?_); exact (by repeat (first | exact Below.refl _ _ | assumption | refine Below.drew ?_ | refine Below.alloc ?_ (by first | omega | (simp; omega) | simp) _)); first | omega | (simp; done) | (simp; omega)); have hwq := bwq.size; clear hbq; have aq0 := keepc bwq a0; have aq1 := keepc bwq a1; have aq2 := keepc bwq a2; have bq0 := keepc bwq b0; have bq1 := keepc bwq b1; have bq2 := keepc bwq b2; have cfq := frz bwq c0 cf; have cq0 := keepc bwq c0; have cq1 := keepc bwq c1; have cq2 := keepc bwq c2) | (go_at_call 21; refine (H3.out _).mono ?_; rintro e wq ⟨rfl, hbq⟩; have bwq : Below w2.heap.size w2 wq := (by refine Below.trans ?_ (hbq.mono ?_); exact (by repeat (first | exact Below.refl _ _ | assumption | refine Below.drew ?_ | refine Below.alloc ?_ (by first | omega | (simp; omega) | simp) _)); first | omega | (simp; done) | (simp; omega)); have hwq := bwq.size; clear hbq; have aq0 := keepc bwq a0; have aq1 := keepc bwq a1; have aq2 := keepc bwq a2; have bq0 := keepc bwq b0; have bq1 := keepc bwq b1; have bq2 := keepc bwq b2))
      go_wp2_with fail
      have bel := belowOf bel bwq
      exact bodyPost_ret (v := .agg #[.float .f32 (diffF one (timesF (diffF one r) (diffF one r'))), .float .f32 (diffF one (timesF (diffF one g) (diffF one g'))), .float .f32 (diffF one (timesF (diffF one b) (diffF one b')))]) (by simp [results, Try.results24, go_sem, cq0, cq1, cq2]) rfl ⟨by simp only [H.out], (by repeat (first | exact Below.refl _ _ | assumption | refine Below.drew ?_ | refine Below.setCell ?_ (by first | (dsimp only; omega) | (simp; omega) | simp) _ | refine Below.alloc ?_ (by first | omega | (simp; omega) | simp) _))⟩

theorem fin_scrF {r g b r' g' b' : Nat} : fin (scrF (isCol r g b && isCol r' g' b') r r') ∧ fin (scrF (isCol r g b && isCol r' g' b') g g') ∧ fin (scrF (isCol r g b && isCol r' g' b') b b') := by
  cases h : isCol r g b
  · exact ⟨fin_zero, fin_zero, fin_zero⟩
  · cases h' : isCol r' g' b'
    · exact ⟨fin_zero, fin_zero, fin_zero⟩
    · obtain ⟨a1, a2, a3⟩ := isCol_parts h
      obtain ⟨b1, b2, b3⟩ := isCol_parts h'
      exact ⟨part_fin (part_diff (part_times (part_diff a1) (part_diff b1))), part_fin (part_diff (part_times (part_diff a2) (part_diff b2))), part_fin (part_diff (part_times (part_diff a3) (part_diff b3)))⟩

end Go.Proofs.Ytgafdkaiiajieaa
