/- What the reference's FilterColour and InverseColour compute. For all colours and worlds. -/
import Derived.Test.YtenpbnojabhlkaaFilt
namespace Go.Proofs.Ytenpbnojabhlkaa
open Go.RowKit
open Fl

theorem frz {w W : World} {b : Nat} {v : Value} (h : Below w.heap.size w W) (hc : w.cell? ⟨b, 0, none⟩ = some v) (hf : ∀ j, w.frozen? ⟨b, j, none⟩ = false) (j : Nat) : W.frozen? ⟨b, j, none⟩ = false :=
  (h.frozen (p := ⟨b, j, none⟩) (show b < _ from World.block_lt_of_cell? w ⟨b, 0, none⟩ hc)).trans (hf j)

set_option maxHeartbeats 2000000 in
theorem sFilter_any (r g b r' g' b' : Nat) (w : World) :
    Calls Try.prog 22 #[.agg #[.float .f32 r, .float .f32 g, .float .f32 b], .agg #[.float .f32 r', .float .f32 g', .float .f32 b']] w fun e w' => e = .returned (.agg #[.float .f32 (filF (isCol r g b && isCol r' g' b') r r'), .float .f32 (filF (isCol r g b && isCol r' g' b') g g'), .float .f32 (filF (isCol r g b && isCol r' g' b') b b')]) ∧ Below w.heap.size w w' := by
  have kr : w.heap.size ≤ w.heap.size + 1 + 1 := by omega
  cases hv : isCol r g b
  · have H : Hid (∀ x y, filF (false && isCol r' g' b') x y = 0) := fun x y => rfl
    go_enter Try.func22, Try.ntmps22
    go_wp2_with fail
    have cf : ∀ j, (((w.alloc (.cells #[.float .f32 r, .float .f32 g, .float .f32 b] 26)).alloc (.cells #[.float .f32 r', .float .f32 g', .float .f32 b'] 26)).alloc (.cells #[.float .f32 0, .float .f32 0, .float .f32 0] 26)).frozen? ⟨w.heap.size + 1 + 1, j, none⟩ = false := fun j => by go_simp
    have a0 : (((w.alloc (.cells #[.float .f32 r, .float .f32 g, .float .f32 b] 26)).alloc (.cells #[.float .f32 r', .float .f32 g', .float .f32 b'] 26)).alloc (.cells #[.float .f32 0, .float .f32 0, .float .f32 0] 26)).cell? ⟨w.heap.size, 0, none⟩ = some (.float .f32 r) := by go_simp
    have a1 : (((w.alloc (.cells #[.float .f32 r, .float .f32 g, .float .f32 b] 26)).alloc (.cells #[.float .f32 r', .float .f32 g', .float .f32 b'] 26)).alloc (.cells #[.float .f32 0, .float .f32 0, .float .f32 0] 26)).cell? ⟨w.heap.size, 1, none⟩ = some (.float .f32 g) := by go_simp
    have a2 : (((w.alloc (.cells #[.float .f32 r, .float .f32 g, .float .f32 b] 26)).alloc (.cells #[.float .f32 r', .float .f32 g', .float .f32 b'] 26)).alloc (.cells #[.float .f32 0, .float .f32 0, .float .f32 0] 26)).cell? ⟨w.heap.size, 2, none⟩ = some (.float .f32 b) := by go_simp
    have b0 : (((w.alloc (.cells #[.float .f32 r, .float .f32 g, .float .f32 b] 26)).alloc (.cells #[.float .f32 r', .float .f32 g', .float .f32 b'] 26)).alloc (.cells #[.float .f32 0, .float .f32 0, .float .f32 0] 26)).cell? ⟨w.heap.size + 1, 0, none⟩ = some (.float .f32 r') := by go_simp
    have b1 : (((w.alloc (.cells #[.float .f32 r, .float .f32 g, .float .f32 b] 26)).alloc (.cells #[.float .f32 r', .float .f32 g', .float .f32 b'] 26)).alloc (.cells #[.float .f32 0, .float .f32 0, .float .f32 0] 26)).cell? ⟨w.heap.size + 1, 1, none⟩ = some (.float .f32 g') := by go_simp
    have b2 : (((w.alloc (.cells #[.float .f32 r, .float .f32 g, .float .f32 b] 26)).alloc (.cells #[.float .f32 r', .float .f32 g', .float .f32 b'] 26)).alloc (.cells #[.float .f32 0, .float .f32 0, .float .f32 0] 26)).cell? ⟨w.heap.size + 1, 2, none⟩ = some (.float .f32 b') := by go_simp
    have c0 : (((w.alloc (.cells #[.float .f32 r, .float .f32 g, .float .f32 b] 26)).alloc (.cells #[.float .f32 r', .float .f32 g', .float .f32 b'] 26)).alloc (.cells #[.float .f32 0, .float .f32 0, .float .f32 0] 26)).cell? ⟨w.heap.size + 1 + 1, 0, none⟩ = some (.float .f32 0) := by go_simp
    have c1 : (((w.alloc (.cells #[.float .f32 r, .float .f32 g, .float .f32 b] 26)).alloc (.cells #[.float .f32 r', .float .f32 g', .float .f32 b'] 26)).alloc (.cells #[.float .f32 0, .float .f32 0, .float .f32 0] 26)).cell? ⟨w.heap.size + 1 + 1, 1, none⟩ = some (.float .f32 0) := by go_simp
    have c2 : (((w.alloc (.cells #[.float .f32 r, .float .f32 g, .float .f32 b] 26)).alloc (.cells #[.float .f32 r', .float .f32 g', .float .f32 b'] 26)).alloc (.cells #[.float .f32 0, .float .f32 0, .float .f32 0] 26)).cell? ⟨w.heap.size + 1 + 1, 2, none⟩ = some (.float .f32 0) := by go_simp
    have bel : Below w.heap.size w (((w.alloc (.cells #[.float .f32 r, .float .f32 g, .float .f32 b] 26)).alloc (.cells #[.float .f32 r', .float .f32 g', .float .f32 b'] 26)).alloc (.cells #[.float .f32 0, .float .f32 0, .float .f32 0] 26)) := (by repeat (first | exact Below.refl _ _ | assumption | refine Below.drew ?_ | refine Below.setCell ?_ (by first | (dsimp only; omega) | (simp; omega) | simp) _ | refine Below.alloc ?_ (by first | omega | (simp; omega) | simp) _))
    generalize ((w.alloc (.cells #[.float .f32 r, .float .f32 g, .float .f32 b] 26)).alloc (.cells #[.float .f32 r', .float .f32 g', .float .f32 b'] 26)).alloc (.cells #[.float .f32 0, .float .f32 0, .float .f32 0] 26) = wA at a0 a1 a2 b0 b1 b2 c0 c1 c2 cf bel ⊢
    have hswA := bel.size
    refine (sIsColour_any _ _ _ _).mono ?_
    rintro e w1 ⟨rfl, hb1⟩
    have cf := frz hb1 c0 cf
    have a0 := keepc hb1 a0
    have a1 := keepc hb1 a1
    have a2 := keepc hb1 a2
    have b0 := keepc hb1 b0
    have b1 := keepc hb1 b1
    have b2 := keepc hb1 b2
    have c0 := keepc hb1 c0
    have c1 := keepc hb1 c1
    have c2 := keepc hb1 c2
    have bel := belowOf bel hb1
    go_wp2_with fail
    exact bodyPost_ret (v := .agg #[.float .f32 0, .float .f32 0, .float .f32 0]) (by simp [results, Try.results22, go_sem, c0, c1, c2]) rfl ⟨by simp only [H.out], (by repeat (first | exact Below.refl _ _ | assumption | refine Below.drew ?_ | refine Below.setCell ?_ (by first | (dsimp only; omega) | (simp; omega) | simp) _ | refine Below.alloc ?_ (by first | omega | (simp; omega) | simp) _))⟩
  · cases hv' : isCol r' g' b'
    · have H : Hid (∀ x y, filF (true && false) x y = 0) := fun x y => rfl
      go_enter Try.func22, Try.ntmps22
      go_wp2_with fail
      have cf : ∀ j, (((w.alloc (.cells #[.float .f32 r, .float .f32 g, .float .f32 b] 26)).alloc (.cells #[.float .f32 r', .float .f32 g', .float .f32 b'] 26)).alloc (.cells #[.float .f32 0, .float .f32 0, .float .f32 0] 26)).frozen? ⟨w.heap.size + 1 + 1, j, none⟩ = false := fun j => by go_simp
      have a0 : (((w.alloc (.cells #[.float .f32 r, .float .f32 g, .float .f32 b] 26)).alloc (.cells #[.float .f32 r', .float .f32 g', .float .f32 b'] 26)).alloc (.cells #[.float .f32 0, .float .f32 0, .float .f32 0] 26)).cell? ⟨w.heap.size, 0, none⟩ = some (.float .f32 r) := by go_simp
      have a1 : (((w.alloc (.cells #[.float .f32 r, .float .f32 g, .float .f32 b] 26)).alloc (.cells #[.float .f32 r', .float .f32 g', .float .f32 b'] 26)).alloc (.cells #[.float .f32 0, .float .f32 0, .float .f32 0] 26)).cell? ⟨w.heap.size, 1, none⟩ = some (.float .f32 g) := by go_simp
      have a2 : (((w.alloc (.cells #[.float .f32 r, .float .f32 g, .float .f32 b] 26)).alloc (.cells #[.float .f32 r', .float .f32 g', .float .f32 b'] 26)).alloc (.cells #[.float .f32 0, .float .f32 0, .float .f32 0] 26)).cell? ⟨w.heap.size, 2, none⟩ = some (.float .f32 b) := by go_simp
      have b0 : (((w.alloc (.cells #[.float .f32 r, .float .f32 g, .float .f32 b] 26)).alloc (.cells #[.float .f32 r', .float .f32 g', .float .f32 b'] 26)).alloc (.cells #[.float .f32 0, .float .f32 0, .float .f32 0] 26)).cell? ⟨w.heap.size + 1, 0, none⟩ = some (.float .f32 r') := by go_simp
      have b1 : (((w.alloc (.cells #[.float .f32 r, .float .f32 g, .float .f32 b] 26)).alloc (.cells #[.float .f32 r', .float .f32 g', .float .f32 b'] 26)).alloc (.cells #[.float .f32 0, .float .f32 0, .float .f32 0] 26)).cell? ⟨w.heap.size + 1, 1, none⟩ = some (.float .f32 g') := by go_simp
      have b2 : (((w.alloc (.cells #[.float .f32 r, .float .f32 g, .float .f32 b] 26)).alloc (.cells #[.float .f32 r', .float .f32 g', .float .f32 b'] 26)).alloc (.cells #[.float .f32 0, .float .f32 0, .float .f32 0] 26)).cell? ⟨w.heap.size + 1, 2, none⟩ = some (.float .f32 b') := by go_simp
      have c0 : (((w.alloc (.cells #[.float .f32 r, .float .f32 g, .float .f32 b] 26)).alloc (.cells #[.float .f32 r', .float .f32 g', .float .f32 b'] 26)).alloc (.cells #[.float .f32 0, .float .f32 0, .float .f32 0] 26)).cell? ⟨w.heap.size + 1 + 1, 0, none⟩ = some (.float .f32 0) := by go_simp
      have c1 : (((w.alloc (.cells #[.float .f32 r, .float .f32 g, .float .f32 b] 26)).alloc (.cells #[.float .f32 r', .float .f32 g', .float .f32 b'] 26)).alloc (.cells #[.float .f32 0, .float .f32 0, .float .f32 0] 26)).cell? ⟨w.heap.size + 1 + 1, 1, none⟩ = some (.float .f32 0) := by go_simp
      have c2 : (((w.alloc (.cells #[.float .f32 r, .float .f32 g, .float .f32 b] 26)).alloc (.cells #[.float .f32 r', .float .f32 g', .float .f32 b'] 26)).alloc (.cells #[.float .f32 0, .float .f32 0, .float .f32 0] 26)).cell? ⟨w.heap.size + 1 + 1, 2, none⟩ = some (.float .f32 0) := by go_simp
      have bel : Below w.heap.size w (((w.alloc (.cells #[.float .f32 r, .float .f32 g, .float .f32 b] 26)).alloc (.cells #[.float .f32 r', .float .f32 g', .float .f32 b'] 26)).alloc (.cells #[.float .f32 0, .float .f32 0, .float .f32 0] 26)) := (by repeat (first | exact Below.refl _ _ | assumption | refine Below.drew ?_ | refine Below.setCell ?_ (by first | (dsimp only; omega) | (simp; omega) | simp) _ | refine Below.alloc ?_ (by first | omega | (simp; omega) | simp) _))
      generalize ((w.alloc (.cells #[.float .f32 r, .float .f32 g, .float .f32 b] 26)).alloc (.cells #[.float .f32 r', .float .f32 g', .float .f32 b'] 26)).alloc (.cells #[.float .f32 0, .float .f32 0, .float .f32 0] 26) = wA at a0 a1 a2 b0 b1 b2 c0 c1 c2 cf bel ⊢
      have hswA := bel.size
      refine (sIsColour_any _ _ _ _).mono ?_
      rintro e w1 ⟨rfl, hb1⟩
      have cf := frz hb1 c0 cf
      have a0 := keepc hb1 a0
      have a1 := keepc hb1 a1
      have a2 := keepc hb1 a2
      have b0 := keepc hb1 b0
      have b1 := keepc hb1 b1
      have b2 := keepc hb1 b2
      have c0 := keepc hb1 c0
      have c1 := keepc hb1 c1
      have c2 := keepc hb1 c2
      have bel := belowOf bel hb1
      go_wp2_with fail
      refine (sIsColour_any _ _ _ _).mono ?_
      rintro e w2 ⟨rfl, hb2⟩
      have cf := frz hb2 c0 cf
      have a0 := keepc hb2 a0
      have a1 := keepc hb2 a1
      have a2 := keepc hb2 a2
      have b0 := keepc hb2 b0
      have b1 := keepc hb2 b1
      have b2 := keepc hb2 b2
      have c0 := keepc hb2 c0
      have c1 := keepc hb2 c1
      have c2 := keepc hb2 c2
      have bel := belowOf bel hb2
      go_wp2_with fail
      exact bodyPost_ret (v := .agg #[.float .f32 0, .float .f32 0, .float .f32 0]) (by simp [results, Try.results22, go_sem, c0, c1, c2]) rfl ⟨by simp only [H.out], (by repeat (first | exact Below.refl _ _ | assumption | refine Below.drew ?_ | refine Below.setCell ?_ (by first | (dsimp only; omega) | (simp; omega) | simp) _ | refine Below.alloc ?_ (by first | omega | (simp; omega) | simp) _))⟩
    · have H : Hid (∀ x y, filF (true && true) x y = timesF x y) := fun x y => rfl
      obtain ⟨pr, pg, pb⟩ := isCol_parts hv
      obtain ⟨pr', pg', pb'⟩ := isCol_parts hv'
      have H1 := hide (fun w => l1Times_fin r r' w (part_fin pr) (part_fin pr') (times_fin_part pr pr'))
      have H2 := hide (fun w => l1Times_fin g g' w (part_fin pg) (part_fin pg') (times_fin_part pg pg'))
      have H3 := hide (fun w => l1Times_fin b b' w (part_fin pb) (part_fin pb') (times_fin_part pb pb'))
      clear pr pg pb pr' pg' pb'
      go_enter Try.func22, Try.ntmps22
      go_wp2_with fail
      have cf : ∀ j, (((w.alloc (.cells #[.float .f32 r, .float .f32 g, .float .f32 b] 26)).alloc (.cells #[.float .f32 r', .float .f32 g', .float .f32 b'] 26)).alloc (.cells #[.float .f32 0, .float .f32 0, .float .f32 0] 26)).frozen? ⟨w.heap.size + 1 + 1, j, none⟩ = false := fun j => by go_simp
      have a0 : (((w.alloc (.cells #[.float .f32 r, .float .f32 g, .float .f32 b] 26)).alloc (.cells #[.float .f32 r', .float .f32 g', .float .f32 b'] 26)).alloc (.cells #[.float .f32 0, .float .f32 0, .float .f32 0] 26)).cell? ⟨w.heap.size, 0, none⟩ = some (.float .f32 r) := by go_simp
      have a1 : (((w.alloc (.cells #[.float .f32 r, .float .f32 g, .float .f32 b] 26)).alloc (.cells #[.float .f32 r', .float .f32 g', .float .f32 b'] 26)).alloc (.cells #[.float .f32 0, .float .f32 0, .float .f32 0] 26)).cell? ⟨w.heap.size, 1, none⟩ = some (.float .f32 g) := by go_simp
      have a2 : (((w.alloc (.cells #[.float .f32 r, .float .f32 g, .float .f32 b] 26)).alloc (.cells #[.float .f32 r', .float .f32 g', .float .f32 b'] 26)).alloc (.cells #[.float .f32 0, .float .f32 0, .float .f32 0] 26)).cell? ⟨w.heap.size, 2, none⟩ = some (.float .f32 b) := by go_simp
      have b0 : (((w.alloc (.cells #[.float .f32 r, .float .f32 g, .float .f32 b] 26)).alloc (.cells #[.float .f32 r', .float .f32 g', .float .f32 b'] 26)).alloc (.cells #[.float .f32 0, .float .f32 0, .float .f32 0] 26)).cell? ⟨w.heap.size + 1, 0, none⟩ = some (.float .f32 r') := by go_simp
      have b1 : (((w.alloc (.cells #[.float .f32 r, .float .f32 g, .float .f32 b] 26)).alloc (.cells #[.float .f32 r', .float .f32 g', .float .f32 b'] 26)).alloc (.cells #[.float .f32 0, .float .f32 0, .float .f32 0] 26)).cell? ⟨w.heap.size + 1, 1, none⟩ = some (.float .f32 g') := by go_simp
      have b2 : (((w.alloc (.cells #[.float .f32 r, .float .f32 g, .float .f32 b] 26)).alloc (.cells #[.float .f32 r', .float .f32 g', .float .f32 b'] 26)).alloc (.cells #[.float .f32 0, .float .f32 0, .float .f32 0] 26)).cell? ⟨w.heap.size + 1, 2, none⟩ = some (.float .f32 b') := by go_simp
      have c0 : (((w.alloc (.cells #[.float .f32 r, .float .f32 g, .float .f32 b] 26)).alloc (.cells #[.float .f32 r', .float .f32 g', .float .f32 b'] 26)).alloc (.cells #[.float .f32 0, .float .f32 0, .float .f32 0] 26)).cell? ⟨w.heap.size + 1 + 1, 0, none⟩ = some (.float .f32 0) := by go_simp
      have c1 : (((w.alloc (.cells #[.float .f32 r, .float .f32 g, .float .f32 b] 26)).alloc (.cells #[.float .f32 r', .float .f32 g', .float .f32 b'] 26)).alloc (.cells #[.float .f32 0, .float .f32 0, .float .f32 0] 26)).cell? ⟨w.heap.size + 1 + 1, 1, none⟩ = some (.float .f32 0) := by go_simp
      have c2 : (((w.alloc (.cells #[.float .f32 r, .float .f32 g, .float .f32 b] 26)).alloc (.cells #[.float .f32 r', .float .f32 g', .float .f32 b'] 26)).alloc (.cells #[.float .f32 0, .float .f32 0, .float .f32 0] 26)).cell? ⟨w.heap.size + 1 + 1, 2, none⟩ = some (.float .f32 0) := by go_simp
      have bel : Below w.heap.size w (((w.alloc (.cells #[.float .f32 r, .float .f32 g, .float .f32 b] 26)).alloc (.cells #[.float .f32 r', .float .f32 g', .float .f32 b'] 26)).alloc (.cells #[.float .f32 0, .float .f32 0, .float .f32 0] 26)) := (by repeat (first | exact Below.refl _ _ | assumption | refine Below.drew ?_ | refine Below.setCell ?_ (by first | (dsimp only; omega) | (simp; omega) | simp) _ | refine Below.alloc ?_ (by first | omega | (simp; omega) | simp) _))
      generalize ((w.alloc (.cells #[.float .f32 r, .float .f32 g, .float .f32 b] 26)).alloc (.cells #[.float .f32 r', .float .f32 g', .float .f32 b'] 26)).alloc (.cells #[.float .f32 0, .float .f32 0, .float .f32 0] 26) = wA at a0 a1 a2 b0 b1 b2 c0 c1 c2 cf bel ⊢
      have hswA := bel.size
      refine (sIsColour_any _ _ _ _).mono ?_
      rintro e w1 ⟨rfl, hb1⟩
      have cf := frz hb1 c0 cf
      have a0 := keepc hb1 a0
      have a1 := keepc hb1 a1
      have a2 := keepc hb1 a2
      have b0 := keepc hb1 b0
      have b1 := keepc hb1 b1
      have b2 := keepc hb1 b2
      have c0 := keepc hb1 c0
      have c1 := keepc hb1 c1
      have c2 := keepc hb1 c2
      have bel := belowOf bel hb1
      go_wp2_with fail
      refine (sIsColour_any _ _ _ _).mono ?_
      rintro e w2 ⟨rfl, hb2⟩
      have cf := frz hb2 c0 cf
      have a0 := keepc hb2 a0
      have a1 := keepc hb2 a1
      have a2 := keepc hb2 a2
      have b0 := keepc hb2 b0
      have b1 := keepc hb2 b1
      have b2 := keepc hb2 b2
      have c0 := keepc hb2 c0
      have c1 := keepc hb2 c1
      have c2 := keepc hb2 c2
      have bel := belowOf bel hb2
      clear hb1 hb2
      go_wp2_with fail
      go_region_held3 (fun w' => w'.cell? ⟨w.heap.size, 0, none⟩ = some (.float .f32 r) ∧ w'.cell? ⟨w.heap.size, 1, none⟩ = some (.float .f32 g) ∧ w'.cell? ⟨w.heap.size, 2, none⟩ = some (.float .f32 b) ∧ w'.cell? ⟨w.heap.size + 1, 0, none⟩ = some (.float .f32 r') ∧ w'.cell? ⟨w.heap.size + 1, 1, none⟩ = some (.float .f32 g') ∧ w'.cell? ⟨w.heap.size + 1, 2, none⟩ = some (.float .f32 b'))
        (first | exact ⟨a0, a1, a2, b0, b1, b2⟩ | (refine ⟨?_, ?_, ?_, ?_, ?_, ?_⟩ <;> (go_simp; done)))
        (first | (go_at_call 43; (first | (with_reducible refine (H1.out _).mono ?_) | (with_reducible refine (H2.out _).mono ?_) | (with_reducible refine (H3.out _).mono ?_)); rintro e w' ⟨rfl, rfl⟩))
      go_wp2_with fail
      exact bodyPost_ret (v := .agg #[.float .f32 (timesF r r'), .float .f32 (timesF g g'), .float .f32 (timesF b b')]) (by simp [results, Try.results22, go_sem, c0, c1, c2]) rfl ⟨by simp only [H.out], (by repeat (first | exact Below.refl _ _ | assumption | refine Below.drew ?_ | refine Below.setCell ?_ (by first | (dsimp only; omega) | (simp; omega) | simp) _ | refine Below.alloc ?_ (by first | omega | (simp; omega) | simp) _))⟩

set_option maxHeartbeats 2000000 in
theorem sInverse_any (r g b : Nat) (w : World) :
    Calls Try.prog 24 #[.agg #[.float .f32 r, .float .f32 g, .float .f32 b]] w fun e w' => e = .returned (.agg #[.float .f32 (invF (isCol r g b) r), .float .f32 (invF (isCol r g b) g), .float .f32 (invF (isCol r g b) b)]) ∧ Below w.heap.size w w' := by
  have kr : w.heap.size ≤ w.heap.size + 1 := by omega
  cases hv : isCol r g b
  · have H : Hid (∀ x, invF false x = 0) := fun x => rfl
    have _t : True := trivial
    · go_enter Try.func24, Try.ntmps24
      go_wp2_with fail
      have cf : ∀ j, ((w.alloc (.cells #[.float .f32 r, .float .f32 g, .float .f32 b] 26)).alloc (.cells #[.float .f32 0, .float .f32 0, .float .f32 0] 26)).frozen? ⟨w.heap.size + 1, j, none⟩ = false := fun j => by go_simp
      have a0 : ((w.alloc (.cells #[.float .f32 r, .float .f32 g, .float .f32 b] 26)).alloc (.cells #[.float .f32 0, .float .f32 0, .float .f32 0] 26)).cell? ⟨w.heap.size, 0, none⟩ = some (.float .f32 r) := by go_simp
      have a1 : ((w.alloc (.cells #[.float .f32 r, .float .f32 g, .float .f32 b] 26)).alloc (.cells #[.float .f32 0, .float .f32 0, .float .f32 0] 26)).cell? ⟨w.heap.size, 1, none⟩ = some (.float .f32 g) := by go_simp
      have a2 : ((w.alloc (.cells #[.float .f32 r, .float .f32 g, .float .f32 b] 26)).alloc (.cells #[.float .f32 0, .float .f32 0, .float .f32 0] 26)).cell? ⟨w.heap.size, 2, none⟩ = some (.float .f32 b) := by go_simp
      have c0 : ((w.alloc (.cells #[.float .f32 r, .float .f32 g, .float .f32 b] 26)).alloc (.cells #[.float .f32 0, .float .f32 0, .float .f32 0] 26)).cell? ⟨w.heap.size + 1, 0, none⟩ = some (.float .f32 0) := by go_simp
      have c1 : ((w.alloc (.cells #[.float .f32 r, .float .f32 g, .float .f32 b] 26)).alloc (.cells #[.float .f32 0, .float .f32 0, .float .f32 0] 26)).cell? ⟨w.heap.size + 1, 1, none⟩ = some (.float .f32 0) := by go_simp
      have c2 : ((w.alloc (.cells #[.float .f32 r, .float .f32 g, .float .f32 b] 26)).alloc (.cells #[.float .f32 0, .float .f32 0, .float .f32 0] 26)).cell? ⟨w.heap.size + 1, 2, none⟩ = some (.float .f32 0) := by go_simp
      have bel : Below w.heap.size w ((w.alloc (.cells #[.float .f32 r, .float .f32 g, .float .f32 b] 26)).alloc (.cells #[.float .f32 0, .float .f32 0, .float .f32 0] 26)) := (by repeat (first | exact Below.refl _ _ | assumption | refine Below.drew ?_ | refine Below.setCell ?_ (by first | (dsimp only; omega) | (simp; omega) | simp) _ | refine Below.alloc ?_ (by first | omega | (simp; omega) | simp) _))
      generalize (w.alloc (.cells #[.float .f32 r, .float .f32 g, .float .f32 b] 26)).alloc (.cells #[.float .f32 0, .float .f32 0, .float .f32 0] 26) = wA at a0 a1 a2 c0 c1 c2 cf bel ⊢
      have hswA := bel.size
      refine (sIsColour_any _ _ _ _).mono ?_
      rintro e w1 ⟨rfl, hb1⟩
      have cf := frz hb1 c0 cf
      have a0 := keepc hb1 a0
      have a1 := keepc hb1 a1
      have a2 := keepc hb1 a2
      have c0 := keepc hb1 c0
      have c1 := keepc hb1 c1
      have c2 := keepc hb1 c2
      have bel := belowOf bel hb1
      clear hb1
      go_wp2_with fail
      exact bodyPost_ret (v := .agg #[.float .f32 0, .float .f32 0, .float .f32 0]) (by simp [results, Try.results24, go_sem, c0, c1, c2]) rfl ⟨by simp only [H.out], (by repeat (first | exact Below.refl _ _ | assumption | refine Below.drew ?_ | refine Below.setCell ?_ (by first | (dsimp only; omega) | (simp; omega) | simp) _ | refine Below.alloc ?_ (by first | omega | (simp; omega) | simp) _))⟩
  · have H : Hid (∀ x, invF true x = diffF one x) := fun x => rfl
    obtain ⟨pr, pg, pb⟩ := isCol_parts hv
    have H1 := hide (fun w => l1Minus_fin one r w fin_one (part_fin pr) (diff_fin_part pr))
    have H2 := hide (fun w => l1Minus_fin one g w fin_one (part_fin pg) (diff_fin_part pg))
    have H3 := hide (fun w => l1Minus_fin one b w fin_one (part_fin pb) (diff_fin_part pb))
    clear pr pg pb
    · go_enter Try.func24, Try.ntmps24
      go_wp2_with fail
      have cf : ∀ j, ((w.alloc (.cells #[.float .f32 r, .float .f32 g, .float .f32 b] 26)).alloc (.cells #[.float .f32 0, .float .f32 0, .float .f32 0] 26)).frozen? ⟨w.heap.size + 1, j, none⟩ = false := fun j => by go_simp
      have a0 : ((w.alloc (.cells #[.float .f32 r, .float .f32 g, .float .f32 b] 26)).alloc (.cells #[.float .f32 0, .float .f32 0, .float .f32 0] 26)).cell? ⟨w.heap.size, 0, none⟩ = some (.float .f32 r) := by go_simp
      have a1 : ((w.alloc (.cells #[.float .f32 r, .float .f32 g, .float .f32 b] 26)).alloc (.cells #[.float .f32 0, .float .f32 0, .float .f32 0] 26)).cell? ⟨w.heap.size, 1, none⟩ = some (.float .f32 g) := by go_simp
      have a2 : ((w.alloc (.cells #[.float .f32 r, .float .f32 g, .float .f32 b] 26)).alloc (.cells #[.float .f32 0, .float .f32 0, .float .f32 0] 26)).cell? ⟨w.heap.size, 2, none⟩ = some (.float .f32 b) := by go_simp
      have c0 : ((w.alloc (.cells #[.float .f32 r, .float .f32 g, .float .f32 b] 26)).alloc (.cells #[.float .f32 0, .float .f32 0, .float .f32 0] 26)).cell? ⟨w.heap.size + 1, 0, none⟩ = some (.float .f32 0) := by go_simp
      have c1 : ((w.alloc (.cells #[.float .f32 r, .float .f32 g, .float .f32 b] 26)).alloc (.cells #[.float .f32 0, .float .f32 0, .float .f32 0] 26)).cell? ⟨w.heap.size + 1, 1, none⟩ = some (.float .f32 0) := by go_simp
      have c2 : ((w.alloc (.cells #[.float .f32 r, .float .f32 g, .float .f32 b] 26)).alloc (.cells #[.float .f32 0, .float .f32 0, .float .f32 0] 26)).cell? ⟨w.heap.size + 1, 2, none⟩ = some (.float .f32 0) := by go_simp
      have bel : Below w.heap.size w ((w.alloc (.cells #[.float .f32 r, .float .f32 g, .float .f32 b] 26)).alloc (.cells #[.float .f32 0, .float .f32 0, .float .f32 0] 26)) := (by repeat (first | exact Below.refl _ _ | assumption | refine Below.drew ?_ | refine Below.setCell ?_ (by first | (dsimp only; omega) | (simp; omega) | simp) _ | refine Below.alloc ?_ (by first | omega | (simp; omega) | simp) _))
      generalize (w.alloc (.cells #[.float .f32 r, .float .f32 g, .float .f32 b] 26)).alloc (.cells #[.float .f32 0, .float .f32 0, .float .f32 0] 26) = wA at a0 a1 a2 c0 c1 c2 cf bel ⊢
      have hswA := bel.size
      refine (sIsColour_any _ _ _ _).mono ?_
      rintro e w1 ⟨rfl, hb1⟩
      have cf := frz hb1 c0 cf
      have a0 := keepc hb1 a0
      have a1 := keepc hb1 a1
      have a2 := keepc hb1 a2
      have c0 := keepc hb1 c0
      have c1 := keepc hb1 c1
      have c2 := keepc hb1 c2
      have bel := belowOf bel hb1
      clear hb1
      go_wp2_with fail
      go_region_held3 (fun w' => w'.cell? ⟨w.heap.size, 0, none⟩ = some (.float .f32 r) ∧ w'.cell? ⟨w.heap.size, 1, none⟩ = some (.float .f32 g) ∧ w'.cell? ⟨w.heap.size, 2, none⟩ = some (.float .f32 b))
        (first | exact ⟨a0, a1, a2⟩ | (refine ⟨?_, ?_, ?_⟩ <;> (go_simp; done)))
        (first | (go_at_call 46; (first | (with_reducible refine (H1.out _).mono ?_) | (with_reducible refine (H2.out _).mono ?_) | (with_reducible refine (H3.out _).mono ?_)); rintro e w' ⟨rfl, rfl⟩))
      go_wp2_with fail
      exact bodyPost_ret (v := .agg #[.float .f32 (diffF one r), .float .f32 (diffF one g), .float .f32 (diffF one b)]) (by simp [results, Try.results24, go_sem, c0, c1, c2]) rfl ⟨by simp only [H.out], (by repeat (first | exact Below.refl _ _ | assumption | refine Below.drew ?_ | refine Below.setCell ?_ (by first | (dsimp only; omega) | (simp; omega) | simp) _ | refine Below.alloc ?_ (by first | omega | (simp; omega) | simp) _))⟩

end Go.Proofs.Ytenpbnojabhlkaa
