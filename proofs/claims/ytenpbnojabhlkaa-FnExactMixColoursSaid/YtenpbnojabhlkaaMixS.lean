/- What the reference's MixColours computes. For all colours, shares and worlds. -/
import Derived.Test.YtenpbnojabhlkaaMixI
namespace Go.Proofs.Ytenpbnojabhlkaa
open Go.RowKit
open Fl

set_option maxHeartbeats 4000000 in
theorem sMix_any (r g b r' g' b' k : Nat) (w : World) :
    Calls Try.prog 32 #[.agg #[.float .f32 r, .float .f32 g, .float .f32 b], .agg #[.float .f32 r', .float .f32 g', .float .f32 b'], .float .f32 k] w fun e w' => e = .returned (.agg #[.float .f32 (mixV (isCol r g b && isCol r' g' b' && part k) k r r'), .float .f32 (mixV (isCol r g b && isCol r' g' b' && part k) k g g'), .float .f32 (mixV (isCol r g b && isCol r' g' b' && part k) k b b')]) ∧ Below w.heap.size w w' := by
  have kr : w.heap.size ≤ w.heap.size + 1 + 1 := by omega
  cases hv : isCol r g b
  · have H : Hid (∀ x y, mixV (false && isCol r' g' b' && part k) k x y = 0) := fun x y => rfl
    go_enter Try.func32, Try.ntmps32
    go_wp2_with fail
    have cf : ∀ j, (((w.alloc (.cells #[.float .f32 r, .float .f32 g, .float .f32 b] 26)).alloc (.cells #[.float .f32 r', .float .f32 g', .float .f32 b'] 26)).alloc (.cells #[.float .f32 0, .float .f32 0, .float .f32 0] 26)).frozen? ⟨w.heap.size + 1 + 1, j, none⟩ = false := fun j => by go_simp
    have a0 : (((w.alloc (.cells #[.float .f32 r, .float .f32 g, .float .f32 b] 26)).alloc (.cells #[.float .f32 r', .float .f32 g', .float .f32 b'] 26)).alloc (.cells #[.float .f32 0, .float .f32 0, .float .f32 0] 26)).cell? ⟨w.heap.size, 0, none⟩ = some (.float .f32 r) := by go_simp
    have a1 : (((w.alloc (.cells #[.float .f32 r, .float .f32 g, .float .f32 b] 26)).alloc (.cells #[.float .f32 r', .float .f32 g', .float .f32 b'] 26)).alloc (.cells #[.float .f32 0, .float .f32 0, .float .f32 0] 26)).cell? ⟨w.heap.size, 1, none⟩ = some (.float .f32 g) := by go_simp
    have a2 : (((w.alloc (.cells #[.float .f32 r, .float .f32 g, .float .f32 b] 26)).alloc (.cells #[.float .f32 r', .float .f32 g', .float .f32 b'] 26)).alloc (.cells #[.float .f32 0, .float .f32 0, .float .f32 0] 26)).cell? ⟨w.heap.size, 2, none⟩ = some (.float .f32 b) := by go_simp
    have b0 : (((w.alloc (.cells #[.float .f32 r, .float .f32 g, .float .f32 b] 26)).alloc (.cells #[.float .f32 r', .float .f32 g', .float .f32 b'] 26)).alloc (.cells #[.float .f32 0, .float .f32 0, .float .f32 0] 26)).cell? ⟨w.heap.size + 1, 0, none⟩ = some (.float .f32 r') := by go_simp
    have b1 : (((w.alloc (.cells #[.float .f32 r, .float .f32 g, .float .f32 b] 26)).alloc (.cells #[.float .f32 r', .float .f32 g', .float .f32 b'] 26)).alloc (.cells #[.float .f32 0, .float .f32 0, .float .f32 0] 26)).cell? ⟨w.heap.size + 1, 1, none⟩ = some (.float .f32 g') := by go_simp
    have b2 : (((w.alloc (.cells #[.float .f32 r, .float .f32 g, .float .f32 b] 26)).alloc (.cells #[.float .f32 r', .float .f32 g', .float .f32 b'] 26)).alloc (.cells #[.float .f32 0, .float .f32 0, .float .f32 0] 26)).cell? ⟨w.heap.size + 1, 2, none⟩ = some (.float .f32 b') := by go_simp
    have c0 : (((w.alloc (.cells #[.float .f32 r, .float .f32 g, .float .f32 b] 26)).alloc (.cells #[.float .f32 r', .float .f32 g', .float .f32 b'] 26)).alloc (.cells #[.float .f32 0, .float .f32 0, .float .f32 0] 26)).cell? ⟨w.heap.size + 1 + 1, 0, none⟩ = some (.float .f32 0) := by go_simp
    have c1 : (((w.alloc (.cells #[.float .f32 r, .float .f32 g, .float .f32 b] 26)).alloc (.cells #[.float .f32 r', .float .f32 g', .float .f32 b'] 26)).alloc (.cells #[.float .f32 0, .float .f32 0, .float .f32 0] 26)).cell? ⟨w.heap.size + 1 + 1, 1, none⟩ = some (.float .f32 0) := by go_simp
    have c2 : (((w.alloc (.cells #[.float .f32 r, .float .f32 g, .float .f32 b] 26)).alloc (.cells #[.float .f32 r', .float .f32 g', .float .f32 b'] 26)).alloc (.cells #[.float .f32 0, .float .f32 0, .float .f32 0] 26)).cell? ⟨w.heap.size + 1 + 1, 2, none⟩ = some (.float .f32 0) := by go_simp
    have bel : Below w.heap.size w (((w.alloc (.cells #[.float .f32 r, .float .f32 g, .float .f32 b] 26)).alloc (.cells #[.float .f32 r', .float .f32 g', .float .f32 b'] 26)).alloc (.cells #[.float .f32 0, .float .f32 0, .float .f32 0] 26)) := (by repeat (first | exact Below.refl _ _ | assumption | refine Below.drew ?_ | refine Below.setCell ?_ (by first | (dsimp only; omega) | (simp; omega) | simp) _ | refine Below.alloc ?_ (by first | omega | (simp; omega) | simp) _))
    generalize ((w.alloc (.cells #[.float .f32 r, .float .f32 g, .float .f32 b] 26)).alloc (.cells #[.float .f32 r', .float .f32 g', .float .f32 b'] 26)).alloc (.cells #[.float .f32 0, .float .f32 0, .float .f32 0] 26) = wA at a0 a1 a2 b0 b1 b2 c0 c1 c2 cf bel ⊢
    have hswA := bel.size
    refine (sIsColour_any _ _ _ _).mono ?_
    rintro e w1 ⟨rfl, hb1⟩
    have cf := frz hb1 c0 cf
    have a0 := keepc hb1 a0
    have a1 := keepc hb1 a1
    have a2 := keepc hb1 a2
    have b0 := keepc hb1 b0
    have b1 := keepc hb1 b1
    have b2 := keepc hb1 b2
    have c0 := keepc hb1 c0
    have c1 := keepc hb1 c1
    have c2 := keepc hb1 c2
    have bel := belowOf bel hb1
    clear hb1
    go_wp2_with fail
    exact bodyPost_ret (v := .agg #[.float .f32 0, .float .f32 0, .float .f32 0]) (by simp [results, Try.results32, go_sem, c0, c1, c2]) rfl ⟨by simp only [H.out], (by repeat (first | exact Below.refl _ _ | assumption | refine Below.drew ?_ | refine Below.setCell ?_ (by first | (dsimp only; omega) | (simp; omega) | simp) _ | refine Below.alloc ?_ (by first | omega | (simp; omega) | simp) _))⟩
  · cases hv' : isCol r' g' b'
    · have H : Hid (∀ x y, mixV (true && false && part k) k x y = 0) := fun x y => rfl
      go_enter Try.func32, Try.ntmps32
      go_wp2_with fail
      have cf : ∀ j, (((w.alloc (.cells #[.float .f32 r, .float .f32 g, .float .f32 b] 26)).alloc (.cells #[.float .f32 r', .float .f32 g', .float .f32 b'] 26)).alloc (.cells #[.float .f32 0, .float .f32 0, .float .f32 0] 26)).frozen? ⟨w.heap.size + 1 + 1, j, none⟩ = false := fun j => by go_simp
      have a0 : (((w.alloc (.cells #[.float .f32 r, .float .f32 g, .float .f32 b] 26)).alloc (.cells #[.float .f32 r', .float .f32 g', .float .f32 b'] 26)).alloc (.cells #[.float .f32 0, .float .f32 0, .float .f32 0] 26)).cell? ⟨w.heap.size, 0, none⟩ = some (.float .f32 r) := by go_simp
      have a1 : (((w.alloc (.cells #[.float .f32 r, .float .f32 g, .float .f32 b] 26)).alloc (.cells #[.float .f32 r', .float .f32 g', .float .f32 b'] 26)).alloc (.cells #[.float .f32 0, .float .f32 0, .float .f32 0] 26)).cell? ⟨w.heap.size, 1, none⟩ = some (.float .f32 g) := by go_simp
      have a2 : (((w.alloc (.cells #[.float .f32 r, .float .f32 g, .float .f32 b] 26)).alloc (.cells #[.float .f32 r', .float .f32 g', .float .f32 b'] 26)).alloc (.cells #[.float .f32 0, .float .f32 0, .float .f32 0] 26)).cell? ⟨w.heap.size, 2, none⟩ = some (.float .f32 b) := by go_simp
      have b0 : (((w.alloc (.cells #[.float .f32 r, .float .f32 g, .float .f32 b] 26)).alloc (.cells #[.float .f32 r', .float .f32 g', .float .f32 b'] 26)).alloc (.cells #[.float .f32 0, .float .f32 0, .float .f32 0] 26)).cell? ⟨w.heap.size + 1, 0, none⟩ = some (.float .f32 r') := by go_simp
      have b1 : (((w.alloc (.cells #[.float .f32 r, .float .f32 g, .float .f32 b] 26)).alloc (.cells #[.float .f32 r', .float .f32 g', .float .f32 b'] 26)).alloc (.cells #[.float .f32 0, .float .f32 0, .float .f32 0] 26)).cell? ⟨w.heap.size + 1, 1, none⟩ = some (.float .f32 g') := by go_simp
      have b2 : (((w.alloc (.cells #[.float .f32 r, .float .f32 g, .float .f32 b] 26)).alloc (.cells #[.float .f32 r', .float .f32 g', .float .f32 b'] 26)).alloc (.cells #[.float .f32 0, .float .f32 0, .float .f32 0] 26)).cell? ⟨w.heap.size + 1, 2, none⟩ = some (.float .f32 b') := by go_simp
      have c0 : (((w.alloc (.cells #[.float .f32 r, .float .f32 g, .float .f32 b] 26)).alloc (.cells #[.float .f32 r', .float .f32 g', .float .f32 b'] 26)).alloc (.cells #[.float .f32 0, .float .f32 0, .float .f32 0] 26)).cell? ⟨w.heap.size + 1 + 1, 0, none⟩ = some (.float .f32 0) := by go_simp
      have c1 : (((w.alloc (.cells #[.float .f32 r, .float .f32 g, .float .f32 b] 26)).alloc (.cells #[.float .f32 r', .float .f32 g', .float .f32 b'] 26)).alloc (.cells #[.float .f32 0, .float .f32 0, .float .f32 0] 26)).cell? ⟨w.heap.size + 1 + 1, 1, none⟩ = some (.float .f32 0) := by go_simp
      have c2 : (((w.alloc (.cells #[.float .f32 r, .float .f32 g, .float .f32 b] 26)).alloc (.cells #[.float .f32 r', .float .f32 g', .float .f32 b'] 26)).alloc (.cells #[.float .f32 0, .float .f32 0, .float .f32 0] 26)).cell? ⟨w.heap.size + 1 + 1, 2, none⟩ = some (.float .f32 0) := by go_simp
      have bel : Below w.heap.size w (((w.alloc (.cells #[.float .f32 r, .float .f32 g, .float .f32 b] 26)).alloc (.cells #[.float .f32 r', .float .f32 g', .float .f32 b'] 26)).alloc (.cells #[.float .f32 0, .float .f32 0, .float .f32 0] 26)) := (by repeat (first | exact Below.refl _ _ | assumption | refine Below.drew ?_ | refine Below.setCell ?_ (by first | (dsimp only; omega) | (simp; omega) | simp) _ | refine Below.alloc ?_ (by first | omega | (simp; omega) | simp) _))
      generalize ((w.alloc (.cells #[.float .f32 r, .float .f32 g, .float .f32 b] 26)).alloc (.cells #[.float .f32 r', .float .f32 g', .float .f32 b'] 26)).alloc (.cells #[.float .f32 0, .float .f32 0, .float .f32 0] 26) = wA at a0 a1 a2 b0 b1 b2 c0 c1 c2 cf bel ⊢
      have hswA := bel.size
      refine (sIsColour_any _ _ _ _).mono ?_
      rintro e w1 ⟨rfl, hb1⟩
      have cf := frz hb1 c0 cf
      have a0 := keepc hb1 a0
      have a1 := keepc hb1 a1
      have a2 := keepc hb1 a2
      have b0 := keepc hb1 b0
      have b1 := keepc hb1 b1
      have b2 := keepc hb1 b2
      have c0 := keepc hb1 c0
      have c1 := keepc hb1 c1
      have c2 := keepc hb1 c2
      have bel := belowOf bel hb1
      clear hb1
      go_wp2_with fail
      refine (sIsColour_any _ _ _ _).mono ?_
      rintro e w2 ⟨rfl, hb2⟩
      have cf := frz hb2 c0 cf
      have a0 := keepc hb2 a0
      have a1 := keepc hb2 a1
      have a2 := keepc hb2 a2
      have b0 := keepc hb2 b0
      have b1 := keepc hb2 b1
      have b2 := keepc hb2 b2
      have c0 := keepc hb2 c0
      have c1 := keepc hb2 c1
      have c2 := keepc hb2 c2
      have bel := belowOf bel hb2
      clear hb2
      go_wp2_with fail
      exact bodyPost_ret (v := .agg #[.float .f32 0, .float .f32 0, .float .f32 0]) (by simp [results, Try.results32, go_sem, c0, c1, c2]) rfl ⟨by simp only [H.out], (by repeat (first | exact Below.refl _ _ | assumption | refine Below.drew ?_ | refine Below.setCell ?_ (by first | (dsimp only; omega) | (simp; omega) | simp) _ | refine Below.alloc ?_ (by first | omega | (simp; omega) | simp) _))⟩
    · cases hk : part k
      · have H : Hid (∀ x y, mixV (true && true && false) k x y = 0) := fun x y => rfl
        go_enter Try.func32, Try.ntmps32
        go_wp2_with fail
        have cf : ∀ j, (((w.alloc (.cells #[.float .f32 r, .float .f32 g, .float .f32 b] 26)).alloc (.cells #[.float .f32 r', .float .f32 g', .float .f32 b'] 26)).alloc (.cells #[.float .f32 0, .float .f32 0, .float .f32 0] 26)).frozen? ⟨w.heap.size + 1 + 1, j, none⟩ = false := fun j => by go_simp
        have a0 : (((w.alloc (.cells #[.float .f32 r, .float .f32 g, .float .f32 b] 26)).alloc (.cells #[.float .f32 r', .float .f32 g', .float .f32 b'] 26)).alloc (.cells #[.float .f32 0, .float .f32 0, .float .f32 0] 26)).cell? ⟨w.heap.size, 0, none⟩ = some (.float .f32 r) := by go_simp
        have a1 : (((w.alloc (.cells #[.float .f32 r, .float .f32 g, .float .f32 b] 26)).alloc (.cells #[.float .f32 r', .float .f32 g', .float .f32 b'] 26)).alloc (.cells #[.float .f32 0, .float .f32 0, .float .f32 0] 26)).cell? ⟨w.heap.size, 1, none⟩ = some (.float .f32 g) := by go_simp
        have a2 : (((w.alloc (.cells #[.float .f32 r, .float .f32 g, .float .f32 b] 26)).alloc (.cells #[.float .f32 r', .float .f32 g', .float .f32 b'] 26)).alloc (.cells #[.float .f32 0, .float .f32 0, .float .f32 0] 26)).cell? ⟨w.heap.size, 2, none⟩ = some (.float .f32 b) := by go_simp
        have b0 : (((w.alloc (.cells #[.float .f32 r, .float .f32 g, .float .f32 b] 26)).alloc (.cells #[.float .f32 r', .float .f32 g', .float .f32 b'] 26)).alloc (.cells #[.float .f32 0, .float .f32 0, .float .f32 0] 26)).cell? ⟨w.heap.size + 1, 0, none⟩ = some (.float .f32 r') := by go_simp
        have b1 : (((w.alloc (.cells #[.float .f32 r, .float .f32 g, .float .f32 b] 26)).alloc (.cells #[.float .f32 r', .float .f32 g', .float .f32 b'] 26)).alloc (.cells #[.float .f32 0, .float .f32 0, .float .f32 0] 26)).cell? ⟨w.heap.size + 1, 1, none⟩ = some (.float .f32 g') := by go_simp
        have b2 : (((w.alloc (.cells #[.float .f32 r, .float .f32 g, .float .f32 b] 26)).alloc (.cells #[.float .f32 r', .float .f32 g', .float .f32 b'] 26)).alloc (.cells #[.float .f32 0, .float .f32 0, .float .f32 0] 26)).cell? ⟨w.heap.size + 1, 2, none⟩ = some (.float .f32 b') := by go_simp
        have c0 : (((w.alloc (.cells #[.float .f32 r, .float .f32 g, .float .f32 b] 26)).alloc (.cells #[.float .f32 r', .float .f32 g', .float .f32 b'] 26)).alloc (.cells #[.float .f32 0, .float .f32 0, .float .f32 0] 26)).cell? ⟨w.heap.size + 1 + 1, 0, none⟩ = some (.float .f32 0) := by go_simp
        have c1 : (((w.alloc (.cells #[.float .f32 r, .float .f32 g, .float .f32 b] 26)).alloc (.cells #[.float .f32 r', .float .f32 g', .float .f32 b'] 26)).alloc (.cells #[.float .f32 0, .float .f32 0, .float .f32 0] 26)).cell? ⟨w.heap.size + 1 + 1, 1, none⟩ = some (.float .f32 0) := by go_simp
        have c2 : (((w.alloc (.cells #[.float .f32 r, .float .f32 g, .float .f32 b] 26)).alloc (.cells #[.float .f32 r', .float .f32 g', .float .f32 b'] 26)).alloc (.cells #[.float .f32 0, .float .f32 0, .float .f32 0] 26)).cell? ⟨w.heap.size + 1 + 1, 2, none⟩ = some (.float .f32 0) := by go_simp
        have bel : Below w.heap.size w (((w.alloc (.cells #[.float .f32 r, .float .f32 g, .float .f32 b] 26)).alloc (.cells #[.float .f32 r', .float .f32 g', .float .f32 b'] 26)).alloc (.cells #[.float .f32 0, .float .f32 0, .float .f32 0] 26)) := (by repeat (first | exact Below.refl _ _ | assumption | refine Below.drew ?_ | refine Below.setCell ?_ (by first | (dsimp only; omega) | (simp; omega) | simp) _ | refine Below.alloc ?_ (by first | omega | (simp; omega) | simp) _))
        generalize ((w.alloc (.cells #[.float .f32 r, .float .f32 g, .float .f32 b] 26)).alloc (.cells #[.float .f32 r', .float .f32 g', .float .f32 b'] 26)).alloc (.cells #[.float .f32 0, .float .f32 0, .float .f32 0] 26) = wA at a0 a1 a2 b0 b1 b2 c0 c1 c2 cf bel ⊢
        have hswA := bel.size
        refine (sIsColour_any _ _ _ _).mono ?_
        rintro e w1 ⟨rfl, hb1⟩
        have cf := frz hb1 c0 cf
        have a0 := keepc hb1 a0
        have a1 := keepc hb1 a1
        have a2 := keepc hb1 a2
        have b0 := keepc hb1 b0
        have b1 := keepc hb1 b1
        have b2 := keepc hb1 b2
        have c0 := keepc hb1 c0
        have c1 := keepc hb1 c1
        have c2 := keepc hb1 c2
        have bel := belowOf bel hb1
        clear hb1
        go_wp2_with fail
        refine (sIsColour_any _ _ _ _).mono ?_
        rintro e w2 ⟨rfl, hb2⟩
        have cf := frz hb2 c0 cf
        have a0 := keepc hb2 a0
        have a1 := keepc hb2 a1
        have a2 := keepc hb2 a2
        have b0 := keepc hb2 b0
        have b1 := keepc hb2 b1
        have b2 := keepc hb2 b2
        have c0 := keepc hb2 c0
        have c1 := keepc hb2 c1
        have c2 := keepc hb2 c2
        have bel := belowOf bel hb2
        clear hb2
        go_wp2_with fail
        refine (l2Part_any _ _).mono ?_
        rintro e w3 ⟨rfl, hb3⟩
        have cf := frz hb3 c0 cf
        have a0 := keepc hb3 a0
        have a1 := keepc hb3 a1
        have a2 := keepc hb3 a2
        have b0 := keepc hb3 b0
        have b1 := keepc hb3 b1
        have b2 := keepc hb3 b2
        have c0 := keepc hb3 c0
        have c1 := keepc hb3 c1
        have c2 := keepc hb3 c2
        have bel := belowOf bel hb3
        clear hb3
        go_wp2_with fail
        exact bodyPost_ret (v := .agg #[.float .f32 0, .float .f32 0, .float .f32 0]) (by simp [results, Try.results32, go_sem, c0, c1, c2]) rfl ⟨by simp only [H.out], (by repeat (first | exact Below.refl _ _ | assumption | refine Below.drew ?_ | refine Below.setCell ?_ (by first | (dsimp only; omega) | (simp; omega) | simp) _ | refine Below.alloc ?_ (by first | omega | (simp; omega) | simp) _))⟩
      · have H : Hid (∀ x y, mixV (true && true && true) k x y = mixF k x y) := fun x y => rfl
        obtain ⟨pr, pg, pb⟩ := isCol_parts hv
        obtain ⟨pr', pg', pb'⟩ := isCol_parts hv'
        have H1 := hide (fun w => l2Mix_any r r' k w pr pr' hk)
        have H2 := hide (fun w => l2Mix_any g g' k w pg pg' hk)
        have H3 := hide (fun w => l2Mix_any b b' k w pb pb' hk)
        clear pr pg pb pr' pg' pb'
        go_enter Try.func32, Try.ntmps32
        go_wp2_with fail
        have cf : ∀ j, (((w.alloc (.cells #[.float .f32 r, .float .f32 g, .float .f32 b] 26)).alloc (.cells #[.float .f32 r', .float .f32 g', .float .f32 b'] 26)).alloc (.cells #[.float .f32 0, .float .f32 0, .float .f32 0] 26)).frozen? ⟨w.heap.size + 1 + 1, j, none⟩ = false := fun j => by go_simp
        have a0 : (((w.alloc (.cells #[.float .f32 r, .float .f32 g, .float .f32 b] 26)).alloc (.cells #[.float .f32 r', .float .f32 g', .float .f32 b'] 26)).alloc (.cells #[.float .f32 0, .float .f32 0, .float .f32 0] 26)).cell? ⟨w.heap.size, 0, none⟩ = some (.float .f32 r) := by go_simp
        have a1 : (((w.alloc (.cells #[.float .f32 r, .float .f32 g, .float .f32 b] 26)).alloc (.cells #[.float .f32 r', .float .f32 g', .float .f32 b'] 26)).alloc (.cells #[.float .f32 0, .float .f32 0, .float .f32 0] 26)).cell? ⟨w.heap.size, 1, none⟩ = some (.float .f32 g) := by go_simp
        have a2 : (((w.alloc (.cells #[.float .f32 r, .float .f32 g, .float .f32 b] 26)).alloc (.cells #[.float .f32 r', .float .f32 g', .float .f32 b'] 26)).alloc (.cells #[.float .f32 0, .float .f32 0, .float .f32 0] 26)).cell? ⟨w.heap.size, 2, none⟩ = some (.float .f32 b) := by go_simp
        have b0 : (((w.alloc (.cells #[.float .f32 r, .float .f32 g, .float .f32 b] 26)).alloc (.cells #[.float .f32 r', .float .f32 g', .float .f32 b'] 26)).alloc (.cells #[.float .f32 0, .float .f32 0, .float .f32 0] 26)).cell? ⟨w.heap.size + 1, 0, none⟩ = some (.float .f32 r') := by go_simp
        have b1 : (((w.alloc (.cells #[.float .f32 r, .float .f32 g, .float .f32 b] 26)).alloc (.cells #[.float .f32 r', .float .f32 g', .float .f32 b'] 26)).alloc (.cells #[.float .f32 0, .float .f32 0, .float .f32 0] 26)).cell? ⟨w.heap.size + 1, 1, none⟩ = some (.float .f32 g') := by go_simp
        have b2 : (((w.alloc (.cells #[.float .f32 r, .float .f32 g, .float .f32 b] 26)).alloc (.cells #[.float .f32 r', .float .f32 g', .float .f32 b'] 26)).alloc (.cells #[.float .f32 0, .float .f32 0, .float .f32 0] 26)).cell? ⟨w.heap.size + 1, 2, none⟩ = some (.float .f32 b') := by go_simp
        have c0 : (((w.alloc (.cells #[.float .f32 r, .float .f32 g, .float .f32 b] 26)).alloc (.cells #[.float .f32 r', .float .f32 g', .float .f32 b'] 26)).alloc (.cells #[.float .f32 0, .float .f32 0, .float .f32 0] 26)).cell? ⟨w.heap.size + 1 + 1, 0, none⟩ = some (.float .f32 0) := by go_simp
        have c1 : (((w.alloc (.cells #[.float .f32 r, .float .f32 g, .float .f32 b] 26)).alloc (.cells #[.float .f32 r', .float .f32 g', .float .f32 b'] 26)).alloc (.cells #[.float .f32 0, .float .f32 0, .float .f32 0] 26)).cell? ⟨w.heap.size + 1 + 1, 1, none⟩ = some (.float .f32 0) := by go_simp
        have c2 : (((w.alloc (.cells #[.float .f32 r, .float .f32 g, .float .f32 b] 26)).alloc (.cells #[.float .f32 r', .float .f32 g', .float .f32 b'] 26)).alloc (.cells #[.float .f32 0, .float .f32 0, .float .f32 0] 26)).cell? ⟨w.heap.size + 1 + 1, 2, none⟩ = some (.float .f32 0) := by go_simp
        have bel : Below w.heap.size w (((w.alloc (.cells #[.float .f32 r, .float .f32 g, .float .f32 b] 26)).alloc (.cells #[.float .f32 r', .float .f32 g', .float .f32 b'] 26)).alloc (.cells #[.float .f32 0, .float .f32 0, .float .f32 0] 26)) := (by repeat (first | exact Below.refl _ _ | assumption | refine Below.drew ?_ | refine Below.setCell ?_ (by first | (dsimp only; omega) | (simp; omega) | simp) _ | refine Below.alloc ?_ (by first | omega | (simp; omega) | simp) _))
        generalize ((w.alloc (.cells #[.float .f32 r, .float .f32 g, .float .f32 b] 26)).alloc (.cells #[.float .f32 r', .float .f32 g', .float .f32 b'] 26)).alloc (.cells #[.float .f32 0, .float .f32 0, .float .f32 0] 26) = wA at a0 a1 a2 b0 b1 b2 c0 c1 c2 cf bel ⊢
        have hswA := bel.size
        refine (sIsColour_any _ _ _ _).mono ?_
        rintro e w1 ⟨rfl, hb1⟩
        have cf := frz hb1 c0 cf
        have a0 := keepc hb1 a0
        have a1 := keepc hb1 a1
        have a2 := keepc hb1 a2
        have b0 := keepc hb1 b0
        have b1 := keepc hb1 b1
        have b2 := keepc hb1 b2
        have c0 := keepc hb1 c0
        have c1 := keepc hb1 c1
        have c2 := keepc hb1 c2
        have bel := belowOf bel hb1
        clear hb1
        go_wp2_with fail
        refine (sIsColour_any _ _ _ _).mono ?_
        rintro e w2 ⟨rfl, hb2⟩
        have cf := frz hb2 c0 cf
        have a0 := keepc hb2 a0
        have a1 := keepc hb2 a1
        have a2 := keepc hb2 a2
        have b0 := keepc hb2 b0
        have b1 := keepc hb2 b1
        have b2 := keepc hb2 b2
        have c0 := keepc hb2 c0
        have c1 := keepc hb2 c1
        have c2 := keepc hb2 c2
        have bel := belowOf bel hb2
        clear hb2
        go_wp2_with fail
        refine (l2Part_any _ _).mono ?_
        rintro e w3 ⟨rfl, hb3⟩
        have cf := frz hb3 c0 cf
        have a0 := keepc hb3 a0
        have a1 := keepc hb3 a1
        have a2 := keepc hb3 a2
        have b0 := keepc hb3 b0
        have b1 := keepc hb3 b1
        have b2 := keepc hb3 b2
        have c0 := keepc hb3 c0
        have c1 := keepc hb3 c1
        have c2 := keepc hb3 c2
        have bel := belowOf bel hb3
        clear hb3
        go_wp2_with fail
        go_region_held3 (fun w' => w'.cell? ⟨w.heap.size, 0, none⟩ = some (.float .f32 r) ∧ w'.cell? ⟨w.heap.size, 1, none⟩ = some (.float .f32 g) ∧ w'.cell? ⟨w.heap.size, 2, none⟩ = some (.float .f32 b) ∧ w'.cell? ⟨w.heap.size + 1, 0, none⟩ = some (.float .f32 r') ∧ w'.cell? ⟨w.heap.size + 1, 1, none⟩ = some (.float .f32 g') ∧ w'.cell? ⟨w.heap.size + 1, 2, none⟩ = some (.float .f32 b'))
          (first | exact ⟨a0, a1, a2, b0, b1, b2⟩ | (refine ⟨?_, ?_, ?_, ?_, ?_, ?_⟩ <;> (go_simp; done)))
          (first | (go_at_call 57; (first | (with_reducible refine (H1.out _).mono ?_) | (with_reducible refine (H2.out _).mono ?_) | (with_reducible refine (H3.out _).mono ?_)); rintro e w' ⟨rfl, rfl⟩))
        go_wp2_with fail
        exact bodyPost_ret (v := .agg #[.float .f32 (mixF k r r'), .float .f32 (mixF k g g'), .float .f32 (mixF k b b')]) (by simp [results, Try.results32, go_sem, c0, c1, c2]) rfl ⟨by simp only [H.out], (by repeat (first | exact Below.refl _ _ | assumption | refine Below.drew ?_ | refine Below.setCell ?_ (by first | (dsimp only; omega) | (simp; omega) | simp) _ | refine Below.alloc ?_ (by first | omega | (simp; omega) | simp) _))⟩

theorem fin_bnd {z : Nat} (h : fin z) : fin (bnd z) := by
  unfold bnd
  split
  · exact fin_one
  · exact h

theorem fin_mix {k x y : Nat} (hx : part x = true) (hy : part y = true) (hk : part k = true) : fin (mixF k x y) :=
  fin_bnd (fin_cl (sum_fin_part (part_times hx (part_diff hk)) (part_times hy hk)))

theorem fin_mixV {r g b r' g' b' k : Nat} : fin (mixV (isCol r g b && isCol r' g' b' && part k) k r r') ∧ fin (mixV (isCol r g b && isCol r' g' b' && part k) k g g') ∧ fin (mixV (isCol r g b && isCol r' g' b' && part k) k b b') := by
  cases h : isCol r g b
  · exact ⟨fin_zero, fin_zero, fin_zero⟩
  · cases h' : isCol r' g' b'
    · exact ⟨fin_zero, fin_zero, fin_zero⟩
    · cases hk : part k
      · exact ⟨fin_zero, fin_zero, fin_zero⟩
      · obtain ⟨a1, a2, a3⟩ := isCol_parts h
        obtain ⟨b1, b2, b3⟩ := isCol_parts h'
        exact ⟨fin_mix a1 b1 hk, fin_mix a2 b2 hk, fin_mix a3 b3 hk⟩

end Go.Proofs.Ytenpbnojabhlkaa
