/- What MixColours computes, the program's and the reference's. For all colours, shares and worlds. -/
import Derived.Test.YtgafdkaiiajieaaMix
import Derived.Test.YtgafdkaiiajieaaScr
namespace Go.Proofs.Ytgafdkaiiajieaa
open Go.RowKit
open Fl

def mixV (v : Bool) (k x y : Nat) : Nat := if v then mixF k x y else 0

set_option maxHeartbeats 2000000 in
theorem eachPart_mix (r g b r' g' b' k q : Nat) (w : World) (pr : part r = true) (pg : part g = true) (pb : part b = true) (pr' : part r' = true) (pg' : part g' = true) (pb' : part b' = true) (pk : part k = true) (hk : w.cell? ⟨q, 0, none⟩ = some (.float .f32 k)) :
    Calls Try.prog 54 #[.agg #[.float .f32 r, .float .f32 g, .float .f32 b], .agg #[.float .f32 r', .float .f32 g', .float .f32 b'], .func (.func 57) #[] #[.pointer (some ⟨q, 0, none⟩)]] w fun e w' => e = .returned (.agg #[.float .f32 (mixF k r r'), .float .f32 (mixF k g g'), .float .f32 (mixF k b b')]) ∧ Below w.heap.size w w' := by
  have H1 := hide (fun W hc => mix1_any r r' k q W pr pr' pk hc)
  have H2 := hide (fun W hc => mix1_any g g' k q W pg pg' pk hc)
  have H3 := hide (fun W hc => mix1_any b b' k q W pb pb' pk hc)
  clear pr pg pb pr' pg' pb' pk
  go_enter Try.func54, Try.ntmps54
  go_wp2_with fail
  go_region_held3 (fun w' => w'.cell? ⟨w.heap.size, 0, none⟩ = some (.float .f32 r) ∧ w'.cell? ⟨w.heap.size, 1, none⟩ = some (.float .f32 g) ∧ w'.cell? ⟨w.heap.size, 2, none⟩ = some (.float .f32 b) ∧ w'.cell? ⟨w.heap.size + 1, 0, none⟩ = some (.float .f32 r') ∧ w'.cell? ⟨w.heap.size + 1, 1, none⟩ = some (.float .f32 g') ∧ w'.cell? ⟨w.heap.size + 1, 2, none⟩ = some (.float .f32 b') ∧ w'.cell? ⟨q, 0, none⟩ = some (.float .f32 k))
    (refine ⟨?_, ?_, ?_, ?_, ?_, ?_, keepc (by repeat (first | exact Below.refl _ _ | assumption | refine Below.drew ?_ | refine Below.setCell ?_ (by first | (dsimp only; omega) | (simp; omega) | simp) _ | refine Below.alloc ?_ (by first | omega | (simp; omega) | simp) _)) hk⟩ <;> (go_simp; done))
    (first | (go_at_call 57; (first | (with_reducible refine (H1.out _ (keepc (by repeat (first | exact Below.refl _ _ | assumption | refine Below.drew ?_ | refine Below.setCell ?_ (by first | (dsimp only; omega) | (simp; omega) | simp) _ | refine Below.alloc ?_ (by first | omega | (simp; omega) | simp) _)) hk)).mono ?_) | (with_reducible refine (H2.out _ (keepc (by repeat (first | exact Below.refl _ _ | assumption | refine Below.drew ?_ | refine Below.setCell ?_ (by first | (dsimp only; omega) | (simp; omega) | simp) _ | refine Below.alloc ?_ (by first | omega | (simp; omega) | simp) _)) hk)).mono ?_) | (with_reducible refine (H3.out _ (keepc (by repeat (first | exact Below.refl _ _ | assumption | refine Below.drew ?_ | refine Below.setCell ?_ (by first | (dsimp only; omega) | (simp; omega) | simp) _ | refine Below.alloc ?_ (by first | omega | (simp; omega) | simp) _)) hk)).mono ?_)); rintro e w' ⟨rfl, rfl⟩))
  go_wp2_with fail
  exact bodyPost_ret (v := .agg #[.float .f32 (mixF k r r'), .float .f32 (mixF k g g'), .float .f32 (mixF k b b')]) (by simp [results, Try.results54, go_sem]) rfl ⟨rfl, (by repeat (first | exact Below.refl _ _ | assumption | refine Below.drew ?_ | refine Below.setCell ?_ (by first | (dsimp only; omega) | (simp; omega) | simp) _ | refine Below.alloc ?_ (by first | omega | (simp; omega) | simp) _))⟩

set_option maxHeartbeats 4000000 in
theorem mix_any (r g b r' g' b' k : Nat) (w : World) :
    Calls Try.prog 22 #[.agg #[.float .f32 r, .float .f32 g, .float .f32 b], .agg #[.float .f32 r', .float .f32 g', .float .f32 b'], .float .f32 k] w fun e w' => e = .returned (.agg #[.float .f32 (mixV (isCol r g b && isCol r' g' b' && part k) k r r'), .float .f32 (mixV (isCol r g b && isCol r' g' b' && part k) k g g'), .float .f32 (mixV (isCol r g b && isCol r' g' b' && part k) k b b')]) ∧ Below w.heap.size w w' := by
  have kr : w.heap.size ≤ w.heap.size + 1 + 1 + 1 := by omega
  cases hv : isCol r g b
  · have H : Hid (∀ x y, mixV (false && isCol r' g' b' && part k) k x y = 0) := fun x y => rfl
    go_enter Try.func22, Try.ntmps22
    go_wp2_with fail
    have cf : ∀ j, ((((w.alloc (.cells #[.float .f32 r, .float .f32 g, .float .f32 b] 41)).alloc (.cells #[.float .f32 r', .float .f32 g', .float .f32 b'] 41)).alloc (.cells #[.float .f32 k] 39)).alloc (.cells #[.float .f32 0, .float .f32 0, .float .f32 0] 41)).frozen? ⟨w.heap.size + 1 + 1 + 1, j, none⟩ = false := fun j => by go_simp
    have a0 : ((((w.alloc (.cells #[.float .f32 r, .float .f32 g, .float .f32 b] 41)).alloc (.cells #[.float .f32 r', .float .f32 g', .float .f32 b'] 41)).alloc (.cells #[.float .f32 k] 39)).alloc (.cells #[.float .f32 0, .float .f32 0, .float .f32 0] 41)).cell? ⟨w.heap.size, 0, none⟩ = some (.float .f32 r) := by go_simp
    have a1 : ((((w.alloc (.cells #[.float .f32 r, .float .f32 g, .float .f32 b] 41)).alloc (.cells #[.float .f32 r', .float .f32 g', .float .f32 b'] 41)).alloc (.cells #[.float .f32 k] 39)).alloc (.cells #[.float .f32 0, .float .f32 0, .float .f32 0] 41)).cell? ⟨w.heap.size, 1, none⟩ = some (.float .f32 g) := by go_simp
    have a2 : ((((w.alloc (.cells #[.float .f32 r, .float .f32 g, .float .f32 b] 41)).alloc (.cells #[.float .f32 r', .float .f32 g', .float .f32 b'] 41)).alloc (.cells #[.float .f32 k] 39)).alloc (.cells #[.float .f32 0, .float .f32 0, .float .f32 0] 41)).cell? ⟨w.heap.size, 2, none⟩ = some (.float .f32 b) := by go_simp
    have b0 : ((((w.alloc (.cells #[.float .f32 r, .float .f32 g, .float .f32 b] 41)).alloc (.cells #[.float .f32 r', .float .f32 g', .float .f32 b'] 41)).alloc (.cells #[.float .f32 k] 39)).alloc (.cells #[.float .f32 0, .float .f32 0, .float .f32 0] 41)).cell? ⟨w.heap.size + 1, 0, none⟩ = some (.float .f32 r') := by go_simp
    have b1 : ((((w.alloc (.cells #[.float .f32 r, .float .f32 g, .float .f32 b] 41)).alloc (.cells #[.float .f32 r', .float .f32 g', .float .f32 b'] 41)).alloc (.cells #[.float .f32 k] 39)).alloc (.cells #[.float .f32 0, .float .f32 0, .float .f32 0] 41)).cell? ⟨w.heap.size + 1, 1, none⟩ = some (.float .f32 g') := by go_simp
    have b2 : ((((w.alloc (.cells #[.float .f32 r, .float .f32 g, .float .f32 b] 41)).alloc (.cells #[.float .f32 r', .float .f32 g', .float .f32 b'] 41)).alloc (.cells #[.float .f32 k] 39)).alloc (.cells #[.float .f32 0, .float .f32 0, .float .f32 0] 41)).cell? ⟨w.heap.size + 1, 2, none⟩ = some (.float .f32 b') := by go_simp
    have kc : ((((w.alloc (.cells #[.float .f32 r, .float .f32 g, .float .f32 b] 41)).alloc (.cells #[.float .f32 r', .float .f32 g', .float .f32 b'] 41)).alloc (.cells #[.float .f32 k] 39)).alloc (.cells #[.float .f32 0, .float .f32 0, .float .f32 0] 41)).cell? ⟨w.heap.size + 1 + 1, 0, none⟩ = some (.float .f32 k) := by go_simp
    have c0 : ((((w.alloc (.cells #[.float .f32 r, .float .f32 g, .float .f32 b] 41)).alloc (.cells #[.float .f32 r', .float .f32 g', .float .f32 b'] 41)).alloc (.cells #[.float .f32 k] 39)).alloc (.cells #[.float .f32 0, .float .f32 0, .float .f32 0] 41)).cell? ⟨w.heap.size + 1 + 1 + 1, 0, none⟩ = some (.float .f32 0) := by go_simp
    have c1 : ((((w.alloc (.cells #[.float .f32 r, .float .f32 g, .float .f32 b] 41)).alloc (.cells #[.float .f32 r', .float .f32 g', .float .f32 b'] 41)).alloc (.cells #[.float .f32 k] 39)).alloc (.cells #[.float .f32 0, .float .f32 0, .float .f32 0] 41)).cell? ⟨w.heap.size + 1 + 1 + 1, 1, none⟩ = some (.float .f32 0) := by go_simp
    have c2 : ((((w.alloc (.cells #[.float .f32 r, .float .f32 g, .float .f32 b] 41)).alloc (.cells #[.float .f32 r', .float .f32 g', .float .f32 b'] 41)).alloc (.cells #[.float .f32 k] 39)).alloc (.cells #[.float .f32 0, .float .f32 0, .float .f32 0] 41)).cell? ⟨w.heap.size + 1 + 1 + 1, 2, none⟩ = some (.float .f32 0) := by go_simp
    have bel : Below w.heap.size w ((((w.alloc (.cells #[.float .f32 r, .float .f32 g, .float .f32 b] 41)).alloc (.cells #[.float .f32 r', .float .f32 g', .float .f32 b'] 41)).alloc (.cells #[.float .f32 k] 39)).alloc (.cells #[.float .f32 0, .float .f32 0, .float .f32 0] 41)) := (by repeat (first | exact Below.refl _ _ | assumption | refine Below.drew ?_ | refine Below.setCell ?_ (by first | (dsimp only; omega) | (simp; omega) | simp) _ | refine Below.alloc ?_ (by first | omega | (simp; omega) | simp) _))
    generalize (((w.alloc (.cells #[.float .f32 r, .float .f32 g, .float .f32 b] 41)).alloc (.cells #[.float .f32 r', .float .f32 g', .float .f32 b'] 41)).alloc (.cells #[.float .f32 k] 39)).alloc (.cells #[.float .f32 0, .float .f32 0, .float .f32 0] 41) = wA at a0 a1 a2 b0 b1 b2 kc c0 c1 c2 cf bel ⊢
    have hswA := bel.size
    refine (isColourB_any _ _ _ _).mono ?_
    rintro e w1 ⟨rfl, hb1⟩
    have cf := frz hb1 c0 cf
    have a0 := keepc hb1 a0
    have a1 := keepc hb1 a1
    have a2 := keepc hb1 a2
    have b0 := keepc hb1 b0
    have b1 := keepc hb1 b1
    have b2 := keepc hb1 b2
    have kc := keepc hb1 kc
    have c0 := keepc hb1 c0
    have c1 := keepc hb1 c1
    have c2 := keepc hb1 c2
    have bel := belowOf bel hb1
    clear hb1
    go_wp2_with fail
    exact bodyPost_ret (v := .agg #[.float .f32 0, .float .f32 0, .float .f32 0]) (by simp [results, Try.results22, go_sem, c0, c1, c2]) rfl ⟨by simp only [H.out], (by repeat (first | exact Below.refl _ _ | assumption | refine Below.drew ?_ | refine Below.setCell ?_ (by first | (dsimp only; omega) | (simp; omega) | simp) _ | refine Below.alloc ?_ (by first | omega | (simp; omega) | simp) _))⟩
  · cases hv' : isCol r' g' b'
    · have H : Hid (∀ x y, mixV (true && false && part k) k x y = 0) := fun x y => rfl
      go_enter Try.func22, Try.ntmps22
      go_wp2_with fail
      have cf : ∀ j, ((((w.alloc (.cells #[.float .f32 r, .float .f32 g, .float .f32 b] 41)).alloc (.cells #[.float .f32 r', .float .f32 g', .float .f32 b'] 41)).alloc (.cells #[.float .f32 k] 39)).alloc (.cells #[.float .f32 0, .float .f32 0, .float .f32 0] 41)).frozen? ⟨w.heap.size + 1 + 1 + 1, j, none⟩ = false := fun j => by go_simp
      have a0 : ((((w.alloc (.cells #[.float .f32 r, .float .f32 g, .float .f32 b] 41)).alloc (.cells #[.float .f32 r', .float .f32 g', .float .f32 b'] 41)).alloc (.cells #[.float .f32 k] 39)).alloc (.cells #[.float .f32 0, .float .f32 0, .float .f32 0] 41)).cell? ⟨w.heap.size, 0, none⟩ = some (.float .f32 r) := by go_simp
      have a1 : ((((w.alloc (.cells #[.float .f32 r, .float .f32 g, .float .f32 b] 41)).alloc (.cells #[.float .f32 r', .float .f32 g', .float .f32 b'] 41)).alloc (.cells #[.float .f32 k] 39)).alloc (.cells #[.float .f32 0, .float .f32 0, .float .f32 0] 41)).cell? ⟨w.heap.size, 1, none⟩ = some (.float .f32 g) := by go_simp
      have a2 : ((((w.alloc (.cells #[.float .f32 r, .float .f32 g, .float .f32 b] 41)).alloc (.cells #[.float .f32 r', .float .f32 g', .float .f32 b'] 41)).alloc (.cells #[.float .f32 k] 39)).alloc (.cells #[.float .f32 0, .float .f32 0, .float .f32 0] 41)).cell? ⟨w.heap.size, 2, none⟩ = some (.float .f32 b) := by go_simp
      have b0 : ((((w.alloc (.cells #[.float .f32 r, .float .f32 g, .float .f32 b] 41)).alloc (.cells #[.float .f32 r', .float .f32 g', .float .f32 b'] 41)).alloc (.cells #[.float .f32 k] 39)).alloc (.cells #[.float .f32 0, .float .f32 0, .float .f32 0] 41)).cell? ⟨w.heap.size + 1, 0, none⟩ = some (.float .f32 r') := by go_simp
      have b1 : ((((w.alloc (.cells #[.float .f32 r, .float .f32 g, .float .f32 b] 41)).alloc (.cells #[.float .f32 r', .float .f32 g', .float .f32 b'] 41)).alloc (.cells #[.float .f32 k] 39)).alloc (.cells #[.float .f32 0, .float .f32 0, .float .f32 0] 41)).cell? ⟨w.heap.size + 1, 1, none⟩ = some (.float .f32 g') := by go_simp
      have b2 : ((((w.alloc (.cells #[.float .f32 r, .float .f32 g, .float .f32 b] 41)).alloc (.cells #[.float .f32 r', .float .f32 g', .float .f32 b'] 41)).alloc (.cells #[.float .f32 k] 39)).alloc (.cells #[.float .f32 0, .float .f32 0, .float .f32 0] 41)).cell? ⟨w.heap.size + 1, 2, none⟩ = some (.float .f32 b') := by go_simp
      have kc : ((((w.alloc (.cells #[.float .f32 r, .float .f32 g, .float .f32 b] 41)).alloc (.cells #[.float .f32 r', .float .f32 g', .float .f32 b'] 41)).alloc (.cells #[.float .f32 k] 39)).alloc (.cells #[.float .f32 0, .float .f32 0, .float .f32 0] 41)).cell? ⟨w.heap.size + 1 + 1, 0, none⟩ = some (.float .f32 k) := by go_simp
      have c0 : ((((w.alloc (.cells #[.float .f32 r, .float .f32 g, .float .f32 b] 41)).alloc (.cells #[.float .f32 r', .float .f32 g', .float .f32 b'] 41)).alloc (.cells #[.float .f32 k] 39)).alloc (.cells #[.float .f32 0, .float .f32 0, .float .f32 0] 41)).cell? ⟨w.heap.size + 1 + 1 + 1, 0, none⟩ = some (.float .f32 0) := by go_simp
      have c1 : ((((w.alloc (.cells #[.float .f32 r, .float .f32 g, .float .f32 b] 41)).alloc (.cells #[.float .f32 r', .float .f32 g', .float .f32 b'] 41)).alloc (.cells #[.float .f32 k] 39)).alloc (.cells #[.float .f32 0, .float .f32 0, .float .f32 0] 41)).cell? ⟨w.heap.size + 1 + 1 + 1, 1, none⟩ = some (.float .f32 0) := by go_simp
      have c2 : ((((w.alloc (.cells #[.float .f32 r, .float .f32 g, .float .f32 b] 41)).alloc (.cells #[.float .f32 r', .float .f32 g', .float .f32 b'] 41)).alloc (.cells #[.float .f32 k] 39)).alloc (.cells #[.float .f32 0, .float .f32 0, .float .f32 0] 41)).cell? ⟨w.heap.size + 1 + 1 + 1, 2, none⟩ = some (.float .f32 0) := by go_simp
      have bel : Below w.heap.size w ((((w.alloc (.cells #[.float .f32 r, .float .f32 g, .float .f32 b] 41)).alloc (.cells #[.float .f32 r', .float .f32 g', .float .f32 b'] 41)).alloc (.cells #[.float .f32 k] 39)).alloc (.cells #[.float .f32 0, .float .f32 0, .float .f32 0] 41)) := (by repeat (first | exact Below.refl _ _ | assumption | refine Below.drew ?_ | refine Below.setCell ?_ (by first | (dsimp only; omega) | (simp; omega) | simp) _ | refine Below.alloc ?_ (by first | omega | (simp; omega) | simp) _))
      generalize (((w.alloc (.cells #[.float .f32 r, .float .f32 g, .float .f32 b] 41)).alloc (.cells #[.float .f32 r', .float .f32 g', .float .f32 b'] 41)).alloc (.cells #[.float .f32 k] 39)).alloc (.cells #[.float .f32 0, .float .f32 0, .float .f32 0] 41) = wA at a0 a1 a2 b0 b1 b2 kc c0 c1 c2 cf bel ⊢
      have hswA := bel.size
      refine (isColourB_any _ _ _ _).mono ?_
      rintro e w1 ⟨rfl, hb1⟩
      have cf := frz hb1 c0 cf
      have a0 := keepc hb1 a0
      have a1 := keepc hb1 a1
      have a2 := keepc hb1 a2
      have b0 := keepc hb1 b0
      have b1 := keepc hb1 b1
      have b2 := keepc hb1 b2
      have kc := keepc hb1 kc
      have c0 := keepc hb1 c0
      have c1 := keepc hb1 c1
      have c2 := keepc hb1 c2
      have bel := belowOf bel hb1
      clear hb1
      go_wp2_with fail
      refine (isColourB_any _ _ _ _).mono ?_
      rintro e w2 ⟨rfl, hb2⟩
      have cf := frz hb2 c0 cf
      have a0 := keepc hb2 a0
      have a1 := keepc hb2 a1
      have a2 := keepc hb2 a2
      have b0 := keepc hb2 b0
      have b1 := keepc hb2 b1
      have b2 := keepc hb2 b2
      have kc := keepc hb2 kc
      have c0 := keepc hb2 c0
      have c1 := keepc hb2 c1
      have c2 := keepc hb2 c2
      have bel := belowOf bel hb2
      clear hb2
      go_wp2_with fail
      exact bodyPost_ret (v := .agg #[.float .f32 0, .float .f32 0, .float .f32 0]) (by simp [results, Try.results22, go_sem, c0, c1, c2]) rfl ⟨by simp only [H.out], (by repeat (first | exact Below.refl _ _ | assumption | refine Below.drew ?_ | refine Below.setCell ?_ (by first | (dsimp only; omega) | (simp; omega) | simp) _ | refine Below.alloc ?_ (by first | omega | (simp; omega) | simp) _))⟩
    · cases hk : part k
      · have H : Hid (∀ x y, mixV (true && true && false) k x y = 0) := fun x y => rfl
        go_enter Try.func22, Try.ntmps22
        go_wp2_with fail
        have cf : ∀ j, ((((w.alloc (.cells #[.float .f32 r, .float .f32 g, .float .f32 b] 41)).alloc (.cells #[.float .f32 r', .float .f32 g', .float .f32 b'] 41)).alloc (.cells #[.float .f32 k] 39)).alloc (.cells #[.float .f32 0, .float .f32 0, .float .f32 0] 41)).frozen? ⟨w.heap.size + 1 + 1 + 1, j, none⟩ = false := fun j => by go_simp
        have a0 : ((((w.alloc (.cells #[.float .f32 r, .float .f32 g, .float .f32 b] 41)).alloc (.cells #[.float .f32 r', .float .f32 g', .float .f32 b'] 41)).alloc (.cells #[.float .f32 k] 39)).alloc (.cells #[.float .f32 0, .float .f32 0, .float .f32 0] 41)).cell? ⟨w.heap.size, 0, none⟩ = some (.float .f32 r) := by go_simp
        have a1 : ((((w.alloc (.cells #[.float .f32 r, .float .f32 g, .float .f32 b] 41)).alloc (.cells #[.float .f32 r', .float .f32 g', .float .f32 b'] 41)).alloc (.cells #[.float .f32 k] 39)).alloc (.cells #[.float .f32 0, .float .f32 0, .float .f32 0] 41)).cell? ⟨w.heap.size, 1, none⟩ = some (.float .f32 g) := by go_simp
        have a2 : ((((w.alloc (.cells #[.float .f32 r, .float .f32 g, .float .f32 b] 41)).alloc (.cells #[.float .f32 r', .float .f32 g', .float .f32 b'] 41)).alloc (.cells #[.float .f32 k] 39)).alloc (.cells #[.float .f32 0, .float .f32 0, .float .f32 0] 41)).cell? ⟨w.heap.size, 2, none⟩ = some (.float .f32 b) := by go_simp
        have b0 : ((((w.alloc (.cells #[.float .f32 r, .float .f32 g, .float .f32 b] 41)).alloc (.cells #[.float .f32 r', .float .f32 g', .float .f32 b'] 41)).alloc (.cells #[.float .f32 k] 39)).alloc (.cells #[.float .f32 0, .float .f32 0, .float .f32 0] 41)).cell? ⟨w.heap.size + 1, 0, none⟩ = some (.float .f32 r') := by go_simp
        have b1 : ((((w.alloc (.cells #[.float .f32 r, .float .f32 g, .float .f32 b] 41)).alloc (.cells #[.float .f32 r', .float .f32 g', .float .f32 b'] 41)).alloc (.cells #[.float .f32 k] 39)).alloc (.cells #[.float .f32 0, .float .f32 0, .float .f32 0] 41)).cell? ⟨w.heap.size + 1, 1, none⟩ = some (.float .f32 g') := by go_simp
        have b2 : ((((w.alloc (.cells #[.float .f32 r, .float .f32 g, .float .f32 b] 41)).alloc (.cells #[.float .f32 r', .float .f32 g', .float .f32 b'] 41)).alloc (.cells #[.float .f32 k] 39)).alloc (.cells #[.float .f32 0, .float .f32 0, .float .f32 0] 41)).cell? ⟨w.heap.size + 1, 2, none⟩ = some (.float .f32 b') := by go_simp
        have kc : ((((w.alloc (.cells #[.float .f32 r, .float .f32 g, .float .f32 b] 41)).alloc (.cells #[.float .f32 r', .float .f32 g', .float .f32 b'] 41)).alloc (.cells #[.float .f32 k] 39)).alloc (.cells #[.float .f32 0, .float .f32 0, .float .f32 0] 41)).cell? ⟨w.heap.size + 1 + 1, 0, none⟩ = some (.float .f32 k) := by go_simp
        have c0 : ((((w.alloc (.cells #[.float .f32 r, .float .f32 g, .float .f32 b] 41)).alloc (.cells #[.float .f32 r', .float .f32 g', .float .f32 b'] 41)).alloc (.cells #[.float .f32 k] 39)).alloc (.cells #[.float .f32 0, .float .f32 0, .float .f32 0] 41)).cell? ⟨w.heap.size + 1 + 1 + 1, 0, none⟩ = some (.float .f32 0) := by go_simp
        have c1 : ((((w.alloc (.cells #[.float .f32 r, .float .f32 g, .float .f32 b] 41)).alloc (.cells #[.float .f32 r', .float .f32 g', .float .f32 b'] 41)).alloc (.cells #[.float .f32 k] 39)).alloc (.cells #[.float .f32 0, .float .f32 0, .float .f32 0] 41)).cell? ⟨w.heap.size + 1 + 1 + 1, 1, none⟩ = some (.float .f32 0) := by go_simp
        have c2 : ((((w.alloc (.cells #[.float .f32 r, .float .f32 g, .float .f32 b] 41)).alloc (.cells #[.float .f32 r', .float .f32 g', .float .f32 b'] 41)).alloc (.cells #[.float .f32 k] 39)).alloc (.cells #[.float .f32 0, .float .f32 0, .float .f32 0] 41)).cell? ⟨w.heap.size + 1 + 1 + 1, 2, none⟩ = some (.float .f32 0) := by go_simp
        have bel : Below w.heap.size w ((((w.alloc (.cells #[.float .f32 r, .float .f32 g, .float .f32 b] 41)).alloc (.cells #[.float .f32 r', .float .f32 g', .float .f32 b'] 41)).alloc (.cells #[.float .f32 k] 39)).alloc (.cells #[.float .f32 0, .float .f32 0, .float .f32 0] 41)) := (by repeat (first | exact Below.refl _ _ | assumption | refine Below.drew ?_ | refine Below.setCell ?_ (by first | (dsimp only; omega) | (simp; omega) | simp) _ | refine Below.alloc ?_ (by first | omega | (simp; omega) | simp) _))
        generalize (((w.alloc (.cells #[.float .f32 r, .float .f32 g, .float .f32 b] 41)).alloc (.cells #[.float .f32 r', .float .f32 g', .float .f32 b'] 41)).alloc (.cells #[.float .f32 k] 39)).alloc (.cells #[.float .f32 0, .float .f32 0, .float .f32 0] 41) = wA at a0 a1 a2 b0 b1 b2 kc c0 c1 c2 cf bel ⊢
        have hswA := bel.size
        refine (isColourB_any _ _ _ _).mono ?_
        rintro e w1 ⟨rfl, hb1⟩
        have cf := frz hb1 c0 cf
        have a0 := keepc hb1 a0
        have a1 := keepc hb1 a1
        have a2 := keepc hb1 a2
        have b0 := keepc hb1 b0
        have b1 := keepc hb1 b1
        have b2 := keepc hb1 b2
        have kc := keepc hb1 kc
        have c0 := keepc hb1 c0
        have c1 := keepc hb1 c1
        have c2 := keepc hb1 c2
        have bel := belowOf bel hb1
        clear hb1
        go_wp2_with fail
        refine (isColourB_any _ _ _ _).mono ?_
        rintro e w2 ⟨rfl, hb2⟩
        have cf := frz hb2 c0 cf
        have a0 := keepc hb2 a0
        have a1 := keepc hb2 a1
        have a2 := keepc hb2 a2
        have b0 := keepc hb2 b0
        have b1 := keepc hb2 b1
        have b2 := keepc hb2 b2
        have kc := keepc hb2 kc
        have c0 := keepc hb2 c0
        have c1 := keepc hb2 c1
        have c2 := keepc hb2 c2
        have bel := belowOf bel hb2
        clear hb2
        go_wp2_with fail
        refine (isPart_any _ _).mono ?_
        rintro e w3 ⟨rfl, rfl⟩
        go_wp2_with fail
        exact bodyPost_ret (v := .agg #[.float .f32 0, .float .f32 0, .float .f32 0]) (by simp [results, Try.results22, go_sem, c0, c1, c2]) rfl ⟨by simp only [H.out], (by repeat (first | exact Below.refl _ _ | assumption | refine Below.drew ?_ | refine Below.setCell ?_ (by first | (dsimp only; omega) | (simp; omega) | simp) _ | refine Below.alloc ?_ (by first | omega | (simp; omega) | simp) _))⟩
      · have H : Hid (∀ x y, mixV (true && true && true) k x y = mixF k x y) := fun x y => rfl
        obtain ⟨pr, pg, pb⟩ := isCol_parts hv
        obtain ⟨pr', pg', pb'⟩ := isCol_parts hv'
        have HE := hide (fun q w hc => eachPart_mix r g b r' g' b' k q w pr pg pb pr' pg' pb' hk hc)
        clear pr pg pb pr' pg' pb'
        go_enter Try.func22, Try.ntmps22
        go_wp2_with fail
        have cf : ∀ j, ((((w.alloc (.cells #[.float .f32 r, .float .f32 g, .float .f32 b] 41)).alloc (.cells #[.float .f32 r', .float .f32 g', .float .f32 b'] 41)).alloc (.cells #[.float .f32 k] 39)).alloc (.cells #[.float .f32 0, .float .f32 0, .float .f32 0] 41)).frozen? ⟨w.heap.size + 1 + 1 + 1, j, none⟩ = false := fun j => by go_simp
        have a0 : ((((w.alloc (.cells #[.float .f32 r, .float .f32 g, .float .f32 b] 41)).alloc (.cells #[.float .f32 r', .float .f32 g', .float .f32 b'] 41)).alloc (.cells #[.float .f32 k] 39)).alloc (.cells #[.float .f32 0, .float .f32 0, .float .f32 0] 41)).cell? ⟨w.heap.size, 0, none⟩ = some (.float .f32 r) := by go_simp
        have a1 : ((((w.alloc (.cells #[.float .f32 r, .float .f32 g, .float .f32 b] 41)).alloc (.cells #[.float .f32 r', .float .f32 g', .float .f32 b'] 41)).alloc (.cells #[.float .f32 k] 39)).alloc (.cells #[.float .f32 0, .float .f32 0, .float .f32 0] 41)).cell? ⟨w.heap.size, 1, none⟩ = some (.float .f32 g) := by go_simp
        have a2 : ((((w.alloc (.cells #[.float .f32 r, .float .f32 g, .float .f32 b] 41)).alloc (.cells #[.float .f32 r', .float .f32 g', .float .f32 b'] 41)).alloc (.cells #[.float .f32 k] 39)).alloc (.cells #[.float .f32 0, .float .f32 0, .float .f32 0] 41)).cell? ⟨w.heap.size, 2, none⟩ = some (.float .f32 b) := by go_simp
        have b0 : ((((w.alloc (.cells #[.float .f32 r, .float .f32 g, .float .f32 b] 41)).alloc (.cells #[.float .f32 r', .float .f32 g', .float .f32 b'] 41)).alloc (.cells #[.float .f32 k] 39)).alloc (.cells #[.float .f32 0, .float .f32 0, .float .f32 0] 41)).cell? ⟨w.heap.size + 1, 0, none⟩ = some (.float .f32 r') := by go_simp
        have b1 : ((((w.alloc (.cells #[.float .f32 r, .float .f32 g, .float .f32 b] 41)).alloc (.cells #[.float .f32 r', .float .f32 g', .float .f32 b'] 41)).alloc (.cells #[.float .f32 k] 39)).alloc (.cells #[.float .f32 0, .float .f32 0, .float .f32 0] 41)).cell? ⟨w.heap.size + 1, 1, none⟩ = some (.float .f32 g') := by go_simp
        have b2 : ((((w.alloc (.cells #[.float .f32 r, .float .f32 g, .float .f32 b] 41)).alloc (.cells #[.float .f32 r', .float .f32 g', .float .f32 b'] 41)).alloc (.cells #[.float .f32 k] 39)).alloc (.cells #[.float .f32 0, .float .f32 0, .float .f32 0] 41)).cell? ⟨w.heap.size + 1, 2, none⟩ = some (.float .f32 b') := by go_simp
        have kc : ((((w.alloc (.cells #[.float .f32 r, .float .f32 g, .float .f32 b] 41)).alloc (.cells #[.float .f32 r', .float .f32 g', .float .f32 b'] 41)).alloc (.cells #[.float .f32 k] 39)).alloc (.cells #[.float .f32 0, .float .f32 0, .float .f32 0] 41)).cell? ⟨w.heap.size + 1 + 1, 0, none⟩ = some (.float .f32 k) := by go_simp
        have c0 : ((((w.alloc (.cells #[.float .f32 r, .float .f32 g, .float .f32 b] 41)).alloc (.cells #[.float .f32 r', .float .f32 g', .float .f32 b'] 41)).alloc (.cells #[.float .f32 k] 39)).alloc (.cells #[.float .f32 0, .float .f32 0, .float .f32 0] 41)).cell? ⟨w.heap.size + 1 + 1 + 1, 0, none⟩ = some (.float .f32 0) := by go_simp
        have c1 : ((((w.alloc (.cells #[.float .f32 r, .float .f32 g, .float .f32 b] 41)).alloc (.cells #[.float .f32 r', .float .f32 g', .float .f32 b'] 41)).alloc (.cells #[.float .f32 k] 39)).alloc (.cells #[.float .f32 0, .float .f32 0, .float .f32 0] 41)).cell? ⟨w.heap.size + 1 + 1 + 1, 1, none⟩ = some (.float .f32 0) := by go_simp
        have c2 : ((((w.alloc (.cells #[.float .f32 r, .float .f32 g, .float .f32 b] 41)).alloc (.cells #[.float .f32 r', .float .f32 g', .float .f32 b'] 41)).alloc (.cells #[.float .f32 k] 39)).alloc (.cells #[.float .f32 0, .float .f32 0, .float .f32 0] 41)).cell? ⟨w.heap.size + 1 + 1 + 1, 2, none⟩ = some (.float .f32 0) := by go_simp
        have bel : Below w.heap.size w ((((w.alloc (.cells #[.float .f32 r, .float .f32 g, .float .f32 b] 41)).alloc (.cells #[.float .f32 r', .float .f32 g', .float .f32 b'] 41)).alloc (.cells #[.float .f32 k] 39)).alloc (.cells #[.float .f32 0, .float .f32 0, .float .f32 0] 41)) := (by repeat (first | exact Below.refl _ _ | assumption | refine Below.drew ?_ | refine Below.setCell ?_ (by first | (dsimp only; omega) | (simp; omega) | simp) _ | refine Below.alloc ?_ (by first | omega | (simp; omega) | simp) _))
        generalize (((w.alloc (.cells #[.float .f32 r, .float .f32 g, .float .f32 b] 41)).alloc (.cells #[.float .f32 r', .float .f32 g', .float .f32 b'] 41)).alloc (.cells #[.float .f32 k] 39)).alloc (.cells #[.float .f32 0, .float .f32 0, .float .f32 0] 41) = wA at a0 a1 a2 b0 b1 b2 kc c0 c1 c2 cf bel ⊢
        have hswA := bel.size
        refine (isColourB_any _ _ _ _).mono ?_
        rintro e w1 ⟨rfl, hb1⟩
        have cf := frz hb1 c0 cf
        have a0 := keepc hb1 a0
        have a1 := keepc hb1 a1
        have a2 := keepc hb1 a2
        have b0 := keepc hb1 b0
        have b1 := keepc hb1 b1
        have b2 := keepc hb1 b2
        have kc := keepc hb1 kc
        have c0 := keepc hb1 c0
        have c1 := keepc hb1 c1
        have c2 := keepc hb1 c2
        have bel := belowOf bel hb1
        clear hb1
        go_wp2_with fail
        refine (isColourB_any _ _ _ _).mono ?_
        rintro e w2 ⟨rfl, hb2⟩
        have cf := frz hb2 c0 cf
        have a0 := keepc hb2 a0
        have a1 := keepc hb2 a1
        have a2 := keepc hb2 a2
        have b0 := keepc hb2 b0
        have b1 := keepc hb2 b1
        have b2 := keepc hb2 b2
        have kc := keepc hb2 kc
        have c0 := keepc hb2 c0
        have c1 := keepc hb2 c1
        have c2 := keepc hb2 c2
        have bel := belowOf bel hb2
        clear hb2
        go_wp2_with fail
        refine (isPart_any _ _).mono ?_
        rintro e w3 ⟨rfl, rfl⟩
        go_wp2_with fail
        refine (HE.out _ _ kc).mono ?_
        rintro e w4 ⟨rfl, hb4⟩
        have cf := frz hb4 c0 cf
        have c0 := keepc hb4 c0
        have c1 := keepc hb4 c1
        have c2 := keepc hb4 c2
        have bel := belowOf bel hb4
        clear hb4
        go_wp2_with fail
        exact bodyPost_ret (v := .agg #[.float .f32 (mixF k r r'), .float .f32 (mixF k g g'), .float .f32 (mixF k b b')]) (by simp [results, Try.results22, go_sem, c0, c1, c2]) rfl ⟨by simp only [H.out], (by repeat (first | exact Below.refl _ _ | assumption | refine Below.drew ?_ | refine Below.setCell ?_ (by first | (dsimp only; omega) | (simp; omega) | simp) _ | refine Below.alloc ?_ (by first | omega | (simp; omega) | simp) _))⟩

end Go.Proofs.Ytgafdkaiiajieaa
