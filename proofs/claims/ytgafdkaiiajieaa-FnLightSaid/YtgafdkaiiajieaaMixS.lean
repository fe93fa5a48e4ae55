/- What the reference's MixColours computes. For all colours, shares and worlds. -/
import Derived.Test.YtgafdkaiiajieaaMixI
namespace Go.Proofs.Ytgafdkaiiajieaa
open Go.RowKit
open Fl

theorem fin_bnd {z : Nat} (h : fin z) : fin (bnd z) := by
  unfold bnd
  split
  · exact fin_one
  · exact h

theorem fin_mix {k x y : Nat} (hx : part x = true) (hy : part y = true) (hk : part k = true) : fin (mixF k x y) :=
  fin_bnd (fin_cl (sum_fin_part (part_times hx (part_diff hk)) (part_times hy hk)))

theorem fin_mixV {r g b r' g' b' k : Nat} : fin (mixV (isCol r g b && isCol r' g' b' && part k) k r r') ∧ fin (mixV (isCol r g b && isCol r' g' b' && part k) k g g') ∧ fin (mixV (isCol r g b && isCol r' g' b' && part k) k b b') := by
  cases h : isCol r g b
  · exact ⟨fin_zero, fin_zero, fin_zero⟩
  · cases h' : isCol r' g' b'
    · exact ⟨fin_zero, fin_zero, fin_zero⟩
    · cases hk : part k
      · exact ⟨fin_zero, fin_zero, fin_zero⟩
      · obtain ⟨a1, a2, a3⟩ := isCol_parts h
        obtain ⟨b1, b2, b3⟩ := isCol_parts h'
        exact ⟨fin_mix a1 b1 hk, fin_mix a2 b2 hk, fin_mix a3 b3 hk⟩

end Go.Proofs.Ytgafdkaiiajieaa
