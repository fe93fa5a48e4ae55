/- A colour that is stored into a new cell; filtered and inverse colours have finite parts. -/
import Derived.Test.YtenpbnojabhlkaaFiltS
import Derived.Test.YtenpbnojabhlkaaEqCol
namespace Go.Proofs.Ytenpbnojabhlkaa
open Go.RowKit
open Fl

/-- Behind a region that stores a colour into a new cell: what it holds; nothing old is changed. -/
structure HasCol (wA wx : World) (p : Nat) (r g b : Nat) : Prop where
  c0 : wx.cell? ⟨p, 0, none⟩ = some (.float .f32 r)
  c1 : wx.cell? ⟨p, 1, none⟩ = some (.float .f32 g)
  c2 : wx.cell? ⟨p, 2, none⟩ = some (.float .f32 b)
  bel : Below wA.heap.size wA wx

theorem hasCol_set {wA X w2 : World} {p r g b : Nat} {u0 u1 u2 : Value} (hb : Below X.heap.size X w2) (bel : Below wA.heap.size wA w2)
    (q0 : X.cell? ⟨p, 0, none⟩ = some u0) (q1 : X.cell? ⟨p, 1, none⟩ = some u1) (q2 : X.cell? ⟨p, 2, none⟩ = some u2) (hge : wA.heap.size ≤ p) :
    HasCol wA (((w2.setCell ⟨p, 0, none⟩ (.float .f32 r)).setCell ⟨p, 1, none⟩ (.float .f32 g)).setCell ⟨p, 2, none⟩ (.float .f32 b)) p r g b := by
  have r0 := keepc hb q0
  have r1 := keepc hb q1
  have r2 := keepc hb q2
  refine ⟨?_, ?_, ?_, ((bel.setCell hge _).setCell hge _).setCell hge _⟩
  · exact (World.cell?_setCell_other _ ⟨p, 2, none⟩ ⟨p, 0, none⟩ _ (by simp)).trans ((World.cell?_setCell_other _ ⟨p, 1, none⟩ ⟨p, 0, none⟩ _ (by simp)).trans (World.cell?_setCell_same _ _ _ r0))
  · exact (World.cell?_setCell_other _ ⟨p, 2, none⟩ ⟨p, 1, none⟩ _ (by simp)).trans (World.cell?_setCell_same _ _ _ ((World.cell?_setCell_other _ ⟨p, 0, none⟩ ⟨p, 1, none⟩ _ (by simp)).trans r1))
  · exact World.cell?_setCell_same _ _ _ ((World.cell?_setCell_other _ ⟨p, 1, none⟩ ⟨p, 2, none⟩ _ (by simp)).trans ((World.cell?_setCell_other _ ⟨p, 0, none⟩ ⟨p, 2, none⟩ _ (by simp)).trans r2))

theorem hasCol_new {wA w2 : World} {r g b : Nat} {E : TypeId} (bel : Below wA.heap.size wA w2) :
    HasCol wA (w2.alloc (.cells #[.float .f32 r, .float .f32 g, .float .f32 b] E)) w2.heap.size r g b :=
  ⟨by go_simp, by go_simp, by go_simp, bel.alloc bel.size _⟩

theorem fin_filF {r g b r' g' b' : Nat} : fin (filF (isCol r g b && isCol r' g' b') r r') ∧ fin (filF (isCol r g b && isCol r' g' b') g g') ∧ fin (filF (isCol r g b && isCol r' g' b') b b') := by
  cases h : isCol r g b
  · exact ⟨fin_zero, fin_zero, fin_zero⟩
  · cases h' : isCol r' g' b'
    · exact ⟨fin_zero, fin_zero, fin_zero⟩
    · obtain ⟨a1, a2, a3⟩ := isCol_parts h
      obtain ⟨b1, b2, b3⟩ := isCol_parts h'
      exact ⟨part_fin (part_times a1 b1), part_fin (part_times a2 b2), part_fin (part_times a3 b3)⟩

theorem fin_invF {r g b : Nat} : fin (invF (isCol r g b) r) ∧ fin (invF (isCol r g b) g) ∧ fin (invF (isCol r g b) b) := by
  cases h : isCol r g b
  · exact ⟨fin_zero, fin_zero, fin_zero⟩
  · obtain ⟨a1, a2, a3⟩ := isCol_parts h
    exact ⟨part_fin (part_diff a1), part_fin (part_diff a2), part_fin (part_diff a3)⟩

end Go.Proofs.Ytenpbnojabhlkaa
