/- A colour that is stored into a new cell. No condition. -/
import Derived.Test.YtgafdkaiiajieaaFloW
namespace Go.Proofs.Ytgafdkaiiajieaa
open Go.RowKit
open Fl

/-- Behind a region that stores a colour into a new cell: what it holds; nothing old is changed. -/
structure HasC (wA wx : World) (p : Nat) (r g b : Nat) : Prop where
  c0 : wx.cell? ⟨p, 0, none⟩ = some (.float .f32 r)
  c1 : wx.cell? ⟨p, 1, none⟩ = some (.float .f32 g)
  c2 : wx.cell? ⟨p, 2, none⟩ = some (.float .f32 b)
  bel : Below wA.heap.size wA wx

theorem hasC_set {wA X w2 : World} {p r g b : Nat} {u0 u1 u2 : Value} (hb : Below X.heap.size X w2) (bel : Below wA.heap.size wA w2)
    (q0 : X.cell? ⟨p, 0, none⟩ = some u0) (q1 : X.cell? ⟨p, 1, none⟩ = some u1) (q2 : X.cell? ⟨p, 2, none⟩ = some u2) (hge : wA.heap.size ≤ p) :
    HasC wA (((w2.setCell ⟨p, 0, none⟩ (.float .f32 r)).setCell ⟨p, 1, none⟩ (.float .f32 g)).setCell ⟨p, 2, none⟩ (.float .f32 b)) p r g b := by
  have r0 := keepc hb q0
  have r1 := keepc hb q1
  have r2 := keepc hb q2
  refine ⟨?_, ?_, ?_, ((bel.setCell hge _).setCell hge _).setCell hge _⟩
  · exact (World.cell?_setCell_other _ ⟨p, 2, none⟩ ⟨p, 0, none⟩ _ (by simp)).trans ((World.cell?_setCell_other _ ⟨p, 1, none⟩ ⟨p, 0, none⟩ _ (by simp)).trans (World.cell?_setCell_same _ _ _ r0))
  · exact (World.cell?_setCell_other _ ⟨p, 2, none⟩ ⟨p, 1, none⟩ _ (by simp)).trans (World.cell?_setCell_same _ _ _ ((World.cell?_setCell_other _ ⟨p, 0, none⟩ ⟨p, 1, none⟩ _ (by simp)).trans r1))
  · exact World.cell?_setCell_same _ _ _ ((World.cell?_setCell_other _ ⟨p, 1, none⟩ ⟨p, 2, none⟩ _ (by simp)).trans ((World.cell?_setCell_other _ ⟨p, 0, none⟩ ⟨p, 2, none⟩ _ (by simp)).trans r2))

theorem hasC_new {wA w2 : World} {r g b : Nat} {E : TypeId} (bel : Below wA.heap.size wA w2) :
    HasC wA (w2.alloc (.cells #[.float .f32 r, .float .f32 g, .float .f32 b] E)) w2.heap.size r g b :=
  ⟨by go_simp, by go_simp, by go_simp, bel.alloc bel.size _⟩

end Go.Proofs.Ytgafdkaiiajieaa
