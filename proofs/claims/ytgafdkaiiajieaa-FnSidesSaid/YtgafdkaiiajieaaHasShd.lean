/- A shard that is stored into a new cell. No condition. -/
import Derived.Test.YtgafdkaiiajieaaMovS
namespace Go.Proofs.Ytgafdkaiiajieaa
open Go.RowKit
open Fl

/-- Behind a region that stores a shard into a new cell: what it holds; nothing old is changed. -/
structure HasShd (wA wx : World) (p : Nat) (ax ay bx b_y cx cy r g b k : Nat) : Prop where
  c0 : wx.cell? ⟨p, 0, none⟩ = some (.complex .f32 ax ay)
  c1 : wx.cell? ⟨p, 1, none⟩ = some (.complex .f32 bx b_y)
  c2 : wx.cell? ⟨p, 2, none⟩ = some (.complex .f32 cx cy)
  c3 : wx.cell? ⟨p, 3, none⟩ = some (.float .f32 r)
  c4 : wx.cell? ⟨p, 4, none⟩ = some (.float .f32 g)
  c5 : wx.cell? ⟨p, 5, none⟩ = some (.float .f32 b)
  c6 : wx.cell? ⟨p, 6, none⟩ = some (.float .f32 k)
  bel : Below wA.heap.size wA wx

theorem hasShd_set {wA X w2 : World} {p ax ay bx b_y cx cy r g b k : Nat} {u0 u1 u2 u3 u4 u5 u6 : Value} (hb : Below X.heap.size X w2) (bel : Below wA.heap.size wA w2)
    (q0 : X.cell? ⟨p, 0, none⟩ = some u0) (q1 : X.cell? ⟨p, 1, none⟩ = some u1) (q2 : X.cell? ⟨p, 2, none⟩ = some u2) (q3 : X.cell? ⟨p, 3, none⟩ = some u3) (q4 : X.cell? ⟨p, 4, none⟩ = some u4) (q5 : X.cell? ⟨p, 5, none⟩ = some u5) (q6 : X.cell? ⟨p, 6, none⟩ = some u6) (hge : wA.heap.size ≤ p) :
    HasShd wA (((((((w2.setCell ⟨p, 0, none⟩ (.complex .f32 ax ay)).setCell ⟨p, 1, none⟩ (.complex .f32 bx b_y)).setCell ⟨p, 2, none⟩ (.complex .f32 cx cy)).setCell ⟨p, 3, none⟩ (.float .f32 r)).setCell ⟨p, 4, none⟩ (.float .f32 g)).setCell ⟨p, 5, none⟩ (.float .f32 b)).setCell ⟨p, 6, none⟩ (.float .f32 k)) p ax ay bx b_y cx cy r g b k := by
  have r0 := keepc hb q0
  have r1 := keepc hb q1
  have r2 := keepc hb q2
  have r3 := keepc hb q3
  have r4 := keepc hb q4
  have r5 := keepc hb q5
  have r6 := keepc hb q6
  have e : ∀ (Y : World) (i j : Nat) (v : Value), i ≠ j → (Y.setCell ⟨p, i, none⟩ v).cell? ⟨p, j, none⟩ = Y.cell? ⟨p, j, none⟩ := fun Y i j v h => World.cell?_setCell_other _ ⟨p, i, none⟩ ⟨p, j, none⟩ _ (by intro e; cases e; exact h rfl)
  refine ⟨?_, ?_, ?_, ?_, ?_, ?_, ?_, (((((((bel.setCell hge _).setCell hge _).setCell hge _).setCell hge _).setCell hge _).setCell hge _).setCell hge _)⟩
  · rw [e _ 6 0 _ (by decide), e _ 5 0 _ (by decide), e _ 4 0 _ (by decide), e _ 3 0 _ (by decide), e _ 2 0 _ (by decide), e _ 1 0 _ (by decide)]
    exact World.cell?_setCell_same _ _ _ r0
  · rw [e _ 6 1 _ (by decide), e _ 5 1 _ (by decide), e _ 4 1 _ (by decide), e _ 3 1 _ (by decide), e _ 2 1 _ (by decide)]
    refine World.cell?_setCell_same _ _ _ (show _ = some u1 from ?_)
    rw [e _ 0 1 _ (by decide)]; exact r1
  · rw [e _ 6 2 _ (by decide), e _ 5 2 _ (by decide), e _ 4 2 _ (by decide), e _ 3 2 _ (by decide)]
    refine World.cell?_setCell_same _ _ _ (show _ = some u2 from ?_)
    rw [e _ 1 2 _ (by decide), e _ 0 2 _ (by decide)]; exact r2
  · rw [e _ 6 3 _ (by decide), e _ 5 3 _ (by decide), e _ 4 3 _ (by decide)]
    refine World.cell?_setCell_same _ _ _ (show _ = some u3 from ?_)
    rw [e _ 2 3 _ (by decide), e _ 1 3 _ (by decide), e _ 0 3 _ (by decide)]; exact r3
  · rw [e _ 6 4 _ (by decide), e _ 5 4 _ (by decide)]
    refine World.cell?_setCell_same _ _ _ (show _ = some u4 from ?_)
    rw [e _ 3 4 _ (by decide), e _ 2 4 _ (by decide), e _ 1 4 _ (by decide), e _ 0 4 _ (by decide)]; exact r4
  · rw [e _ 6 5 _ (by decide)]
    refine World.cell?_setCell_same _ _ _ (show _ = some u5 from ?_)
    rw [e _ 4 5 _ (by decide), e _ 3 5 _ (by decide), e _ 2 5 _ (by decide), e _ 1 5 _ (by decide), e _ 0 5 _ (by decide)]; exact r5
  · skip
    refine World.cell?_setCell_same _ _ _ (show _ = some u6 from ?_)
    rw [e _ 5 6 _ (by decide), e _ 4 6 _ (by decide), e _ 3 6 _ (by decide), e _ 2 6 _ (by decide), e _ 1 6 _ (by decide), e _ 0 6 _ (by decide)]; exact r6

theorem hasShd_new {wA w2 : World} {ax ay bx b_y cx cy r g b k : Nat} {E : TypeId} (bel : Below wA.heap.size wA w2) :
    HasShd wA (w2.alloc (.cells #[.complex .f32 ax ay, .complex .f32 bx b_y, .complex .f32 cx cy, .float .f32 r, .float .f32 g, .float .f32 b, .float .f32 k] E)) w2.heap.size ax ay bx b_y cx cy r g b k :=
  ⟨by go_simp, by go_simp, by go_simp, by go_simp, by go_simp, by go_simp, by go_simp, bel.alloc bel.size _⟩

end Go.Proofs.Ytgafdkaiiajieaa
