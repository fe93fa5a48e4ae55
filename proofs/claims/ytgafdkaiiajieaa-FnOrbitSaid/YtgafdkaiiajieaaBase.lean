/- Small facts that all walks of this seat use: what 'Below' says of old cells; ranges of integers. No condition. -/
import Derived.Test.YtgafdkaiiajieaaRows
import Derived.WalkKit
import Derived.WalkSpells
import Derived.WalkLawsBesides
namespace Go.Proofs.Ytgafdkaiiajieaa
open Go.RowKit

@[go_sem] theorem run_store_float {P : Program} {w : World} {a : Addr} {m : Mode} (k : FloatKind) (n : Nat) : (store a (.float k n) m).run P w = stored P w a (.float k n) m := run_store P w a _ m rfl
@[go_sem] theorem run_store_complex {P : Program} {w : World} {a : Addr} {m : Mode} (k : FloatKind) (x y : Nat) : (store a (.complex k x y) m).run P w = stored P w a (.complex k x y) m := run_store P w a _ m rfl

def win (n lo hi : Int) : Bool := decide (lo ≤ n) && decide (n ≤ hi)

theorem win_true {n lo hi : Int} (h : lo ≤ n) (k : n ≤ hi) : win n lo hi = true := by simp [win, h, k]

theorem win_iff {n lo hi : Int} : win n lo hi = true ↔ lo ≤ n ∧ n ≤ hi := by simp [win]

theorem hide {p : Prop} (h : p) : Hid p := h

theorem bcell {W w1 : World} (hb : Below W.heap.size W w1) : (∀ b o, b < W.heap.size → w1.cell? ⟨b, o, none⟩ = W.cell? ⟨b, o, none⟩) ∧ (∀ b o, b < W.heap.size → w1.frozen? ⟨b, o, none⟩ = W.frozen? ⟨b, o, none⟩) :=
  ⟨fun b o h => hb.cell (p := ⟨b, o, none⟩) h, fun b o h => hb.frozen (p := ⟨b, o, none⟩) h⟩

/-- A cell that is there stays as it is where nothing old is changed. -/
theorem keepc {wA W : World} {p : Addr} {v : Value} (h : Below wA.heap.size wA W) (hc : wA.cell? p = some v) : W.cell? p = some v := by
  rw [h.cell (World.block_lt_of_cell? wA _ hc)]; exact hc

theorem belowOf {w wA W : World} (h : Below w.heap.size w wA) (k : Below wA.heap.size wA W) : Below w.heap.size w W := h.trans (k.mono h.size)

/-- Behind a region that stores a symmetry into a new cell: what it holds; nothing old is changed. -/
structure HasSym (wA wx : World) (b : Nat) (T : Int) (F : Bool) : Prop where
  c0 : wx.cell? ⟨b, 0, none⟩ = some (.int .i64 T)
  c1 : wx.cell? ⟨b, 1, none⟩ = some (.bool F)
  bel : Below wA.heap.size wA wx

theorem hasSym_set {wA X w2 : World} {b : Nat} {T : Int} {F : Bool} {u0 u1 : Value} (hb : Below X.heap.size X w2) (bel : Below wA.heap.size wA w2)
    (q0 : X.cell? ⟨b, 0, none⟩ = some u0) (q1 : X.cell? ⟨b, 1, none⟩ = some u1) (hge : wA.heap.size ≤ b) :
    HasSym wA ((w2.setCell ⟨b, 0, none⟩ (.int .i64 T)).setCell ⟨b, 1, none⟩ (.bool F)) b T F := by
  have r0 := keepc hb q0
  have r1 := keepc hb q1
  refine ⟨?_, ?_, ?_⟩
  · exact (World.cell?_setCell_other _ ⟨b, 1, none⟩ ⟨b, 0, none⟩ _ (by simp)).trans (World.cell?_setCell_same _ _ _ r0)
  · exact World.cell?_setCell_same _ _ _ ((World.cell?_setCell_other _ ⟨b, 0, none⟩ ⟨b, 1, none⟩ _ (by simp)).trans r1)
  · exact (bel.setCell hge _).setCell hge _

theorem hasSym_new {wA w2 : World} {T : Int} {F : Bool} {E : TypeId} (bel : Below wA.heap.size wA w2) :
    HasSym wA (w2.alloc (.cells #[.int .i64 T, .bool F] E)) w2.heap.size T F :=
  ⟨by go_simp, by go_simp, bel.alloc bel.size _⟩

end Go.Proofs.Ytgafdkaiiajieaa
