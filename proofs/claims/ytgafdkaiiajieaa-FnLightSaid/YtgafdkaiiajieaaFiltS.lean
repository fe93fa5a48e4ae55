/- What the reference's FilterColour and InverseColour compute. For all colours and worlds. -/
import Derived.Test.YtgafdkaiiajieaaFilt
namespace Go.Proofs.Ytgafdkaiiajieaa
open Go.RowKit
open Fl

theorem frz {w W : World} {b : Nat} {v : Value} (h : Below w.heap.size w W) (hc : w.cell? ⟨b, 0, none⟩ = some v) (hf : ∀ j, w.frozen? ⟨b, j, none⟩ = false) (j : Nat) : W.frozen? ⟨b, j, none⟩ = false :=
  (h.frozen (p := ⟨b, j, none⟩) (show b < _ from World.block_lt_of_cell? w ⟨b, 0, none⟩ hc)).trans (hf j)

end Go.Proofs.Ytgafdkaiiajieaa
