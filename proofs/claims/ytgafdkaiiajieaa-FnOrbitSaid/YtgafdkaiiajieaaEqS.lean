/- What the laws' eqSymS, markSymS and heldSymS compute on slices of symmetries in new memory. Condition: the slices' cells are known. -/
import Derived.Test.YtgafdkaiiajieaaRows2
import Derived.Test.YtgafdkaiiajieaaSym
import Derived.Deep.RegionHeld3
import Derived.Deep.CutRange
namespace Go.Proofs.Ytgafdkaiiajieaa
open Go.RowKit

/-- A slice that reads as the list l of symmetries. -/
def ReadsS (w : World) (a : Option Addr) (n cap : Nat) (l : List (Int × Bool)) : Prop :=
  l.length = n ∧ (n = 0 ∨ ∃ g, a = some ⟨g, 0, none⟩ ∧ n ≤ cap ∧ cap ≤ maxLen ∧ ∀ j, j < n * 2 → w.cell? ⟨g, j, none⟩ = (symCells l)[j]?)

theorem readsS_of_own {w : World} {base : Nat} {v : Value} {l : List (Int × Bool)} (h : w.ownsRow base 28 2 v l.length (symCells l)) : ∃ a cap, v = .slice a l.length cap ∧ ReadsS w a l.length cap l := by
  rcases h.2 with ⟨rfl, h0⟩ | ⟨g, cap, cur, rfl, hb, hg, hn, hm, _, _⟩
  · exact ⟨none, 0, by rw [h0], rfl, .inl h0⟩
  · exact ⟨_, cap, rfl, rfl, .inr ⟨g, rfl, hn, hm, fun j hj => h.cellAt j hj⟩⟩

theorem ReadsS.below {w W : World} {a : Option Addr} {n cap : Nat} {l : List (Int × Bool)} (h : ReadsS w a n cap l) (hb : Below w.heap.size w W) : ReadsS W a n cap l := by
  obtain ⟨h1, h2⟩ := h
  refine ⟨h1, ?_⟩
  rcases h2 with h2 | ⟨g, rfl, hn, hm, hc⟩
  · exact .inl h2
  · refine .inr ⟨g, rfl, hn, hm, fun j hj => ?_⟩
    have e := hc j hj
    have hl : j < (symCells l).length := by rw [symCells_length]; omega
    rw [List.getElem?_eq_getElem hl] at e ⊢
    exact keepc hb e

theorem ReadsS.at {w : World} {g n : Nat} {l : List (Int × Bool)} (h : ∀ j, j < n * 2 → w.cell? ⟨g, j, none⟩ = (symCells l)[j]?) (hl : l.length = n) (k : Nat) (hk : k < n) :
    w.cell? ⟨g, k * 2, none⟩ = some (.int .i64 (l[k]'(by omega)).1) ∧ w.cell? ⟨g, k * 2 + 1, none⟩ = some (.bool (l[k]'(by omega)).2) := by
  have := symCells_at l k (by omega)
  exact ⟨(h _ (by omega)).trans this.1, (h _ (by omega)).trans this.2⟩

/-- The marks: cell j of a slice of symmetries that was marked from 1 on. -/
def mark (j : Nat) : Value := if j % 2 = 0 then .int .i64 (1 + j) else .bool ((1 + (j : Int)) % 3 == 0)

structure Marked (w : World) (g n c : Nat) (wr : World) : Prop where
  grow : w.grownBy wr (some g)
  size : wr.heap.size = w.heap.size
  new : ∀ j, j < c → wr.cell? ⟨g, j, none⟩ = some (mark j)
  old : ∀ j, c ≤ j → j < n * 2 → ∃ v, wr.cell? ⟨g, j, none⟩ = some v
  free : ∀ j, j < n * 2 → wr.frozen? ⟨g, j, none⟩ = false

theorem Marked.step {w : World} {g n c : Nat} {wr : World} (h : Marked w g n c wr) (hc : c < n * 2) : Marked w g n (c + 1) (wr.setCell ⟨g, c, none⟩ (mark c)) := by
  obtain ⟨v, hv⟩ := h.old c (Nat.le_refl _) hc
  refine ⟨⟨h.grow.os, h.grow.tape, h.grow.output, (by simpa [World.setCell] using h.grow.size), fun k hk hne => ?_⟩, (by simpa [World.setCell] using h.size), fun j hj => ?_, fun j hj hn => ?_, fun j hj => ?_⟩
  · rw [Below.heap_setCell _ _ _ _ (by intro e; exact hne (by rw [e]))]
    exact h.grow.block k hk hne
  · by_cases e : j = c
    · subst e
      exact World.cell?_setCell_same _ _ _ hv
    · exact (World.cell?_setCell_other _ ⟨g, c, none⟩ ⟨g, j, none⟩ _ (by first | (simp; done) | (simp; omega))).trans (h.new j (by omega))
  · obtain ⟨u, hu⟩ := h.old j (by omega) hn
    exact ⟨u, (World.cell?_setCell_other _ ⟨g, c, none⟩ ⟨g, j, none⟩ _ (by first | (simp; done) | (simp; omega))).trans hu⟩
  · have := h.free j hj
    go_simp

theorem Marked.start {w : World} {g n : Nat} (hc : ∀ j, j < n * 2 → ∃ v, w.cell? ⟨g, j, none⟩ = some v) (hf : ∀ j, j < n * 2 → w.frozen? ⟨g, j, none⟩ = false) : Marked w g n 0 w :=
  ⟨⟨rfl, rfl, rfl, Nat.le_refl _, fun _ _ _ => rfl⟩, rfl, fun _ h => by omega, fun j _ h => hc j h, hf⟩

theorem mark_even (c : Nat) : mark (c * 2) = .int .i64 (1 + ((c * 2 : Nat) : Int)) := by simp [mark]
theorem mark_odd (c : Nat) : mark (c * 2 + 1) = .bool ((1 + ((c * 2 + 1 : Nat) : Int)) % 3 == 0) := by
  simp [mark]

end Go.Proofs.Ytgafdkaiiajieaa
