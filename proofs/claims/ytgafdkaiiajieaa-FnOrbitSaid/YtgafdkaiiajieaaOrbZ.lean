/- What slices.Contains at points computes. Condition: at most 8 points. -/
import Derived.Test.YtgafdkaiiajieaaSortZ
namespace Go.Proofs.Ytgafdkaiiajieaa
open Go.RowKit
open Fl

/-- Whether the program takes two points as one. -/
def eqZ (a b : Nat × Nat) : Bool := FloatKind.f32.format.order a.1 b.1 == some .eq && FloatKind.f32.format.order a.2 b.2 == some .eq

/-- A slice that reads as the list zs of points. -/
def ReadsZ (w : World) (a : Option Addr) (n cap : Nat) (zs : List (Nat × Nat)) : Prop :=
  zs.length = n ∧ (n = 0 ∨ ∃ g, a = some ⟨g, 0, none⟩ ∧ n ≤ cap ∧ cap ≤ maxLen ∧ ∀ j, j < n → w.cell? ⟨g, j, none⟩ = some (cv (zs.getD j (0, 0))))

theorem ReadsZ.below {w W : World} {a : Option Addr} {n cap : Nat} {zs : List (Nat × Nat)} (h : ReadsZ w a n cap zs) (hb : Below w.heap.size w W) : ReadsZ W a n cap zs := by
  obtain ⟨h1, h2⟩ := h
  refine ⟨h1, ?_⟩
  rcases h2 with h2 | ⟨g, rfl, hn, hm, hc⟩
  · exact .inl h2
  · exact .inr ⟨g, rfl, hn, hm, fun j hj => keepc hb (hc j hj)⟩

theorem readsZ_of_row {w : World} {base : Nat} {v : Value} {zs : List (Nat × Nat)} (h : RowZ base w v zs) : ∃ a cap, v = .slice a zs.length cap ∧ ReadsZ w a zs.length cap zs := by
  rcases h.2 with ⟨rfl, h0⟩ | ⟨g, cap, cur, rfl, hb, hg, hn, hm, _, _⟩
  · exact ⟨none, 0, by rw [h0], rfl, .inl h0⟩
  · refine ⟨_, cap, rfl, rfl, .inr ⟨g, rfl, hn, hm, fun j hj => ?_⟩⟩
    refine (World.ownsRow.cellAt h j (by omega)).trans ?_
    rw [List.getElem?_map, List.getElem?_eq_getElem hj]
    simp [List.getD, List.getElem?_eq_getElem hj]

theorem any_yes {zs : List (Nat × Nat)} {v : Nat × Nat} {k : Nat} (hk : k < zs.length) (h : eqZ v (zs.getD k (0, 0)) = true) : zs.any (eqZ v) = true := by
  rw [List.any_eq_true]
  refine ⟨zs.getD k (0, 0), ?_, h⟩
  simp [List.getD, List.getElem?_eq_getElem hk]

theorem any_no {zs : List (Nat × Nat)} {v : Nat × Nat} (h : ∀ j, j < zs.length → eqZ v (zs.getD j (0, 0)) = false) : zs.any (eqZ v) = false := by
  rw [List.any_eq_false]
  intro x hx
  obtain ⟨j, hj, rfl⟩ := List.getElem_of_mem hx
  have := h j hj
  simp only [List.getD, List.getElem?_eq_getElem hj, Option.getD_some] at this
  simp [this]

set_option maxRecDepth 100000 in
set_option maxHeartbeats 2000000 in
theorem indexZ_any (a : Option Addr) (n cap : Nat) (zs : List (Nat × Nat)) (x y : Nat) (w : World) (h : ReadsZ w a n cap zs) (hn : n ≤ 8) :
    Calls Try.prog 76 #[.slice a n cap, .complex .f32 x y] w fun e w' => (∃ q : Int, e = .returned (.int .i64 q) ∧ decide (q ≥ 0) = zs.any (eqZ (x, y))) ∧ Below w.heap.size w w' := by
  have HR := hide h
  have HL := hide h.1
  clear h
  go_enter Try.func76, Try.ntmps76
  go_wp2_with fail
  go_loopw [8] (fun i wr => ∃ k : Nat, k ≤ n ∧ i = .int .i64 k ∧ Hid (∀ j, j < k → eqZ (x, y) (zs.getD j (0, 0)) = false) ∧ Below w.heap.size w wr) (fun i _ => n - (intOf i).toNat)
  case atStart => exact ⟨0, Nat.zero_le _, rfl, fun j hj => by omega, Below.refl _ _⟩
  case round =>
    obtain ⟨k, hk, rfl, hno, bel⟩ := hrel
    by_cases hlt : k < n
    · obtain ⟨g, rfl, hg⟩ : ∃ g, a = some ⟨g, 0, none⟩ ∧ ∀ j, j < n → w.cell? ⟨g, j, none⟩ = some (cv (zs.getD j (0, 0))) := by
        rcases HR.out.2 with h0 | ⟨g, hg, _, _, hc⟩
        · omega
        · exact ⟨g, hg, hc⟩
      have x0 := keepc bel (hg k hlt)
      have hyes := hide (fun e => any_yes (zs := zs) (v := (x, y)) (k := k) (by rw [HL.out]; exact hlt) e)
      have hno2 := hide (fun (e : eqZ (x, y) (zs.getD k (0, 0)) = false) j (hj : j < k + 1) => show eqZ (x, y) (zs.getD j (0, 0)) = false from by
        by_cases e' : j = k
        · subst e'; exact e
        · exact hno.out j (by omega))
      clear hg hno
      generalize zs.getD k (0, 0) = s at x0 hyes hno2
      obtain ⟨sx, sy⟩ := s
      replace x0 : wr.cell? ⟨g, k, none⟩ = some (.complex .f32 sx sy) := x0
      cases h1 : (FloatKind.f32.format.order x sx == some .eq) <;> cases h2 : (FloatKind.f32.format.order y sy == some .eq)
      case true.true =>
        have HY := hide (hyes.out (show eqZ (x, y) (sx, sy) = true by unfold eqZ; rw [h1, h2]; rfl))
        clear hyes hno2
        go_wp2_with fail
        go_ret
        exact ⟨⟨(k : Int), rfl, by rw [HY.out]; simp⟩, bel⟩
      all_goals
        have HN := hide (hno2.out (show eqZ (x, y) (sx, sy) = false by unfold eqZ; rw [h1, h2]; rfl))
        clear hyes hno2
        go_wp2_with fail
        go_roundw
        case rel => exact ⟨k + 1, by omega, by go_num, HN, bel⟩
        case measure => simp [intOf]; omega
    · obtain rfl : k = n := by omega
      have HN := hide (any_no (v := (x, y)) (fun j hj => hno.out j (by rw [HL.out] at hj; exact hj)))
      go_wp2_with fail
      go_ret
      exact ⟨⟨-1, rfl, by rw [HN.out]; rfl⟩, bel⟩

/-- Whether a point is in a list. -/
theorem containsZ_any (a : Option Addr) (n cap : Nat) (zs : List (Nat × Nat)) (x y : Nat) (w : World) (h : ReadsZ w a n cap zs) (hn : n ≤ 8) :
    Calls Try.prog 47 #[.slice a n cap, .complex .f32 x y] w fun e w' => e = .returned (.bool (zs.any (eqZ (x, y)))) ∧ Below w.heap.size w w' := by
  have HX := hide (indexZ_any a n cap zs x y w h hn)
  clear h
  generalize zs.any (eqZ (x, y)) = R at HX ⊢
  go_enter Try.func47, Try.ntmps47
  go_wp2_with fail
  refine HX.out.mono ?_
  rintro e w1 ⟨⟨q, rfl, hq⟩, bel⟩
  have hq' : decide (0 ≤ q) = R := hq
  go_wp2_with fail
  go_ret
  exact ⟨by rw [← hq]; rfl, bel⟩

end Go.Proofs.Ytgafdkaiiajieaa
