/- Plain facts: an inverse turns the order of parts round; the brightest part of black's inverse is 1. Condition: numbers from 0 to 1. -/
import Derived.Test.YtgafdkaiiajieaaFarP
namespace Go.Proofs.Ytgafdkaiiajieaa
open Go.RowKit
open Fl

theorem val_inv {x : Nat} (hx : part x = true) : val (diffF one x) = (mv (rung (val one - val x).natAbs (-149)) : Int) ∧ rung (val one - val x).natAbs (-149) < 2139095040 := by
  have hr := diff_rung hx
  rw [rg_one] at hr
  obtain ⟨x1, x2, _⟩ := part_mv hx
  have hf : fin (word (isNeg one && !isNeg x) (val one - val x)) := fin_word' (by omega)
  refine ⟨?_, by omega⟩
  unfold diffF
  rw [val_cl hf]
  unfold word
  rw [val_word' (by omega)]
  have h3 := val_one
  by_cases h0 : val one - val x = 0
  · rw [h0]
    have : rung (0 : Int).natAbs (-149) = 0 := by decide
    rw [this]; simp [mv_zero]
  · rw [if_neg h0, if_neg (by rw [decide_eq_false (by omega)]; exact Bool.false_ne_true)]

theorem inv_mono {x y : Nat} (hx : part x = true) (hy : part y = true) (h : val x ≤ val y) : val (diffF one y) ≤ val (diffF one x) := by
  obtain ⟨ex, lx⟩ := val_inv hx
  obtain ⟨ey, ly⟩ := val_inv hy
  rw [ex, ey]
  obtain ⟨x1, x2, _⟩ := part_mv hx
  obtain ⟨y1, y2, _⟩ := part_mv hy
  have h3 := val_one
  have hm : (val one - val y).natAbs ≤ (val one - val x).natAbs := by omega
  have := mv_le ly lx (rung_mono (-149) hm)
  omega

theorem order_le {x y : Nat} (hx : fin x) (hy : fin y) : (FloatKind.f32.format.order x y == some .lt || FloatKind.f32.format.order x y == some .eq) = decide (val x ≤ val y) := by
  show (S.order x y == some .lt || S.order x y == some .eq) = _
  rw [order_fin hx hy]
  exact cmp_le
theorem order_ge {x y : Nat} (hx : fin x) (hy : fin y) : (FloatKind.f32.format.order x y == some .gt || FloatKind.f32.format.order x y == some .eq) = decide (val y ≤ val x) := by
  show (S.order x y == some .gt || S.order x y == some .eq) = _
  rw [order_fin hx hy]
  exact cmp_ge

/-- One part of the law: of the two comparisons one says no. -/
theorem inv_law {x y : Nat} (hx : part x = true) (hy : part y = true) :
    (FloatKind.f32.format.order x y == some .lt || FloatKind.f32.format.order x y == some .eq) = false ∨
    ((FloatKind.f32.format.order x y == some .lt || FloatKind.f32.format.order x y == some .eq) = true ∧ (FloatKind.f32.format.order (diffF one x) (diffF one y) == some .lt) = false) := by
  rw [order_le (part_fin hx) (part_fin hy), order_lt (part_fin (part_diff hx)) (part_fin (part_diff hy))]
  by_cases h : val x ≤ val y
  · right
    have := inv_mono hx hy h
    exact ⟨decide_eq_true h, decide_eq_false (by omega)⟩
  · left
    exact decide_eq_false h

theorem isCol_inv {r g b : Nat} (h : isCol r g b = true) : isCol (diffF one r) (diffF one g) (diffF one b) = true := by
  obtain ⟨pr, pg, pb⟩ := isCol_parts h
  unfold isCol
  rw [part_diff pr, part_diff pg, part_diff pb]
  rfl

theorem inv_black : invF (isCol 0 0 0) 0 = one := by
  have h : isCol 0 0 0 = true := by unfold isCol; rw [part_zero]; rfl
  rw [h]
  show diffF one 0 = one
  unfold diffF word
  decide +kernel

theorem bright_white : brtV (isCol one one one) one one one = one := by
  have h : isCol one one one = true := by unfold isCol; rw [part_one]; rfl
  rw [h]
  show grF one one one = one
  unfold grF
  split <;> rfl

theorem far_self {r g b : Nat} (h : isCol r g b = true) : (FloatKind.f32.format.order (farV (isCol r g b && isCol r g b) r g b r g b) 0 == some .eq) = true := by
  rw [(far_law h h).2.2]
  obtain ⟨pr, pg, pb⟩ := isCol_parts h
  rw [part_self pr, part_self pg, part_self pb]
  rfl

end Go.Proofs.Ytgafdkaiiajieaa
