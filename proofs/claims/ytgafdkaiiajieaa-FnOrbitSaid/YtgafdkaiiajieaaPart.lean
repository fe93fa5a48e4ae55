/- What the program's and the reference's functions on parts of colours compute: isPart, l2Part, IsColour, toColour. For all arguments. -/
import Derived.Test.YtgafdkaiiajieaaFloW
import Derived.Test.YtgafdkaiiajieaaFrame
namespace Go.Proofs.Ytgafdkaiiajieaa
open Go.RowKit
open Fl

/-- The word of 1. -/
abbrev one : Nat := 1065353216

/-- From 0 to 1. -/
def part (x : Nat) : Bool := (S.order x 0 == some .gt || S.order x 0 == some .eq) && (S.order x one == some .lt || S.order x one == some .eq)

theorem fin_one : fin one := by unfold fin rg one; omega

theorem cmp_ge {a b : Int} : (some (compare a b) == some Ordering.gt || some (compare a b) == some Ordering.eq) = decide (b ≤ a) := by
  simp only [compare, compareOfLessAndEq]
  by_cases h : a < b
  · simp [h]
  · by_cases h2 : a = b
    · simp [h2]
    · simp [h, h2]; omega
theorem cmp_le {a b : Int} : (some (compare a b) == some Ordering.lt || some (compare a b) == some Ordering.eq) = decide (a ≤ b) := by
  simp only [compare, compareOfLessAndEq]
  by_cases h : a < b
  · simp [h]; omega
  · by_cases h2 : a = b
    · simp [h2]
    · simp [h, h2]; omega
theorem cmp_lt {a b : Int} : (some (compare a b) == some Ordering.lt) = decide (a < b) := by
  simp only [compare, compareOfLessAndEq]
  by_cases h : a < b
  · simp [h]
  · by_cases h2 : a = b
    · simp [h2]
    · simp [h, h2]
theorem cmp_gt {a b : Int} : (some (compare a b) == some Ordering.gt) = decide (b < a) := by
  simp only [compare, compareOfLessAndEq]
  by_cases h : a < b
  · simp [h]; omega
  · by_cases h2 : a = b
    · simp [h2]
    · simp [h, h2]; omega
theorem cmp_eq {a b : Int} : (some (compare a b) == some Ordering.eq) = decide (a = b) := by
  simp only [compare, compareOfLessAndEq]
  by_cases h : a < b
  · simp [h]; omega
  · by_cases h2 : a = b
    · simp [h2]
    · simp [h, h2]

theorem order_not_fin {x z : Nat} (h : ¬ fin x) (hz : fin z) : S.order x z = none ∨ (S.order x z = some .lt ∧ ∀ u, fin u → S.order x u = some .lt) ∨ (S.order x z = some .gt ∧ ∀ u, fin u → S.order x u = some .gt) := by
  unfold fin at h
  have e : S.read x = if rg x = 2139095040 then .infinity (isNeg x) else .nan (isNeg x) (rg x - 2139095040) := by
    unfold Ieee.Format.read isNeg
    simp only [binade_S, infRung_S, signWeight_S]
    unfold rg at h ⊢
    rw [if_neg (by omega), if_neg (by omega)]
  have key : ∀ u, fin u → S.order x u = if rg x = 2139095040 then some (if isNeg x then .lt else .gt) else none := by
    intro u hu
    obtain ⟨m, k, ru, _⟩ := read_fin hu
    unfold Ieee.Format.order
    rw [e, ru]
    by_cases hi : rg x = 2139095040
    · rw [if_pos hi, if_pos hi]; rfl
    · rw [if_neg hi, if_neg hi]; rfl
  by_cases hi : rg x = 2139095040
  · cases hn : isNeg x
    · exact .inr (.inr ⟨by rw [key z hz, if_pos hi, hn]; rfl, fun u hu => by rw [key u hu, if_pos hi, hn]; rfl⟩)
    · exact .inr (.inl ⟨by rw [key z hz, if_pos hi, hn]; rfl, fun u hu => by rw [key u hu, if_pos hi, hn]; rfl⟩)
  · exact .inl (by rw [key z hz, if_neg hi])

theorem part_iff (x : Nat) : part x = true ↔ fin x ∧ 0 ≤ val x ∧ val x ≤ val one := by
  unfold part
  by_cases h : fin x
  · rw [order_fin h fin_zero, order_fin h fin_one, cmp_ge, cmp_le, val_zero]
    simp [h]
  · constructor
    · intro hp
      rcases order_not_fin h fin_zero with h0 | ⟨h0, _⟩ | ⟨_, h1⟩
      · rw [h0] at hp; simp at hp
      · rw [h0] at hp; simp at hp
      · rw [h1 _ fin_one] at hp; simp at hp
    · intro hp; exact absurd hp.1 h

theorem part_fin {x : Nat} (h : part x = true) : fin x := ((part_iff x).1 h).1

set_option maxHeartbeats 400000 in
theorem isPart_any (x : Nat) (w : World) :
    Calls Try.prog 56 #[.float .f32 x] w fun e w' => e = .returned (.bool (part x)) ∧ w = w' := by
  have H : Hid (part x = ((FloatKind.f32.format.order x 0 == some .gt || FloatKind.f32.format.order x 0 == some .eq) && (FloatKind.f32.format.order x one == some .lt || FloatKind.f32.format.order x one == some .eq))) := rfl
  cases h1 : (FloatKind.f32.format.order x 0 == some .gt || FloatKind.f32.format.order x 0 == some .eq)
  · rw [h1] at H
    go_enter Try.func56, Try.ntmps56
    go_wp2
    go_ret
    exact ⟨by rw [H.out]; rfl, rfl⟩
  · rw [h1] at H
    go_enter Try.func56, Try.ntmps56
    go_wp2
    go_ret
    exact ⟨by rw [H.out]; rfl, rfl⟩

end Go.Proofs.Ytgafdkaiiajieaa
