/- Plain facts on parts of colours (numbers from 0 to 1): products, differences from 1 and mixtures of parts are finite; products and differences from 1 are parts. -/
import Derived.Test.YtgafdkaiiajieaaPart
namespace Go.Proofs.Ytgafdkaiiajieaa
open Go.RowKit
open Fl

theorem mv_one : mv (rg one) = 2 ^ 149 := by decide
theorem val_one : val one = ((2 ^ 149 : Nat) : Int) := by decide

theorem val_word' {s : Bool} {r : Nat} (h : r < 2139095040) : val (S.word s r) = if s then -(mv r : Int) else (mv r : Int) := by
  unfold val
  rw [isNeg_word (by omega), rg_word (by omega)]

theorem fin_word' {s : Bool} {r : Nat} (h : r < 2139095040) : fin (S.word s r) := by
  unfold fin
  rw [rg_word (by omega)]; exact h

theorem part_mv {x : Nat} (h : part x = true) : (mv (rg x) : Int) = val x ∧ mv (rg x) ≤ 2 ^ 149 ∧ (isNeg x = true → mv (rg x) = 0) := by
  obtain ⟨_, h0, h1⟩ := (part_iff x).1 h
  rw [val_one] at h1
  unfold val at *
  cases hn : isNeg x <;> simp only [hn] at * <;> simp at * <;> omega

theorem part_of {s : Bool} {r : Nat} (hr : r ≤ rg one) (hs : s = true → r = 0) : part (cl (S.word s r)) = true := by
  have ho : rg one = 1065353216 := by decide
  have hf : fin (S.word s r) := fin_word' (by omega)
  rw [part_iff]
  refine ⟨fin_cl hf, ?_, ?_⟩
  · rw [val_cl hf, val_word' (by omega)]
    cases s
    · simp
    · rw [hs rfl]; simp [mv_zero]
  · rw [val_cl hf, val_word' (by omega), val_one, ← mv_one]
    have := mv_le (r := r) (q := rg one) (by omega) (by omega) hr
    cases s <;> simp <;> omega

theorem rg_one : rg one = 1065353216 := by decide

/-- A product of two parts is a part. -/
theorem times_rung {a b : Nat} (ha : part a = true) (hb : part b = true) : rung (mv (rg a) * mv (rg b)) (-298) ≤ rg one := by
  refine rungP_le_of (by rw [rg_one]; omega) ?_
  rw [mv_one]
  exact Nat.mul_le_mul (part_mv ha).2.1 (part_mv hb).2.1

theorem times_fin_part {a b : Nat} (ha : part a = true) (hb : part b = true) : fin (wordP (isNeg a ^^ isNeg b) (mv (rg a) * mv (rg b))) :=
  fin_word' (by have := times_rung ha hb; rw [rg_one] at this; omega)

theorem part_times {a b : Nat} (ha : part a = true) (hb : part b = true) : part (timesF a b) = true := by
  refine part_of (times_rung ha hb) ?_
  intro hs
  have h0 : mv (rg a) * mv (rg b) = 0 := by
    have pa := (part_mv ha).2.2
    have pb := (part_mv hb).2.2
    cases hna : isNeg a
    · cases hnb : isNeg b
      · rw [hna, hnb] at hs; cases hs
      · rw [pb hnb, Nat.mul_zero]
    · rw [pa hna, Nat.zero_mul]
  rw [h0]
  rfl

/-- 1 less a part is a part. -/
theorem diff_rung {a : Nat} (ha : part a = true) : rung (val one - val a).natAbs (-149) ≤ rg one := by
  refine rung_le_of (by rw [rg_one]; omega) ?_
  obtain ⟨h1, h2, _⟩ := part_mv ha
  rw [mv_one, val_one]
  omega

theorem diff_fin_part {a : Nat} (ha : part a = true) : fin (word (isNeg one && !isNeg a) (val one - val a)) :=
  fin_word' (by have := diff_rung ha; rw [rg_one] at this; omega)

theorem part_diff {a : Nat} (ha : part a = true) : part (diffF one a) = true := by
  refine part_of (diff_rung ha) ?_
  intro hs
  obtain ⟨h1, h2, _⟩ := part_mv ha
  have h3 := val_one
  by_cases h0 : val one - val a = 0
  · rw [h0]; rfl
  · rw [if_neg h0] at hs
    have := of_decide_eq_true hs
    omega

/-- The sum of two parts is finite. -/
theorem sum_fin_part {a b : Nat} (ha : part a = true) (hb : part b = true) : fin (word (isNeg a && isNeg b) (val a + val b)) := by
  obtain ⟨a1, a2, _⟩ := part_mv ha
  obtain ⟨b1, b2, _⟩ := part_mv hb
  refine fin_word' (Nat.lt_of_le_of_lt (rung_le_of (r := 1073741824) (by omega) ?_) (by omega))
  have e : mv 1073741824 = 2 ^ 150 := by decide
  have e2 : (2 : Nat) ^ 150 = 2 ^ 149 + 2 ^ 149 := by decide
  rw [e, e2]
  omega

/-- The difference of two parts is finite. -/
theorem diff2_fin_part {a b : Nat} (ha : part a = true) (hb : part b = true) : fin (word (isNeg a && !isNeg b) (val a - val b)) := by
  obtain ⟨a1, a2, _⟩ := part_mv ha
  obtain ⟨b1, b2, _⟩ := part_mv hb
  refine fin_word' (Nat.lt_of_le_of_lt (rung_le_of (r := rg one) (by rw [rg_one]; omega) ?_) (by rw [rg_one]; omega))
  rw [mv_one]
  omega

theorem part_one : part one = true := by decide
theorem part_zero : part 0 = true := by decide

end Go.Proofs.Ytgafdkaiiajieaa
