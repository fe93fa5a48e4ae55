/- Plain facts: 16 times a part of a colour, cut towards zero, is a number from 0 to 16, cleaned or not; the digits of colours. No condition. -/
import Derived.Test.YtenpbnojabhlkaaPartP
namespace Go.Proofs.Ytenpbnojabhlkaa
open Go.RowKit
open Fl

theorem cut_zero (neg : Bool) (n d : Nat) : Ieee.Toward.cut .zero neg n d = n / 2 ^ d := by
  unfold Ieee.Toward.cut
  dsimp only
  rw [Nat.one_shiftLeft]
  by_cases h : d ≤ n.log2 + 2
  · rw [Nat.min_eq_left h]; simp
  · have hn := lt_two_pow_log2 n
    rw [Nat.min_eq_right (by omega)]
    have hd : 2 ^ (n.log2 + 2) ≤ 2 ^ d := Nat.pow_le_pow_right (by omega) (by omega)
    have e2 : 2 ^ (n.log2 + 2) = 2 * 2 ^ (n.log2 + 1) := by rw [Nat.pow_succ, Nat.mul_comm]
    rw [Nat.div_eq_of_lt (show n < 2 ^ (n.log2 + 2) by omega), Nat.div_eq_of_lt (show n < 2 ^ d by omega)]
    simp

theorem shift_div (m k : Nat) : m * 2 ^ (-149 + (k : Int)).toNat / 2 ^ (-(-149 + (k : Int))).toNat = m * 2 ^ k / 2 ^ 149 := by
  rcases Nat.le_total k 149 with h | h
  · rw [show (-149 + (k : Int)).toNat = 0 by omega, show (-(-149 + (k : Int))).toNat = 149 - k by omega, Nat.pow_zero, Nat.mul_one]
    have e : (2 : Nat) ^ 149 = 2 ^ (149 - k) * 2 ^ k := by rw [← Nat.pow_add]; congr 1; omega
    rw [e, Nat.mul_div_mul_right _ _ (Nat.two_pow_pos k)]
  · rw [show (-149 + (k : Int)).toNat = k - 149 by omega, show (-(-149 + (k : Int))).toNat = 0 by omega, Nat.pow_zero, Nat.div_one]
    have e : (2 : Nat) ^ k = 2 ^ (k - 149) * 2 ^ 149 := by rw [← Nat.pow_add]; congr 1; omega
    rw [e, ← Nat.mul_assoc, Nat.mul_div_cancel _ (Nat.two_pow_pos 149)]

theorem toInt_fin {x : Nat} (h : fin x) : (S.read x).toInt .zero = some ((if isNeg x then -1 else 1) * ((mv (rg x) / 2 ^ 149 : Nat) : Int)) := by
  obtain ⟨m, k, r, hm⟩ := read_fin h
  rw [r]
  simp only [Ieee.Datum.toInt, Ieee.Datum.integral, cut_zero, Nat.shiftLeft_eq]
  rw [signed_eq, hm, shift_div, Nat.pow_zero, Nat.mul_one]

theorem toInt_word {s : Bool} {r : Nat} (hr : r < 2139095040) (hs : s = true → r = 0) : (S.read (S.word s r)).toInt .zero = some ((mv r / 2 ^ 149 : Nat) : Int) := by
  rw [toInt_fin (fin_word' hr), rg_word (by omega), isNeg_word (by omega)]
  cases s
  · simp
  · rw [hs rfl]; rfl

theorem toInt_cl {s : Bool} {r : Nat} (hr : r < 2139095040) (hs : s = true → r = 0) : (S.read (cl (S.word s r))).toInt .zero = some ((mv r / 2 ^ 149 : Nat) : Int) := by
  unfold cl
  rw [rg_word (by omega)]
  by_cases h : r = 0
  · rw [if_pos h, h]
    exact toInt_word (s := false) (r := 0) (by omega) (fun h => by cases h)
  · rw [if_neg h]
    exact toInt_word hr hs

/-- The word of 16. -/
abbrev w16 : Nat := 1098907648
theorem mv_16 : mv (rg w16) = 16 * 2 ^ 149 := by decide
theorem neg_16 : isNeg w16 = false := by decide
theorem rg_16 : rg w16 = 1098907648 := by decide
theorem fin_16 : fin w16 := by unfold fin; rw [rg_16]; omega

/-- 16 times a part, rounded. -/
def r16 (x : Nat) : Nat := rung (mv (rg x) * mv (rg w16)) (-298)
/-- The step of a part: 16 times it, without what is behind the point. -/
def step (x : Nat) : Nat := mv (r16 x) / 2 ^ 149

theorem r16_le {x : Nat} (h : part x = true) : r16 x ≤ rg w16 := by
  refine rungP_le_of (by rw [rg_16]; omega) ?_
  rw [Nat.mul_comm (mv (rg w16))]
  exact Nat.mul_le_mul_right _ (part_mv h).2.1

theorem r16_neg {x : Nat} (h : part x = true) (hs : (isNeg x ^^ isNeg w16) = true) : r16 x = 0 := by
  rw [neg_16, Bool.xor_false] at hs
  unfold r16
  rw [(part_mv h).2.2 hs, Nat.zero_mul]
  rfl

theorem step_le {x : Nat} (h : part x = true) : step x ≤ 16 := by
  unfold step
  have h1 := r16_le h
  have h2 := mv_le (by rw [rg_16] at h1; omega) (by rw [rg_16]; omega) h1
  rw [mv_16] at h2
  exact Nat.div_le_of_le_mul (by rw [Nat.mul_comm]; exact h2)

theorem fin_mul16 {x : Nat} (h : part x = true) : fin (wordP (isNeg x ^^ isNeg w16) (mv (rg x) * mv (rg w16))) := by
  have h1 := r16_le h
  rw [rg_16] at h1
  exact fin_word' (show r16 x < _ by omega)

theorem toVal {b : Nat} {n : Nat} (h : (S.read b).toInt .zero = some (n : Int)) (hn : n ≤ 16) : floatToIntVal .f32 b .i64 = some (n : Int) := by
  unfold floatToIntVal
  have h : (FloatKind.f32.decode b).toInt .zero = some (n : Int) := h
  rw [h]
  have h1 : IntKind.min .i64 = -9223372036854775808 := by decide
  have h2 : IntKind.max .i64 = 9223372036854775807 := by decide
  simp only [h1, h2]
  rw [if_pos (by omega)]

/-- int(x * 16), as the program has it. -/
theorem conv16 {x : Nat} (h : part x = true) : floatToIntVal .f32 (wordP (isNeg x ^^ isNeg w16) (mv (rg x) * mv (rg w16))) .i64 = some (step x : Int) := by
  have h1 := r16_le h
  rw [rg_16] at h1
  exact toVal (toInt_word (r := r16 x) (by omega) (r16_neg h)) (step_le h)

/-- int(times(x, 16)), as the reference has it. -/
theorem conv16c {x : Nat} (h : part x = true) : floatToIntVal .f32 (timesF x w16) .i64 = some (step x : Int) := by
  have h1 := r16_le h
  rw [rg_16] at h1
  exact toVal (toInt_cl (r := r16 x) (by omega) (r16_neg h)) (step_le h)

/-- The digit of a part: a number from 0 to 15. -/
def dig (x : Nat) : Nat := if 15 < step x then 15 else step x

theorem dig_le (x : Nat) : dig x ≤ 15 := by unfold dig; split <;> omega

/-- The sixteen digits. -/
def hexL : List UInt8 := [48, 49, 50, 51, 52, 53, 54, 55, 56, 57, 97, 98, 99, 100, 101, 102]
def hx (n : Nat) : UInt8 := hexL.getD n 0

end Go.Proofs.Ytenpbnojabhlkaa
