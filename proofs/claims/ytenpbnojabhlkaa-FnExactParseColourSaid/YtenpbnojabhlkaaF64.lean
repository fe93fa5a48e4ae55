/- Plain facts: a finite float32, made a float64, is a number again; what the laws' sameFloat says of one float64 and itself. -/
import Derived.Test.YtenpbnojabhlkaaFloW
namespace Go.Proofs.Ytenpbnojabhlkaa
open Go.RowKit
open Fl

abbrev D : Ieee.Format := Ieee.double

theorem leastPlace_D : D.leastPlace = -1074 := by decide
theorem binade_D : D.binade = 4503599627370496 := by decide
theorem infRung_D : D.infRung = 9218868437227405312 := by decide
theorem signWeight_D : D.signWeight = 9223372036854775808 := by decide

/-- A float64 that is a number: it is the same as itself; whether it is 0. -/
structure Num64 (r : Nat) : Prop where
  self : (FloatKind.f64.format.order r r != some .eq) = false
  zero : (FloatKind.f64.format.order r 0 == some .eq) = true → r = 0 ∨ r = 9223372036854775808

theorem read_D {s : Bool} {R : Nat} (h : R < 9218868437227405312) : ∃ m p, D.read (D.word s R) = .number s m p ∧ (m = 0 → R = 0) := by
  have e1 : D.word s R / 9223372036854775808 % 2 = if s then 1 else 0 := by
    unfold Ieee.Format.word; rw [signWeight_D]
    cases s
    · simp [Nat.div_eq_of_lt (show R < 9223372036854775808 by omega)]
    · have : (9223372036854775808 + R) / 9223372036854775808 = 1 := by omega
      simp [this]
  have e2 : D.word s R % 9223372036854775808 = R := by
    unfold Ieee.Format.word; rw [signWeight_D]
    cases s <;> simp <;> omega
  unfold Ieee.Format.read
  simp only [binade_D, infRung_D, signWeight_D, e1, e2]
  have es : ((if s = true then 1 else 0) == 1) = s := by cases s <;> rfl
  by_cases h1 : R < 4503599627370496
  · exact ⟨R, _, by rw [if_pos h1, es], fun h => h⟩
  · exact ⟨_, _, by rw [if_neg h1, if_pos h, es], fun h => by omega⟩

theorem num64_of {s : Bool} {R : Nat} (h : R < 9218868437227405312) : Num64 (D.word s R) := by
  obtain ⟨m, p, hr, hm⟩ := read_D (s := s) h
  have h0 : D.read 0 = .number false 0 (-1074) := by decide
  constructor
  · show (D.order _ _ != some .eq) = false
    unfold Ieee.Format.order
    rw [hr]
    simp [Ieee.Datum.order]
  · intro hz
    have hz : (D.order (D.word s R) 0 == some .eq) = true := hz
    unfold Ieee.Format.order at hz
    rw [hr, h0] at hz
    simp only [Ieee.Datum.order] at hz
    have hmz : m = 0 := by
      have e : (Ieee.signed s m (p - min p (-1074)).toNat) = (Ieee.signed false 0 (-1074 - min p (-1074)).toNat) := by
        have := eq_of_beq hz
        simp only [Option.some.injEq] at this
        exact Int.compare_eq_eq.1 this
      rw [signed_eq, signed_eq] at e
      have hp : 0 < 2 ^ (p - min p (-1074)).toNat := Nat.two_pow_pos _
      generalize 2 ^ (p - min p (-1074)).toNat = q at *
      have e2 : m * q = 0 := by
        generalize hX : ((m * q : Nat) : Int) = X at e
        have hX0 : X = 0 := by cases s <;> simp at e <;> omega
        omega
      rcases Nat.mul_eq_zero.1 e2 with h | h
      · exact h
      · omega
    have hR := hm hmz
    subst hR
    unfold Ieee.Format.word
    rw [signWeight_D]
    cases s <;> simp

theorem to64 {x : Nat} (h : fin x) : ∃ r, floatToFloatBits .f32 x .f64 = some r ∧ Num64 r := by
  obtain ⟨m, k, hr, _, hm, hk⟩ : ∃ m k : Nat, S.read x = .number (isNeg x) m (-149 + k) ∧ mv (rg x) = m * 2 ^ k ∧ m < 16777216 ∧ k ≤ 253 := by
    unfold fin at h
    have e : S.read x = if rg x < 8388608 then .number (isNeg x) (rg x) (-149) else if rg x < 2139095040 then .number (isNeg x) (8388608 + rg x % 8388608) (-149 + (rg x / 8388608 - 1 : Nat)) else if rg x = 2139095040 then .infinity (isNeg x) else .nan (isNeg x) (rg x - 2139095040) := by
      unfold Ieee.Format.read isNeg rg
      simp only [binade_S, infRung_S, signWeight_S, leastPlace_S]
    by_cases h1 : rg x < 8388608
    · exact ⟨rg x, 0, by rw [e, if_pos h1]; simp, by unfold mv; rw [if_pos h1]; simp, by omega, by omega⟩
    · exact ⟨8388608 + rg x % 8388608, rg x / 8388608 - 1, by rw [e, if_neg h1, if_pos h], by unfold mv; rw [if_neg h1], by omega, by omega⟩
  have hd : ∃ R, R < 9218868437227405312 ∧ D.write (.number (isNeg x) m (-149 + k)) = D.word (isNeg x) R := by
    show ∃ R, _ ∧ D.nearest _ _ _ = _
    unfold Ieee.Format.nearest
    by_cases h0 : m = 0
    · exact ⟨0, by omega, by rw [if_pos h0]⟩
    · rw [if_neg h0]
      have h2 : m.log2 ≤ 23 := by
        have := Nat.log2_self_le h0
        rcases Nat.lt_or_ge m.log2 24 with h3 | h3
        · omega
        · have h4 : 2 ^ 24 ≤ 2 ^ m.log2 := Nat.pow_le_pow_right (by omega) h3
          have e : (2 : Nat) ^ 24 = 16777216 := by decide
          omega
      have h5 := lt_two_pow_log2 m
      simp only [leastPlace_D, binade_D, infRung_D, cut_even, Nat.shiftLeft_eq]
      have hL : max (-149 + (k : Int) + m.log2 - D.fractionBits) (-1074) = -149 + (k : Int) + m.log2 - 52 := by
        have : D.fractionBits = 52 := rfl
        rw [this]; omega
      rw [hL]
      refine ⟨_, ?_, rfl⟩
      rw [show (-149 + (k : Int) + m.log2 - 52 - (-149 + (k : Int))).toNat = 0 by omega, rhe_zero, show (-149 + (k : Int) - (-149 + (k : Int) + m.log2 - 52)).toNat = 52 - m.log2 by omega, show (-149 + (k : Int) + m.log2 - 52 - -1074).toNat = k + m.log2 + 873 by omega]
      have h6 : m * 2 ^ (52 - m.log2) < 2 ^ 53 := by
        refine Nat.lt_of_lt_of_le (Nat.mul_lt_mul_of_pos_right h5 (Nat.two_pow_pos _)) ?_
        rw [← Nat.pow_add]
        exact Nat.pow_le_pow_right (by omega) (by omega)
      have e53 : (2 : Nat) ^ 53 = 9007199254740992 := by decide
      rw [e53] at h6
      refine Nat.lt_of_le_of_lt (Nat.min_le_left ..) ?_
      have : (k + m.log2 + 873) * 4503599627370496 ≤ 1149 * 4503599627370496 := Nat.mul_le_mul_right _ (by omega)
      omega
  obtain ⟨R, hR, hw⟩ := hd
  refine ⟨D.word (isNeg x) R, ?_, num64_of hR⟩
  obtain ⟨m', p', hr2, _⟩ := read_D (s := isNeg x) hR
  unfold floatToFloatBits
  rw [if_neg (by decide)]
  show (match S.read x with
    | .nan _ _ => none
    | .infinity s => some (D.write (.infinity s))
    | .number s m e => if (D.read (D.write (.number s m e))).isInfinity then none else some (D.write (.number s m e))) = _
  rw [hr]
  simp only [hw, hr2, Ieee.Datum.isInfinity]
  rfl

set_option maxHeartbeats 400000 in
theorem sameFloat_any (r : Nat) (w : World) (h : Num64 r) :
    Calls Try.prog 28 #[.float .f64 r, .float .f64 r] w fun e w' => e = .returned (.bool true) ∧ w = w' := by
  obtain ⟨h1, h2⟩ := h
  have h1' : (FloatKind.f64.format.order r r == some .eq) = true := by simpa using h1
  cases hz : (FloatKind.f64.format.order r 0 == some .eq)
  · clear h2
    go_enter Try.func28, Try.ntmps28
    go_wp2
    go_ret
    exact ⟨by simp, rfl⟩
  · rcases h2 hz with rfl | rfl
    · have q : ∀ t w, (binOp .quo t (.float .f64 4607182418800017408) (.float .f64 0)).run Try.prog w = .ok (.float .f64 9218868437227405312) w := fun t w => run_float_arith w .quo t .f64 _ _ _ (by decide +kernel)
      clear h2 hz
      go_enter Try.func28, Try.ntmps28
      go_wp2
      all_goals (go_ret; exact ⟨by simp, rfl⟩)
    · have q : ∀ t w, (binOp .quo t (.float .f64 4607182418800017408) (.float .f64 9223372036854775808)).run Try.prog w = .ok (.float .f64 18442240474082181120) w := fun t w => run_float_arith w .quo t .f64 _ _ _ (by decide +kernel)
      clear h2
      go_enter Try.func28, Try.ntmps28
      go_wp2
      all_goals (go_ret; exact ⟨by simp, rfl⟩)

end Go.Proofs.Ytenpbnojabhlkaa
