/- Plain facts on single precision, continued: what is exact, what is cleaned, what a part of a colour is. Condition: the words are finite. -/
import Derived.Test.YtgafdkaiiajieaaFloat
namespace Go.Proofs.Ytgafdkaiiajieaa
namespace Fl

theorem rg_word {s : Bool} {r : Nat} (h : r < 2147483648) : rg (S.word s r) = r := by
  unfold rg Ieee.Format.word
  rw [signWeight_S]
  cases s <;> simp <;> omega

theorem isNeg_word {s : Bool} {r : Nat} (h : r < 2147483648) : isNeg (S.word s r) = s := by
  unfold isNeg Ieee.Format.word
  rw [signWeight_S]
  cases s
  · simp [Nat.div_eq_of_lt h]
  · have : (2147483648 + r) / 2147483648 = 1 := by omega
    simp [this]

theorem word_self {x : Nat} (h : x < 4294967296) : S.word (isNeg x) (rg x) = x := by
  unfold isNeg rg Ieee.Format.word
  rw [signWeight_S]
  by_cases hx : x < 2147483648
  · simp [Nat.div_eq_of_lt hx, Nat.mod_eq_of_lt hx]
  · have : x / 2147483648 = 1 := by omega
    simp [this]
    omega

theorem rung_le (m : Nat) (p : Int) : rung m p ≤ 2139095040 := by
  unfold rung
  split
  · omega
  · exact Nat.min_le_right ..

theorem rung_lt (m : Nat) (p : Int) : rung m p < 2147483648 := Nat.lt_of_le_of_lt (rung_le m p) (by omega)

theorem log2_of {n k : Nat} (h : 2 ^ k ≤ n) (h' : n < 2 ^ (k + 1)) : n.log2 = k := by
  have : n ≠ 0 := by have := Nat.two_pow_pos k; omega
  exact (Nat.log2_eq_iff this).2 ⟨h, h'⟩

theorem rung_small {r : Nat} (h : r < 8388608) : rung r (-149) = r := by
  unfold rung
  by_cases h0 : r = 0
  · simp [h0]
  · have h1 := Nat.log2_self_le h0
    have h2 : r.log2 < 23 := by
      rcases Nat.lt_or_ge r.log2 23 with h3 | h3
      · exact h3
      · have : 2 ^ 23 ≤ 2 ^ r.log2 := Nat.pow_le_pow_right (by omega) h3
        have e : (2 : Nat) ^ 23 = 8388608 := by decide
        omega
    have hl : lastOf r (-149) = -149 := by unfold lastOf; omega
    rw [if_neg h0, hl]
    show min ((-149 + 149 : Int).toNat * 8388608 + rhe (r * 2 ^ 0) 0) 2139095040 = r
    rw [rhe_zero]
    show min (0 * 8388608 + r * 1) 2139095040 = r
    rw [Nat.zero_mul, Nat.zero_add, Nat.mul_one]
    exact Nat.min_eq_left (by omega)

theorem rung_normal {f e : Nat} (h : f < 8388608) (he : e < 254) : rung (8388608 + f) (-149 + e) = (e + 1) * 8388608 + f := by
  have e23 : (2 : Nat) ^ 23 = 8388608 := by decide
  have e24 : (2 : Nat) ^ (23 + 1) = 16777216 := by decide
  have hl2 : (8388608 + f).log2 = 23 := log2_of (by omega) (by omega)
  have hl : lastOf (8388608 + f) (-149 + e) = -149 + e := by unfold lastOf; rw [hl2]; omega
  unfold rung
  rw [if_neg (by omega), hl]
  rw [show (-149 + (e : Int) - (-149 + (e : Int))).toNat = 0 by omega, rhe_zero, show (-149 + (e : Int) + 149).toNat = e by omega, Nat.pow_zero, Nat.mul_one]
  have : e * 8388608 + (8388608 + f) = (e + 1) * 8388608 + f := by omega
  rw [this]
  exact Nat.min_eq_left (by omega)

/-- What can be written is not rounded. -/
theorem rung_exact {r : Nat} (h : r < 2139095040) : rung (mv r) (-149) = r := by
  unfold mv
  by_cases h1 : r < 8388608
  · rw [if_pos h1]; exact rung_small h1
  · rw [if_neg h1]
    have h2 : r / 8388608 < 255 := by omega
    have := rung_normal (f := r % 8388608) (e := r / 8388608 - 1) (by omega) (by omega)
    have s := rung_scale (8388608 + r % 8388608) (r / 8388608 - 1) (-149 + (r / 8388608 - 1 : Nat))
    rw [show (-149 + ((r / 8388608 - 1 : Nat) : Int) - ((r / 8388608 - 1 : Nat) : Int)) = -149 by omega] at s
    rw [s, this]
    omega

theorem rung_exactP {r : Nat} (h : r < 2139095040) : rung (mv r * 2 ^ 149) (-298) = r := by
  have s := rung_scale (mv r) 149 (-149)
  rw [rung_exact h] at s
  exact s

theorem mv_lt {r q : Nat} (hr : r < 2139095040) (hq : q < 2139095040) (h : r < q) : mv r < mv q := by
  rcases Nat.lt_or_ge (mv r) (mv q) with h1 | h1
  · exact h1
  · have := rung_mono (-149) h1
    rw [rung_exact hr, rung_exact hq] at this
    omega

theorem mv_le {r q : Nat} (hr : r < 2139095040) (hq : q < 2139095040) (h : r ≤ q) : mv r ≤ mv q := by
  rcases Nat.lt_or_ge r q with h1 | h1
  · exact Nat.le_of_lt (mv_lt hr hq h1)
  · have : r = q := by omega
    rw [this]; exact Nat.le_refl _

theorem mv_inj {r q : Nat} (hr : r < 2139095040) (hq : q < 2139095040) (h : mv r = mv q) : r = q := by
  have := congrArg (rung · (-149)) h
  simp only [rung_exact hr, rung_exact hq] at this
  exact this

theorem mv_zero : mv 0 = 0 := rfl

theorem mv_eq_zero {r : Nat} (hr : r < 2139095040) : mv r = 0 ↔ r = 0 :=
  ⟨fun h => mv_inj hr (by omega) (h.trans mv_zero.symm), fun h => by rw [h]; rfl⟩

/-- Rounding up to what can be written. -/
theorem rung_le_of {m r : Nat} (hr : r < 2139095040) (h : m ≤ mv r) : rung m (-149) ≤ r := by
  have := rung_mono (-149) h
  rwa [rung_exact hr] at this
theorem le_rung_of {m r : Nat} (hr : r < 2139095040) (h : mv r ≤ m) : r ≤ rung m (-149) := by
  have := rung_mono (-149) h
  rwa [rung_exact hr] at this
theorem rungP_le_of {m r : Nat} (hr : r < 2139095040) (h : m ≤ mv r * 2 ^ 149) : rung m (-298) ≤ r := by
  have := rung_mono (-298) h
  rwa [rung_exactP hr] at this
theorem le_rungP_of {m r : Nat} (hr : r < 2139095040) (h : mv r * 2 ^ 149 ≤ m) : r ≤ rung m (-298) := by
  have := rung_mono (-298) h
  rwa [rung_exactP hr] at this

/-! ### Cleaned numbers -/

/-- Cleaned: +0 for a zero. -/
def cl (x : Nat) : Nat := if rg x = 0 then 0 else x

theorem val_zero_iff {x : Nat} (h : fin x) : val x = 0 ↔ rg x = 0 := by
  unfold val
  have := mv_eq_zero h
  cases isNeg x <;> simp <;> omega

theorem fin_zero : fin 0 := by unfold fin rg; omega
theorem val_zero : val 0 = 0 := by decide

theorem fin_cl {x : Nat} (h : fin x) : fin (cl x) := by
  unfold cl
  split
  · exact fin_zero
  · exact h

theorem val_cl {x : Nat} (h : fin x) : val (cl x) = val x := by
  unfold cl
  split
  · rename_i h0
    rw [val_zero, (val_zero_iff h).2 h0]
  · rfl

/-- '==' with 0 finds the zeros. -/
theorem order_zero {x : Nat} (h : fin x) : (S.order x 0 == some .eq) = decide (rg x = 0) := by
  rw [order_fin h fin_zero, val_zero]
  have := val_zero_iff h
  by_cases h0 : rg x = 0
  · rw [this.2 h0]; simp [h0]
  · have h1 : val x ≠ 0 := fun e => h0 (this.1 e)
    have : compare (val x) 0 ≠ .eq := by
      intro e; exact h1 (by simpa [compare, compareOfLessAndEq] using Int.compare_eq_eq.1 e)
    simp [h0, this]

/-- x - x of a finite x is +0. -/
theorem sub_self {x : Nat} (h : fin x) : S.sub x x = some 0 := by
  rw [sub_fin h h, Int.sub_self]
  have : (isNeg x && !isNeg x) = false := by cases isNeg x <;> rfl
  rw [this]
  decide

/-- x - x of what is not finite is no number. -/
theorem sub_self_none {x : Nat} (h : ¬ fin x) : S.sub x x = none := by
  unfold fin at h
  have e : S.read x = if rg x = 2139095040 then .infinity (isNeg x) else .nan (isNeg x) (rg x - 2139095040) := by
    unfold Ieee.Format.read isNeg
    simp only [binade_S, infRung_S, signWeight_S, leastPlace_S]
    unfold rg at h ⊢
    rw [if_neg (by omega), if_neg (by omega)]
  unfold Ieee.Format.sub
  rw [e]
  by_cases hi : rg x = 2139095040
  · rw [if_pos hi]
    show (Ieee.Datum.sum (.infinity (isNeg x)) (.infinity (!isNeg x))).map S.write = none
    simp only [Ieee.Datum.sum]
    cases isNeg x <;> rfl
  · rw [if_neg hi]
    rfl

end Fl
end Go.Proofs.Ytgafdkaiiajieaa
