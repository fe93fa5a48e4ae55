/- Plain facts on single precision: rounding is to the nearest, the same for a number however it is written, grows with the number, and leaves what can be written exactly as it is. No condition; no program in sight. -/
import GoSem.Core.Float
import Derived.Laws.FloatArith
namespace Go.Proofs.Ytgafdkaiiajieaa
namespace Fl

abbrev S : Ieee.Format := Ieee.single

theorem leastPlace_S : S.leastPlace = -149 := by decide
theorem binade_S : S.binade = 8388608 := by decide
theorem infRung_S : S.infRung = 2139095040 := by decide
theorem signWeight_S : S.signWeight = 2147483648 := by decide

/-- n / 2 ^ d, to the nearest, between two to the even one. -/
def rhe (n d : Nat) : Nat := n / 2 ^ d + (if 2 ^ d < 2 * (n % 2 ^ d) ∨ (2 ^ d = 2 * (n % 2 ^ d) ∧ n / 2 ^ d % 2 = 1) then 1 else 0)

theorem lt_two_pow_log2 (n : Nat) : n < 2 ^ (n.log2 + 1) := Nat.lt_log2_self

theorem cut_even (neg : Bool) (n d : Nat) : Ieee.Toward.cut .even neg n d = rhe n d := by
  unfold Ieee.Toward.cut rhe
  dsimp only
  rw [Nat.one_shiftLeft]
  by_cases h : d ≤ n.log2 + 2
  · rw [Nat.min_eq_left h]
    congr 1
    by_cases h1 : 2 ^ d < 2 * (n % 2 ^ d)
    · simp [h1]
    · by_cases h2 : 2 ^ d = 2 * (n % 2 ^ d)
      · by_cases h3 : n / 2 ^ d % 2 = 1
        · simp [← h2, h3]
        · simp [← h2, h3]
      · simp [h1, h2]
  · have hn := lt_two_pow_log2 n
    rw [Nat.min_eq_right (by omega)]
    have e2 : 2 ^ (n.log2 + 2) = 2 * 2 ^ (n.log2 + 1) := by rw [Nat.pow_succ, Nat.mul_comm]
    have hd : 2 ^ (n.log2 + 2) ≤ 2 ^ d := Nat.pow_le_pow_right (by omega) (by omega)
    have hlt : n < 2 ^ (n.log2 + 2) := by omega
    have hlt2 : n < 2 ^ d := by omega
    rw [Nat.div_eq_of_lt hlt, Nat.mod_eq_of_lt hlt, Nat.div_eq_of_lt hlt2, Nat.mod_eq_of_lt hlt2]
    have h1 : ¬ 2 ^ (n.log2 + 2) < 2 * n := by omega
    have h2 : ¬ 2 ^ (n.log2 + 2) = 2 * n := by omega
    have h3 : ¬ 2 ^ d < 2 * n := by omega
    have h4 : ¬ 2 ^ d = 2 * n := by omega
    simp [h1, h3, h4]

theorem rhe_zero (n : Nat) : rhe n 0 = n := by simp [rhe]; omega

theorem rhe_scale (n d k : Nat) : rhe (n * 2 ^ k) (d + k) = rhe n d := by
  unfold rhe
  have hp : 0 < 2 ^ k := Nat.two_pow_pos k
  rw [Nat.pow_add, Nat.mul_div_mul_right _ _ hp, Nat.mul_mod_mul_right]
  have e : 2 * (n % 2 ^ d * 2 ^ k) = 2 * (n % 2 ^ d) * 2 ^ k := by rw [Nat.mul_assoc]
  rw [e]
  have h1 : (2 ^ d * 2 ^ k < 2 * (n % 2 ^ d) * 2 ^ k) ↔ (2 ^ d < 2 * (n % 2 ^ d)) := Nat.mul_lt_mul_right hp
  have h2 : (2 ^ d * 2 ^ k = 2 * (n % 2 ^ d) * 2 ^ k) ↔ (2 ^ d = 2 * (n % 2 ^ d)) := ⟨fun h => Nat.eq_of_mul_eq_mul_right hp h, fun h => congrArg (· * 2 ^ k) h⟩
  simp only [h1, h2]

theorem rhe_mono (n m d : Nat) (h : n ≤ m) : rhe n d ≤ rhe m d := by
  unfold rhe
  have hd : 0 < 2 ^ d := Nat.two_pow_pos d
  have hq : n / 2 ^ d ≤ m / 2 ^ d := Nat.div_le_div_right h
  have hn := Nat.div_add_mod n (2 ^ d)
  have hm := Nat.div_add_mod m (2 ^ d)
  rcases Nat.lt_or_ge (n / 2 ^ d) (m / 2 ^ d) with hlt | hge
  · split <;> split <;> omega
  · have he : n / 2 ^ d = m / 2 ^ d := by omega
    rw [he] at hn ⊢
    have hr : n % 2 ^ d ≤ m % 2 ^ d := by omega
    generalize n % 2 ^ d = r1 at *
    generalize m % 2 ^ d = r2 at *
    generalize m / 2 ^ d = q at *
    generalize 2 ^ d = D at *
    clear hn hm
    split <;> split <;> omega

/-- bounds: what is between a * 2^d and b * 2^d is rounded between a and b. -/
theorem rhe_ge (n d a : Nat) (h : a * 2 ^ d ≤ n) : a ≤ rhe n d := by
  have := rhe_mono _ _ d h
  have e := rhe_scale a 0 d
  rw [Nat.zero_add, rhe_zero] at e
  omega

theorem rhe_le (n d a : Nat) (h : n ≤ a * 2 ^ d) : rhe n d ≤ a := by
  have := rhe_mono _ _ d h
  have e := rhe_scale a 0 d
  rw [Nat.zero_add, rhe_zero] at e
  omega

theorem log2_scale (m k : Nat) (h : m ≠ 0) : (m * 2 ^ k).log2 = m.log2 + k := by
  have hm : m * 2 ^ k ≠ 0 := Nat.mul_ne_zero h (Nat.ne_of_gt (Nat.two_pow_pos k))
  rw [Nat.log2_eq_iff hm]
  have h1 := Nat.log2_self_le h
  have h2 := lt_two_pow_log2 m
  constructor
  · rw [Nat.pow_add]; exact Nat.mul_le_mul_right _ h1
  · rw [show m.log2 + k + 1 = m.log2 + 1 + k by omega, Nat.pow_add]
    exact Nat.mul_lt_mul_of_pos_right h2 (Nat.two_pow_pos k)

theorem log2_mono {m n : Nat} (h : m ≤ n) (hm : m ≠ 0) : m.log2 ≤ n.log2 := by
  have h1 := Nat.log2_self_le hm
  have h2 := lt_two_pow_log2 n
  rcases Nat.lt_or_ge n.log2 m.log2 with hlt | hge
  · have : 2 ^ (n.log2 + 1) ≤ 2 ^ m.log2 := Nat.pow_le_pow_right (by omega) (by omega)
    omega
  · exact hge

/-- The place of the last digit that is kept. -/
def lastOf (m : Nat) (p : Int) : Int := max (p + m.log2 - 23) (-149)

/-- The rung to which 'm * 2 ^ p' is rounded. -/
def rung (m : Nat) (p : Int) : Nat :=
  if m = 0 then 0 else min ((lastOf m p + 149).toNat * 8388608 + rhe (m * 2 ^ (p - lastOf m p).toNat) (lastOf m p - p).toNat) 2139095040

theorem nearest_eq (neg : Bool) (m : Nat) (p : Int) : S.nearest neg m p = S.word neg (rung m p) := by
  unfold Ieee.Format.nearest rung lastOf
  by_cases h : m = 0
  · simp [h]
  · simp only [if_neg h, cut_even, Nat.shiftLeft_eq, binade_S, infRung_S, leastPlace_S]
    rfl

theorem rung_scale (m k : Nat) (p : Int) : rung (m * 2 ^ k) (p - k) = rung m p := by
  unfold rung
  by_cases h : m = 0
  · simp [h]
  · have hm : m * 2 ^ k ≠ 0 := Nat.mul_ne_zero h (Nat.ne_of_gt (Nat.two_pow_pos k))
    have hl : lastOf (m * 2 ^ k) (p - k) = lastOf m p := by
      unfold lastOf
      rw [log2_scale m k h]
      congr 1
      push_cast
      omega
    rw [if_neg h, if_neg hm, hl]
    generalize lastOf m p = L
    congr 2
    rcases (show L < p ∨ p ≤ L by omega) with h1 | h1
    · rcases (show L < p - k ∨ p - k ≤ L by omega) with h2 | h2
      · rw [show (L - (p - k)).toNat = 0 by omega, show (L - p).toNat = 0 by omega, rhe_zero, rhe_zero, Nat.mul_assoc, ← Nat.pow_add]
        congr 2
        omega
      · obtain ⟨a, ha⟩ : ∃ a : Nat, p - L = a := ⟨(p - L).toNat, by omega⟩
        rw [show (p - k - L).toNat = 0 by omega, show (L - p).toNat = 0 by omega, rhe_zero, show (p - L).toNat = a by omega, show (L - (p - k)).toNat = k - a by omega, Nat.pow_zero, Nat.mul_one]
        have := rhe_scale (m * 2 ^ a) 0 (k - a)
        rw [rhe_zero, Nat.zero_add, Nat.mul_assoc, ← Nat.pow_add, show a + (k - a) = k by omega] at this
        exact this
    · rw [show (p - k - L).toNat = 0 by omega, show (p - L).toNat = 0 by omega, Nat.pow_zero, Nat.mul_one, Nat.mul_one, show (L - (p - k)).toNat = (L - p).toNat + k by omega]
      exact rhe_scale m _ k

theorem rhe_top (m : Nat) (p : Int) : rhe (m * 2 ^ (p - lastOf m p).toNat) (lastOf m p - p).toNat ≤ 16777216 := by
  have h2 := lt_two_pow_log2 m
  have hl : p + m.log2 - 23 ≤ lastOf m p := by unfold lastOf; omega
  generalize lastOf m p = L at *
  apply rhe_le
  have e : (16777216 : Nat) = 2 ^ 24 := by decide
  rw [e, ← Nat.pow_add]
  refine Nat.le_of_lt (Nat.lt_of_lt_of_le (Nat.mul_lt_mul_of_pos_right h2 (Nat.two_pow_pos _)) ?_)
  rw [← Nat.pow_add]
  exact Nat.pow_le_pow_right (by omega) (by omega)

theorem rhe_bot {m : Nat} {p : Int} (h : m ≠ 0) (hl : -149 < lastOf m p) : 8388608 ≤ rhe (m * 2 ^ (p - lastOf m p).toNat) (lastOf m p - p).toNat := by
  have h1 := Nat.log2_self_le h
  have hl : lastOf m p = p + m.log2 - 23 := by unfold lastOf at *; omega
  generalize lastOf m p = L at *
  apply rhe_ge
  have e : (8388608 : Nat) = 2 ^ 23 := by decide
  rw [e, ← Nat.pow_add]
  refine Nat.le_trans ?_ (Nat.mul_le_mul_right _ h1)
  rw [← Nat.pow_add]
  exact Nat.pow_le_pow_right (by omega) (by omega)

theorem rung_mono {m n : Nat} (p : Int) (h : m ≤ n) : rung m p ≤ rung n p := by
  by_cases hm : m = 0
  · simp [rung, hm]
  · have hn : n ≠ 0 := by omega
    have hlog := log2_mono h hm
    have hL : lastOf m p ≤ lastOf n p := by unfold lastOf; omega
    have hb : -149 ≤ lastOf m p := by unfold lastOf; omega
    have t := rhe_top m p
    have key : (lastOf m p + 149).toNat * 8388608 + rhe (m * 2 ^ (p - lastOf m p).toNat) (lastOf m p - p).toNat ≤ (lastOf n p + 149).toNat * 8388608 + rhe (n * 2 ^ (p - lastOf n p).toNat) (lastOf n p - p).toNat := by
      by_cases e : lastOf m p = lastOf n p
      · rw [e]
        have := rhe_mono _ _ (lastOf n p - p).toNat (Nat.mul_le_mul_right (2 ^ (p - lastOf n p).toNat) h)
        omega
      · have b := rhe_bot (p := p) hn (by omega)
        omega
    unfold rung
    rw [if_neg hm, if_neg hn]
    exact Nat.le_min.2 ⟨Nat.le_trans (Nat.min_le_left ..) key, Nat.min_le_right ..⟩

end Fl
end Go.Proofs.Ytgafdkaiiajieaa
