/- Plain facts on single precision, continued: sums, differences, products and comparisons of finite numbers, said of whole multiples of the least unit. Condition: the words are finite. -/
import Derived.Test.YtgafdkaiiajieaaIeee
namespace Go.Proofs.Ytgafdkaiiajieaa
namespace Fl

def isNeg (x : Nat) : Bool := x / 2147483648 % 2 == 1
def rg (x : Nat) : Nat := x % 2147483648
/-- What a rung stands for, in units of 2 ^ -149. -/
def mv (r : Nat) : Nat := if r < 8388608 then r else (8388608 + r % 8388608) * 2 ^ (r / 8388608 - 1)
/-- A finite word. -/
def fin (x : Nat) : Prop := rg x < 2139095040
/-- What a finite word stands for, in units of 2 ^ -149. -/
def val (x : Nat) : Int := if isNeg x then -(mv (rg x) : Int) else (mv (rg x) : Int)

theorem read_fin {x : Nat} (h : fin x) : ∃ m k : Nat, S.read x = .number (isNeg x) m (-149 + k) ∧ mv (rg x) = m * 2 ^ k := by
  unfold fin at h
  have e : S.read x = if rg x < 8388608 then .number (isNeg x) (rg x) (-149) else if rg x < 2139095040 then .number (isNeg x) (8388608 + rg x % 8388608) (-149 + (rg x / 8388608 - 1 : Nat)) else if rg x = 2139095040 then .infinity (isNeg x) else .nan (isNeg x) (rg x - 2139095040) := by
    unfold Ieee.Format.read isNeg rg
    simp only [binade_S, infRung_S, signWeight_S, leastPlace_S]
  by_cases h1 : rg x < 8388608
  · exact ⟨rg x, 0, by rw [e, if_pos h1]; simp, by unfold mv; rw [if_pos h1]; simp⟩
  · refine ⟨8388608 + rg x % 8388608, rg x / 8388608 - 1, by rw [e, if_neg h1, if_pos h], by unfold mv; rw [if_neg h1]⟩

theorem signed_eq (s : Bool) (m u : Nat) : Ieee.signed s m u = (if s then -1 else 1) * ((m * 2 ^ u : Nat) : Int) := by
  unfold Ieee.signed
  rw [Nat.shiftLeft_eq]
  cases s <;> simp

theorem natAbs_mul_pow (t : Int) (k : Nat) : (t * ((2 ^ k : Nat) : Int)).natAbs = t.natAbs * 2 ^ k := by
  rw [Int.natAbs_mul]; rfl

theorem pow_split (m a b : Nat) (h : a ≤ b) : m * 2 ^ b = m * 2 ^ (b - a) * 2 ^ a := by
  rw [Nat.mul_assoc, ← Nat.pow_add]; congr 2; omega

/-- A sum of two data that are finite numbers, in units of the least one. -/
theorem sum_units (s t : Bool) (m n k l : Nat) :
    ∃ (tot : Int), (Ieee.Datum.number s m (-149 + k)).sum (.number t n (-149 + l)) = some (.number (if tot = 0 then s && t else decide (tot < 0)) tot.natAbs (-149 + (min k l : Nat))) ∧
      tot * ((2 ^ (min k l) : Nat) : Int) = (if s then -1 else 1) * ((m * 2 ^ k : Nat) : Int) + (if t then -1 else 1) * ((n * 2 ^ l : Nat) : Int) := by
  have e1 : (-149 + (k : Int) - (-149 + ((min k l : Nat) : Int))).toNat = k - min k l := by omega
  have e2 : (-149 + (l : Int) - (-149 + ((min k l : Nat) : Int))).toNat = l - min k l := by omega
  refine ⟨Ieee.signed s m (k - min k l) + Ieee.signed t n (l - min k l), ?_, ?_⟩
  · simp only [Ieee.Datum.sum]
    rw [show min (-149 + (k : Int)) (-149 + (l : Int)) = -149 + ((min k l : Nat) : Int) by omega, e1, e2]
  · rw [signed_eq, signed_eq, Int.add_mul, Int.mul_assoc, Int.mul_assoc, ← Int.natCast_mul, ← Int.natCast_mul, ← pow_split m (min k l) k (by omega), ← pow_split n (min k l) l (by omega)]

theorem val_eq {x m k : Nat} (h : mv (rg x) = m * 2 ^ k) : val x = (if isNeg x then -1 else 1) * ((m * 2 ^ k : Nat) : Int) := by
  unfold val
  rw [h]
  cases isNeg x <;> simp

/-- The word of a rounded number v (units of 2 ^ -149), z the sign of a zero. -/
def word (z : Bool) (v : Int) : Nat := S.word (if v = 0 then z else decide (v < 0)) (rung v.natAbs (-149))

theorem write_units (z : Bool) (tot : Int) (j : Nat) : S.write (.number (if tot = 0 then z else decide (tot < 0)) tot.natAbs (-149 + j)) = word z (tot * ((2 ^ j : Nat) : Int)) := by
  show S.nearest _ _ _ = _
  rw [nearest_eq]
  unfold word
  have hp : (0 : Int) < ((2 ^ j : Nat) : Int) := by exact_mod_cast Nat.two_pow_pos j
  have h0 : tot * ((2 ^ j : Nat) : Int) = 0 ↔ tot = 0 := by
    constructor
    · intro h
      rcases Int.mul_eq_zero.1 h with h | h
      · exact h
      · omega
    · intro h; rw [h, Int.zero_mul]
  have hn : tot * ((2 ^ j : Nat) : Int) < 0 ↔ tot < 0 := by
    constructor
    · intro h
      rcases (show tot < 0 ∨ 0 ≤ tot by omega) with h1 | h1
      · exact h1
      · have := Int.mul_nonneg h1 (Int.le_of_lt hp); omega
    · intro h; exact Int.mul_neg_of_neg_of_pos h hp
  rw [natAbs_mul_pow]
  have := rung_scale tot.natAbs j (-149 + j)
  rw [show (-149 + (j : Int) - (j : Int)) = -149 by omega] at this
  rw [this]
  simp only [h0, hn]

theorem add_fin {x y : Nat} (hx : fin x) (hy : fin y) : S.add x y = some (word (isNeg x && isNeg y) (val x + val y)) := by
  obtain ⟨m, k, rx, mx⟩ := read_fin hx
  obtain ⟨n, l, ry, my⟩ := read_fin hy
  obtain ⟨tot, h1, h2⟩ := sum_units (isNeg x) (isNeg y) m n k l
  unfold Ieee.Format.add
  rw [rx, ry, h1, Option.map_some, write_units, h2, ← val_eq mx, ← val_eq my]

theorem sub_fin {x y : Nat} (hx : fin x) (hy : fin y) : S.sub x y = some (word (isNeg x && !isNeg y) (val x - val y)) := by
  obtain ⟨m, k, rx, mx⟩ := read_fin hx
  obtain ⟨n, l, ry, my⟩ := read_fin hy
  obtain ⟨tot, h1, h2⟩ := sum_units (isNeg x) (!isNeg y) m n k l
  unfold Ieee.Format.sub
  rw [rx, ry]
  show (Ieee.Datum.sum (.number (isNeg x) m (-149 + k)) (.number (!isNeg y) n (-149 + l))).map S.write = _
  rw [h1, Option.map_some, write_units, h2, ← val_eq mx]
  congr 2
  rw [val_eq my]
  cases isNeg y <;> simp <;> omega

/-- The word of a rounded product v (units of 2 ^ -298), z its sign. -/
def wordP (z : Bool) (v : Nat) : Nat := S.word z (rung v (-298))

theorem mul_fin {x y : Nat} (hx : fin x) (hy : fin y) : S.mul x y = some (wordP (isNeg x ^^ isNeg y) (mv (rg x) * mv (rg y))) := by
  obtain ⟨m, k, rx, mx⟩ := read_fin hx
  obtain ⟨n, l, ry, my⟩ := read_fin hy
  unfold Ieee.Format.mul
  rw [rx, ry]
  show some (S.nearest (isNeg x ^^ isNeg y) (m * n) (-149 + k + (-149 + l))) = _
  rw [nearest_eq, wordP, mx, my]
  have := rung_scale (m * n) (k + l) (-298 + (k + l : Nat))
  rw [show (-298 + ((k + l : Nat) : Int) - ((k + l : Nat) : Int)) = -298 by omega] at this
  rw [show m * 2 ^ k * (n * 2 ^ l) = m * n * 2 ^ (k + l) by rw [Nat.pow_add, Nat.mul_mul_mul_comm], this]
  congr 3
  omega

theorem compare_scale (a b : Int) (j : Nat) : compare (a * ((2 ^ j : Nat) : Int)) (b * ((2 ^ j : Nat) : Int)) = compare a b := by
  have hp : (0 : Int) < ((2 ^ j : Nat) : Int) := by exact_mod_cast Nat.two_pow_pos j
  have h1 : a * ((2 ^ j : Nat) : Int) < b * ((2 ^ j : Nat) : Int) ↔ a < b := Int.mul_lt_mul_right hp
  have h2 : a * ((2 ^ j : Nat) : Int) = b * ((2 ^ j : Nat) : Int) ↔ a = b := ⟨fun h => Int.eq_of_mul_eq_mul_right (by omega) h, fun h => by rw [h]⟩
  simp only [compare, compareOfLessAndEq, h1, h2]

theorem order_fin {x y : Nat} (hx : fin x) (hy : fin y) : S.order x y = some (compare (val x) (val y)) := by
  obtain ⟨m, k, rx, mx⟩ := read_fin hx
  obtain ⟨n, l, ry, my⟩ := read_fin hy
  unfold Ieee.Format.order
  rw [rx, ry]
  simp only [Ieee.Datum.order]
  rw [show min (-149 + (k : Int)) (-149 + (l : Int)) = -149 + ((min k l : Nat) : Int) by omega, show (-149 + (k : Int) - (-149 + ((min k l : Nat) : Int))).toNat = k - min k l by omega, show (-149 + (l : Int) - (-149 + ((min k l : Nat) : Int))).toNat = l - min k l by omega]
  rw [← compare_scale _ _ (min k l), signed_eq, signed_eq, Int.mul_assoc, Int.mul_assoc, ← Int.natCast_mul, ← Int.natCast_mul, ← pow_split m (min k l) k (by omega), ← pow_split n (min k l) l (by omega), ← val_eq mx, ← val_eq my]

end Fl
end Go.Proofs.Ytgafdkaiiajieaa
