/- Plain facts on the text of colours: the number of a digit; a fifteenth; what three digits stand for. No condition. -/
import Derived.Test.YtenpbnojabhlkaaStepP
import Derived.Lib.Bytealg
namespace Go.Proofs.Ytenpbnojabhlkaa
open Go.RowKit
open Fl

/-- The number of a digit; -1: it is none. -/
def hv (c : UInt8) : Int := Lib.indexByte hexL c

def okHv (n : Nat) : Bool := hv (UInt8.ofNat n) == -1 || (decide (0 ≤ hv (UInt8.ofNat n)) && decide (hv (UInt8.ofNat n) < 16) && hx (hv (UInt8.ofNat n)).toNat == UInt8.ofNat n)

theorem hv_all : ∀ n, n < 256 → okHv n = true := by decide +kernel

theorem hv_spec (c : UInt8) : hv c = -1 ∨ (0 ≤ hv c ∧ hv c < 16 ∧ hx (hv c).toNat = c) := by
  have := hv_all c.toNat (UInt8.toNat_lt c)
  unfold okHv at this
  rw [UInt8.ofNat_toNat] at this
  simp only [Bool.or_eq_true, Bool.and_eq_true, beq_iff_eq, decide_eq_true_eq] at this
  rcases this with h | ⟨⟨h1, h2⟩, h3⟩
  · exact .inl h
  · exact .inr ⟨h1, h2, h3⟩

theorem hv_hx0 : ∀ n, n < 16 → (hv (hx n) == (n : Int)) = true := by decide +kernel
theorem hv_hx (n : Nat) (h : n < 16) : hv (hx n) = (n : Int) := by simpa using hv_hx0 n h

theorem hv_no {c : UInt8} (h : ∀ j, j < 16 → hx j ≠ c) : hv c = -1 := by
  rcases hv_spec c with h1 | ⟨h1, h2, h3⟩
  · exact h1
  · exact absurd h3 (h _ (by omega))

/-- k / 15, as the quotient of two float32. -/
def q15 (k : Nat) : Nat := (floatBits .quo .f32 (floatOfInt .f32 k) 1097859072).getD 0

def ok15 (k : Nat) : Bool := match floatBits .quo .f32 (floatOfInt .f32 k) 1097859072 with
  | some r => part r && dig r == k
  | none => false

theorem ok15_all : ∀ k, k < 16 → ok15 k = true := by decide +kernel

theorem q15_all (k : Nat) (h : k < 16) : floatBits .quo .f32 (floatOfInt .f32 k) 1097859072 = some (q15 k) ∧ part (q15 k) = true ∧ dig (q15 k) = k := by
  have := ok15_all k h
  unfold ok15 at this
  unfold q15
  split at this
  · rename_i r hr
    rw [hr]
    simp only [Bool.and_eq_true, beq_iff_eq] at this
    exact ⟨rfl, this.1, this.2⟩
  · cases this

/-- What three digits stand for. -/
def parR (l : List UInt8) : Bool × Nat × Nat × Nat :=
  match l with
  | [a, b, c] => if 0 ≤ hv a ∧ 0 ≤ hv b ∧ 0 ≤ hv c then (true, q15 (hv a).toNat, q15 (hv b).toNat, q15 (hv c).toNat) else (false, 0, 0, 0)
  | _ => (false, 0, 0, 0)

theorem parR_size {l : List UInt8} (h : l.length ≠ 3) : parR l = (false, 0, 0, 0) := by
  unfold parR
  match l, h with
  | [], _ => rfl
  | [_], _ => rfl
  | [_, _], _ => rfl
  | [_, _, _], h => exact absurd rfl h
  | _ :: _ :: _ :: _ :: _, _ => rfl

theorem list3 {l : List UInt8} (h : l.length = 3) : ∃ a b c, l = [a, b, c] := by
  match l, h with
  | [a, b, c], _ => exact ⟨a, b, c, rfl⟩

/-- What is read is written again as it was. -/
theorem parR_law {l : List UInt8} (h : (parR l).1 = true) :
    part (parR l).2.1 = true ∧ part (parR l).2.2.1 = true ∧ part (parR l).2.2.2 = true ∧ l = [hx (dig (parR l).2.1), hx (dig (parR l).2.2.1), hx (dig (parR l).2.2.2)] := by
  by_cases hl : l.length = 3
  · obtain ⟨a, b, c, rfl⟩ := list3 hl
    unfold parR at h ⊢
    by_cases hp : 0 ≤ hv a ∧ 0 ≤ hv b ∧ 0 ≤ hv c
    · simp only [if_pos hp]
      obtain ⟨ha, hb, hc⟩ := hp
      rcases hv_spec a with a1 | ⟨_, a2, a3⟩
      · omega
      rcases hv_spec b with b1 | ⟨_, b2, b3⟩
      · omega
      rcases hv_spec c with c1 | ⟨_, c2, c3⟩
      · omega
      obtain ⟨_, pa, da⟩ := q15_all (hv a).toNat (by omega)
      obtain ⟨_, pb, db⟩ := q15_all (hv b).toNat (by omega)
      obtain ⟨_, pc, dc⟩ := q15_all (hv c).toNat (by omega)
      exact ⟨pa, pb, pc, by rw [da, db, dc, a3, b3, c3]⟩
    · simp only [if_neg hp, Bool.false_eq_true] at h
  · rw [parR_size hl] at h
    cases h

theorem parR_hx {a b c : UInt8} {x y z : Nat} (ha : hv a = (x : Int)) (hb : hv b = (y : Int)) (hc : hv c = (z : Int)) : parR [a, b, c] = (true, q15 x, q15 y, q15 z) := by
  have hp : 0 ≤ hv a ∧ 0 ≤ hv b ∧ 0 ≤ hv c := ⟨by omega, by omega, by omega⟩
  unfold parR
  simp only [if_pos hp]
  rw [ha, hb, hc]
  simp only [Int.toNat_natCast]

theorem parR_neg {a b c : UInt8} (h : ¬ (0 ≤ hv a ∧ 0 ≤ hv b ∧ 0 ≤ hv c)) : parR [a, b, c] = (false, 0, 0, 0) := by
  unfold parR
  simp only [if_neg h]

/-- What is written of a colour is read as one with the same digits. -/
theorem parR_fmt (r g b : Nat) : parR [hx (dig r), hx (dig g), hx (dig b)] = (true, q15 (dig r), q15 (dig g), q15 (dig b)) :=
  parR_hx (hv_hx _ (by have := dig_le r; omega)) (hv_hx _ (by have := dig_le g; omega)) (hv_hx _ (by have := dig_le b; omega))

theorem dig_q15 (x : Nat) : dig (q15 (dig x)) = dig x := (q15_all (dig x) (by have := dig_le x; omega)).2.2
theorem part_q15 (x : Nat) : part (q15 (dig x)) = true := (q15_all (dig x) (by have := dig_le x; omega)).2.1

end Go.Proofs.Ytenpbnojabhlkaa
