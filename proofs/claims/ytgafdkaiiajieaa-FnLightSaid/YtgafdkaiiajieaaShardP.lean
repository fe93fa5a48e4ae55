/- Plain: lists of shards as rows of cells; the numbers that the reference draws for shards; sums and quotients that are numbers. No condition. -/
import Derived.Test.YtgafdkaiiajieaaActP
import Derived.Test.YtgafdkaiiajieaaCol
namespace Go.Proofs.Ytgafdkaiiajieaa
open Go.RowKit
open Fl

/-- A shard's words. -/
structure Shd where
  ax : Nat
  ay : Nat
  bx : Nat
  b_y : Nat
  cx : Nat
  cy : Nat
  r : Nat
  g : Nat
  b : Nat
  k : Nat

/-- A valid shard. -/
structure ShOk (s : Shd) : Prop where
  pa : Pt s.ax s.ay
  pb : Pt s.bx s.b_y
  pc : Pt s.cx s.cy
  col : isCol s.r s.g s.b = true
  clear : part s.k = true

def shCells (s : Shd) : List Value := [.complex .f32 s.ax s.ay, .complex .f32 s.bx s.b_y, .complex .f32 s.cx s.cy, .float .f32 s.r, .float .f32 s.g, .float .f32 s.b, .float .f32 s.k]

/-- The cells of a list of shards. -/
def shsCells (l : List Shd) : List Value := l.flatMap shCells

theorem shsCells_append (l m : List Shd) : shsCells (l ++ m) = shsCells l ++ shsCells m := by simp [shsCells]

theorem shsCells_length (l : List Shd) : (shsCells l).length = l.length * 7 := by
  induction l with
  | nil => rfl
  | cons a l ih => simp [shsCells, shCells] at ih ⊢; omega

theorem shsCells_at (l : List Shd) (k : Nat) (h : k < l.length) (j : Nat) (hj : j < 7) : (shsCells l)[k * 7 + j]? = (shCells l[k])[j]? := by
  induction l generalizing k with
  | nil => simp at h
  | cons a l ih =>
    have e : shsCells (a :: l) = shCells a ++ shsCells l := by simp [shsCells]
    have hl : (shCells a).length = 7 := rfl
    rw [e]
    cases k with
    | zero => rw [List.getElem?_append_left (by omega)]; simp
    | succ k =>
      rw [List.getElem?_append_right (by omega), hl, show (k + 1) * 7 + j - 7 = k * 7 + j by omega, ih k (by simpa using h)]
      simp

/-- A quarter of a small number: at most 8, exact enough. -/
def quarterB (n : Nat) : Bool := match floatBits .quo .f32 (floatOfInt .f32 ((n : Int) - 32)) 1082130432 with
  | some r => rch r && decide (r < 4294967296) && decide ((val r).natAbs ≤ 2 ^ 152)
  | none => false

theorem quarters : ∀ n, n < 65 → quarterB n = true := by decide +kernel

theorem quarter_some {x : Int} (h0 : -32 ≤ x) (h1 : x ≤ 32) : ∃ r, floatBits .quo .f32 (floatOfInt .f32 x) 1082130432 = some r ∧ rch r = true ∧ r < 4294967296 ∧ (val r).natAbs ≤ 2 ^ 152 := by
  have h := quarters (x + 32).toNat (by omega)
  unfold quarterB at h
  rw [show (((x + 32).toNat : Nat) : Int) - 32 = x by omega] at h
  split at h
  · rename_i r hr
    simp only [Bool.and_eq_true, decide_eq_true_eq] at h
    exact ⟨r, hr, h.1.1, h.1.2, h.2⟩
  · cases h

theorem mv_pow153 : mv (131 * 8388608) = 2 ^ 153 := by decide

/-- The sum of two small numbers: a part of a point. -/
theorem plus_small {x y : Nat} (hx : (val x).natAbs ≤ 2 ^ 152) (hy : (val y).natAbs ≤ 2 ^ 152) :
    fin (word (isNeg x && isNeg y) (val x + val y)) ∧ rch (sumF x y) = true ∧ sumF x y < 4294967296 := by
  have e : (2 : Nat) ^ 152 + 2 ^ 152 = 2 ^ 153 := by decide
  have hb : (val x + val y).natAbs ≤ mv (131 * 8388608) := by rw [mv_pow153]; omega
  obtain ⟨h1, h2, h3, h4⟩ := sum_val (a := x) (b := y) (r := 131 * 8388608) (by omega) hb
  rw [mv_pow153] at h4
  have e2 : (2 : Nat) ^ 153 ≤ 2 ^ 161 := Nat.pow_le_pow_right (by omega) (by omega)
  exact ⟨h1, rch_of h2.fin (by omega), h2.lt⟩

theorem word_bound {z : Bool} {v : Int} {r : Nat} (hr : r < 2139095040) (h : v.natAbs ≤ mv r) : fin (word z v) ∧ (val (word z v)).natAbs ≤ mv r := by
  obtain ⟨h1, h2⟩ := rnd_abs hr h
  exact ⟨fin_word_rnd h1, by rw [val_word_rnd h1]; exact h2⟩

theorem mv_pow163 : mv (141 * 8388608) = 2 ^ 163 := by decide
theorem mv_pow164 : mv (142 * 8388608) = 2 ^ 164 := by decide

/-- Finite by a bound: at most 2 ^ k units. -/
def Bd (k : Nat) (x : Nat) : Prop := fin x ∧ (val x).natAbs ≤ 2 ^ k

theorem bd_add {x y : Nat} (hx : Bd 161 x) (hy : Bd 161 y) : ∃ r, floatBits .add .f32 x y = some r ∧ Bd 162 r := by
  have e : (2 : Nat) ^ 161 + 2 ^ 161 = 2 ^ 162 := by decide
  have hb : (val x + val y).natAbs ≤ mv (140 * 8388608) := by rw [mv_pow162]; have := hx.2; have := hy.2; omega
  obtain ⟨h1, h2⟩ := word_bound (z := isNeg x && isNeg y) (r := 140 * 8388608) (by omega) hb
  rw [mv_pow162] at h2
  exact ⟨_, add_fin hx.1 hy.1, h1, h2⟩

theorem bd_add2 {x y : Nat} (hx : Bd 162 x) (hy : Bd 162 y) : ∃ r, floatBits .add .f32 x y = some r ∧ Bd 163 r := by
  have e : (2 : Nat) ^ 162 + 2 ^ 162 = 2 ^ 163 := by decide
  have hb : (val x + val y).natAbs ≤ mv (141 * 8388608) := by rw [mv_pow163]; have := hx.2; have := hy.2; omega
  obtain ⟨h1, h2⟩ := word_bound (z := isNeg x && isNeg y) (r := 141 * 8388608) (by omega) hb
  rw [mv_pow163] at h2
  exact ⟨_, add_fin hx.1 hy.1, h1, h2⟩

theorem val_two : val 1073741824 = ((2 ^ 150 : Nat) : Int) := by decide
theorem fin_two : fin 1073741824 := by unfold fin rg; omega

theorem bd_twice {x : Nat} (hx : Bd 161 x) : ∃ r, floatBits .mul .f32 1073741824 x = some r ∧ Bd 162 r := by
  have e : (2 : Nat) ^ 150 * 2 ^ 161 = 2 ^ 162 * 2 ^ 149 := by decide
  have hb : (val 1073741824 * val x).natAbs ≤ mv (140 * 8388608) * 2 ^ 149 := by
    rw [Int.natAbs_mul, val_two, mv_pow162, ← e]
    exact Nat.mul_le_mul (by simp) hx.2
  have hr : (140 * 8388608 : Nat) < 2139095040 := by omega
  obtain ⟨h1, h2⟩ := rndP_abs hr hb
  have hn : (val 1073741824 * val x).natAbs = mv (rg 1073741824) * mv (rg x) := by rw [Int.natAbs_mul, abs_val, abs_val]
  rw [hn] at h1
  have hf : fin (wordP (isNeg 1073741824 ^^ isNeg x) (mv (rg 1073741824) * mv (rg x))) := fin_wordR h1
  refine ⟨_, mul_fin fin_two hx.1, hf, ?_⟩
  unfold wordP
  rw [abs_val, rg_word (by omega)]
  rw [hn] at hb
  have h3 := rungP_le_of hr hb
  have h4 := mv_le (by omega) hr h3
  rw [mv_pow162] at h4
  exact h4

theorem bd_of_rch {x : Nat} (h : rch x = true) : Bd 161 x := ⟨rch_fin h, rch_abs h⟩

theorem wf_lt {r : Nat} (h : (Lit.float .f32 r).wf = true) : r < 4294967296 := by simpa [Lit.wf] using h

/-- A quotient by 2 or 4 is a number. -/
theorem div_some {x d : Nat} (hx : fin x) (hd : d = 1073741824 ∨ d = 1082130432) : ∃ r, floatBits .quo .f32 x d = some r ∧ r < 4294967296 := by
  obtain ⟨m, k, hr, _⟩ := read_fin hx
  have hq : ∃ q, S.div x d = some q := by
    unfold Ieee.Format.div
    rw [hr]
    rcases hd with rfl | rfl
    · have e : S.read 1073741824 = .number false 8388608 (-22) := by decide
      rw [e]
      simp [Ieee.Datum.quotient]
    · have e : S.read 1082130432 = .number false 8388608 (-21) := by decide
      rw [e]
      simp [Ieee.Datum.quotient]
  obtain ⟨q, hq⟩ := hq
  have hq' : floatBits .quo .f32 x d = some q := hq
  exact ⟨q, hq', wf_lt (floatBits_wf hq')⟩

end Go.Proofs.Ytgafdkaiiajieaa
