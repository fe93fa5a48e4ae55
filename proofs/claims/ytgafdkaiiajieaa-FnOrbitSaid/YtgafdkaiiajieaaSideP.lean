/- Plain facts on sides of points: the side of three points as a number; what turning and mirroring make of it. Condition: the points' parts are from -4096 to 4096. -/
import Derived.Test.YtgafdkaiiajieaaPtP
namespace Go.Proofs.Ytgafdkaiiajieaa
open Go.RowKit
open Fl

/-- The words of 4096 and -4096. -/
abbrev wP : Nat := 1166016512
abbrev wM : Nat := 3313500160

theorem fin_wP : fin wP := by unfold fin rg wP; omega
theorem fin_wM : fin wM := by unfold fin rg wM; omega
theorem val_wP : val wP = ((2 ^ 161 : Nat) : Int) := by decide
theorem val_wM : val wM = -((2 ^ 161 : Nat) : Int) := by decide

/-- From -4096 to 4096. -/
def rch (x : Nat) : Bool := (S.order x wM == some .gt || S.order x wM == some .eq) && (S.order x wP == some .lt || S.order x wP == some .eq)

theorem rch_iff (x : Nat) : rch x = true ↔ fin x ∧ -((2 ^ 161 : Nat) : Int) ≤ val x ∧ val x ≤ ((2 ^ 161 : Nat) : Int) := by
  unfold rch
  by_cases h : fin x
  · rw [order_fin h fin_wM, order_fin h fin_wP, cmp_ge, cmp_le, val_wP, val_wM]
    simp [h]
  · constructor
    · intro hp
      rcases order_not_fin h fin_wM with h0 | ⟨h0, _⟩ | ⟨_, h1⟩
      · rw [h0] at hp; simp at hp
      · rw [h0] at hp; simp at hp
      · rw [h1 _ fin_wP] at hp; simp at hp
    · intro hp; exact absurd hp.1 h

theorem rch_fin {x : Nat} (h : rch x = true) : fin x := ((rch_iff x).1 h).1
theorem rch_abs {x : Nat} (h : rch x = true) : (val x).natAbs ≤ 2 ^ 161 := by
  obtain ⟨_, h1, h2⟩ := (rch_iff x).1 h
  generalize (2 ^ 161 : Nat) = B at *
  omega
theorem rch_of {x : Nat} (hf : fin x) (h : (val x).natAbs ≤ 2 ^ 161) : rch x = true := by
  rw [rch_iff]
  refine ⟨hf, ?_⟩
  generalize (2 ^ 161 : Nat) = B at *
  omega

/-- The rungs of powers of two. -/
theorem mv_pow162 : mv (140 * 8388608) = 2 ^ 162 := by decide
theorem mv_pow175 : mv (153 * 8388608) = 2 ^ 175 := by decide
theorem mv_pow176 : mv (154 * 8388608) = 2 ^ 176 := by decide
theorem mv_pow161 : mv (139 * 8388608) = 2 ^ 161 := by decide

theorem rnd_abs {v : Int} {r : Nat} (hr : r < 2139095040) (h : v.natAbs ≤ mv r) : rung v.natAbs (-149) < 2139095040 ∧ (rnd v).natAbs ≤ mv r := by
  have h1 := rung_le_of hr h
  refine ⟨by omega, ?_⟩
  have h2 := mv_le (by omega) hr h1
  unfold rnd
  split <;> omega

theorem rndP_abs {v : Int} {r : Nat} (hr : r < 2139095040) (h : v.natAbs ≤ mv r * 2 ^ 149) : rung v.natAbs (-298) < 2139095040 ∧ (rndP v).natAbs ≤ mv r := by
  have h1 := rungP_le_of hr h
  refine ⟨by omega, ?_⟩
  have h2 := mv_le (by omega) hr h1
  unfold rndP
  split <;> omega

/-- A difference of two numbers: what it stands for. -/
theorem diff_val {a b r : Nat} (hr : r < 2139095040) (h : (val a - val b).natAbs ≤ mv r) :
    fin (word (isNeg a && !isNeg b) (val a - val b)) ∧ Can (diffF a b) ∧ val (diffF a b) = rnd (val a - val b) ∧ (val (diffF a b)).natAbs ≤ mv r := by
  obtain ⟨h1, h2⟩ := rnd_abs hr h
  have hf := fin_word_rnd (z := isNeg a && !isNeg b) h1
  have e : val (diffF a b) = rnd (val a - val b) := by
    unfold diffF
    rw [val_cl hf, val_word_rnd h1]
  exact ⟨hf, can_word h1, e, by rw [e]; exact h2⟩

theorem sum_val {a b r : Nat} (hr : r < 2139095040) (h : (val a + val b).natAbs ≤ mv r) :
    fin (word (isNeg a && isNeg b) (val a + val b)) ∧ Can (sumF a b) ∧ val (sumF a b) = rnd (val a + val b) ∧ (val (sumF a b)).natAbs ≤ mv r := by
  obtain ⟨h1, h2⟩ := rnd_abs hr h
  have hf := fin_word_rnd (z := isNeg a && isNeg b) h1
  have e : val (sumF a b) = rnd (val a + val b) := by
    unfold sumF
    rw [val_cl hf, val_word_rnd h1]
  exact ⟨hf, can_word h1, e, by rw [e]; exact h2⟩

theorem abs_val (x : Nat) : (val x).natAbs = mv (rg x) := by unfold val; cases isNeg x <;> simp

/-- A product of two numbers: what it stands for. -/
theorem times_val {a b r : Nat} (hr : r < 2139095040) (h : (val a * val b).natAbs ≤ mv r * 2 ^ 149) :
    fin (wordP (isNeg a ^^ isNeg b) (mv (rg a) * mv (rg b))) ∧ Can (timesF a b) ∧ val (timesF a b) = rndP (val a * val b) ∧ (val (timesF a b)).natAbs ≤ mv r := by
  obtain ⟨h1, h2⟩ := rndP_abs hr h
  have hn : (val a * val b).natAbs = mv (rg a) * mv (rg b) := by rw [Int.natAbs_mul, abs_val, abs_val]
  have h1' : rung (mv (rg a) * mv (rg b)) (-298) < 2139095040 := by rw [← hn]; exact h1
  have hf : fin (wordP (isNeg a ^^ isNeg b) (mv (rg a) * mv (rg b))) := fin_wordR h1'
  have e : val (timesF a b) = rndP (val a * val b) := by
    unfold timesF
    rw [val_cl hf]
    unfold wordP rndP
    rw [val_wordR h1', hn]
    by_cases h0 : mv (rg a) * mv (rg b) = 0
    · rw [h0, rung_zero', mv_zero]; simp
    · have pa : 0 < mv (rg a) := Nat.pos_of_ne_zero fun e => h0 (by rw [e, Nat.zero_mul])
      have pb : 0 < mv (rg b) := Nat.pos_of_ne_zero fun e => h0 (by rw [e, Nat.mul_zero])
      have pp : (0 : Int) < (mv (rg a) : Int) * (mv (rg b) : Int) := Int.mul_pos (by omega) (by omega)
      have hs : (val a * val b < 0) ↔ (isNeg a ^^ isNeg b) = true := by
        unfold val
        generalize (mv (rg a) : Int) = A at *
        generalize (mv (rg b) : Int) = B at *
        cases isNeg a <;> cases isNeg b <;> simp [Int.neg_mul, Int.mul_neg] <;> omega
      by_cases hv : val a * val b < 0
      · rw [if_pos hv, if_pos (hs.1 hv)]
      · rw [if_neg hv, if_neg (fun x => hv (hs.2 x))]
  exact ⟨hf, can_clw h1', e, by rw [e]; exact h2⟩

/-- The side of three points, as a number in units of 2 ^ -149. -/
def sideI (ax ay bx b_y px py : Int) : Int := rnd (rndP (rnd (bx - ax) * rnd (py - ay)) - rndP (rnd (b_y - ay) * rnd (px - ax)))

/-- The side of three points, as the program has it. -/
def sideW (ax ay bx b_y px py : Nat) : Nat := diffF (timesF (diffF bx ax) (diffF py ay)) (timesF (diffF b_y ay) (diffF px ax))

/-- What the steps of a side need, and what comes of them. -/
structure SideOk (ax ay bx b_y px py : Nat) : Prop where
  f1 : fin (word (isNeg bx && !isNeg ax) (val bx - val ax))
  f2 : fin (word (isNeg b_y && !isNeg ay) (val b_y - val ay))
  f3 : fin (word (isNeg px && !isNeg ax) (val px - val ax))
  f4 : fin (word (isNeg py && !isNeg ay) (val py - val ay))
  g1 : fin (diffF bx ax)
  g2 : fin (diffF b_y ay)
  g3 : fin (diffF px ax)
  g4 : fin (diffF py ay)
  t1 : fin (wordP (isNeg (diffF bx ax) ^^ isNeg (diffF py ay)) (mv (rg (diffF bx ax)) * mv (rg (diffF py ay))))
  t2 : fin (wordP (isNeg (diffF b_y ay) ^^ isNeg (diffF px ax)) (mv (rg (diffF b_y ay)) * mv (rg (diffF px ax))))
  u1 : fin (timesF (diffF bx ax) (diffF py ay))
  u2 : fin (timesF (diffF b_y ay) (diffF px ax))
  d : fin (word (isNeg (timesF (diffF bx ax) (diffF py ay)) && !isNeg (timesF (diffF b_y ay) (diffF px ax))) (val (timesF (diffF bx ax) (diffF py ay)) - val (timesF (diffF b_y ay) (diffF px ax))))
  can : Can (sideW ax ay bx b_y px py)
  val : val (sideW ax ay bx b_y px py) = sideI (val ax) (val ay) (val bx) (val b_y) (val px) (val py)
  abs : (Fl.val (sideW ax ay bx b_y px py)).natAbs ≤ 2 ^ 176

theorem sub_abs {a b : Int} {B C : Nat} (ha : a.natAbs ≤ B) (hb : b.natAbs ≤ B) (hC : B + B ≤ C) : (a - b).natAbs ≤ C := by omega
theorem mul_abs {a b : Int} {B : Nat} (ha : a.natAbs ≤ B) (hb : b.natAbs ≤ B) : (a * b).natAbs ≤ B * B := by
  rw [Int.natAbs_mul]; exact Nat.mul_le_mul ha hb

theorem side_ok {ax ay bx b_y px py : Nat} (h1 : rch ax = true) (h2 : rch ay = true) (h3 : rch bx = true) (h4 : rch b_y = true) (h5 : rch px = true) (h6 : rch py = true) : SideOk ax ay bx b_y px py := by
  have e1 : (2 : Nat) ^ 161 + 2 ^ 161 ≤ mv (140 * 8388608) := by rw [mv_pow162]; decide
  have e2 : mv (140 * 8388608) * mv (140 * 8388608) ≤ mv (153 * 8388608) * 2 ^ 149 := by rw [mv_pow162, mv_pow175]; decide
  have e3 : mv (153 * 8388608) + mv (153 * 8388608) ≤ mv (154 * 8388608) := by rw [mv_pow175, mv_pow176]; decide
  obtain ⟨a1, a2, a3, a4⟩ := diff_val (a := bx) (b := ax) (r := 140 * 8388608) (by omega) (sub_abs (rch_abs h3) (rch_abs h1) e1)
  obtain ⟨b1, b2, b3, b4⟩ := diff_val (a := b_y) (b := ay) (r := 140 * 8388608) (by omega) (sub_abs (rch_abs h4) (rch_abs h2) e1)
  obtain ⟨c1, c2, c3, c4⟩ := diff_val (a := px) (b := ax) (r := 140 * 8388608) (by omega) (sub_abs (rch_abs h5) (rch_abs h1) e1)
  obtain ⟨d1, d2, d3, d4⟩ := diff_val (a := py) (b := ay) (r := 140 * 8388608) (by omega) (sub_abs (rch_abs h6) (rch_abs h2) e1)
  obtain ⟨p1, p2, p3, p4⟩ := times_val (a := diffF bx ax) (b := diffF py ay) (r := 153 * 8388608) (by omega) (Nat.le_trans (mul_abs a4 d4) e2)
  obtain ⟨q1, q2, q3, q4⟩ := times_val (a := diffF b_y ay) (b := diffF px ax) (r := 153 * 8388608) (by omega) (Nat.le_trans (mul_abs b4 c4) e2)
  obtain ⟨s1, s2, s3, s4⟩ := diff_val (a := timesF (diffF bx ax) (diffF py ay)) (b := timesF (diffF b_y ay) (diffF px ax)) (r := 154 * 8388608) (by omega) (sub_abs p4 q4 e3)
  refine ⟨a1, b1, c1, d1, a2.fin, b2.fin, c2.fin, d2.fin, p1, q1, p2.fin, q2.fin, s1, s2, ?_, ?_⟩
  · unfold sideW sideI
    rw [s3, p3, q3, a3, b3, c3, d3]
  · rw [mv_pow176] at s4
    exact s4

theorem sideI_turn (ax ay bx b_y px py : Int) : sideI (-ay) ax (-b_y) bx (-py) px = sideI ax ay bx b_y px py := by
  unfold sideI
  rw [show -b_y - -ay = -(b_y - ay) by omega, show -py - -ay = -(py - ay) by omega, rnd_neg, rnd_neg, Int.neg_mul, Int.mul_neg, rndP_neg, rndP_neg]
  congr 1
  omega

theorem sideI_flip (ax ay bx b_y px py : Int) : sideI ax (-ay) bx (-b_y) px (-py) = - sideI ax ay bx b_y px py := by
  unfold sideI
  rw [show -b_y - -ay = -(b_y - ay) by omega, show -py - -ay = -(py - ay) by omega, rnd_neg, rnd_neg, Int.neg_mul, Int.mul_neg, rndP_neg, rndP_neg, ← rnd_neg]
  congr 1
  omega

theorem sideI_aa (ax ay bx b_y : Int) : sideI ax ay bx b_y ax ay = 0 := by
  unfold sideI
  rw [Int.sub_self, Int.sub_self, rnd_zero, Int.mul_zero, Int.mul_zero, rndP_zero, Int.sub_self, rnd_zero]

theorem sideI_bb (ax ay bx b_y : Int) : sideI ax ay bx b_y bx b_y = 0 := by
  unfold sideI
  rw [Int.mul_comm, Int.sub_self, rnd_zero]

end Go.Proofs.Ytgafdkaiiajieaa
