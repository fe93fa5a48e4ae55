/- Plain facts: mixing by nothing, by all, by a share; filters may be exchanged and do not brighten. Condition: numbers from 0 to 1. -/
import Derived.Test.YtgafdkaiiajieaaInvP
import Derived.Test.YtgafdkaiiajieaaMixS
namespace Go.Proofs.Ytgafdkaiiajieaa
open Go.RowKit
open Fl

theorem val_times {x y : Nat} (hx : part x = true) (hy : part y = true) : val (timesF x y) = (mv (rung (mv (rg x) * mv (rg y)) (-298)) : Int) := by
  have hr := times_rung hx hy
  rw [rg_one] at hr
  unfold timesF
  rw [val_cl (times_fin_part hx hy)]
  unfold wordP
  rw [val_word' (by omega)]
  cases hs : (isNeg x ^^ isNeg y)
  · simp
  · have h0 : mv (rg x) * mv (rg y) = 0 := by
      have pa := (part_mv hx).2.2
      have pb := (part_mv hy).2.2
      cases hna : isNeg x
      · cases hnb : isNeg y
        · rw [hna, hnb] at hs; cases hs
        · rw [pb hnb, Nat.mul_zero]
      · rw [pa hna, Nat.zero_mul]
    rw [h0]
    have : rung 0 (-298) = 0 := by unfold rung; simp
    rw [this]; simp [mv_zero]

theorem val_sum {x y : Nat} (hx : part x = true) (hy : part y = true) : val (sumF x y) = (mv (rung (val x + val y).natAbs (-149)) : Int) := by
  obtain ⟨a1, a2, _⟩ := part_mv hx
  obtain ⟨b1, b2, _⟩ := part_mv hy
  have hf := sum_fin_part hx hy
  have hr : rung (val x + val y).natAbs (-149) < 2139095040 := by
    refine Nat.lt_of_le_of_lt (rung_le_of (r := 1073741824) (by omega) ?_) (by omega)
    have e : mv 1073741824 = 2 ^ 150 := by decide
    have e2 : (2 : Nat) ^ 150 = 2 ^ 149 + 2 ^ 149 := by decide
    rw [e, e2]
    omega
  unfold sumF
  rw [val_cl hf]
  unfold word
  rw [val_word' hr]
  by_cases h0 : val x + val y = 0
  · rw [h0]
    have : rung (0 : Int).natAbs (-149) = 0 := by decide
    rw [this]; simp [mv_zero]
  · rw [if_neg h0, if_neg (by rw [decide_eq_false (by omega)]; exact Bool.false_ne_true)]

theorem times_one {x : Nat} (hx : part x = true) : val (timesF x one) = val x := by
  rw [val_times hx part_one, mv_one, rung_exactP (part_fin hx)]
  exact (part_mv hx).1

theorem times_zero {x : Nat} (hx : part x = true) : val (timesF x 0) = 0 := by
  rw [val_times hx part_zero]
  have h1 : mv (rg 0) = 0 := by decide
  have : rung 0 (-298) = 0 := by unfold rung; simp
  rw [h1, Nat.mul_zero, this]
  simp [mv_zero]

theorem val_part_self {x : Nat} (hx : part x = true) : (mv (rung (val x).natAbs (-149)) : Int) = val x := by
  obtain ⟨a1, a2, _⟩ := part_mv hx
  have e : (val x).natAbs = mv (rg x) := by omega
  rw [e, rung_exact (part_fin hx), a1]

theorem bnd_id {z : Nat} (hz : fin z) (h : val z ≤ val one) : bnd z = z := by
  unfold bnd
  rw [order_gt hz fin_one, if_neg (by rw [decide_eq_false (by omega)]; exact Bool.false_ne_true)]

theorem diff_one_zero : diffF one 0 = one := by unfold diffF word; decide +kernel
theorem diff_one_one : diffF one one = 0 := by unfold diffF word; decide +kernel

theorem mix_none {x y : Nat} (hx : part x = true) (hy : part y = true) : val (mixF 0 x y) = val x := by
  have p1 := part_times hx part_one
  have p2 := part_times hy part_zero
  have e : val (sumF (timesF x one) (timesF y 0)) = val x := by
    rw [val_sum p1 p2, times_one hx, times_zero hy, Int.add_zero]
    exact val_part_self hx
  have hf : fin (sumF (timesF x one) (timesF y 0)) := fin_cl (sum_fin_part p1 p2)
  unfold mixF
  rw [diff_one_zero, bnd_id hf (by rw [e]; exact ((part_iff x).1 hx).2.2), e]

theorem mix_all {x y : Nat} (hx : part x = true) (hy : part y = true) : val (mixF one x y) = val y := by
  have p1 := part_times hx part_zero
  have p2 := part_times hy part_one
  have e : val (sumF (timesF x 0) (timesF y one)) = val y := by
    rw [val_sum p1 p2, times_one hy, times_zero hx, Int.zero_add]
    exact val_part_self hy
  have hf : fin (sumF (timesF x 0) (timesF y one)) := fin_cl (sum_fin_part p1 p2)
  unfold mixF
  rw [diff_one_one, bnd_id hf (by rw [e]; exact ((part_iff y).1 hy).2.2), e]

theorem mix_part {k x y : Nat} (hx : part x = true) (hy : part y = true) (hk : part k = true) : part (mixF k x y) = true := by
  have p1 := part_times hx (part_diff hk)
  have p2 := part_times hy hk
  have hf : fin (sumF (timesF x (diffF one k)) (timesF y k)) := fin_cl (sum_fin_part p1 p2)
  have hv := val_sum p1 p2
  unfold mixF bnd
  rw [order_gt hf fin_one]
  by_cases h : val one < val (sumF (timesF x (diffF one k)) (timesF y k))
  · rw [if_pos (decide_eq_true h)]; exact part_one
  · rw [if_neg (by rw [decide_eq_false h]; exact Bool.false_ne_true), part_iff]
    exact ⟨hf, by omega, by omega⟩

theorem times_comm (x y : Nat) : timesF x y = timesF y x := by
  unfold timesF
  rw [Bool.xor_comm, Nat.mul_comm]

theorem times_le {x y : Nat} (hx : part x = true) (hy : part y = true) : val (timesF x y) ≤ val x := by
  rw [val_times hx hy, ← (part_mv hx).1]
  have h1 : rung (mv (rg x) * mv (rg y)) (-298) ≤ rg x := rungP_le_of (part_fin hx) (Nat.mul_le_mul_left _ (part_mv hy).2.1)
  have hf := part_fin hx
  have := mv_le (Nat.lt_of_le_of_lt h1 hf) hf h1
  omega

theorem gr_of {a b c : Nat} (ha : fin a) (hb : fin b) (hc : fin c) : val a ≤ val (grF a b c) ∧ val b ≤ val (grF a b c) ∧ val c ≤ val (grF a b c) ∧ (grF a b c = a ∨ grF a b c = b ∨ grF a b c = c) := by
  unfold grF
  rw [order_gt hb ha, order_gt hc hb, order_gt hc ha]
  by_cases h1 : val a < val b <;> by_cases h2 : val b < val c <;> by_cases h3 : val a < val c <;> simp [h1, h2, h3] <;> omega

theorem gr_le {a b c a' b' c' : Nat} (ha : fin a) (hb : fin b) (hc : fin c) (ha' : fin a') (hb' : fin b') (hc' : fin c') (h1 : val a ≤ val a') (h2 : val b ≤ val b') (h3 : val c ≤ val c') : val (grF a b c) ≤ val (grF a' b' c') := by
  obtain ⟨_, _, _, h⟩ := gr_of ha hb hc
  obtain ⟨k1, k2, k3, _⟩ := gr_of ha' hb' hc'
  rcases h with h | h | h <;> rw [h] <;> omega

theorem gr_fin {a b c : Nat} (ha : fin a) (hb : fin b) (hc : fin c) : fin (grF a b c) := by
  obtain ⟨_, _, _, h⟩ := gr_of ha hb hc
  rcases h with h | h | h <;> rw [h] <;> assumption

end Go.Proofs.Ytgafdkaiiajieaa
