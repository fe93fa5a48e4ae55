/- Plain facts on parts of points: cleaned words are told apart by what they stand for; a negated number is exact. No condition. -/
import Derived.Test.YtgafdkaiiajieaaPart
namespace Go.Proofs.Ytgafdkaiiajieaa
open Go.RowKit
open Fl

theorem val_wordR {s : Bool} {r : Nat} (h : r < 2139095040) : val (S.word s r) = if s then -(mv r : Int) else (mv r : Int) := by
  unfold val
  rw [isNeg_word (by omega), rg_word (by omega)]

theorem fin_wordR {s : Bool} {r : Nat} (h : r < 2139095040) : fin (S.word s r) := by
  unfold fin
  rw [rg_word (by omega)]; exact h

/-- A finite word that is cleaned: +0 is its only zero. -/
structure Can (x : Nat) : Prop where
  lt : x < 4294967296
  fin : fin x
  zero : rg x = 0 → x = 0

theorem can_inj {x y : Nat} (hx : Can x) (hy : Can y) (h : val x = val y) : x = y := by
  by_cases h0 : rg x = 0
  · have h1 := (val_zero_iff hx.fin).2 h0
    have h2 := (val_zero_iff hy.fin).1 (by omega)
    rw [hx.zero h0, hy.zero h2]
  · have h1 : ¬ rg y = 0 := fun e => h0 ((val_zero_iff hx.fin).1 (by rw [h]; exact (val_zero_iff hy.fin).2 e))
    have p1 : 0 < mv (rg x) := Nat.pos_of_ne_zero fun e => h0 ((mv_eq_zero hx.fin).1 e)
    have p2 : 0 < mv (rg y) := Nat.pos_of_ne_zero fun e => h1 ((mv_eq_zero hy.fin).1 e)
    have key : isNeg x = isNeg y ∧ mv (rg x) = mv (rg y) := by
      unfold val at h
      cases hnx : isNeg x <;> cases hny : isNeg y <;> simp [hnx, hny] at h ⊢ <;> omega
    rw [← word_self hx.lt, ← word_self hy.lt, key.1, mv_inj hx.fin hy.fin key.2]

theorem word_lt {s : Bool} {r : Nat} (h : r < 2139095040) : S.word s r < 4294967296 := by
  unfold Ieee.Format.word
  rw [signWeight_S]
  cases s <;> simp <;> omega

theorem can_cl {x : Nat} (h : x < 4294967296) (hf : fin x) : Can (cl x) := by
  unfold cl
  by_cases h0 : rg x = 0
  · rw [if_pos h0]
    exact ⟨by omega, fin_zero, fun _ => rfl⟩
  · rw [if_neg h0]
    exact ⟨h, hf, fun e => absurd e h0⟩

theorem can_clw {s : Bool} {r : Nat} (h : r < 2139095040) : Can (cl (S.word s r)) := can_cl (word_lt h) (fin_wordR h)

/-- A number, rounded. -/
def rnd (v : Int) : Int := if v < 0 then -(mv (rung v.natAbs (-149)) : Int) else (mv (rung v.natAbs (-149)) : Int)
/-- A product (in units of 2 ^ -298), rounded. -/
def rndP (v : Int) : Int := if v < 0 then -(mv (rung v.natAbs (-298)) : Int) else (mv (rung v.natAbs (-298)) : Int)

theorem rung_zero' (p : Int) : rung 0 p = 0 := by unfold rung; simp

theorem rnd_zero : rnd 0 = 0 := by unfold rnd; simp [rung_zero', mv_zero]
theorem rndP_zero : rndP 0 = 0 := by unfold rndP; simp [rung_zero', mv_zero]

theorem rnd_neg (v : Int) : rnd (-v) = - rnd v := by
  unfold rnd
  rw [Int.natAbs_neg]
  rcases (show v < 0 ∨ v = 0 ∨ 0 < v by omega) with h | h | h
  · rw [if_neg (by omega), if_pos h]; omega
  · subst h; simp [rung_zero', mv_zero]
  · rw [if_pos (by omega), if_neg (by omega)]

theorem rndP_neg (v : Int) : rndP (-v) = - rndP v := by
  unfold rndP
  rw [Int.natAbs_neg]
  rcases (show v < 0 ∨ v = 0 ∨ 0 < v by omega) with h | h | h
  · rw [if_neg (by omega), if_pos h]; omega
  · subst h; simp [rung_zero', mv_zero]
  · rw [if_pos (by omega), if_neg (by omega)]

theorem val_word_rnd {z : Bool} {v : Int} (h : rung v.natAbs (-149) < 2139095040) : val (word z v) = rnd v := by
  unfold word rnd
  rw [val_wordR h]
  by_cases h0 : v = 0
  · subst h0; simp [rung_zero', mv_zero]
  · rw [if_neg h0]
    by_cases h1 : v < 0 <;> simp [h1]

theorem fin_word_rnd {z : Bool} {v : Int} (h : rung v.natAbs (-149) < 2139095040) : fin (word z v) := fin_wordR h

theorem can_word {z : Bool} {v : Int} (h : rung v.natAbs (-149) < 2139095040) : Can (cl (word z v)) := can_clw h

theorem rnd_val {x : Nat} (h : fin x) : rnd (val x) = val x := by
  have e : (val x).natAbs = mv (rg x) := by unfold val; cases isNeg x <;> simp
  unfold rnd
  rw [e, rung_exact h]
  unfold val
  cases isNeg x
  · simp; omega
  · simp; omega

theorem rung_val {x : Nat} (h : fin x) : rung (val x).natAbs (-149) = rg x := by
  have e : (val x).natAbs = mv (rg x) := by unfold val; cases isNeg x <;> simp
  rw [e, rung_exact h]

/-- 0 less a number: exact, cleaned. -/
theorem ng_fin {x : Nat} (h : fin x) : fin (word (isNeg 0 && !isNeg x) (val 0 - val x)) ∧ Can (diffF 0 x) ∧ val (diffF 0 x) = - val x := by
  have e : val 0 - val x = - val x := by rw [val_zero]; omega
  have hr : rung (val 0 - val x).natAbs (-149) < 2139095040 := by rw [e, Int.natAbs_neg, rung_val h]; exact h
  have hf := fin_word_rnd (z := isNeg 0 && !isNeg x) hr
  refine ⟨hf, can_word hr, ?_⟩
  unfold diffF
  rw [val_cl hf, val_word_rnd hr, e, rnd_neg, rnd_val h]

/-- x cleaned is what x is. -/
theorem can_of_cl {x : Nat} (hl : x < 4294967296) (h : fin x) : Can (cl x) ∧ val (cl x) = val x := ⟨can_cl hl h, val_cl h⟩

theorem cl_can {x : Nat} (h : Can x) : cl x = x := by
  unfold cl
  by_cases h0 : rg x = 0
  · rw [if_pos h0, h.zero h0]
  · rw [if_neg h0]

end Go.Proofs.Ytgafdkaiiajieaa
