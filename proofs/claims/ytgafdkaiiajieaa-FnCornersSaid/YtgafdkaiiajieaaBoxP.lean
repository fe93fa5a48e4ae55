/- Plain: least and greatest of three numbers; the corners of a shard lie in it; a half of a side is not below 0. Condition: valid shards. -/
import Derived.Test.YtgafdkaiiajieaaSidesP
namespace Go.Proofs.Ytgafdkaiiajieaa
open Go.RowKit
open Fl

/-- The lesser and the greater one of two numbers. -/
def mn2 (x y : Nat) : Nat := if val y < val x then y else x
def mx2 (x y : Nat) : Nat := if val x < val y then y else x

theorem mn2_can {x y : Nat} (hx : Can x) (hy : Can y) : Can (mn2 x y) := by unfold mn2; split <;> assumption
theorem mx2_can {x y : Nat} (hx : Can x) (hy : Can y) : Can (mx2 x y) := by unfold mx2; split <;> assumption
theorem mn2_le (x y : Nat) : val (mn2 x y) ≤ val x ∧ val (mn2 x y) ≤ val y := by unfold mn2; split <;> omega
theorem mx2_ge (x y : Nat) : val x ≤ val (mx2 x y) ∧ val y ≤ val (mx2 x y) := by unfold mx2; split <;> omega

theorem cmp_lt' {a b : Int} (h : a < b) : compare a b = .lt := by simp [compare, compareOfLessAndEq, h]
theorem cmp_eq' (a : Int) : compare a a = .eq := by simp [compare, compareOfLessAndEq]
theorem cmp_gt' {a b : Int} (h : b < a) : compare a b = .gt := by
  have h1 : ¬ a < b := by omega
  have h2 : ¬ a = b := by omega
  simp [compare, compareOfLessAndEq, h1, h2]

theorem run_mn2 {P : Program} (w : World) {a b : Nat} (ha : Can a) (hb : Can b) :
    (Builtin.min2 (.float .f32 a) (.float .f32 b)).run P w = .ok (.float .f32 (mn2 a b)) w := by
  have ho : FloatKind.f32.format.order a b = some (compare (val a) (val b)) := order_fin ha.fin hb.fin
  rcases (show val a < val b ∨ val a = val b ∨ val b < val a by omega) with h | h | h
  · have e : mn2 a b = a := by unfold mn2; split <;> first | rfl | omega
    rw [e]
    simp only [Builtin.min2]
    rw [ho, cmp_lt' h]; rfl
  · have := can_inj ha hb h
    subst this
    have e : mn2 a a = a := by unfold mn2; split <;> rfl
    rw [e]
    simp only [Builtin.min2]
    rw [ho, cmp_eq']; simp
  · have e : mn2 a b = b := by unfold mn2; split <;> first | rfl | omega
    rw [e]
    simp only [Builtin.min2]
    rw [ho, cmp_gt' h]; rfl

theorem run_mx2 {P : Program} (w : World) {a b : Nat} (ha : Can a) (hb : Can b) :
    (Builtin.max2 (.float .f32 a) (.float .f32 b)).run P w = .ok (.float .f32 (mx2 a b)) w := by
  have ho : FloatKind.f32.format.order a b = some (compare (val a) (val b)) := order_fin ha.fin hb.fin
  rcases (show val a < val b ∨ val a = val b ∨ val b < val a by omega) with h | h | h
  · have e : mx2 a b = b := by unfold mx2; split <;> first | rfl | omega
    rw [e]
    simp only [Builtin.max2]
    rw [ho, cmp_lt' h]; rfl
  · have := can_inj ha hb h
    subst this
    have e : mx2 a a = a := by unfold mx2; split <;> rfl
    rw [e]
    simp only [Builtin.max2]
    rw [ho, cmp_eq']; simp
  · have e : mx2 a b = a := by unfold mx2; split <;> first | rfl | omega
    rw [e]
    simp only [Builtin.max2]
    rw [ho, cmp_gt' h]; rfl

theorem run_min2 {P : Program} (w : World) (ts : Array TypeId) (t : TypeId) {a b : Nat} (ha : Can a) (hb : Can b) :
    (Builtin.min_ ts t #[.float .f32 a, .float .f32 b]).run P w = .ok (.float .f32 (mn2 a b)) w := by
  have h1 := run_mn2 (P := P) w ha hb
  simp [Builtin.min_, h1]

theorem run_max2f {P : Program} (w : World) (ts : Array TypeId) (t : TypeId) {a b : Nat} (ha : Can a) (hb : Can b) :
    (Builtin.max_ ts t #[.float .f32 a, .float .f32 b]).run P w = .ok (.float .f32 (mx2 a b)) w := by
  have h1 := run_mx2 (P := P) w ha hb
  simp [Builtin.max_, h1]

theorem not_lt {x y : Nat} (hx : fin x) (hy : fin y) (h : val y ≤ val x) : (FloatKind.f32.format.order x y == some .lt) = false := by
  show (S.order x y == some .lt) = false
  rw [order_fin hx hy, cmp_lt]
  exact decide_eq_false (by omega)
theorem not_gt {x y : Nat} (hx : fin x) (hy : fin y) (h : val x ≤ val y) : (FloatKind.f32.format.order x y == some .gt) = false := by
  show (S.order x y == some .gt) = false
  rw [order_fin hx hy, cmp_gt]
  exact decide_eq_false (by omega)

theorem inB_two {x y z : Nat} (hx : fin x) (hy : fin y) (hz : fin z) (h : (val x = 0 ∧ val y = 0) ∨ (val x = 0 ∧ val z = 0) ∨ (val y = 0 ∧ val z = 0)) : inB x y z = true := by
  unfold inB
  rw [ge0_val hx, ge0_val hy, ge0_val hz, le0_val hx, le0_val hy, le0_val hz]
  rw [Bool.or_eq_true]
  simp only [Bool.and_eq_true, decide_eq_true_eq]
  omega

theorem side_aa {ax ay bx b_y : Nat} (ha : Pt ax ay) (hb : Pt bx b_y) : val (sideW ax ay bx b_y ax ay) = 0 := by
  rw [(side_ok ha.rx ha.ry hb.rx hb.ry ha.rx ha.ry).val]; exact sideI_aa _ _ _ _
theorem side_bb {ax ay bx b_y : Nat} (ha : Pt ax ay) (hb : Pt bx b_y) : val (sideW ax ay bx b_y bx b_y) = 0 := by
  rw [(side_ok ha.rx ha.ry hb.rx hb.ry hb.rx hb.ry).val]; exact sideI_bb _ _ _ _

theorem lies_a {s : Shd} (h : ShOk s) : liesW s s.ax s.ay = true := by
  unfold liesW
  exact inB_two (side_fin h.pa h.pb h.pa).fin (side_fin h.pb h.pc h.pa).fin (side_fin h.pc h.pa h.pa).fin (.inr (.inl ⟨side_aa h.pa h.pb, side_bb h.pc h.pa⟩))
theorem lies_b {s : Shd} (h : ShOk s) : liesW s s.bx s.b_y = true := by
  unfold liesW
  exact inB_two (side_fin h.pa h.pb h.pb).fin (side_fin h.pb h.pc h.pb).fin (side_fin h.pc h.pa h.pb).fin (.inl ⟨side_bb h.pa h.pb, side_aa h.pb h.pc⟩)
theorem lies_c {s : Shd} (h : ShOk s) : liesW s s.cx s.cy = true := by
  unfold liesW
  exact inB_two (side_fin h.pa h.pb h.pc).fin (side_fin h.pb h.pc h.pc).fin (side_fin h.pc h.pa h.pc).fin (.inr (.inr ⟨side_bb h.pb h.pc, side_aa h.pc h.pa⟩))

/-- The word of 0.5. -/
abbrev half : Nat := 1056964608
theorem fin_half : fin half := by unfold fin rg half; omega
theorem val_half : val half = ((2 ^ 148 : Nat) : Int) := by decide

/-- A half of what is not below 0 and not too great: what the product needs, and that it is not below 0. -/
theorem half_ok {x : Nat} (hb : (val x).natAbs ≤ 2 ^ 176) (h0 : 0 ≤ val x) :
    fin (wordP (isNeg half ^^ isNeg x) (mv (rg half) * mv (rg x))) ∧ fin (timesF half x) ∧ 0 ≤ val (timesF half x) := by
  have e : (2 : Nat) ^ 148 * 2 ^ 176 = 2 ^ 175 * 2 ^ 149 := by decide
  have hb2 : (val half * val x).natAbs ≤ mv (153 * 8388608) * 2 ^ 149 := by
    rw [Int.natAbs_mul, val_half, mv_pow175, ← e]
    exact Nat.mul_le_mul (by simp) hb
  obtain ⟨h1, h2, h3, _⟩ := times_val (a := half) (b := x) (r := 153 * 8388608) (by omega) hb2
  refine ⟨h1, h2.fin, ?_⟩
  rw [h3]
  have hp : 0 ≤ val half * val x := Int.mul_nonneg (by rw [val_half]; omega) h0
  unfold rndP
  rw [if_neg (by omega)]
  omega

end Go.Proofs.Ytgafdkaiiajieaa
