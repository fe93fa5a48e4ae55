/- What the program's and the reference's small functions on float32 compute: isSingle, clean, sum, diff, times and their twins. -/
import Derived.Test.YtgafdkaiiajieaaFloat2
import Derived.Test.YtgafdkaiiajieaaBase
namespace Go.Proofs.Ytgafdkaiiajieaa
open Go.RowKit
open Fl

/-- The bits of the NaN that the tape gives. -/
def nanOf (w : World) (x y : Nat) : Nat := (Question.nanBits .f32 x y).cut (w.tape w.drawn (.nanBits .f32 x y))

theorem nanOf_order (w : World) (x y z : Nat) : FloatKind.f32.format.order (nanOf w x y) z = none := by
  have h : ∃ t : Nat, nanOf w x y = (t % 2) * 2 ^ 31 + 0x7f800000 + 1 + (t / 2) % (2 ^ 23 - 1) := ⟨_, rfl⟩
  obtain ⟨t, h⟩ := h
  have hr : rg (nanOf w x y) = 0x7f800000 + 1 + (t / 2) % (2 ^ 23 - 1) := by
    rw [h]; unfold rg
    omega
  show S.order _ _ = none
  unfold Ieee.Format.order
  have e : S.read (nanOf w x y) = .nan (isNeg (nanOf w x y)) (rg (nanOf w x y) - 2139095040) := by
    unfold Ieee.Format.read isNeg
    simp only [binade_S, infRung_S, signWeight_S]
    unfold rg at hr ⊢
    rw [if_neg (by omega), if_neg (by omega), if_neg (by omega)]
  rw [e]
  rfl

theorem run_nan {P : Program} (op : BinOp) (t : TypeId) (x y : Nat) (h : floatBits op .f32 x y = none) (hop : op = .add ∨ op = .sub ∨ op = .mul) (w : World) :
    (binOp op t (.float .f32 x) (.float .f32 y)).run P w = .ok (.float .f32 (nanOf w x y)) w.drew := by
  unfold floatBits at h
  rcases hop with rfl | rfl | rfl <;> simp only at h <;> simp [binOp, Op.floatArith, h, Question.forced, nanOf]

theorem run_ok {P : Program} (op : BinOp) (t : TypeId) (x y r : Nat) (h : floatBits op .f32 x y = some r) (w : World) :
    (binOp op t (.float .f32 x) (.float .f32 y)).run P w = .ok (.float .f32 r) w := run_float_arith w op t .f32 x y r h

instance (x : Nat) : Decidable (fin x) := inferInstanceAs (Decidable (_ < _))

set_option maxHeartbeats 400000 in
theorem isSingle_fin (x : Nat) (w : World) (h : fin x) :
    Calls Try.prog 75 #[.float .f32 x] w fun e w' => e = .returned (.bool true) ∧ w = w' := by
  have hs := fun t => run_ok (P := Try.prog) .sub t x x 0 (sub_self h)
  have hz : FloatKind.f32.format.order 0 0 = some .eq := by decide
  go_enter Try.func75, Try.ntmps75
  go_wp2
  go_ret
  exact ⟨rfl, rfl⟩

set_option maxHeartbeats 400000 in
theorem l1Single_any (x : Nat) (w : World) :
    Calls Try.prog 83 #[.float .f32 x] w fun e w' => e = .returned (.bool (decide (fin x))) ∧ Below w.heap.size w w' := by
  by_cases h : fin x
  · have hs := fun t => run_ok (P := Try.prog) .sub t x x 0 (sub_self h)
    have hz : FloatKind.f32.format.order 0 0 = some .eq := by decide
    have H : Hid (decide (fin x) = true) := by show decide (fin x) = true; simp [h]
    go_enter Try.func83, Try.ntmps83
    go_wp2
    go_ret
    exact ⟨by rw [H.out]; rfl, Below.refl _ _⟩
  · have hs := fun t => run_nan (P := Try.prog) .sub t x x (sub_self_none h) (by simp)
    have hn := fun w => nanOf_order w x x 0
    have H : Hid (decide (fin x) = false) := by show decide (fin x) = false; simp [h]
    clear h
    go_enter Try.func83, Try.ntmps83
    go_wp2
    go_ret
    exact ⟨by rw [H.out]; rfl, (by repeat (first | exact Below.refl _ _ | assumption | refine Below.drew ?_ | refine Below.alloc ?_ (by first | omega | (simp; omega) | simp) _))⟩

/-- The cleaned sum, difference and product. -/
def sumF (a b : Nat) : Nat := cl (word (isNeg a && isNeg b) (val a + val b))
def diffF (a b : Nat) : Nat := cl (word (isNeg a && !isNeg b) (val a - val b))
def timesF (a b : Nat) : Nat := cl (wordP (isNeg a ^^ isNeg b) (mv (rg a) * mv (rg b)))

set_option maxHeartbeats 400000 in
theorem clean_fin (x : Nat) (w : World) (h : fin x) :
    Calls Try.prog 46 #[.float .f32 x] w fun e w' => e = .returned (.float .f32 (cl x)) ∧ w = w' := by
  have ho := order_zero h
  by_cases h0 : rg x = 0
  · have he : (FloatKind.f32.format.order x 0 == some .eq) = true := ho.trans (by simp [h0])
    have H : Hid (cl x = 0) := by show cl x = 0; unfold cl; rw [if_pos h0]
    clear ho h0
    go_enter Try.func46, Try.ntmps46
    go_wp2_with (go_at_call 75; refine (isSingle_fin _ _ h).mono ?_; rintro e w' ⟨rfl, rfl⟩)
    go_ret
    exact ⟨by rw [H.out]; rfl, rfl⟩
  · have he : (FloatKind.f32.format.order x 0 == some .eq) = false := ho.trans (by simp [h0])
    have H : Hid (cl x = x) := by show cl x = x; unfold cl; rw [if_neg h0]
    clear ho h0
    go_enter Try.func46, Try.ntmps46
    go_wp2_with (go_at_call 75; refine (isSingle_fin _ _ h).mono ?_; rintro e w' ⟨rfl, rfl⟩)
    go_ret
    exact ⟨by rw [H.out]; rfl, rfl⟩

set_option maxHeartbeats 400000 in
theorem l1Clean_fin (x : Nat) (w : World) (h : fin x) :
    Calls Try.prog 107 #[.float .f32 x] w fun e w' => e = .returned (.float .f32 (cl x)) ∧ w = w' := by
  have ho := order_zero h
  have hs := fun t => run_ok (P := Try.prog) .sub t x x 0 (sub_self h)
  have hz : FloatKind.f32.format.order 0 0 = some .eq := by decide
  by_cases h0 : rg x = 0
  · have he : (FloatKind.f32.format.order x 0 == some .eq) = true := ho.trans (by simp [h0])
    have H : Hid (cl x = 0) := by show cl x = 0; unfold cl; rw [if_pos h0]
    clear ho h0
    go_enter Try.func107, Try.ntmps107
    go_wp2
    go_ret
    exact ⟨by rw [H.out]; rfl, rfl⟩
  · have he : (FloatKind.f32.format.order x 0 == some .eq) = false := ho.trans (by simp [h0])
    have H : Hid (cl x = x) := by show cl x = x; unfold cl; rw [if_neg h0]
    clear ho h0
    go_enter Try.func107, Try.ntmps107
    go_wp2
    go_ret
    exact ⟨by rw [H.out]; rfl, rfl⟩


set_option maxHeartbeats 400000 in
theorem sum_fin (a b : Nat) (w : World) (ha : fin a) (hb : fin b) (hr : fin (word (isNeg a && isNeg b) (val a + val b))) :
    Calls Try.prog 58 #[.float .f32 a, .float .f32 b] w fun e w' => e = .returned (.float .f32 (sumF a b)) ∧ w = w' := by
  have hs := fun t => run_ok (P := Try.prog) .add t a b _ (add_fin ha hb)
  have H : Hid (sumF a b = cl (word (isNeg a && isNeg b) (val a + val b))) := rfl
  generalize word (isNeg a && isNeg b) (val a + val b) = r at hr hs H
  clear ha hb
  go_enter Try.func58, Try.ntmps58
  go_wp2_with (go_at_call 46; refine (clean_fin _ _ hr).mono ?_; rintro e w' ⟨rfl, rfl⟩)
  go_ret
  exact ⟨by rw [H.out]; rfl, rfl⟩

set_option maxHeartbeats 400000 in
theorem diff_fin (a b : Nat) (w : World) (ha : fin a) (hb : fin b) (hr : fin (word (isNeg a && !isNeg b) (val a - val b))) :
    Calls Try.prog 45 #[.float .f32 a, .float .f32 b] w fun e w' => e = .returned (.float .f32 (diffF a b)) ∧ w = w' := by
  have hs := fun t => run_ok (P := Try.prog) .sub t a b _ (sub_fin ha hb)
  have H : Hid (diffF a b = cl (word (isNeg a && !isNeg b) (val a - val b))) := rfl
  generalize word (isNeg a && !isNeg b) (val a - val b) = r at hr hs H
  clear ha hb
  go_enter Try.func45, Try.ntmps45
  go_wp2_with (go_at_call 46; refine (clean_fin _ _ hr).mono ?_; rintro e w' ⟨rfl, rfl⟩)
  go_ret
  exact ⟨by rw [H.out]; rfl, rfl⟩

set_option maxHeartbeats 400000 in
theorem times_fin (a b : Nat) (w : World) (ha : fin a) (hb : fin b) (hr : fin (wordP (isNeg a ^^ isNeg b) (mv (rg a) * mv (rg b)))) :
    Calls Try.prog 55 #[.float .f32 a, .float .f32 b] w fun e w' => e = .returned (.float .f32 (timesF a b)) ∧ w = w' := by
  have hs := fun t => run_ok (P := Try.prog) .mul t a b _ (mul_fin ha hb)
  have H : Hid (timesF a b = cl (wordP (isNeg a ^^ isNeg b) (mv (rg a) * mv (rg b)))) := rfl
  generalize wordP (isNeg a ^^ isNeg b) (mv (rg a) * mv (rg b)) = r at hr hs H
  clear ha hb
  go_enter Try.func55, Try.ntmps55
  go_wp2_with (go_at_call 46; refine (clean_fin _ _ hr).mono ?_; rintro e w' ⟨rfl, rfl⟩)
  go_ret
  exact ⟨by rw [H.out]; rfl, rfl⟩

set_option maxHeartbeats 400000 in
theorem l1Plus_fin (a b : Nat) (w : World) (ha : fin a) (hb : fin b) (hr : fin (word (isNeg a && isNeg b) (val a + val b))) :
    Calls Try.prog 105 #[.float .f32 a, .float .f32 b] w fun e w' => e = .returned (.float .f32 (sumF a b)) ∧ w = w' := by
  have hs := fun t => run_ok (P := Try.prog) .add t a b _ (add_fin ha hb)
  have H : Hid (sumF a b = cl (word (isNeg a && isNeg b) (val a + val b))) := rfl
  generalize word (isNeg a && isNeg b) (val a + val b) = r at hr hs H
  clear ha hb
  go_enter Try.func105, Try.ntmps105
  go_wp2_with (go_at_call 107; refine (l1Clean_fin _ _ hr).mono ?_; rintro e w' ⟨rfl, rfl⟩)
  go_ret
  exact ⟨by rw [H.out]; rfl, rfl⟩

end Go.Proofs.Ytgafdkaiiajieaa
