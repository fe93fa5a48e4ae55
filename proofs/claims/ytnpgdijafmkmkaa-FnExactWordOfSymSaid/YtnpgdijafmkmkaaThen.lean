/- What the program's and the reference's ThenSym compute. Each contract holds for all arguments and worlds. -/
import Derived.Test.YtnpgdijafmkmkaaSym2
namespace Go.Proofs.Ytnpgdijafmkmkaa
open Go.RowKit

set_option maxHeartbeats 400000 in
theorem thenSym_any (t t' : Int) (f f' : Bool) (w : World) :
    Calls Try.prog 24 #[.agg #[.int .i64 t, .bool f], .agg #[.int .i64 t', .bool f']] w fun e w' => e = .returned (.agg #[.int .i64 (thT t t' f'), .bool (thF t f t' f')]) ∧ Below w.heap.size w w' := by
  cases hv : win t 0 3
  · have H1 : Hid (thT t t' f' = 0) := by unfold thT; rw [hv]; rfl
    have H2 : Hid (thF t f t' f' = false) := by unfold thF; rw [hv]; rfl
    go_enter Try.func24, Try.ntmps24
    go_wp2_with (go_at_call 17; refine (isSym_any _ _ _).mono ?_; rintro e w1 ⟨rfl, rfl⟩)
    exact bodyPost_ret (v := .agg #[.int .i64 0, .bool false]) (by simp [results, Try.results24, go_sem]) rfl ⟨by rw [H1.out, H2.out], (by repeat (first | exact Below.refl _ _ | assumption | refine Below.drew ?_ | refine Below.alloc ?_ (by first | omega | (simp; omega) | simp) _))⟩
  · cases hv' : win t' 0 3
    · have H1 : Hid (thT t t' f' = 0) := by unfold thT; rw [hv, hv']; rfl
      have H2 : Hid (thF t f t' f' = false) := by unfold thF; rw [hv, hv']; rfl
      go_enter Try.func24, Try.ntmps24
      go_wp2_with (go_at_call 17; refine (isSym_any _ _ _).mono ?_; rintro e w1 ⟨rfl, rfl⟩)
      exact bodyPost_ret (v := .agg #[.int .i64 0, .bool false]) (by simp [results, Try.results24, go_sem]) rfl ⟨by rw [H1.out, H2.out], (by repeat (first | exact Below.refl _ _ | assumption | refine Below.drew ?_ | refine Below.alloc ?_ (by first | omega | (simp; omega) | simp) _))⟩
    · obtain ⟨hl, hu⟩ := win_iff.1 hv
      obtain ⟨hl', hu'⟩ := win_iff.1 hv'
      cases f'
      · have H1 : Hid (thT t t' false = (t' + t) % 4) := by unfold thT; rw [hv, hv']; rfl
        have H2 : Hid (thF t f t' false = (f != false)) := by unfold thF; rw [hv, hv']; rfl
        go_enter Try.func24, Try.ntmps24
        go_wp2_with (go_at_call 17; refine (isSym_any _ _ _).mono ?_; rintro e w1 ⟨rfl, rfl⟩)
        exact bodyPost_ret (v := .agg #[.int .i64 ((t' + t) % 4), .bool (f != false)]) (by simp [results, Try.results24, go_sem]) rfl ⟨by rw [H1.out, H2.out], (by repeat (first | exact Below.refl _ _ | assumption | refine Below.drew ?_ | refine Below.alloc ?_ (by first | omega | (simp; omega) | simp) _))⟩
      · have H1 : Hid (thT t t' true = (t' + (4 - t)) % 4) := by unfold thT; rw [hv, hv']; rfl
        have H2 : Hid (thF t f t' true = (f != true)) := by unfold thF; rw [hv, hv']; rfl
        go_enter Try.func24, Try.ntmps24
        go_wp2_with (go_at_call 17; refine (isSym_any _ _ _).mono ?_; rintro e w1 ⟨rfl, rfl⟩)
        exact bodyPost_ret (v := .agg #[.int .i64 ((t' + (4 - t)) % 4), .bool (f != true)]) (by simp [results, Try.results24, go_sem]) rfl ⟨by rw [H1.out, H2.out], (by repeat (first | exact Below.refl _ _ | assumption | refine Below.drew ?_ | refine Below.alloc ?_ (by first | omega | (simp; omega) | simp) _))⟩

set_option maxHeartbeats 400000 in
theorem l1Then_any (t t' : Int) (f f' : Bool) (w : World) (hv : win t 0 3 = true) (hv' : win t' 0 3 = true) :
    Calls Try.prog 47 #[.agg #[.int .i64 t, .bool f], .agg #[.int .i64 t', .bool f']] w fun e w' => e = .returned (.agg #[.int .i64 (thT t t' f'), .bool (thF t f t' f')]) ∧ ((w.alloc (.cells #[.int .i64 t, .bool f] 26)).alloc (.cells #[.int .i64 t', .bool f'] 26)).alloc (.cells #[.int .i64 (thT t t' f'), .bool (thF t f t' f')] 26) = w' := by
  obtain ⟨hl, hu⟩ := win_iff.1 hv
  obtain ⟨hl', hu'⟩ := win_iff.1 hv'
  cases f'
  · have H1 : Hid (thT t t' false = (t + t') % 4) := by unfold thT; rw [hv, hv']; show (t' + t) % 4 = (t + t') % 4; omega
    have H2 : Hid (thF t f t' false = f) := by unfold thF; rw [hv, hv']; cases f <;> rfl
    clear hv hv'
    go_enter Try.func47, Try.ntmps47
    go_wp2
    exact bodyPost_ret (v := .agg #[.int .i64 ((t + t') % 4), .bool f]) (by simp [results, Try.results47, go_sem]) rfl ⟨by rw [H1.out, H2.out], by rw [H1.out, H2.out]⟩
  · have H1 : Hid (thT t t' true = (t' - t) % 4) := by unfold thT; rw [hv, hv']; show (t' + (4 - t)) % 4 = (t' - t) % 4; omega
    have H2 : Hid (thF t f t' true = !f) := by unfold thF; rw [hv, hv']; cases f <;> rfl
    clear hv hv'
    go_enter Try.func47, Try.ntmps47
    go_wp2
    exact bodyPost_ret (v := .agg #[.int .i64 ((t' - t) % 4), .bool (!f)]) (by simp [results, Try.results47, go_sem]) rfl ⟨by rw [H1.out, H2.out], by rw [H1.out, H2.out]⟩

set_option maxHeartbeats 400000 in
theorem sThenSym_any (t t' : Int) (f f' : Bool) (w : World) :
    Calls Try.prog 23 #[.agg #[.int .i64 t, .bool f], .agg #[.int .i64 t', .bool f']] w fun e w' => e = .returned (.agg #[.int .i64 (thT t t' f'), .bool (thF t f t' f')]) ∧ Below w.heap.size w w' := by
  cases hv : win t 0 3
  · have H1 : Hid (thT t t' f' = 0) := by unfold thT; rw [hv]; rfl
    have H2 : Hid (thF t f t' f' = false) := by unfold thF; rw [hv]; rfl
    go_enter Try.func23, Try.ntmps23
    go_wp2_with (go_at_call 15; refine (sIsSym_any _ _ _).mono ?_; rintro e w1 ⟨rfl, rfl⟩)
    exact bodyPost_ret (v := .agg #[.int .i64 0, .bool false]) (by simp [results, Try.results23, go_sem]) rfl ⟨by rw [H1.out, H2.out], (by repeat (first | exact Below.refl _ _ | assumption | refine Below.drew ?_ | refine Below.alloc ?_ (by first | omega | (simp; omega) | simp) _))⟩
  · cases hv' : win t' 0 3
    · have H1 : Hid (thT t t' f' = 0) := by unfold thT; rw [hv, hv']; rfl
      have H2 : Hid (thF t f t' f' = false) := by unfold thF; rw [hv, hv']; rfl
      go_enter Try.func23, Try.ntmps23
      go_wp2_with (go_at_call 15; refine (sIsSym_any _ _ _).mono ?_; rintro e w1 ⟨rfl, rfl⟩)
      exact bodyPost_ret (v := .agg #[.int .i64 0, .bool false]) (by simp [results, Try.results23, go_sem]) rfl ⟨by rw [H1.out, H2.out], (by repeat (first | exact Below.refl _ _ | assumption | refine Below.drew ?_ | refine Below.alloc ?_ (by first | omega | (simp; omega) | simp) _))⟩
    · go_enter Try.func23, Try.ntmps23
      go_wp2_with (first | (go_at_call 15; refine (sIsSym_any _ _ _).mono ?_; rintro e w1 ⟨rfl, rfl⟩) | (go_at_call 47; refine (l1Then_any t t' f f' _ hv hv').mono ?_; rintro e w1 ⟨rfl, rfl⟩))
      exact bodyPost_ret (v := .agg #[.int .i64 (thT t t' f'), .bool (thF t f t' f')]) (by simp [results, Try.results23, go_sem]) rfl ⟨rfl, (by repeat (first | exact Below.refl _ _ | assumption | refine Below.drew ?_ | refine Below.alloc ?_ (by first | omega | (simp; omega) | simp) _))⟩

end Go.Proofs.Ytnpgdijafmkmkaa
