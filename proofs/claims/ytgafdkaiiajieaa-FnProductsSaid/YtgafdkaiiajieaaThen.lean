/- What the program's and the reference's ThenSym compute. Each contract holds for all arguments and worlds. -/
import Derived.Test.YtgafdkaiiajieaaSym2
namespace Go.Proofs.Ytgafdkaiiajieaa
open Go.RowKit

set_option maxHeartbeats 400000 in
theorem thenSym_any (t t' : Int) (f f' : Bool) (w : World) :
    Calls Try.prog 27 #[.agg #[.int .i64 t, .bool f], .agg #[.int .i64 t', .bool f']] w fun e w' => e = .returned (.agg #[.int .i64 (thT t t' f'), .bool (thF t f t' f')]) ∧ Below w.heap.size w w' := by
  cases hv : win t 0 3
  · have H1 : Hid (thT t t' f' = 0) := by unfold thT; rw [hv]; rfl
    have H2 : Hid (thF t f t' f' = false) := by unfold thF; rw [hv]; rfl
    go_enter Try.func27, Try.ntmps27
    go_wp2_with (go_at_call 44; refine (isSym_any _ _ _).mono ?_; rintro e w1 ⟨rfl, rfl⟩)
    exact bodyPost_ret (v := .agg #[.int .i64 0, .bool false]) (by simp [results, Try.results27, go_sem]) rfl ⟨by rw [H1.out, H2.out], (by repeat (first | exact Below.refl _ _ | assumption | refine Below.drew ?_ | refine Below.alloc ?_ (by first | omega | (simp; omega) | simp) _))⟩
  · cases hv' : win t' 0 3
    · have H1 : Hid (thT t t' f' = 0) := by unfold thT; rw [hv, hv']; rfl
      have H2 : Hid (thF t f t' f' = false) := by unfold thF; rw [hv, hv']; rfl
      go_enter Try.func27, Try.ntmps27
      go_wp2_with (go_at_call 44; refine (isSym_any _ _ _).mono ?_; rintro e w1 ⟨rfl, rfl⟩)
      exact bodyPost_ret (v := .agg #[.int .i64 0, .bool false]) (by simp [results, Try.results27, go_sem]) rfl ⟨by rw [H1.out, H2.out], (by repeat (first | exact Below.refl _ _ | assumption | refine Below.drew ?_ | refine Below.alloc ?_ (by first | omega | (simp; omega) | simp) _))⟩
    · obtain ⟨hl, hu⟩ := win_iff.1 hv
      obtain ⟨hl', hu'⟩ := win_iff.1 hv'
      cases f'
      · have H1 : Hid (thT t t' false = (t' + t) % 4) := by unfold thT; rw [hv, hv']; rfl
        have H2 : Hid (thF t f t' false = (f != false)) := by unfold thF; rw [hv, hv']; rfl
        go_enter Try.func27, Try.ntmps27
        go_wp2_with (go_at_call 44; refine (isSym_any _ _ _).mono ?_; rintro e w1 ⟨rfl, rfl⟩)
        exact bodyPost_ret (v := .agg #[.int .i64 ((t' + t) % 4), .bool (f != false)]) (by simp [results, Try.results27, go_sem]) rfl ⟨by rw [H1.out, H2.out], (by repeat (first | exact Below.refl _ _ | assumption | refine Below.drew ?_ | refine Below.alloc ?_ (by first | omega | (simp; omega) | simp) _))⟩
      · have H1 : Hid (thT t t' true = (t' + (4 - t)) % 4) := by unfold thT; rw [hv, hv']; rfl
        have H2 : Hid (thF t f t' true = (f != true)) := by unfold thF; rw [hv, hv']; rfl
        go_enter Try.func27, Try.ntmps27
        go_wp2_with (go_at_call 44; refine (isSym_any _ _ _).mono ?_; rintro e w1 ⟨rfl, rfl⟩)
        exact bodyPost_ret (v := .agg #[.int .i64 ((t' + (4 - t)) % 4), .bool (f != true)]) (by simp [results, Try.results27, go_sem]) rfl ⟨by rw [H1.out, H2.out], (by repeat (first | exact Below.refl _ _ | assumption | refine Below.drew ?_ | refine Below.alloc ?_ (by first | omega | (simp; omega) | simp) _))⟩

end Go.Proofs.Ytgafdkaiiajieaa
