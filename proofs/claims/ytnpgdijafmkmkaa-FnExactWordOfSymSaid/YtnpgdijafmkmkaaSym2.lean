/- What the program's and the reference's ThenSym and BackSym compute. Each contract holds for all arguments and worlds. -/
import Derived.Test.YtnpgdijafmkmkaaSym
namespace Go.Proofs.Ytnpgdijafmkmkaa
open Go.RowKit

/-- Turns of the symmetry that does first (t, f), then (t', f'); 0 where one of both is none. -/
def thT (t : Int) (t' : Int) (f' : Bool) : Int :=
  if win t 0 3 && win t' 0 3 then (if f' then (t' + (4 - t)) % 4 else (t' + t) % 4) else 0
def thF (t : Int) (f : Bool) (t' : Int) (f' : Bool) : Bool := win t 0 3 && win t' 0 3 && (f != f')

def bkT (t : Int) (f : Bool) : Int := if win t 0 3 then (if f then t else (4 - t) % 4) else 0
def bkF (t : Int) (f : Bool) : Bool := win t 0 3 && f

set_option maxHeartbeats 400000 in
theorem backSym_any (t : Int) (f : Bool) (w : World) :
    Calls Try.prog 21 #[.agg #[.int .i64 t, .bool f]] w fun e w' => e = .returned (.agg #[.int .i64 (bkT t f), .bool (bkF t f)]) ∧ Below w.heap.size w w' := by
  cases hv : win t 0 3
  · have H1 : Hid (bkT t f = 0) := by unfold bkT; rw [hv]; rfl
    have H2 : Hid (bkF t f = false) := by unfold bkF; rw [hv]; rfl
    go_enter Try.func21, Try.ntmps21
    go_wp2_with (go_at_call 17; refine (isSym_any t f _).mono ?_; rintro e w1 ⟨rfl, rfl⟩)
    exact bodyPost_ret (v := .agg #[.int .i64 0, .bool false]) (by simp [results, Try.results21, go_sem]) rfl ⟨by rw [H1.out, H2.out], (by repeat (first | exact Below.refl _ _ | assumption | refine Below.drew ?_ | refine Below.alloc ?_ (by first | omega | (simp; omega) | simp) _))⟩
  · have hw := win_iff.1 hv
    obtain ⟨hl, hu⟩ := hw
    cases f
    · have H1 : Hid (bkT t false = (4 - t) % 4) := by unfold bkT; rw [hv]; rfl
      have H2 : Hid (bkF t false = false) := by unfold bkF; rw [hv]; rfl
      go_enter Try.func21, Try.ntmps21
      go_wp2_with (go_at_call 17; refine (isSym_any t false _).mono ?_; rintro e w1 ⟨rfl, rfl⟩)
      exact bodyPost_ret (v := .agg #[.int .i64 ((4 - t) % 4), .bool false]) (by simp [results, Try.results21, go_sem]) rfl ⟨by rw [H1.out, H2.out], (by repeat (first | exact Below.refl _ _ | assumption | refine Below.drew ?_ | refine Below.alloc ?_ (by first | omega | (simp; omega) | simp) _))⟩
    · have H1 : Hid (bkT t true = t) := by unfold bkT; rw [hv]; rfl
      have H2 : Hid (bkF t true = true) := by unfold bkF; rw [hv]; rfl
      go_enter Try.func21, Try.ntmps21
      go_wp2_with (go_at_call 17; refine (isSym_any t true _).mono ?_; rintro e w1 ⟨rfl, rfl⟩)
      exact bodyPost_ret (v := .agg #[.int .i64 t, .bool true]) (by simp [results, Try.results21, go_sem]) rfl ⟨by rw [H1.out, H2.out], (by repeat (first | exact Below.refl _ _ | assumption | refine Below.drew ?_ | refine Below.alloc ?_ (by first | omega | (simp; omega) | simp) _))⟩

set_option maxHeartbeats 400000 in
theorem sBackSym_any (t : Int) (f : Bool) (w : World) :
    Calls Try.prog 20 #[.agg #[.int .i64 t, .bool f]] w fun e w' => e = .returned (.agg #[.int .i64 (bkT t f), .bool (bkF t f)]) ∧ Below w.heap.size w w' := by
  cases hv : win t 0 3
  · have H1 : Hid (bkT t f = 0) := by unfold bkT; rw [hv]; rfl
    have H2 : Hid (bkF t f = false) := by unfold bkF; rw [hv]; rfl
    go_enter Try.func20, Try.ntmps20
    go_wp2_with (go_at_call 15; refine (sIsSym_any t f _).mono ?_; rintro e w1 ⟨rfl, rfl⟩)
    exact bodyPost_ret (v := .agg #[.int .i64 0, .bool false]) (by simp [results, Try.results20, go_sem]) rfl ⟨by rw [H1.out, H2.out], (by repeat (first | exact Below.refl _ _ | assumption | refine Below.drew ?_ | refine Below.alloc ?_ (by first | omega | (simp; omega) | simp) _))⟩
  · have hw := win_iff.1 hv
    obtain ⟨hl, hu⟩ := hw
    cases f
    · have H1 : Hid (bkT t false = (4 - t) % 4) := by unfold bkT; rw [hv]; rfl
      have H2 : Hid (bkF t false = false) := by unfold bkF; rw [hv]; rfl
      go_enter Try.func20, Try.ntmps20
      go_wp2_with (go_at_call 15; refine (sIsSym_any t false _).mono ?_; rintro e w1 ⟨rfl, rfl⟩)
      exact bodyPost_ret (v := .agg #[.int .i64 ((4 - t) % 4), .bool false]) (by simp [results, Try.results20, go_sem]) rfl ⟨by rw [H1.out, H2.out], (by repeat (first | exact Below.refl _ _ | assumption | refine Below.drew ?_ | refine Below.alloc ?_ (by first | omega | (simp; omega) | simp) _))⟩
    · have H1 : Hid (bkT t true = t) := by unfold bkT; rw [hv]; rfl
      have H2 : Hid (bkF t true = true) := by unfold bkF; rw [hv]; rfl
      go_enter Try.func20, Try.ntmps20
      go_wp2_with (go_at_call 15; refine (sIsSym_any t true _).mono ?_; rintro e w1 ⟨rfl, rfl⟩)
      exact bodyPost_ret (v := .agg #[.int .i64 t, .bool true]) (by simp [results, Try.results20, go_sem]) rfl ⟨by rw [H1.out, H2.out], (by repeat (first | exact Below.refl _ _ | assumption | refine Below.drew ?_ | refine Below.alloc ?_ (by first | omega | (simp; omega) | simp) _))⟩

end Go.Proofs.Ytnpgdijafmkmkaa
