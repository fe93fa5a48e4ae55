/- What the program's and the reference's FormatSym compute. Each contract holds for all arguments and worlds. -/
import Derived.Test.YtnpgdijafmkmkaaSym
namespace Go.Proofs.Ytnpgdijafmkmkaa
open Go.RowKit

theorem cvt1 (X : World) (n : Int) (b : Nat) (hb : b = X.heap.size) :
    (convert 47 9 (.slice (some ⟨b, 0, none⟩) 1 1)).run Try.prog (X.alloc (.cells #[.int .u8 n] 5)) = .ok (.string ⟨#[UInt8.ofNat n.toNat]⟩) (X.alloc (.cells #[.int .u8 n] 5)) := by
  subst hb
  have := run_convert_bytes_arg (P := Try.prog) (X.alloc (.cells #[.int .u8 n] 5)) 47 5 Try.underlying47 Try.underlying5 X.heap.size 0 1 1 [n] rfl (fun i hi => by
    obtain rfl : i = 0 := by omega
    simp) 9 Try.underlying9
  exact this

/-- The text of a symmetry. -/
def fmtSym (t : Int) (f : Bool) : List UInt8 :=
  if win t 0 3 then (if f then [UInt8.ofNat (48 + t).toNat, 102] else [UInt8.ofNat (48 + t).toNat]) else []

set_option maxHeartbeats 400000 in
theorem formatSym_any (t : Int) (f : Bool) (w : World) :
    Calls Try.prog 19 #[.agg #[.int .i64 t, .bool f]] w fun e w' => e = .returned (.string ⟨(fmtSym t f).toArray⟩) ∧ Below w.heap.size w w' := by
  cases hv : win t 0 3
  · have H1 : Hid (fmtSym t f = []) := by unfold fmtSym; rw [hv]; rfl
    go_enter Try.func19, Try.ntmps19
    go_wp2_with (go_at_call 17; refine (isSym_any _ _ _).mono ?_; rintro e w1 ⟨rfl, rfl⟩)
    go_ret
    exact ⟨by rw [H1.out]; rfl, (by repeat (first | exact Below.refl _ _ | assumption | refine Below.drew ?_ | refine Below.alloc ?_ (by first | omega | (simp; omega) | simp) _))⟩
  · obtain ⟨hl, hu⟩ := win_iff.1 hv
    cases f
    · have H1 : Hid (fmtSym t false = [UInt8.ofNat (48 + t).toNat]) := by unfold fmtSym; rw [hv]; rfl
      have kc := cvt1
      go_enter Try.func19, Try.ntmps19
      go_wp2_with (go_at_call 17; refine (isSym_any _ _ _).mono ?_; rintro e w1 ⟨rfl, rfl⟩)
      go_ret
      exact ⟨by rw [H1.out]; rfl, (by repeat (first | exact Below.refl _ _ | assumption | refine Below.drew ?_ | refine Below.alloc ?_ (by first | omega | (simp; omega) | simp) _))⟩
    · have H1 : Hid (fmtSym t true = [UInt8.ofNat (48 + t).toNat, 102]) := by unfold fmtSym; rw [hv]; rfl
      have kc := cvt1
      go_enter Try.func19, Try.ntmps19
      go_wp2_with (go_at_call 17; refine (isSym_any _ _ _).mono ?_; rintro e w1 ⟨rfl, rfl⟩)
      go_ret
      exact ⟨by rw [H1.out]; rfl, (by repeat (first | exact Below.refl _ _ | assumption | refine Below.drew ?_ | refine Below.alloc ?_ (by first | omega | (simp; omega) | simp) _))⟩

set_option maxHeartbeats 400000 in
theorem sFormatSym_any (t : Int) (f : Bool) (w : World) :
    Calls Try.prog 18 #[.agg #[.int .i64 t, .bool f]] w fun e w' => e = .returned (.string ⟨(fmtSym t f).toArray⟩) ∧ Below w.heap.size w w' := by
  cases hv : win t 0 3
  · have H1 : Hid (fmtSym t f = []) := by unfold fmtSym; rw [hv]; rfl
    go_enter Try.func18, Try.ntmps18
    go_wp2_with (go_at_call 15; refine (sIsSym_any _ _ _).mono ?_; rintro e w1 ⟨rfl, rfl⟩)
    go_ret
    exact ⟨by rw [H1.out]; rfl, (by repeat (first | exact Below.refl _ _ | assumption | refine Below.drew ?_ | refine Below.alloc ?_ (by first | omega | (simp; omega) | simp) _))⟩
  · obtain ⟨hl, hu⟩ := win_iff.1 hv
    cases f
    · have H1 : Hid (fmtSym t false = [UInt8.ofNat (48 + t).toNat]) := by unfold fmtSym; rw [hv]; rfl
      have kc := cvt1
      go_enter Try.func18, Try.ntmps18
      go_wp2_with (go_at_call 15; refine (sIsSym_any _ _ _).mono ?_; rintro e w1 ⟨rfl, rfl⟩)
      go_ret
      exact ⟨by rw [H1.out]; rfl, (by repeat (first | exact Below.refl _ _ | assumption | refine Below.drew ?_ | refine Below.alloc ?_ (by first | omega | (simp; omega) | simp) _))⟩
    · have H1 : Hid (fmtSym t true = [UInt8.ofNat (48 + t).toNat, 102]) := by unfold fmtSym; rw [hv]; rfl
      have kc := cvt1
      go_enter Try.func18, Try.ntmps18
      go_wp2_with (go_at_call 15; refine (sIsSym_any _ _ _).mono ?_; rintro e w1 ⟨rfl, rfl⟩)
      go_ret
      exact ⟨by rw [H1.out]; rfl, (by repeat (first | exact Below.refl _ _ | assumption | refine Below.drew ?_ | refine Below.alloc ?_ (by first | omega | (simp; omega) | simp) _))⟩

end Go.Proofs.Ytnpgdijafmkmkaa
