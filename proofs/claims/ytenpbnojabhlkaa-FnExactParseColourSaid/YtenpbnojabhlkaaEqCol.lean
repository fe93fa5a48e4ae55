/- What the laws' eqColour says of a colour with finite parts and itself. -/
import Derived.Test.YtenpbnojabhlkaaF64
import Derived.Test.YtenpbnojabhlkaaCol
namespace Go.Proofs.Ytenpbnojabhlkaa
open Go.RowKit
open Fl

theorem conv64 {x r : Nat} (h : floatToFloatBits .f32 x .f64 = some r) (w : World) : (convert 22 39 (.float .f32 x)).run Try.prog w = .ok (.float .f64 r) w :=
  run_convert_float_float w 22 39 .f32 .f64 x r (by rw [Try.underlying22]; rfl) Try.underlying39 h

set_option maxHeartbeats 400000 in
theorem eqColour_same (r g b : Nat) (w : World) (hr : fin r) (hg : fin g) (hb : fin b) :
    Calls Try.prog 21 #[.agg #[.float .f32 r, .float .f32 g, .float .f32 b], .agg #[.float .f32 r, .float .f32 g, .float .f32 b]] w fun e w' => e = .returned (.bool true) ∧ (w.alloc (.cells #[.float .f32 r, .float .f32 g, .float .f32 b] 26)).alloc (.cells #[.float .f32 r, .float .f32 g, .float .f32 b] 26) = w' := by
  obtain ⟨r', cr, nr⟩ := to64 hr
  obtain ⟨g', cg, ng⟩ := to64 hg
  obtain ⟨b', cb, nb⟩ := to64 hb
  have kr := conv64 cr
  have kg := conv64 cg
  have kb := conv64 cb
  clear cr cg cb hr hg hb
  have NR := hide nr
  have NG := hide ng
  have NB := hide nb
  clear nr ng nb
  go_enter Try.func21, Try.ntmps21
  go_wp2_with fail
  refine (sameFloat_any _ _ NR.out).mono ?_
  rintro e w' ⟨rfl, rfl⟩
  go_wp2_with fail
  refine (sameFloat_any _ _ NG.out).mono ?_
  rintro e w' ⟨rfl, rfl⟩
  go_wp2_with fail
  refine (sameFloat_any _ _ NB.out).mono ?_
  rintro e w' ⟨rfl, rfl⟩
  go_wp2_with fail
  go_ret
  exact ⟨rfl, rfl⟩

end Go.Proofs.Ytenpbnojabhlkaa
