/- What InWedge computes. Condition: a kind from 0 to 3, a point. -/
import Derived.Test.YtgafdkaiiajieaaFoldP
import Derived.Test.YtgafdkaiiajieaaAct
namespace Go.Proofs.Ytgafdkaiiajieaa
open Go.RowKit
open Fl

theorem geq_bool {x y : Nat} (hx : fin x) (hy : fin y) : (FloatKind.f32.format.order x y == some .gt || FloatKind.f32.format.order x y == some .eq) = decide (val y ≤ val x) := by
  rw [show FloatKind.f32.format.order x y = some (compare (val x) (val y)) from order_fin hx hy, Bool.eq_iff_iff]
  rcases h : compare (val x) (val y) with _ | _ | _
  · have := Int.compare_eq_lt.1 h; simp; omega
  · have := Int.compare_eq_eq.1 h; simp; omega
  · have := Int.compare_eq_gt.1 h; simp; omega

theorem leq_bool {x y : Nat} (hx : fin x) (hy : fin y) : (FloatKind.f32.format.order x y == some .lt || FloatKind.f32.format.order x y == some .eq) = decide (val x ≤ val y) := by
  rw [show FloatKind.f32.format.order x y = some (compare (val x) (val y)) from order_fin hx hy, Bool.eq_iff_iff]
  rcases h : compare (val x) (val y) with _ | _ | _
  · have := Int.compare_eq_lt.1 h; simp; omega
  · have := Int.compare_eq_eq.1 h; simp; omega
  · have := Int.compare_eq_gt.1 h; simp; omega

set_option maxHeartbeats 1000000 in
theorem inWedge_any (kind : Int) (x y : Nat) (w : World) (h0 : 0 ≤ kind) (h3 : kind ≤ 3) (h : Pt x y) :
    Calls Try.prog 14 #[.int .i64 kind, .complex .f32 x y] w fun e w' => e = .returned (.bool (wedgeI kind (val x, val y))) ∧ w = w' := by
  have HI := hide (isPoint_y x y w h)
  have gx := geq_bool (rch_fin h.rx) fin_zero
  have gy := geq_bool (rch_fin h.ry) fin_zero
  have ly := leq_bool fin_zero (rch_fin h.ry)
  have lyx := leq_bool (rch_fin h.ry) (rch_fin h.rx)
  rw [val_zero] at gx gy ly
  generalize val x = a at gx gy ly lyx ⊢
  generalize val y = b at gx gy ly lyx ⊢
  clear h
  rcases kind_four h0 h3 with rfl | rfl | rfl | rfl
  all_goals clear h0 h3
  · clear gx gy ly lyx
    go_enter Try.func14, Try.ntmps14
    go_wp2_with fail
    refine HI.out.mono ?_
    rintro e w' ⟨rfl, rfl⟩
    go_wp2_with fail
    go_ret
    exact ⟨rfl, rfl⟩
  · clear gx ly lyx
    have HW : Hid (wedgeI 1 (a, b) = decide (0 ≤ b)) := by show wedgeI 1 (a, b) = _; simp [wedgeI]
    go_enter Try.func14, Try.ntmps14
    go_wp2_with fail
    refine HI.out.mono ?_
    rintro e w' ⟨rfl, rfl⟩
    go_wp2_with fail
    go_ret
    exact ⟨by rw [HW.out]; rfl, rfl⟩
  · clear ly lyx
    have HW : Hid (wedgeI 2 (a, b) = (decide (0 ≤ a) && decide (0 ≤ b))) := by show wedgeI 2 (a, b) = _; simp [wedgeI]
    cases hd : decide (0 ≤ a)
    all_goals
      rw [hd] at gx HW
      clear hd
      go_enter Try.func14, Try.ntmps14
      go_wp2_with fail
      refine HI.out.mono ?_
      rintro e w' ⟨rfl, rfl⟩
      go_wp2_with fail
      go_ret
      exact ⟨by rw [HW.out]; rfl, rfl⟩
  · clear gx gy
    have HW : Hid (wedgeI 3 (a, b) = (decide (0 ≤ b) && decide (b ≤ a))) := by show wedgeI 3 (a, b) = _; simp [wedgeI]
    cases hd : decide (0 ≤ b)
    all_goals
      rw [hd] at ly HW
      clear hd
      go_enter Try.func14, Try.ntmps14
      go_wp2_with fail
      refine HI.out.mono ?_
      rintro e w' ⟨rfl, rfl⟩
      go_wp2_with fail
      go_ret
      exact ⟨by rw [HW.out]; rfl, rfl⟩

end Go.Proofs.Ytgafdkaiiajieaa
