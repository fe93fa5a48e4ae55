/- What mixing two parts computes, the program's closure and the reference's l2Mix. Condition: the parts and the share are from 0 to 1. -/
import Derived.Test.YtgafdkaiiajieaaPartP
import Derived.Test.YtgafdkaiiajieaaCol
import Derived.Deep.RegionHeld3
namespace Go.Proofs.Ytgafdkaiiajieaa
open Go.RowKit
open Fl

/-- Kept in bounds. -/
def bnd (z : Nat) : Nat := if FloatKind.f32.format.order z one == some .gt then one else z

/-- Two parts, mixed. -/
def mixF (k x y : Nat) : Nat := bnd (sumF (timesF x (diffF one k)) (timesF y k))

set_option maxHeartbeats 1000000 in
theorem mix1_any (x y k q : Nat) (w : World) (hx : part x = true) (hy : part y = true) (hk : part k = true) (hc : w.cell? ⟨q, 0, none⟩ = some (.float .f32 k)) :
    Calls Try.prog 57 #[.float .f32 x, .float .f32 y, .pointer (some ⟨q, 0, none⟩)] w fun e w' => e = .returned (.float .f32 (mixF k x y)) ∧ w.drew = w' := by
  have H : Hid (mixF k x y = bnd (sumF (timesF x (diffF one k)) (timesF y k))) := rfl
  have pd := part_diff hk
  have p1 := part_times hx pd
  have p2 := part_times hy hk
  have H1 := hide (fun w => diff_fin one k w fin_one (part_fin hk) (diff_fin_part hk))
  have H2 := hide (fun w => times_fin x (diffF one k) w (part_fin hx) (part_fin pd) (times_fin_part hx pd))
  have H3 := hide (fun w => times_fin y k w (part_fin hy) (part_fin hk) (times_fin_part hy hk))
  have H4 := hide (fun w => sum_fin (timesF x (diffF one k)) (timesF y k) w (part_fin p1) (part_fin p2) (sum_fin_part p1 p2))
  clear pd p1 p2 hx hy hk
  generalize sumF (timesF x (diffF one k)) (timesF y k) = z at H H4
  have HB : Hid (bnd z = if FloatKind.f32.format.order z one == some .gt then one else z) := rfl
  cases hz : (FloatKind.f32.format.order z one == some .gt)
  all_goals
    rw [hz] at HB
    go_enter Try.func57, Try.ntmps57
    go_wp2_with fail
    go_region_held3 (fun w' => w'.cell? ⟨q, 0, none⟩ = some (.float .f32 k)) (exact hc)
      (first | (go_at_call 45; refine (H1.out _).mono ?_; rintro e w' ⟨rfl, rfl⟩) | (go_at_call 55; (first | (with_reducible refine (H2.out _).mono ?_) | (with_reducible refine (H3.out _).mono ?_)); rintro e w' ⟨rfl, rfl⟩) | (go_at_call 58; refine (H4.out _).mono ?_; rintro e w' ⟨rfl, rfl⟩))
    go_wp2_with fail
    go_ret
    refine ⟨?_, ?_⟩
    · rw [H.out, HB.out]; simp
    · rfl

end Go.Proofs.Ytgafdkaiiajieaa
