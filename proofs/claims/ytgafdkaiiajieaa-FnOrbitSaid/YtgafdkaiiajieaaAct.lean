/- What inReach, IsPoint and ActSym compute. For all points and symmetries. -/
import Derived.Test.YtgafdkaiiajieaaActP
import Derived.Test.YtgafdkaiiajieaaSym
namespace Go.Proofs.Ytgafdkaiiajieaa
open Go.RowKit
open Fl

set_option maxHeartbeats 400000 in
theorem inReach_any (x : Nat) (w : World) :
    Calls Try.prog 70 #[.float .f32 x] w fun e w' => e = .returned (.bool (rch x)) ∧ w = w' := by
  have H : Hid (rch x = ((FloatKind.f32.format.order x 3313500160 == some .gt || FloatKind.f32.format.order x 3313500160 == some .eq) && (FloatKind.f32.format.order x 1166016512 == some .lt || FloatKind.f32.format.order x 1166016512 == some .eq))) := rfl
  cases h1 : (FloatKind.f32.format.order x 3313500160 == some .gt || FloatKind.f32.format.order x 3313500160 == some .eq)
  · rw [h1] at H
    go_enter Try.func70, Try.ntmps70
    go_wp2
    go_ret
    exact ⟨by rw [H.out]; rfl, rfl⟩
  · rw [h1] at H
    go_enter Try.func70, Try.ntmps70
    go_wp2
    go_ret
    exact ⟨by rw [H.out]; rfl, rfl⟩

set_option maxHeartbeats 400000 in
theorem isPoint_any (x y : Nat) (w : World) :
    Calls Try.prog 37 #[.complex .f32 x y] w fun e w' => e = .returned (.bool (rch x && rch y)) ∧ w = w' := by
  cases h1 : rch x
  · go_enter Try.func37, Try.ntmps37
    go_wp2_with (go_at_call 70; refine (inReach_any _ _).mono ?_; rintro e w' ⟨rfl, rfl⟩)
    go_ret
    exact ⟨rfl, rfl⟩
  · go_enter Try.func37, Try.ntmps37
    go_wp2_with (go_at_call 70; refine (inReach_any _ _).mono ?_; rintro e w' ⟨rfl, rfl⟩)
    go_ret
    exact ⟨by simp, rfl⟩

theorem isPoint_y (x y : Nat) (w : World) (h : Pt x y) :
    Calls Try.prog 37 #[.complex .f32 x y] w fun e w' => e = .returned (.bool true) ∧ w = w' := by
  have q := isPoint_any x y w
  rw [h.rx, h.ry] at q
  exact q

set_option maxHeartbeats 1000000 in
theorem actSym_y (t : Int) (f : Bool) (x y : Nat) (w : World) (hv : win t 0 3 = true) (h : Pt x y) :
    Calls Try.prog 17 #[.agg #[.int .i64 t, .bool f], .complex .f32 x y] w fun e w' => e = .returned (.complex .f32 (actW t f x y).1 (actW t f x y).2) ∧ Below w.heap.size w w' := by
  obtain ⟨t0, t3⟩ := win_iff.1 hv
  obtain ⟨n, rfl⟩ := Int.eq_ofNat_of_zero_le t0
  have HP := hide (fun W => isPoint_y x y W h)
  have HY := hide (ng_fin (rch_fin h.ry)).1
  have HN := hide (ng_word h.ry)
  have HFX := hide (rch_fin h.rx)
  have HFY := hide (rch_fin h.ry)
  have hlt : n ≤ 3 := by omega
  have a0 : (w.alloc (.cells #[.int .i64 (n : Int), .bool f] 28)).cell? ⟨w.heap.size, 0, none⟩ = some (.int .i64 (n : Int)) := by go_simp
  have a1 : (w.alloc (.cells #[.int .i64 (n : Int), .bool f] 28)).cell? ⟨w.heap.size, 1, none⟩ = some (.bool f) := by go_simp
  have bel : Below w.heap.size w (w.alloc (.cells #[.int .i64 (n : Int), .bool f] 28)) := (Below.refl _ _).alloc (Nat.le_refl _) _
  obtain ⟨wA, hwA⟩ : ∃ wA, w.alloc (.cells #[.int .i64 (n : Int), .bool f] 28) = wA := ⟨_, rfl⟩
  rw [hwA] at a0 a1 bel
  obtain ⟨A, hA⟩ : ∃ A, turnsW n (x, if f then diffF 0 y else y) = A := ⟨_, rfl⟩
  have HA : Hid (actW (n : Int) f x y = (cl A.1, cl A.2)) := by
    show actW (n : Int) f x y = _
    unfold actW
    rw [Int.toNat_natCast, hA]
  have HWA := hide hwA
  have HAA := hide hA
  clear h hv t0 t3 hwA hA
  cases f
  all_goals
    go_enter Try.func17, Try.ntmps17
    go_wp2_with fail
    rw [HWA.out]
    refine (isSym_any _ _ _).mono ?_
    rintro e w1 ⟨rfl, hw1⟩
    have nb : Below wA.heap.size wA w1 := by rw [← hw1]; exact (by repeat (first | exact Below.refl _ _ | assumption | refine Below.drew ?_ | refine Below.alloc ?_ (by first | omega | (simp; omega) | simp) _))
    have a0 := keepc nb a0
    have a1 := keepc nb a1
    have bel := belowOf bel nb
    clear nb hw1
    have hwin : win (n : Int) 0 3 = true := win_true (by omega) (by omega)
    go_wp2_with fail
    refine (HP.out _).mono ?_
    rintro e w' ⟨rfl, rfl⟩
    go_wp2_with (go_at_call 45; refine (diff_fin 0 y _ fin_zero HFY.out HY.out).mono ?_; rintro e w' ⟨rfl, rfl⟩)
    go_loop [5, 6, 25] (fun u v i => ∃ (k X Z : Nat), k ≤ n ∧ i = .int .i64 k ∧ u = .float .f32 X ∧ v = .float .f32 Z ∧ Hid (fin X) ∧ Hid (fin Z) ∧ Hid (A = turnsW (n - k) (X, Z))) (fun _ _ i => n - (intOf i).toNat)
    case atStart => exact ⟨0, x, _, Nat.zero_le _, rfl, rfl, rfl, HFX, (by first | exact HFY | exact HN.out.2.2.2.fin), HAA.out.symm⟩
    case round =>
      obtain ⟨k, X, Z, hk, rfl, rfl, rfl, fx, fz, ht⟩ := hrel
      by_cases hkn : k < n
      · have D := hide (ng_fin fz.out)
        have ht2 : Hid (A = turnsW (n - (k + 1)) (diffF 0 Z, X)) := by
          show _ = _
          rw [ht.out, show n - k = (n - (k + 1)) + 1 by omega]
          rfl
        clear ht
        go_wp2_with (go_at_call 45; refine (diff_fin 0 Z _ fin_zero fz.out D.out.1).mono ?_; rintro e w' ⟨rfl, rfl⟩)
        go_round
        case rel => exact ⟨k + 1, diffF 0 Z, X, by omega, by go_num, rfl, rfl, D.out.2.1.fin, fx, ht2⟩
        case measure => simp [intOf]; omega
      · obtain rfl : k = n := by omega
        have hA2 : Hid (A = (X, Z)) := by
          show _ = _
          rw [ht.out, Nat.sub_self]
          rfl
        clear ht HAA
        go_wp2_with fail
        refine (clean_fin X _ fx.out).mono ?_
        rintro e w' ⟨rfl, rfl⟩
        go_wp2_with fail
        refine (clean_fin Z _ fz.out).mono ?_
        rintro e w' ⟨rfl, rfl⟩
        go_wp2_with fail
        go_ret
        exact ⟨by rw [HA.out, hA2.out]; rfl, bel⟩

end Go.Proofs.Ytgafdkaiiajieaa
