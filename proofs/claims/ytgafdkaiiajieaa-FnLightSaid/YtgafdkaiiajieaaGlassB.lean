/- What the reference draws for glass, continued: wild numbers, any complex number, whether it is a point. Condition: the code is a slice of bytes that can be read. -/
import Derived.Test.YtgafdkaiiajieaaGlassA
import Derived.Test.YtgafdkaiiajieaaAct
namespace Go.Proofs.Ytgafdkaiiajieaa
open Go.RowKit
open Fl

/-- A number that may be none; where it is a part of a point, its word is a word. -/
def Loose (x : Nat) : Prop := rch x = true → x < 4294967296

def RetWild (w0 w : World) (p : Nat) (a : Option Addr) (len cap : Nat) (e : Ending) (w' : World) : Prop :=
  ∃ r : Nat, e = .returned (.float .f32 r) ∧ Loose r ∧ CurAt w0 w' p a len cap ∧ w.grownBy w' (some p)

theorem run_nanq {P : Program} (t : TypeId) (x y : Nat) (h : floatBits .quo .f32 x y = none) (w : World) :
    (binOp .quo t (.float .f32 x) (.float .f32 y)).run P w = .ok (.float .f32 (nanOf w x y)) w.drew := by
  unfold floatBits at h
  simp only at h
  simp [binOp, Op.floatArith, h, Question.forced, nanOf]

theorem loose_nan (w : World) (x y : Nat) : Loose (nanOf w x y) := by
  intro h
  unfold rch at h
  have e : S.order (nanOf w x y) wM = none := nanOf_order w x y wM
  rw [e] at h
  cases h

theorem loose_lt {x : Nat} (h : x < 4294967296) : Loose x := fun _ => h

set_option maxHeartbeats 2000000 in
theorem l1Wild_any (w0 w : World) (p : Nat) (a : Option Addr) (len cap : Nat) (c : CurAt w0 w p a len cap) :
    Calls Try.prog 98 #[.pointer (some ⟨p, 0, none⟩)] w (RetWild w0 w p a len cap) := by
  have hp : p < w.heap.size := by
    obtain ⟨H, hh⟩ := c.h
    exact World.block_lt_of_cell? w _ hh
  go_enter Try.func98, Try.ntmps98
  go_wp2_with fail
  refine (l1Below_any w0 _ p a len cap 6 c (by omega) (by omega)).mono ?_
  rintro e w1 ⟨x, rfl, x0, x1, c, g1⟩
  have h1 := g1.size
  have hx : x = 0 ∨ x = 1 ∨ (x == 0) = false ∧ (x == 1) = false := by
    simp only [beq_eq_false_iff_ne]
    omega
  clear x0 x1
  rcases hx with rfl | rfl | ⟨e0, e1⟩
  · go_wp2_with fail
    refine (l1Below_any w0 _ p a len cap 8 (c.below ((Below.refl _ _).alloc (Nat.le_refl _) _)) (by omega) (by omega)).mono ?_
    rintro e w2 ⟨x, rfl, x0, x1, c2, g2⟩
    obtain ⟨j, rfl⟩ := Int.eq_ofNat_of_zero_le x0
    have gg : w.grownBy w2 (some p) := grown_trans (grown_trans g1 (grown_below ((Below.refl _ _).alloc (Nat.le_refl _) _))) g2
    have np : w1.heap.size ≠ p := by omega
    have hj8 : j < 8 := by omega
    obtain ⟨r, cd, hr⟩ : ∃ r, w2.cell? ⟨w1.heap.size, j, none⟩ = some (.float .f32 r) ∧ Loose r := by
      match j, hj8 with
      | 0, _ => exact ⟨_, keepg g2 (by go_simp; rfl) np, loose_lt (by decide)⟩
      | 1, _ => exact ⟨_, keepg g2 (by go_simp; rfl) np, loose_lt (by decide)⟩
      | 2, _ => exact ⟨_, keepg g2 (by go_simp; rfl) np, loose_lt (by decide)⟩
      | 3, _ => exact ⟨_, keepg g2 (by go_simp; rfl) np, loose_lt (by decide)⟩
      | 4, _ => exact ⟨_, keepg g2 (by go_simp; rfl) np, loose_lt (by decide)⟩
      | 5, _ => exact ⟨_, keepg g2 (by go_simp; rfl) np, loose_lt (by decide)⟩
      | 6, _ => exact ⟨_, keepg g2 (by go_simp; rfl) np, loose_lt (by decide)⟩
      | 7, _ => exact ⟨_, keepg g2 (by go_simp; rfl) np, loose_lt (by decide)⟩
    have HR := hide hr
    clear hr x0 x1 g2
    go_wp2_with fail
    go_ret
    exact ⟨r, rfl, HR.out, c2, gg⟩
  · have r1 := fun t w => run_ok (P := Try.prog) .quo t 1065353216 0 2139095040 (by decide +kernel) w
    have r2 := fun t w => run_ok (P := Try.prog) .quo t 3212836864 0 4286578688 (by decide +kernel) w
    have r3 := fun t w => run_nanq (P := Try.prog) t 0 0 (by decide +kernel) w
    have r4 : ∀ w, (Op.unary .neg (.float .f32 0)).run Try.prog w = .ok (.float .f32 2147483648) w := fun w => rfl
    have HN := hide (loose_nan w1 0 0)
    obtain ⟨nan, hnan⟩ : ∃ n, nanOf w1 0 0 = n := ⟨_, rfl⟩
    rw [hnan] at HN
    go_wp2_with fail
    refine (l1Below_any w0 _ p a len cap 5 (c.below (((Below.refl _ _).alloc (Nat.le_refl _) _).drew)) (by omega) (by omega)).mono ?_
    rintro e w2 ⟨x, rfl, x0, x1, c2, g2⟩
    obtain ⟨j, rfl⟩ := Int.eq_ofNat_of_zero_le x0
    have gg : w.grownBy w2 (some p) := grown_trans (grown_trans g1 (grown_below (((Below.refl _ _).alloc (Nat.le_refl _) _).drew))) g2
    have np : w1.heap.size ≠ p := by omega
    have hj5 : j < 5 := by omega
    obtain ⟨r, cd, hr⟩ : ∃ r, w2.cell? ⟨w1.heap.size, j, none⟩ = some (.float .f32 r) ∧ Loose r := by
      match j, hj5 with
      | 0, _ => exact ⟨_, keepg g2 (by go_simp; rfl) np, loose_lt (by decide)⟩
      | 1, _ => exact ⟨_, keepg g2 (by go_simp; rfl) np, loose_lt (by decide)⟩
      | 2, _ => exact ⟨nan, keepg g2 (by go_simp) np, HN.out⟩
      | 3, _ => exact ⟨_, keepg g2 (by go_simp; rfl) np, loose_lt (by decide)⟩
      | 4, _ => exact ⟨_, keepg g2 (by go_simp; rfl) np, loose_lt (by decide)⟩
    have HR := hide hr
    clear hr x0 x1 g2 r1 r2 r3 r4 hnan
    go_wp2_with fail
    go_ret
    exact ⟨r, rfl, HR.out, c2, gg⟩
  · go_wp2_with fail
    refine (l1Fine_any w0 _ p a len cap c).mono ?_
    rintro e w2 ⟨r, rfl, hr, _, c2, g2⟩
    have HR := hide (loose_lt hr.2)
    clear hr
    go_wp2_with fail
    go_ret
    exact ⟨r, rfl, HR.out, c2, grown_trans g1 g2⟩

def RetAny (w0 w : World) (p : Nat) (a : Option Addr) (len cap : Nat) (e : Ending) (w' : World) : Prop :=
  ∃ x y : Nat, e = .returned (.complex .f32 x y) ∧ Loose x ∧ Loose y ∧ CurAt w0 w' p a len cap ∧ w.grownBy w' (some p)

set_option maxHeartbeats 2000000 in
theorem l1Any_any (w0 w : World) (p : Nat) (a : Option Addr) (len cap : Nat) (c : CurAt w0 w p a len cap) :
    Calls Try.prog 82 #[.pointer (some ⟨p, 0, none⟩)] w (RetAny w0 w p a len cap) := by
  go_enter Try.func82, Try.ntmps82
  go_wp2_with fail
  refine (l1Point_any w0 _ p a len cap c).mono ?_
  rintro e w1 ⟨x, y, rfl, hpt, c, g1⟩
  have HX := hide (loose_lt hpt.lx)
  have HY := hide (loose_lt hpt.ly)
  clear hpt
  go_wp2_with fail
  refine (l1Below_any w0 _ p a len cap 10 c (by omega) (by omega)).mono ?_
  rintro e w2 ⟨n, rfl, n0, n1, c, g2⟩
  have gg := grown_trans g1 g2
  clear g1 g2
  have hn : n = 0 ∨ n = 1 ∨ (n == 0) = false ∧ (n == 1) = false := by
    simp only [beq_eq_false_iff_ne]
    omega
  clear n0 n1
  rcases hn with rfl | rfl | ⟨e0, e1⟩
  · go_wp2_with fail
    refine (l1Wild_any w0 _ p a len cap c).mono ?_
    rintro e w3 ⟨r, rfl, hr, c, g3⟩
    have HR := hide hr
    clear hr
    go_wp2_with fail
    go_ret
    exact ⟨r, y, rfl, HR.out, HY.out, c, grown_trans gg g3⟩
  · go_wp2_with fail
    refine (l1Wild_any w0 _ p a len cap c).mono ?_
    rintro e w3 ⟨r, rfl, hr, c, g3⟩
    have HR := hide hr
    clear hr
    go_wp2_with fail
    go_ret
    exact ⟨x, r, rfl, HX.out, HR.out, c, grown_trans gg g3⟩
  · go_wp2_with fail
    go_ret
    exact ⟨x, y, rfl, HX.out, HY.out, c, gg⟩

set_option maxHeartbeats 2000000 in
theorem sIsPoint_any (x y : Nat) (w : World) :
    Calls Try.prog 64 #[.complex .f32 x y] w fun e w' => e = .returned (.bool (rch x && rch y)) ∧ Below w.heap.size w w' := by
  have HX : Hid (rch x = ((FloatKind.f32.format.order x 3313500160 == some .gt || FloatKind.f32.format.order x 3313500160 == some .eq) && (FloatKind.f32.format.order x 1166016512 == some .lt || FloatKind.f32.format.order x 1166016512 == some .eq))) := rfl
  have HY : Hid (rch y = ((FloatKind.f32.format.order y 3313500160 == some .gt || FloatKind.f32.format.order y 3313500160 == some .eq) && (FloatKind.f32.format.order y 1166016512 == some .lt || FloatKind.f32.format.order y 1166016512 == some .eq))) := rfl
  by_cases hx : fin x
  · have dx : decide (fin x) = true := by simp [hx]
    by_cases hy : fin y
    · have dy : decide (fin y) = true := by simp [hy]
      clear hx hy
      cases h1 : (FloatKind.f32.format.order x 3313500160 == some .gt || FloatKind.f32.format.order x 3313500160 == some .eq) <;>
        cases h2 : (FloatKind.f32.format.order x 1166016512 == some .lt || FloatKind.f32.format.order x 1166016512 == some .eq) <;>
        cases h3 : (FloatKind.f32.format.order y 3313500160 == some .gt || FloatKind.f32.format.order y 3313500160 == some .eq)
      all_goals
        rw [h1, h2] at HX
        rw [h3] at HY
        go_enter Try.func64, Try.ntmps64
        go_wp2_with fail
        refine (l1Single_any _ _).mono ?_
        rintro e w1 ⟨rfl, hb1⟩
        go_wp2_with fail
        refine (l1Single_any _ _).mono ?_
        rintro e w2 ⟨rfl, hb2⟩
        have bel := belowOf hb1 hb2
        clear hb1 hb2
        go_wp2_with fail
        go_ret
        exact ⟨by rw [HX.out, HY.out]; simp, bel⟩
    · have dy : decide (fin y) = false := by simp [hy]
      have HF : Hid (rch y = false) := by
        show rch y = false
        cases h : rch y
        · rfl
        · exact absurd (rch_fin h) hy
      clear hx hy HX HY
      go_enter Try.func64, Try.ntmps64
      go_wp2_with fail
      refine (l1Single_any _ _).mono ?_
      rintro e w1 ⟨rfl, hb1⟩
      go_wp2_with fail
      refine (l1Single_any _ _).mono ?_
      rintro e w2 ⟨rfl, hb2⟩
      have bel := belowOf hb1 hb2
      clear hb1 hb2
      go_wp2_with fail
      go_ret
      exact ⟨by rw [HF.out]; simp, bel⟩
  · have dx : decide (fin x) = false := by simp [hx]
    have HF : Hid (rch x = false) := by
      show rch x = false
      cases h : rch x
      · rfl
      · exact absurd (rch_fin h) hx
    clear hx HX HY
    go_enter Try.func64, Try.ntmps64
    go_wp2_with fail
    refine (l1Single_any _ _).mono ?_
    rintro e w1 ⟨rfl, hb1⟩
    go_wp2_with fail
    go_ret
    exact ⟨by rw [HF.out]; simp, hb1⟩

end Go.Proofs.Ytgafdkaiiajieaa
