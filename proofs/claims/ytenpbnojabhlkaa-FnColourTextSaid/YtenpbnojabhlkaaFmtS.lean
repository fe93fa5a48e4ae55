/- What the reference's FormatColour computes. For all colours and worlds. -/
import Derived.Test.YtenpbnojabhlkaaFmtC
import Derived.Test.YtenpbnojabhlkaaFilt
namespace Go.Proofs.Ytenpbnojabhlkaa
open Go.RowKit
open Fl

theorem ext_hex {n : Nat} (h : n ≤ 15) : hexS.extract n (n + 1) = ⟨#[hx n]⟩ := by
  have : ∀ n, n < 16 → hexS.extract n (n + 1) = ⟨#[hx n]⟩ := by decide
  exact this n (by omega)

theorem slice_hex (w : World) {n : Nat} (h : n ≤ 15) : (Instr.slice 9 (.string hexS) (some (.int .i64 (n : Int))) (some (.int .i64 ((n : Int) + 1))) none).run Try.prog w = .ok (.string ⟨#[hx n]⟩) w := by
  rw [run_slice_string_if w 9 hexS .i64 .i64 _ _ Try.underlying9]
  have hs : hexS.size = 16 := rfl
  rw [if_pos (by rw [hs]; omega), if_pos (by omega)]
  rw [show ((n : Int)).toNat = n by omega, show ((n : Int) + 1).toNat = n + 1 by omega, ext_hex h]

set_option maxHeartbeats 400000 in
theorem l2Digit_any (n : Nat) (w : World) (h : n ≤ 15) :
    Calls Try.prog 39 #[.int .i64 n] w fun e w' => e = .returned (.string ⟨#[hx n]⟩) ∧ w = w' := by
  have hs := fun w => slice_hex w h
  go_enter Try.func39, Try.ntmps39
  go_wp2
  go_ret
  exact ⟨rfl, rfl⟩

set_option maxHeartbeats 400000 in
theorem l2Step_any (x : Nat) (w : World) (h : part x = true) :
    Calls Try.prog 40 #[.float .f32 x] w fun e w' => e = .returned (.int .i64 (dig x)) ∧ w = w' := by
  have HT := hide (fun w => l1Times_fin x w16 w (part_fin h) fin_16 (fin_mul16 h))
  have hc := cvt16c h
  have hle := step_le h
  have HD : Hid (dig x = if 15 < step x then 15 else step x) := rfl
  generalize timesF x w16 = y at HT hc
  generalize step x = s at hc hle HD
  clear h
  by_cases h15 : 15 < s
  · rw [if_pos h15] at HD
    go_enter Try.func40, Try.ntmps40
    go_wp2_with (go_at_call 43; refine (HT.out _).mono ?_; rintro e w' ⟨rfl, rfl⟩)
    go_ret
    exact ⟨by rw [HD.out]; rfl, rfl⟩
  · rw [if_neg h15] at HD
    go_enter Try.func40, Try.ntmps40
    go_wp2_with (go_at_call 43; refine (HT.out _).mono ?_; rintro e w' ⟨rfl, rfl⟩)
    go_ret
    exact ⟨by rw [HD.out]; rfl, rfl⟩

set_option maxHeartbeats 2000000 in
theorem sFormatColour_any (r g b : Nat) (w : World) :
    Calls Try.prog 17 #[.agg #[.float .f32 r, .float .f32 g, .float .f32 b]] w fun e w' => e = .returned (.string (fmtCol (isCol r g b) r g b)) ∧ Below w.heap.size w w' := by
  cases hv : isCol r g b
  · have H : Hid (fmtCol false r g b = ⟨#[]⟩) := rfl
    go_enter Try.func17, Try.ntmps17
    go_wp2_with fail
    refine (sIsColour_any _ _ _ _).mono ?_
    rintro e w1 ⟨rfl, hb1⟩
    have bel := Below.trans ((Below.refl w.heap.size w).alloc (Nat.le_refl _) _) (hb1.mono (by simp))
    clear hb1
    go_wp2_with fail
    go_ret
    exact ⟨by rw [H.out]; rfl, bel⟩
  · have H : Hid (fmtCol true r g b = ⟨#[hx (dig r), hx (dig g), hx (dig b)]⟩) := rfl
    obtain ⟨pr, pg, pb⟩ := isCol_parts hv
    have H1 := hide (fun w => l2Step_any r w pr)
    have H2 := hide (fun w => l2Step_any g w pg)
    have H3 := hide (fun w => l2Step_any b w pb)
    clear pr pg pb
    go_enter Try.func17, Try.ntmps17
    go_wp2_with fail
    have a0 : ((w.alloc (.cells #[.float .f32 r, .float .f32 g, .float .f32 b] 26))).cell? ⟨w.heap.size, 0, none⟩ = some (.float .f32 r) := by go_simp
    have a1 : ((w.alloc (.cells #[.float .f32 r, .float .f32 g, .float .f32 b] 26))).cell? ⟨w.heap.size, 1, none⟩ = some (.float .f32 g) := by go_simp
    have a2 : ((w.alloc (.cells #[.float .f32 r, .float .f32 g, .float .f32 b] 26))).cell? ⟨w.heap.size, 2, none⟩ = some (.float .f32 b) := by go_simp
    have bel : Below w.heap.size w ((w.alloc (.cells #[.float .f32 r, .float .f32 g, .float .f32 b] 26))) := (by repeat (first | exact Below.refl _ _ | assumption | refine Below.drew ?_ | refine Below.setCell ?_ (by first | (dsimp only; omega) | (simp; omega) | simp) _ | refine Below.alloc ?_ (by first | omega | (simp; omega) | simp) _))
    generalize (w.alloc (.cells #[.float .f32 r, .float .f32 g, .float .f32 b] 26)) = wA at a0 a1 a2 bel ⊢
    have hswA := bel.size
    refine (sIsColour_any _ _ _ _).mono ?_
    rintro e w1 ⟨rfl, hb1⟩
    have a0 := keepc hb1 a0
    have a1 := keepc hb1 a1
    have a2 := keepc hb1 a2
    have bel := belowOf bel hb1
    clear hb1
    go_wp2_with fail
    go_region_held3 (fun w' => w'.cell? ⟨w.heap.size, 0, none⟩ = some (.float .f32 r) ∧ w'.cell? ⟨w.heap.size, 1, none⟩ = some (.float .f32 g) ∧ w'.cell? ⟨w.heap.size, 2, none⟩ = some (.float .f32 b))
      (first | exact ⟨a0, a1, a2⟩ | (refine ⟨?_, ?_, ?_⟩ <;> (go_simp; done)))
      (first | (go_at_call 40; (first | (with_reducible refine (H1.out _).mono ?_) | (with_reducible refine (H2.out _).mono ?_) | (with_reducible refine (H3.out _).mono ?_)); rintro e w' ⟨rfl, rfl⟩) | (go_at_call 39; (with_reducible refine (l2Digit_any _ _ (dig_le _)).mono ?_); rintro e w' ⟨rfl, rfl⟩))
    go_wp2_with fail
    go_ret
    exact ⟨by rw [H.out]; rfl, (by repeat (first | exact Below.refl _ _ | assumption | refine Below.drew ?_ | refine Below.setCell ?_ (by first | (dsimp only; omega) | (simp; omega) | simp) _ | refine Below.alloc ?_ (by first | omega | (simp; omega) | simp) _))⟩

set_option maxHeartbeats 1000000 in
theorem formatColour_any (r g b : Nat) (w : World) :
    Calls Try.prog 18 #[.agg #[.float .f32 r, .float .f32 g, .float .f32 b]] w fun e w' => e = .returned (.string (fmtCol (isCol r g b) r g b)) ∧ Below w.heap.size w w' := by
  cases hv : isCol r g b
  · have H : Hid (fmtCol false r g b = ⟨#[]⟩) := rfl
    go_enter Try.func18, Try.ntmps18
    go_wp2_with (go_at_call 16; refine (isColour_any _ _ _ _).mono ?_; rintro e w' ⟨rfl, rfl⟩)
    go_ret
    exact ⟨by rw [H.out]; rfl, (by repeat (first | exact Below.refl _ _ | assumption | refine Below.drew ?_ | refine Below.alloc ?_ (by first | omega | (simp; omega) | simp) _))⟩
  · obtain ⟨pr, pg, pb⟩ := isCol_parts hv
    exact formatColour_yes r g b w hv pr pg pb

end Go.Proofs.Ytenpbnojabhlkaa
