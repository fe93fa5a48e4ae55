/- What the reference's FarColours computes. For all colours and worlds. -/
import Derived.Test.YtenpbnojabhlkaaFarP
namespace Go.Proofs.Ytenpbnojabhlkaa
open Go.RowKit
open Fl

def gr2 (a b : Nat) : Nat := if FloatKind.f32.format.order b a == some .gt then b else a

theorem grF_eq (a b c : Nat) : grF a b c = gr2 (gr2 a b) c := by
  unfold grF gr2
  cases h : (FloatKind.f32.format.order b a == some .gt) <;> simp

theorem small_val {x : Nat} (h : x < 2139095040) : fin x ∧ val x = mv x := by
  have hr : rg x = x := by unfold rg; omega
  have hn : isNeg x = false := by unfold isNeg; rw [Nat.div_eq_of_lt (by omega)]; rfl
  exact ⟨by unfold fin; rw [hr]; exact h, by unfold val; rw [hn, hr]; rfl⟩

theorem small_inj {x y : Nat} (hx : x < 2139095040) (hy : y < 2139095040) (h : val x = val y) : x = y := by
  rw [(small_val hx).2, (small_val hy).2] at h
  exact mv_inj hx hy (by omega)

theorem cl_small {s : Bool} {r : Nat} (hr : r < 2139095040) (hs : s = true → r = 0) : cl (S.word s r) < 2139095040 := by
  cases s
  · have : S.word false r = r := by unfold Ieee.Format.word; simp
    rw [this]; unfold cl; split <;> omega
  · have := hs rfl
    subst this
    have h0 : cl (S.word true 0) = 0 := by unfold cl; rw [rg_word (by omega)]; rfl
    rw [h0]; omega

theorem diff_small {x y : Nat} (hx : part x = true) (hy : part y = true) (h : val x ≤ val y) : diffF y x < 2139095040 := by
  obtain ⟨x1, x2, _⟩ := part_mv hx
  obtain ⟨y1, y2, _⟩ := part_mv hy
  have hr : rung (val y - val x).natAbs (-149) ≤ rg one := rung_le_of (by rw [rg_one]; omega) (by rw [mv_one]; omega)
  refine cl_small (by rw [rg_one] at hr; omega) ?_
  intro hs
  by_cases h0 : val y - val x = 0
  · rw [h0]; exact rung_zero
  · rw [if_neg h0] at hs
    have := of_decide_eq_true hs
    omega

theorem far_small {x y : Nat} (hx : part x = true) (hy : part y = true) : farF x y < 2139095040 := by
  unfold farF
  rw [order_lt (part_fin hx) (part_fin hy)]
  by_cases h : val x < val y
  · rw [if_pos (decide_eq_true h)]
    exact diff_small hx hy (by omega)
  · rw [if_neg (by rw [decide_eq_false h]; exact Bool.false_ne_true)]
    exact diff_small hy hx (by omega)

theorem gr2_small {x y : Nat} (hx : x < 2139095040) (hy : y < 2139095040) : gr2 x y < 2139095040 := by
  unfold gr2; split <;> assumption

theorem run_max2 {P : Program} (w : World) {a b : Nat} (ha : a < 2139095040) (hb : b < 2139095040) :
    (Builtin.max2 (.float .f32 a) (.float .f32 b)).run P w = .ok (.float .f32 (gr2 a b)) w := by
  have fa := small_val ha
  have fb := small_val hb
  have ho : FloatKind.f32.format.order a b = some (compare (val a) (val b)) := order_fin fa.1 fb.1
  have hg : gr2 a b = if val a < val b then b else a := by
    unfold gr2
    rw [order_gt fb.1 fa.1]
    by_cases h : val a < val b <;> simp [h]
  rw [hg]
  simp only [Builtin.max2]
  rw [ho]
  rcases (show val a < val b ∨ val a = val b ∨ val b < val a by omega) with h | h | h
  · have : compare (val a) (val b) = .lt := by simp [compare, compareOfLessAndEq, h]
    rw [this, if_pos h]; rfl
  · have := small_inj ha hb h
    subst this
    have : compare (val a) (val a) = .eq := by simp [compare, compareOfLessAndEq]
    rw [this]; simp
  · have : compare (val a) (val b) = .gt := by
      have h1 : ¬ val a < val b := by omega
      have h2 : ¬ val a = val b := by omega
      simp [compare, compareOfLessAndEq, h1, h2]
    have hn : ¬ val a < val b := by omega
    rw [this, if_neg hn]; rfl

theorem run_max3 {P : Program} (w : World) (ts : Array TypeId) (t : TypeId) {a b c : Nat} (ha : a < 2139095040) (hb : b < 2139095040) (hc : c < 2139095040) :
    (Builtin.max_ ts t #[.float .f32 a, .float .f32 b, .float .f32 c]).run P w = .ok (.float .f32 (grF a b c)) w := by
  have h1 := fun w => run_max2 (P := P) w ha hb
  have h2 := fun w => run_max2 (P := P) w (gr2_small ha hb) hc
  rw [grF_eq]
  simp [Builtin.max_, h1, h2]

set_option maxHeartbeats 400000 in
theorem l2Far_any (x y : Nat) (w : World) (hx : part x = true) (hy : part y = true) :
    Calls Try.prog 48 #[.float .f32 x, .float .f32 y] w fun e w' => e = .returned (.float .f32 (farF x y)) ∧ w = w' := by
  have H : Hid (farF x y = if FloatKind.f32.format.order x y == some .lt then diffF y x else diffF x y) := rfl
  have H1 := hide (fun w => l1Minus_fin y x w (part_fin hy) (part_fin hx) (diff2_fin_part hy hx))
  have H2 := hide (fun w => l1Minus_fin x y w (part_fin hx) (part_fin hy) (diff2_fin_part hx hy))
  clear hx hy
  cases h : (FloatKind.f32.format.order x y == some .lt)
  · rw [h] at H
    go_enter Try.func48, Try.ntmps48
    go_wp2_with (go_at_call 46; refine (H2.out _).mono ?_; rintro e w' ⟨rfl, rfl⟩)
    go_ret
    exact ⟨by rw [H.out]; simp, rfl⟩
  · rw [h] at H
    go_enter Try.func48, Try.ntmps48
    go_wp2_with (go_at_call 46; refine (H1.out _).mono ?_; rintro e w' ⟨rfl, rfl⟩)
    go_ret
    exact ⟨by rw [H.out]; simp, rfl⟩

set_option maxHeartbeats 2000000 in
theorem sFar_any (r g b r' g' b' : Nat) (w : World) :
    Calls Try.prog 26 #[.agg #[.float .f32 r, .float .f32 g, .float .f32 b], .agg #[.float .f32 r', .float .f32 g', .float .f32 b']] w fun e w' => e = .returned (.float .f32 (farV (isCol r g b && isCol r' g' b') r g b r' g' b')) ∧ Below w.heap.size w w' := by
  cases hv : isCol r g b
  · have H : Hid (farV (false && isCol r' g' b') r g b r' g' b' = 0) := rfl
    go_enter Try.func26, Try.ntmps26
    go_wp2_with fail
    refine (sIsColour_any _ _ _ _).mono ?_
    rintro e w1 ⟨rfl, hb1⟩
    have bel := Below.trans (((Below.refl w.heap.size w).alloc (Nat.le_refl _) _).alloc (by simp) _) (hb1.mono (by simp; omega))
    clear hb1
    go_wp2_with fail
    go_ret
    exact ⟨by rw [H.out]; simp, bel⟩
  · cases hv' : isCol r' g' b'
    · have H : Hid (farV (true && false) r g b r' g' b' = 0) := rfl
      go_enter Try.func26, Try.ntmps26
      go_wp2_with fail
      have b0 : ((w.alloc (.cells #[.float .f32 r, .float .f32 g, .float .f32 b] 26)).alloc (.cells #[.float .f32 r', .float .f32 g', .float .f32 b'] 26)).cell? ⟨w.heap.size + 1, 0, none⟩ = some (.float .f32 r') := by go_simp
      have b1 : ((w.alloc (.cells #[.float .f32 r, .float .f32 g, .float .f32 b] 26)).alloc (.cells #[.float .f32 r', .float .f32 g', .float .f32 b'] 26)).cell? ⟨w.heap.size + 1, 1, none⟩ = some (.float .f32 g') := by go_simp
      have b2 : ((w.alloc (.cells #[.float .f32 r, .float .f32 g, .float .f32 b] 26)).alloc (.cells #[.float .f32 r', .float .f32 g', .float .f32 b'] 26)).cell? ⟨w.heap.size + 1, 2, none⟩ = some (.float .f32 b') := by go_simp
      have bel : Below w.heap.size w ((w.alloc (.cells #[.float .f32 r, .float .f32 g, .float .f32 b] 26)).alloc (.cells #[.float .f32 r', .float .f32 g', .float .f32 b'] 26)) := (by repeat (first | exact Below.refl _ _ | assumption | refine Below.drew ?_ | refine Below.setCell ?_ (by first | (dsimp only; omega) | (simp; omega) | simp) _ | refine Below.alloc ?_ (by first | omega | (simp; omega) | simp) _))
      generalize (w.alloc (.cells #[.float .f32 r, .float .f32 g, .float .f32 b] 26)).alloc (.cells #[.float .f32 r', .float .f32 g', .float .f32 b'] 26) = wA at b0 b1 b2 bel ⊢
      have hswA := bel.size
      refine (sIsColour_any _ _ _ _).mono ?_
      rintro e w1 ⟨rfl, hb1⟩
      have b0 := keepc hb1 b0
      have b1 := keepc hb1 b1
      have b2 := keepc hb1 b2
      have bel := belowOf bel hb1
      clear hb1
      go_wp2_with fail
      refine (sIsColour_any _ _ _ _).mono ?_
      rintro e w2 ⟨rfl, hb2⟩
      have bel := belowOf bel hb2
      clear hb2
      go_wp2_with fail
      go_ret
      exact ⟨by rw [H.out]; simp, bel⟩
    · have H : Hid (farV (true && true) r g b r' g' b' = grF (farF r r') (farF g g') (farF b b')) := rfl
      obtain ⟨pr, pg, pb⟩ := isCol_parts hv
      obtain ⟨pr', pg', pb'⟩ := isCol_parts hv'
      have H1 := hide (fun w => l2Far_any r r' w pr pr')
      have H2 := hide (fun w => l2Far_any g g' w pg pg')
      have H3 := hide (fun w => l2Far_any b b' w pb pb')
      have hM := fun w ts t => run_max3 (P := Try.prog) w ts t (far_small pr pr') (far_small pg pg') (far_small pb pb')
      clear pr pg pb pr' pg' pb'
      go_enter Try.func26, Try.ntmps26
      go_wp2_with fail
      have a0 : ((w.alloc (.cells #[.float .f32 r, .float .f32 g, .float .f32 b] 26)).alloc (.cells #[.float .f32 r', .float .f32 g', .float .f32 b'] 26)).cell? ⟨w.heap.size, 0, none⟩ = some (.float .f32 r) := by go_simp
      have a1 : ((w.alloc (.cells #[.float .f32 r, .float .f32 g, .float .f32 b] 26)).alloc (.cells #[.float .f32 r', .float .f32 g', .float .f32 b'] 26)).cell? ⟨w.heap.size, 1, none⟩ = some (.float .f32 g) := by go_simp
      have a2 : ((w.alloc (.cells #[.float .f32 r, .float .f32 g, .float .f32 b] 26)).alloc (.cells #[.float .f32 r', .float .f32 g', .float .f32 b'] 26)).cell? ⟨w.heap.size, 2, none⟩ = some (.float .f32 b) := by go_simp
      have b0 : ((w.alloc (.cells #[.float .f32 r, .float .f32 g, .float .f32 b] 26)).alloc (.cells #[.float .f32 r', .float .f32 g', .float .f32 b'] 26)).cell? ⟨w.heap.size + 1, 0, none⟩ = some (.float .f32 r') := by go_simp
      have b1 : ((w.alloc (.cells #[.float .f32 r, .float .f32 g, .float .f32 b] 26)).alloc (.cells #[.float .f32 r', .float .f32 g', .float .f32 b'] 26)).cell? ⟨w.heap.size + 1, 1, none⟩ = some (.float .f32 g') := by go_simp
      have b2 : ((w.alloc (.cells #[.float .f32 r, .float .f32 g, .float .f32 b] 26)).alloc (.cells #[.float .f32 r', .float .f32 g', .float .f32 b'] 26)).cell? ⟨w.heap.size + 1, 2, none⟩ = some (.float .f32 b') := by go_simp
      have bel : Below w.heap.size w ((w.alloc (.cells #[.float .f32 r, .float .f32 g, .float .f32 b] 26)).alloc (.cells #[.float .f32 r', .float .f32 g', .float .f32 b'] 26)) := (by repeat (first | exact Below.refl _ _ | assumption | refine Below.drew ?_ | refine Below.setCell ?_ (by first | (dsimp only; omega) | (simp; omega) | simp) _ | refine Below.alloc ?_ (by first | omega | (simp; omega) | simp) _))
      generalize (w.alloc (.cells #[.float .f32 r, .float .f32 g, .float .f32 b] 26)).alloc (.cells #[.float .f32 r', .float .f32 g', .float .f32 b'] 26) = wA at a0 a1 a2 b0 b1 b2 bel ⊢
      have hswA := bel.size
      refine (sIsColour_any _ _ _ _).mono ?_
      rintro e w1 ⟨rfl, hb1⟩
      have a0 := keepc hb1 a0
      have a1 := keepc hb1 a1
      have a2 := keepc hb1 a2
      have b0 := keepc hb1 b0
      have b1 := keepc hb1 b1
      have b2 := keepc hb1 b2
      have bel := belowOf bel hb1
      go_wp2_with fail
      refine (sIsColour_any _ _ _ _).mono ?_
      rintro e w2 ⟨rfl, hb2⟩
      have a0 := keepc hb2 a0
      have a1 := keepc hb2 a1
      have a2 := keepc hb2 a2
      have b0 := keepc hb2 b0
      have b1 := keepc hb2 b1
      have b2 := keepc hb2 b2
      have bel := belowOf bel hb2
      clear hb1 hb2
      go_wp2_with fail
      go_region_held3 (fun w' => w'.cell? ⟨w.heap.size, 0, none⟩ = some (.float .f32 r) ∧ w'.cell? ⟨w.heap.size, 1, none⟩ = some (.float .f32 g) ∧ w'.cell? ⟨w.heap.size, 2, none⟩ = some (.float .f32 b) ∧ w'.cell? ⟨w.heap.size + 1, 0, none⟩ = some (.float .f32 r') ∧ w'.cell? ⟨w.heap.size + 1, 1, none⟩ = some (.float .f32 g') ∧ w'.cell? ⟨w.heap.size + 1, 2, none⟩ = some (.float .f32 b'))
        (first | exact ⟨a0, a1, a2, b0, b1, b2⟩ | (refine ⟨?_, ?_, ?_, ?_, ?_, ?_⟩ <;> (go_simp; done)))
        (first | (go_at_call 48; (first | (with_reducible refine (H1.out _).mono ?_) | (with_reducible refine (H2.out _).mono ?_) | (with_reducible refine (H3.out _).mono ?_)); rintro e w' ⟨rfl, rfl⟩))
      go_wp2_with fail
      go_ret
      exact ⟨by rw [H.out]; simp, (by repeat (first | exact Below.refl _ _ | assumption | refine Below.drew ?_ | refine Below.setCell ?_ (by first | (dsimp only; omega) | (simp; omega) | simp) _ | refine Below.alloc ?_ (by first | omega | (simp; omega) | simp) _))⟩

end Go.Proofs.Ytenpbnojabhlkaa
