/- The law FnInverted: an inverse turns the order of parts round; black's inverse is as bright as can be; a colour is not far from itself. No condition. -/
import Derived.Test.YtenpbnojabhlkaaInvP
import Derived.Test.YtenpbnojabhlkaaDrawC
import Derived.Test.YtenpbnojabhlkaaBig
import Derived.Test.YtenpbnojabhlkaaFmtC
namespace Go.Proofs.Ytenpbnojabhlkaa
open Go.RowKit
open Fl

theorem inverse_y (r g b : Nat) (w : World) (h : isCol r g b = true) :
    Calls Try.prog 25 #[.agg #[.float .f32 r, .float .f32 g, .float .f32 b]] w fun e w' => e = .returned (.agg #[.float .f32 (diffF one r), .float .f32 (diffF one g), .float .f32 (diffF one b)]) ∧ Below w.heap.size w w' := by
  have k := inverse_any r g b w
  rw [h] at k
  exact k

theorem inverse_black (w : World) :
    Calls Try.prog 25 #[.agg #[.float .f32 0, .float .f32 0, .float .f32 0]] w fun e w' => e = .returned (.agg #[.float .f32 one, .float .f32 one, .float .f32 one]) ∧ Below w.heap.size w w' := by
  have k := inverse_any 0 0 0 w
  rw [inv_black] at k
  exact k

theorem bright_one (w : World) :
    Calls Try.prog 34 #[.agg #[.float .f32 one, .float .f32 one, .float .f32 one]] w fun e w' => e = .returned (.float .f32 one) ∧ Below w.heap.size w w' := by
  have k := bright_any one one one w
  rw [bright_white] at k
  exact k

theorem one_one : FloatKind.f32.format.order 1065353216 1065353216 = some .eq := by decide

set_option maxHeartbeats 2000000 in
theorem FnInverted_walk (a : Option Addr) (len cap : Nat) (z : List Int) (w : World) (hz : IsRow .u8 w a len cap z) :
    Calls Try.prog 12 #[.slice a len cap] w fun e w' => e = .returned (.bool true) ∧ Below w.heap.size w w' := by
  have HC := hide (isCode_of_row hz)
  have hm := (isCode_of_row hz).1
  clear hz
  by_cases hb : 4096 < len
  · go_enter Try.func12, Try.ntmps12
    go_wp2_with fail
    refine (big_any _ _ _ _).mono ?_
    rintro e w' ⟨rfl, rfl⟩
    go_wp2_with fail
    go_ret
    exact ⟨rfl, Below.refl _ _⟩
  · go_enter Try.func12, Try.ntmps12
    go_wp2_with fail
    refine (big_any _ _ _ _).mono ?_
    rintro e w' ⟨rfl, rfl⟩
    go_wp2_with fail
    refine (drawColours_any _ _ _ _ HC.out).mono ?_
    rintro e w1 ⟨r, g, b, r', g', b', k, rfl, hv, hv', hk, hb1⟩
    clear hk
    have hs1 := hb1.size
    obtain ⟨pr, pg, pb⟩ := isCol_parts hv
    obtain ⟨pr', pg', pb'⟩ := isCol_parts hv'
    have hI1 := fun w => inverse_y r g b w hv
    have hI2 := fun w => inverse_y r' g' b' w hv'
    have l1 := inv_law pr pr'
    have l2 := inv_law pg pg'
    have l3 := inv_law pb pb'
    have hx := isCol_inv hv
    have hF := fun w => far_any r g b r g b w
    have hs := far_self hv
    generalize farV (isCol r g b && isCol r g b) r g b r g b = d at hF hs
    generalize diffF one r = xr at hI1 l1 hx
    generalize diffF one g = xg at hI1 l2 hx
    generalize diffF one b = xb at hI1 l3 hx
    generalize diffF one r' = yr at hI2 l1
    generalize diffF one g' = yg at hI2 l2
    generalize diffF one b' = yb at hI2 l3
    clear hv hv' pr pg pb pr' pg' pb'
    have HI1 := hide hI1
    have HI2 := hide hI2
    have L1 := hide l1
    have L2 := hide l2
    have L3 := hide l3
    have HX := hide hx
    have HF := hide hF
    have HS := hide hs
    clear hI1 hI2 l1 l2 l3 hx hF hs
    go_wp2_with fail
    have a0 : (((w1.alloc (.cells #[.float .f32 r, .float .f32 g, .float .f32 b] 26)).alloc (.cells #[.float .f32 r', .float .f32 g', .float .f32 b'] 26))).cell? ⟨w1.heap.size, 0, none⟩ = some (.float .f32 r) := by go_simp
    have a1 : (((w1.alloc (.cells #[.float .f32 r, .float .f32 g, .float .f32 b] 26)).alloc (.cells #[.float .f32 r', .float .f32 g', .float .f32 b'] 26))).cell? ⟨w1.heap.size, 1, none⟩ = some (.float .f32 g) := by go_simp
    have a2 : (((w1.alloc (.cells #[.float .f32 r, .float .f32 g, .float .f32 b] 26)).alloc (.cells #[.float .f32 r', .float .f32 g', .float .f32 b'] 26))).cell? ⟨w1.heap.size, 2, none⟩ = some (.float .f32 b) := by go_simp
    have b0 : (((w1.alloc (.cells #[.float .f32 r, .float .f32 g, .float .f32 b] 26)).alloc (.cells #[.float .f32 r', .float .f32 g', .float .f32 b'] 26))).cell? ⟨w1.heap.size + 1, 0, none⟩ = some (.float .f32 r') := by go_simp
    have b1 : (((w1.alloc (.cells #[.float .f32 r, .float .f32 g, .float .f32 b] 26)).alloc (.cells #[.float .f32 r', .float .f32 g', .float .f32 b'] 26))).cell? ⟨w1.heap.size + 1, 1, none⟩ = some (.float .f32 g') := by go_simp
    have b2 : (((w1.alloc (.cells #[.float .f32 r, .float .f32 g, .float .f32 b] 26)).alloc (.cells #[.float .f32 r', .float .f32 g', .float .f32 b'] 26))).cell? ⟨w1.heap.size + 1, 2, none⟩ = some (.float .f32 b') := by go_simp
    have bel : Below w.heap.size w (((w1.alloc (.cells #[.float .f32 r, .float .f32 g, .float .f32 b] 26)).alloc (.cells #[.float .f32 r', .float .f32 g', .float .f32 b'] 26))) := (by repeat (first | exact Below.refl _ _ | assumption | refine Below.drew ?_ | refine Below.setCell ?_ (by first | (dsimp only; omega) | (simp; omega) | simp) _ | refine Below.alloc ?_ (by first | omega | (simp; omega) | simp) _))
    generalize ((w1.alloc (.cells #[.float .f32 r, .float .f32 g, .float .f32 b] 26)).alloc (.cells #[.float .f32 r', .float .f32 g', .float .f32 b'] 26)) = wA at a0 a1 a2 b0 b1 b2 bel ⊢
    have hswA := bel.size
    refine (HI1.out _).mono ?_
    rintro e w2 ⟨rfl, hb2⟩
    have a0 := keepc hb2 a0
    have a1 := keepc hb2 a1
    have a2 := keepc hb2 a2
    have b0 := keepc hb2 b0
    have b1 := keepc hb2 b1
    have b2 := keepc hb2 b2
    have bel := belowOf bel hb2
    have hs2 := bel.size
    have hlt2 : w1.heap.size + 1 < w2.heap.size := World.block_lt_of_cell? w2 _ b0
    clear hb2
    go_wp2_with fail
    have nb : Below w2.heap.size w2 (w2.alloc (.cells #[.float .f32 xr, .float .f32 xg, .float .f32 xb] 26)) := (Below.refl _ _).alloc (Nat.le_refl _) _
    have a0 := keepc nb a0
    have a1 := keepc nb a1
    have a2 := keepc nb a2
    have b0 := keepc nb b0
    have b1 := keepc nb b1
    have b2 := keepc nb b2
    have bel := belowOf bel nb
    have x0 : (w2.alloc (.cells #[.float .f32 xr, .float .f32 xg, .float .f32 xb] 26)).cell? ⟨w2.heap.size, 0, none⟩ = some (.float .f32 xr) := by go_simp
    have x1 : (w2.alloc (.cells #[.float .f32 xr, .float .f32 xg, .float .f32 xb] 26)).cell? ⟨w2.heap.size, 1, none⟩ = some (.float .f32 xg) := by go_simp
    have x2 : (w2.alloc (.cells #[.float .f32 xr, .float .f32 xg, .float .f32 xb] 26)).cell? ⟨w2.heap.size, 2, none⟩ = some (.float .f32 xb) := by go_simp
    clear nb
    generalize w2.alloc (.cells #[.float .f32 xr, .float .f32 xg, .float .f32 xb] 26) = wB at a0 a1 a2 b0 b1 b2 bel x0 x1 x2 ⊢
    refine (HI2.out _).mono ?_
    rintro e w3 ⟨rfl, hb3⟩
    have a0 := keepc hb3 a0
    have a1 := keepc hb3 a1
    have a2 := keepc hb3 a2
    have b0 := keepc hb3 b0
    have b1 := keepc hb3 b1
    have b2 := keepc hb3 b2
    have x0 := keepc hb3 x0
    have x1 := keepc hb3 x1
    have x2 := keepc hb3 x2
    have bel := belowOf bel hb3
    have hs3 := bel.size
    have hlt3 : w1.heap.size + 1 < w3.heap.size := World.block_lt_of_cell? w3 _ b0
    have hlt3x : w2.heap.size < w3.heap.size := World.block_lt_of_cell? w3 _ x0
    clear hb3
    go_wp2_with fail
    have nb : Below w3.heap.size w3 (w3.alloc (.cells #[.float .f32 yr, .float .f32 yg, .float .f32 yb] 26)) := (Below.refl _ _).alloc (Nat.le_refl _) _
    have a0 := keepc nb a0
    have a1 := keepc nb a1
    have a2 := keepc nb a2
    have b0 := keepc nb b0
    have b1 := keepc nb b1
    have b2 := keepc nb b2
    have x0 := keepc nb x0
    have x1 := keepc nb x1
    have x2 := keepc nb x2
    have bel := belowOf bel nb
    have y0 : (w3.alloc (.cells #[.float .f32 yr, .float .f32 yg, .float .f32 yb] 26)).cell? ⟨w3.heap.size, 0, none⟩ = some (.float .f32 yr) := by go_simp
    have y1 : (w3.alloc (.cells #[.float .f32 yr, .float .f32 yg, .float .f32 yb] 26)).cell? ⟨w3.heap.size, 1, none⟩ = some (.float .f32 yg) := by go_simp
    have y2 : (w3.alloc (.cells #[.float .f32 yr, .float .f32 yg, .float .f32 yb] 26)).cell? ⟨w3.heap.size, 2, none⟩ = some (.float .f32 yb) := by go_simp
    clear nb
    generalize w3.alloc (.cells #[.float .f32 yr, .float .f32 yg, .float .f32 yb] 26) = wC at a0 a1 a2 b0 b1 b2 bel x0 x1 x2 y0 y1 y2 ⊢
    refine (isColourW _ _ _ _ HX.out).mono ?_
    rintro e w4 ⟨rfl, hb4⟩
    have a0 := keepc hb4 a0
    have a1 := keepc hb4 a1
    have a2 := keepc hb4 a2
    have b0 := keepc hb4 b0
    have b1 := keepc hb4 b1
    have b2 := keepc hb4 b2
    have x0 := keepc hb4 x0
    have x1 := keepc hb4 x1
    have x2 := keepc hb4 x2
    have y0 := keepc hb4 y0
    have y1 := keepc hb4 y1
    have y2 := keepc hb4 y2
    have bel := belowOf bel hb4
    clear hb4
    have o1 := one_one
    rcases L1.out with q1 | ⟨q1, r1⟩ <;> rcases L2.out with q2 | ⟨q2, r2⟩ <;> rcases L3.out with q3 | ⟨q3, r3⟩
    all_goals
      go_wp2_with fail
      refine (inverse_black _).mono ?_
      rintro e w5 ⟨rfl, hb5⟩
      have a0 := keepc hb5 a0
      have a1 := keepc hb5 a1
      have a2 := keepc hb5 a2
      have bel := belowOf bel hb5
      clear hb5
      go_wp2_with fail
      refine (bright_one _).mono ?_
      rintro e w6 ⟨rfl, hb6⟩
      have a0 := keepc hb6 a0
      have a1 := keepc hb6 a1
      have a2 := keepc hb6 a2
      have bel := belowOf bel hb6
      clear hb6
      go_wp2_with fail
      refine (HF.out _).mono ?_
      rintro e w7 ⟨rfl, hb7⟩
      have bel := belowOf bel hb7
      have hs := HS.out
      clear hb7
      go_wp2_with fail
      go_ret
      exact ⟨rfl, bel⟩

open Go.ChangeShapes Go.WideShapes Go.ChangeAt Go.Joins
open Go.ChangeMaps (open_string shut_string)

set_option maxRecDepth 100000 in
theorem fnInverted_lifted (os : Os) (started : os.Started) (H : Type) (enc : TypeId × Value → H) :
    ReturnsInHanded {} Try.checked os 12 .any (Rows.fnInvertedSpec.pre6 enc Try.prog Try.f12 Rows.fnInvertedRow.domain false) (Rows.fnInvertedSpec.post enc Try.prog Try.f12 false true false false) := by
  refine returnsInHanded_of_change (C := Try.checked) Try.own started (by kernel_rfl) Try.func12
    (ChangeSpec.witness6 (enc := enc) (C := Try.checked) false ⟨#[], #[.slice none 0 0], []⟩ 8 (by kernel_rfl) (by kernel_rfl) (by kernel_rfl) (by kernel_rfl)) ?_
  intro W base args ds gs before hval0 hW _ _
  have hval : ∀ (j : Nat) t v, Try.f12.params[j]? = some t → args[j]? = some v → Value.okWide Try.prog W .any base t v := hval0
  have hW' := hW
  obtain ⟨p, q, hA0, hV, rfl, _, _⟩ := hW
  have hA : DataW.TrodAll enc Try.prog W 0 (fun _ => true) true Try.f12.params.toList args.toList ds p := hA0
  rw [Try.params12] at hA hval
  obtain ⟨v0, vs0, d0, ds0, p0, q0, hargs, rfl, rfl, h0, r0⟩ := trodAll_cons hA
  obtain ⟨rfl, rfl, rfl⟩ := trodAll_nil r0
  obtain rfl : args = #[v0] := by cases args; simp_all
  obtain ⟨rfl, rfl⟩ := trodVars_none hV
  have k0 := h0
  have lt0 : ∀ x ∈ p0, x.block < W.heap.size := by obtain ⟨m, hm⟩ := k0; exact DataW.trod_lt m _ _ _ hm
  obtain ⟨a0, len0, cap0, rfl⟩ := okWide_slice Try.underlying40 (hval 0 40 v0 rfl rfl)
  obtain ⟨z0, w0⟩ : ∃ zs, IsRow .u8 W a0 len0 cap0 zs := by
    obtain ⟨fuel, hf⟩ := h0
    rcases open_ints Try.underlying40 Try.underlying5 (by kernel_rfl) hf with ⟨hcs, _⟩ | ⟨x, l, c, zs, hcs, _, hl, hm, hz, _, hcell, hwz⟩
    · simp [Value.cells] at hcs
      obtain ⟨rfl, rfl, rfl⟩ := hcs
      exact ⟨[], .inl ⟨rfl, rfl, rfl, rfl⟩⟩
    · simp [Value.cells] at hcs
      obtain ⟨rfl, rfl, rfl⟩ := hcs
      exact ⟨zs, .inr ⟨_, rfl, hl, hm, by simpa using hz, hcell, hwz⟩⟩
  clear hA0 hval0
  refine (FnInverted_walk a0 len0 cap0 z0 W w0).mono fun e W' ⟨he, bel⟩ => ?_
  subst he
  exact ⟨_, rfl, _, _, _, [], _, [], hW', trodAll_mk1 (shut_bool Try.underlying4 _), (trodAll_cons_mk (Below.trod Try.laidOut (by kernel_rfl) (of_decide_eq_true (by kernel_rfl)) k0 bel lt0) trodAll_mk0), rfl, bel.frame _, fun h => by cases h⟩

/-- The statement. -/
theorem fnInverted_proved : Rows.FnInvertedSaid :=
  OpenClaim.holds_of_wide 12 Try.f12 rfl rfl rfl rfl rfl rfl rfl ⟨rfl, rfl, rfl, rfl, rfl⟩ rfl rfl rfl rfl rfl (by kernel_rfl) Try.func12 (by kernel_rfl)
    (of_decide_eq_true (by kernel_rfl)) (by unfold Func.isWrapper; rw [if_neg (of_decide_eq_false (by kernel_rfl))]; exact ⟨rfl, rfl⟩)
    (fun os started H enc _ => fnInverted_lifted os started H enc)
#print axioms fnInverted_proved

end Go.Proofs.Ytenpbnojabhlkaa
