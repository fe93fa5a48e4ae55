/- The law FnFar: the distance of two colours is the same from both, from 0 to 1, and 0 exactly for the same ones. No condition. -/
import Derived.Test.YtenpbnojabhlkaaFarP
import Derived.Test.YtenpbnojabhlkaaDrawC
import Derived.Test.YtenpbnojabhlkaaBig
namespace Go.Proofs.Ytenpbnojabhlkaa
open Go.RowKit
open Fl

theorem eqFloatIn (d : Nat) (a b : Nat) (w : World) : (Op.equalIn (d + 1) 22 (.float .f32 a) (.float .f32 b)).run Try.prog w = .ok (FloatKind.f32.format.order a b == some .eq) w := by
  simp [Op.equalIn, run_underlying Try.underlying22]
  rfl

/-- '==' of two colours. -/
def eqC (r g b r' g' b' : Nat) : Bool := FloatKind.f32.format.order r r' == some .eq && FloatKind.f32.format.order g g' == some .eq && FloatKind.f32.format.order b b' == some .eq

@[go_sem high] theorem eqColOp (r g b r' g' b' : Nat) (w : World) : (Op.equalIn 10000 26 (.agg #[.float .f32 r, .float .f32 g, .float .f32 b]) (.agg #[.float .f32 r', .float .f32 g', .float .f32 b'])).run Try.prog w = .ok (eqC r g b r' g' b') w := by
  unfold eqC
  have u3 := Try.underlying22
  have a3 := Try.isAgg22
  have z3 := Try.sizeOf22
  have hS : Try.prog.underlying 26 = some (.struct (Try.prog.fieldsOf 26)) := by kernel_rfl
  rw [show (10000 : Nat) = 9999 + 1 from rfl, run_equalIn_agg w 9999 26 _ _ hS (by kernel_rfl)]
  simp only [Program.fieldsOf, Try.underlying26]
  have q := eqFloatIn 9998
  go_simp
  by_cases h1 : FloatKind.f32.format.order r r' = some .eq <;> by_cases h2 : FloatKind.f32.format.order g g' = some .eq <;> by_cases h3 : FloatKind.f32.format.order b b' = some .eq <;> simp [h1, h2, h3]

/-- The comparisons of a part with 0, with 1 and with itself. -/
theorem part_orders {d : Nat} (h : part d = true) {q : Bool} (hq : (FloatKind.f32.format.order d 0 == some .eq) = q) :
    FloatKind.f32.format.order d 0 = some (if q then .eq else .gt) ∧ (FloatKind.f32.format.order d 1065353216 = some .lt ∨ FloatKind.f32.format.order d 1065353216 = some .eq) ∧ FloatKind.f32.format.order d d = some .eq := by
  obtain ⟨h1, h2⟩ := part_range h
  have h3 := part_self h
  simp only [Bool.or_eq_true, beq_iff_eq] at h1 h2 h3
  refine ⟨?_, h2, h3⟩
  cases q
  · rcases h1 with h1 | h1
    · exact h1
    · rw [h1] at hq; cases hq
  · simpa using hq

set_option maxHeartbeats 1000000 in
theorem FnFar_walk (a : Option Addr) (len cap : Nat) (z : List Int) (w : World) (hz : IsRow .u8 w a len cap z) :
    Calls Try.prog 9 #[.slice a len cap] w fun e w' => e = .returned (.bool true) ∧ Below w.heap.size w w' := by
  have hcode := isCode_of_row hz
  obtain ⟨hm, _⟩ := hcode
  have HC := hide (isCode_of_row hz)
  clear hz
  by_cases hb : 4096 < len
  · go_enter Try.func9, Try.ntmps9
    go_wp2_with fail
    refine (big_any _ _ _ _).mono ?_
    rintro e w' ⟨rfl, rfl⟩
    go_wp2_with fail
    go_ret
    exact ⟨rfl, Below.refl _ _⟩
  · go_enter Try.func9, Try.ntmps9
    go_wp2_with fail
    refine (big_any _ _ _ _).mono ?_
    rintro e w' ⟨rfl, rfl⟩
    go_wp2_with fail
    refine (drawColours_any _ _ _ _ HC.out).mono ?_
    rintro e w1 ⟨r, g, b, r', g', b', k, rfl, hv, hv', hk, hb1⟩
    clear hk
    have hs1 := hb1.size
    obtain ⟨e1, e2, e3⟩ := far_law hv hv'
    have f1 := fun w => far_any r g b r' g' b' w
    have f2 := fun w => far_any r' g' b' r g b w
    rw [← e1] at f2
    generalize farV (isCol r g b && isCol r' g' b') r g b r' g' b' = d at e1 e2 e3 f1 f2
    clear e1 hv hv'
    have e7 : (FloatKind.f32.format.order d 0 == some .eq) = eqC r g b r' g' b' := e3
    have E := hide (part_orders e2 e7)
    have F1 := hide f1
    have F2 := hide f2
    clear f1 f2 e2 e3 e7
    go_wp2_with fail
    have a0 : (((w1.alloc (.cells #[.float .f32 r, .float .f32 g, .float .f32 b] 26)).alloc (.cells #[.float .f32 r', .float .f32 g', .float .f32 b'] 26))).cell? ⟨w1.heap.size, 0, none⟩ = some (.float .f32 r) := by go_simp
    have a1 : (((w1.alloc (.cells #[.float .f32 r, .float .f32 g, .float .f32 b] 26)).alloc (.cells #[.float .f32 r', .float .f32 g', .float .f32 b'] 26))).cell? ⟨w1.heap.size, 1, none⟩ = some (.float .f32 g) := by go_simp
    have a2 : (((w1.alloc (.cells #[.float .f32 r, .float .f32 g, .float .f32 b] 26)).alloc (.cells #[.float .f32 r', .float .f32 g', .float .f32 b'] 26))).cell? ⟨w1.heap.size, 2, none⟩ = some (.float .f32 b) := by go_simp
    have b0 : (((w1.alloc (.cells #[.float .f32 r, .float .f32 g, .float .f32 b] 26)).alloc (.cells #[.float .f32 r', .float .f32 g', .float .f32 b'] 26))).cell? ⟨w1.heap.size + 1, 0, none⟩ = some (.float .f32 r') := by go_simp
    have b1 : (((w1.alloc (.cells #[.float .f32 r, .float .f32 g, .float .f32 b] 26)).alloc (.cells #[.float .f32 r', .float .f32 g', .float .f32 b'] 26))).cell? ⟨w1.heap.size + 1, 1, none⟩ = some (.float .f32 g') := by go_simp
    have b2 : (((w1.alloc (.cells #[.float .f32 r, .float .f32 g, .float .f32 b] 26)).alloc (.cells #[.float .f32 r', .float .f32 g', .float .f32 b'] 26))).cell? ⟨w1.heap.size + 1, 2, none⟩ = some (.float .f32 b') := by go_simp
    have bel : Below w.heap.size w (((w1.alloc (.cells #[.float .f32 r, .float .f32 g, .float .f32 b] 26)).alloc (.cells #[.float .f32 r', .float .f32 g', .float .f32 b'] 26))) := (by repeat (first | exact Below.refl _ _ | assumption | refine Below.drew ?_ | refine Below.setCell ?_ (by first | (dsimp only; omega) | (simp; omega) | simp) _ | refine Below.alloc ?_ (by first | omega | (simp; omega) | simp) _))
    generalize ((w1.alloc (.cells #[.float .f32 r, .float .f32 g, .float .f32 b] 26)).alloc (.cells #[.float .f32 r', .float .f32 g', .float .f32 b'] 26)) = wA at a0 a1 a2 b0 b1 b2 bel ⊢
    have hswA := bel.size
    refine (F1.out _).mono ?_
    rintro e w2 ⟨rfl, hb2⟩
    have a0 := keepc hb2 a0
    have a1 := keepc hb2 a1
    have a2 := keepc hb2 a2
    have b0 := keepc hb2 b0
    have b1 := keepc hb2 b1
    have b2 := keepc hb2 b2
    have bel := belowOf bel hb2
    have hs2 := bel.size
    clear hb2
    cases hq : eqC r g b r' g' b'
    all_goals
      obtain ⟨h0, h1, h2⟩ := E.out
      rw [hq] at h0
      simp only [Bool.false_eq_true, if_false, if_true] at h0
      rcases h1 with h1 | h1
    all_goals
      go_wp2_with fail
      refine (F2.out _).mono ?_
      rintro e w3 ⟨rfl, hb3⟩
      have a0 := keepc hb3 a0
      have a1 := keepc hb3 a1
      have a2 := keepc hb3 a2
      have b0 := keepc hb3 b0
      have b1 := keepc hb3 b1
      have b2 := keepc hb3 b2
      go_wp2_with fail
      go_ret
      exact ⟨rfl, belowOf bel hb3⟩

open Go.ChangeShapes Go.WideShapes Go.ChangeAt Go.Joins
open Go.ChangeMaps (open_string shut_string)

set_option maxRecDepth 100000 in
theorem fnFar_lifted (os : Os) (started : os.Started) (H : Type) (enc : TypeId × Value → H) :
    ReturnsInHanded {} Try.checked os 9 .any (Rows.fnFarSpec.pre6 enc Try.prog Try.f9 Rows.fnFarRow.domain false) (Rows.fnFarSpec.post enc Try.prog Try.f9 false true false false) := by
  refine returnsInHanded_of_change (C := Try.checked) Try.own started (by kernel_rfl) Try.func9
    (ChangeSpec.witness6 (enc := enc) (C := Try.checked) false ⟨#[], #[.slice none 0 0], []⟩ 8 (by kernel_rfl) (by kernel_rfl) (by kernel_rfl) (by kernel_rfl)) ?_
  intro W base args ds gs before hval0 hW _ _
  have hval : ∀ (j : Nat) t v, Try.f9.params[j]? = some t → args[j]? = some v → Value.okWide Try.prog W .any base t v := hval0
  have hW' := hW
  obtain ⟨p, q, hA0, hV, rfl, _, _⟩ := hW
  have hA : DataW.TrodAll enc Try.prog W 0 (fun _ => true) true Try.f9.params.toList args.toList ds p := hA0
  rw [Try.params9] at hA hval
  obtain ⟨v0, vs0, d0, ds0, p0, q0, hargs, rfl, rfl, h0, r0⟩ := trodAll_cons hA
  obtain ⟨rfl, rfl, rfl⟩ := trodAll_nil r0
  obtain rfl : args = #[v0] := by cases args; simp_all
  obtain ⟨rfl, rfl⟩ := trodVars_none hV
  have k0 := h0
  have lt0 : ∀ x ∈ p0, x.block < W.heap.size := by obtain ⟨m, hm⟩ := k0; exact DataW.trod_lt m _ _ _ hm
  obtain ⟨a0, len0, cap0, rfl⟩ := okWide_slice Try.underlying40 (hval 0 40 v0 rfl rfl)
  obtain ⟨z0, w0⟩ : ∃ zs, IsRow .u8 W a0 len0 cap0 zs := by
    obtain ⟨fuel, hf⟩ := h0
    rcases open_ints Try.underlying40 Try.underlying5 (by kernel_rfl) hf with ⟨hcs, _⟩ | ⟨x, l, c, zs, hcs, _, hl, hm, hz, _, hcell, hwz⟩
    · simp [Value.cells] at hcs
      obtain ⟨rfl, rfl, rfl⟩ := hcs
      exact ⟨[], .inl ⟨rfl, rfl, rfl, rfl⟩⟩
    · simp [Value.cells] at hcs
      obtain ⟨rfl, rfl, rfl⟩ := hcs
      exact ⟨zs, .inr ⟨_, rfl, hl, hm, by simpa using hz, hcell, hwz⟩⟩
  clear hA0 hval0
  refine (FnFar_walk a0 len0 cap0 z0 W w0).mono fun e W' ⟨he, bel⟩ => ?_
  subst he
  exact ⟨_, rfl, _, _, _, [], _, [], hW', trodAll_mk1 (shut_bool Try.underlying4 _), (trodAll_cons_mk (Below.trod Try.laidOut (by kernel_rfl) (of_decide_eq_true (by kernel_rfl)) k0 bel lt0) trodAll_mk0), rfl, bel.frame _, fun h => by cases h⟩

/-- The statement. -/
theorem fnFar_proved : Rows.FnFarSaid :=
  OpenClaim.holds_of_wide 9 Try.f9 rfl rfl rfl rfl rfl rfl rfl ⟨rfl, rfl, rfl, rfl, rfl⟩ rfl rfl rfl rfl rfl (by kernel_rfl) Try.func9 (by kernel_rfl)
    (of_decide_eq_true (by kernel_rfl)) (by unfold Func.isWrapper; rw [if_neg (of_decide_eq_false (by kernel_rfl))]; exact ⟨rfl, rfl⟩)
    (fun os started H enc _ => fnFar_lifted os started H enc)
#print axioms fnFar_proved

end Go.Proofs.Ytenpbnojabhlkaa
