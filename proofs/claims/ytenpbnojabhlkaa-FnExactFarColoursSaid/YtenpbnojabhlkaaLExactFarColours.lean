/- The law FnExactFarColours: for all colours the program's FarColours returns what the reference's returns. No condition. -/
import Derived.Test.YtenpbnojabhlkaaFarS
import Derived.Test.YtenpbnojabhlkaaEqCol
import Derived.Deep.CutRange
namespace Go.Proofs.Ytenpbnojabhlkaa
open Go.RowKit
open Fl

theorem fin_farV {r g b r' g' b' : Nat} : fin (farV (isCol r g b && isCol r' g' b') r g b r' g' b') := by
  cases h : isCol r g b
  · exact fin_zero
  · cases h' : isCol r' g' b'
    · exact fin_zero
    · obtain ⟨a1, a2, a3⟩ := isCol_parts h
      obtain ⟨b1, b2, b3⟩ := isCol_parts h'
      exact part_fin (gr_part (far_part a1 b1).1 (far_part a2 b2).1 (far_part a3 b3).1).1

set_option maxRecDepth 100000 in
set_option maxHeartbeats 2000000 in
theorem FnExactFarColours_walk (r g b r' g' b' : Nat) (w : World) (_ : (Lit.float .f32 r).wf = true) (_ : (Lit.float .f32 g).wf = true) (_ : (Lit.float .f32 b).wf = true) (_ : (Lit.float .f32 r').wf = true) (_ : (Lit.float .f32 g').wf = true) (_ : (Lit.float .f32 b').wf = true) :
    Calls Try.prog 8 #[.agg #[.float .f32 r, .float .f32 g, .float .f32 b], .agg #[.float .f32 r', .float .f32 g', .float .f32 b']] w fun e w' => e = .returned (.bool true) ∧ Below w.heap.size w w' := by
  have hS := fun w => sFar_any r g b r' g' b' w
  have hI := fun w => far_any r g b r' g' b' w
  have hf := fin_farV (r := r) (g := g) (b := b) (r' := r') (g' := g') (b' := b')
  generalize farV (isCol r g b && isCol r' g' b') r g b r' g' b' = d at hS hI hf
  obtain ⟨d64, cd, nd⟩ := to64 hf
  have kd := conv64 cd
  have HS := hide hS
  have HI := hide hI
  have ND := hide nd
  clear hS hI hf cd nd
  go_enter Try.func8, Try.ntmps8
  go_upto_region 1 with fail
  have a0 : ((w.alloc (.cells #[.float .f32 r, .float .f32 g, .float .f32 b] 24)).alloc (.cells #[.float .f32 r', .float .f32 g', .float .f32 b'] 24)).cell? ⟨w.heap.size, 0, none⟩ = some (.float .f32 r) := by go_simp
  have a1 : ((w.alloc (.cells #[.float .f32 r, .float .f32 g, .float .f32 b] 24)).alloc (.cells #[.float .f32 r', .float .f32 g', .float .f32 b'] 24)).cell? ⟨w.heap.size, 1, none⟩ = some (.float .f32 g) := by go_simp
  have a2 : ((w.alloc (.cells #[.float .f32 r, .float .f32 g, .float .f32 b] 24)).alloc (.cells #[.float .f32 r', .float .f32 g', .float .f32 b'] 24)).cell? ⟨w.heap.size, 2, none⟩ = some (.float .f32 b) := by go_simp
  have b0 : ((w.alloc (.cells #[.float .f32 r, .float .f32 g, .float .f32 b] 24)).alloc (.cells #[.float .f32 r', .float .f32 g', .float .f32 b'] 24)).cell? ⟨w.heap.size + 1, 0, none⟩ = some (.float .f32 r') := by go_simp
  have b1 : ((w.alloc (.cells #[.float .f32 r, .float .f32 g, .float .f32 b] 24)).alloc (.cells #[.float .f32 r', .float .f32 g', .float .f32 b'] 24)).cell? ⟨w.heap.size + 1, 1, none⟩ = some (.float .f32 g') := by go_simp
  have b2 : ((w.alloc (.cells #[.float .f32 r, .float .f32 g, .float .f32 b] 24)).alloc (.cells #[.float .f32 r', .float .f32 g', .float .f32 b'] 24)).cell? ⟨w.heap.size + 1, 2, none⟩ = some (.float .f32 b') := by go_simp
  have bel : Below w.heap.size w ((w.alloc (.cells #[.float .f32 r, .float .f32 g, .float .f32 b] 24)).alloc (.cells #[.float .f32 r', .float .f32 g', .float .f32 b'] 24)) := (by repeat (first | exact Below.refl _ _ | assumption | refine Below.drew ?_ | refine Below.setCell ?_ (by first | (dsimp only; omega) | (simp; omega) | simp) _ | refine Below.alloc ?_ (by first | omega | (simp; omega) | simp) _))
  generalize (w.alloc (.cells #[.float .f32 r, .float .f32 g, .float .f32 b] 24)).alloc (.cells #[.float .f32 r', .float .f32 g', .float .f32 b'] 24) = wA at a0 a1 a2 b0 b1 b2 bel ⊢
  have hswA := bel.size
  go_cut [5] from 7 to 11 (fun s5 wx => s5 = .float .f32 d ∧ Below wA.heap.size wA wx)
  case first =>
    go_region_held3 (fun w' => w'.cell? ⟨w.heap.size, 0, none⟩ = some (.float .f32 r) ∧ w'.cell? ⟨w.heap.size, 1, none⟩ = some (.float .f32 g) ∧ w'.cell? ⟨w.heap.size, 2, none⟩ = some (.float .f32 b) ∧ w'.cell? ⟨w.heap.size + 1, 0, none⟩ = some (.float .f32 r') ∧ w'.cell? ⟨w.heap.size + 1, 1, none⟩ = some (.float .f32 g') ∧ w'.cell? ⟨w.heap.size + 1, 2, none⟩ = some (.float .f32 b'))
      (exact ⟨keepc (by repeat (first | exact Below.refl _ _ | assumption | refine Below.drew ?_ | refine Below.setCell ?_ (by first | (dsimp only; omega) | (simp; omega) | simp) _ | refine Below.alloc ?_ (by first | omega | (simp; omega) | simp) _)) a0, keepc (by repeat (first | exact Below.refl _ _ | assumption | refine Below.drew ?_ | refine Below.setCell ?_ (by first | (dsimp only; omega) | (simp; omega) | simp) _ | refine Below.alloc ?_ (by first | omega | (simp; omega) | simp) _)) a1, keepc (by repeat (first | exact Below.refl _ _ | assumption | refine Below.drew ?_ | refine Below.setCell ?_ (by first | (dsimp only; omega) | (simp; omega) | simp) _ | refine Below.alloc ?_ (by first | omega | (simp; omega) | simp) _)) a2, keepc (by repeat (first | exact Below.refl _ _ | assumption | refine Below.drew ?_ | refine Below.setCell ?_ (by first | (dsimp only; omega) | (simp; omega) | simp) _ | refine Below.alloc ?_ (by first | omega | (simp; omega) | simp) _)) b0, keepc (by repeat (first | exact Below.refl _ _ | assumption | refine Below.drew ?_ | refine Below.setCell ?_ (by first | (dsimp only; omega) | (simp; omega) | simp) _ | refine Below.alloc ?_ (by first | omega | (simp; omega) | simp) _)) b1, keepc (by repeat (first | exact Below.refl _ _ | assumption | refine Below.drew ?_ | refine Below.setCell ?_ (by first | (dsimp only; omega) | (simp; omega) | simp) _ | refine Below.alloc ?_ (by first | omega | (simp; omega) | simp) _)) b2⟩)
      (first | (go_at_call 15; refine (toColour_any _ _ _ _).mono ?_; rintro e w1 ⟨rfl, rfl⟩) | (go_at_call 26; refine (HS.out _).mono ?_; rintro e w2 ⟨rfl, hb2⟩; have bw2 : Below wA.heap.size wA w2 := (by refine Below.trans ?_ (hb2.mono ?_); exact (by repeat (first | exact Below.refl _ _ | assumption | refine Below.drew ?_ | refine Below.alloc ?_ (by first | omega | (simp; omega) | simp) _)); first | omega | (simp; done) | (simp; omega))))
    all_goals (go_wp2_with fail; go_meet)
    all_goals exact ⟨rfl, bw2⟩
  case rest =>
    obtain ⟨rfl, bel1⟩ := hcut
    have a0 := keepc bel1 a0
    have a1 := keepc bel1 a1
    have a2 := keepc bel1 a2
    have b0 := keepc bel1 b0
    have b1 := keepc bel1 b1
    have b2 := keepc bel1 b2
    have bel := belowOf bel bel1
    clear bel1
    obtain ⟨wB, rfl⟩ : ∃ wB : World, wB = wc := ⟨_, rfl⟩
    have hsB := bel.size
    go_upto_region 2 with fail
    go_cut [6] from 12 to 16 (fun s6 wx => s6 = .float .f32 d ∧ Below wB.heap.size wB wx)
    case first =>
      go_region_held3 (fun w' => w'.cell? ⟨w.heap.size, 0, none⟩ = some (.float .f32 r) ∧ w'.cell? ⟨w.heap.size, 1, none⟩ = some (.float .f32 g) ∧ w'.cell? ⟨w.heap.size, 2, none⟩ = some (.float .f32 b) ∧ w'.cell? ⟨w.heap.size + 1, 0, none⟩ = some (.float .f32 r') ∧ w'.cell? ⟨w.heap.size + 1, 1, none⟩ = some (.float .f32 g') ∧ w'.cell? ⟨w.heap.size + 1, 2, none⟩ = some (.float .f32 b'))
        (exact ⟨keepc (by repeat (first | exact Below.refl _ _ | assumption | refine Below.drew ?_ | refine Below.setCell ?_ (by first | (dsimp only; omega) | (simp; omega) | simp) _ | refine Below.alloc ?_ (by first | omega | (simp; omega) | simp) _)) a0, keepc (by repeat (first | exact Below.refl _ _ | assumption | refine Below.drew ?_ | refine Below.setCell ?_ (by first | (dsimp only; omega) | (simp; omega) | simp) _ | refine Below.alloc ?_ (by first | omega | (simp; omega) | simp) _)) a1, keepc (by repeat (first | exact Below.refl _ _ | assumption | refine Below.drew ?_ | refine Below.setCell ?_ (by first | (dsimp only; omega) | (simp; omega) | simp) _ | refine Below.alloc ?_ (by first | omega | (simp; omega) | simp) _)) a2, keepc (by repeat (first | exact Below.refl _ _ | assumption | refine Below.drew ?_ | refine Below.setCell ?_ (by first | (dsimp only; omega) | (simp; omega) | simp) _ | refine Below.alloc ?_ (by first | omega | (simp; omega) | simp) _)) b0, keepc (by repeat (first | exact Below.refl _ _ | assumption | refine Below.drew ?_ | refine Below.setCell ?_ (by first | (dsimp only; omega) | (simp; omega) | simp) _ | refine Below.alloc ?_ (by first | omega | (simp; omega) | simp) _)) b1, keepc (by repeat (first | exact Below.refl _ _ | assumption | refine Below.drew ?_ | refine Below.setCell ?_ (by first | (dsimp only; omega) | (simp; omega) | simp) _ | refine Below.alloc ?_ (by first | omega | (simp; omega) | simp) _)) b2⟩)
        (first | (go_at_call 15; refine (toColour_any _ _ _ _).mono ?_; rintro e w1 ⟨rfl, rfl⟩) | (go_at_call 27; refine (HI.out _).mono ?_; rintro e w2 ⟨rfl, hb2⟩; have bw2 : Below wB.heap.size wB w2 := (by refine Below.trans ?_ (hb2.mono ?_); exact (by repeat (first | exact Below.refl _ _ | assumption | refine Below.drew ?_ | refine Below.alloc ?_ (by first | omega | (simp; omega) | simp) _)); first | omega | (simp; done) | (simp; omega))))
      all_goals (go_wp2_with fail; go_meet)
      all_goals exact ⟨rfl, bw2⟩
    case rest =>
      obtain ⟨rfl, bel2⟩ := hcut
      have bel := belowOf bel bel2
      clear a0 a1 a2 b0 b1 b2 bel2
      go_wp2_with fail
      refine (sameFloat_any _ _ ND.out).mono ?_
      rintro e w5 ⟨rfl, rfl⟩
      go_wp2_with fail
      go_ret
      exact ⟨rfl, bel⟩

open Go.ChangeShapes Go.WideShapes Go.ChangeAt Go.Joins
open Go.ChangeMaps (open_string shut_string)

set_option maxRecDepth 100000 in
theorem fnExactFarColours_lifted (os : Os) (started : os.Started) (H : Type) (enc : TypeId × Value → H) :
    ReturnsInHanded {} Try.checked os 8 .any (Rows.fnExactFarColoursSpec.pre6 enc Try.prog Try.f8 Rows.fnExactFarColoursRow.domain false) (Rows.fnExactFarColoursSpec.post enc Try.prog Try.f8 false true false false) := by
  refine returnsInHanded_of_change (C := Try.checked) Try.own started (by kernel_rfl) Try.func8
    (ChangeSpec.witness6 (enc := enc) (C := Try.checked) false ⟨#[], #[.agg #[.float .f32 0, .float .f32 0, .float .f32 0], .agg #[.float .f32 0, .float .f32 0, .float .f32 0]], []⟩ 8 (by kernel_rfl) (by kernel_rfl) (by kernel_rfl) (by kernel_rfl)) ?_
  intro W base args ds gs before hval0 hW _ _
  have hval : ∀ (j : Nat) t v, Try.f8.params[j]? = some t → args[j]? = some v → Value.okWide Try.prog W .any base t v := hval0
  have hW' := hW
  obtain ⟨p, q, hA0, hV, rfl, _, _⟩ := hW
  have hA : DataW.TrodAll enc Try.prog W 0 (fun _ => true) true Try.f8.params.toList args.toList ds p := hA0
  rw [Try.params8] at hA hval
  obtain ⟨v0, vs0, d0, ds0, p0, q0, hargs, rfl, rfl, h0, r0⟩ := trodAll_cons hA
  obtain ⟨v1, vs1, d1, ds1, p1, q1, rfl, rfl, rfl, h1, r1⟩ := trodAll_cons r0
  obtain ⟨rfl, rfl, rfl⟩ := trodAll_nil r1
  obtain rfl : args = #[v0, v1] := by cases args; simp_all
  obtain ⟨rfl, rfl⟩ := trodVars_none hV
  have k0 := h0
  have lt0 : ∀ x ∈ p0, x.block < W.heap.size := by obtain ⟨m, hm⟩ := k0; exact DataW.trod_lt m _ _ _ hm
  have k1 := h1
  have lt1 : ∀ x ∈ p1, x.block < W.heap.size := by obtain ⟨m, hm⟩ := k1; exact DataW.trod_lt m _ _ _ hm
  obtain ⟨c00, c01, c02, y00, y01, y02, m0, rfl, _, _, hy00, hy01, hy02⟩ := open_agg3 Try.underlying24 (by kernel_rfl) (show Try.prog.cellsOf 24 = 3 by kernel_rfl) (hval 0 24 v0 rfl rfl) h0
  obtain ⟨xr0, e00, _, wr0⟩ := trod_float Try.underlying22 hy00
  obtain ⟨xg0, e01, _, wg0⟩ := trod_float Try.underlying22 hy01
  obtain ⟨xb0, e02, _, wb0⟩ := trod_float Try.underlying22 hy02
  simp at e00 e01 e02
  subst e00 e01 e02
  obtain ⟨c10, c11, c12, y10, y11, y12, m1, rfl, _, _, hy10, hy11, hy12⟩ := open_agg3 Try.underlying24 (by kernel_rfl) (show Try.prog.cellsOf 24 = 3 by kernel_rfl) (hval 1 24 v1 rfl rfl) h1
  obtain ⟨xr1, e10, _, wr1⟩ := trod_float Try.underlying22 hy10
  obtain ⟨xg1, e11, _, wg1⟩ := trod_float Try.underlying22 hy11
  obtain ⟨xb1, e12, _, wb1⟩ := trod_float Try.underlying22 hy12
  simp at e10 e11 e12
  subst e10 e11 e12
  clear hA0 hval0
  refine (FnExactFarColours_walk xr0 xg0 xb0 xr1 xg1 xb1 W wr0 wg0 wb0 wr1 wg1 wb1).mono fun e W' ⟨he, bel⟩ => ?_
  subst he
  exact ⟨_, rfl, _, _, _, [], _, [], hW', trodAll_mk1 (shut_bool Try.underlying4 _), (trodAll_cons_mk (Below.trod Try.laidOut (by kernel_rfl) (of_decide_eq_true (by kernel_rfl)) k0 bel lt0) (trodAll_cons_mk (Below.trod Try.laidOut (by kernel_rfl) (of_decide_eq_true (by kernel_rfl)) k1 bel lt1) trodAll_mk0)), rfl, bel.frame _, fun h => by cases h⟩

/-- The statement. -/
theorem fnExactFarColours_proved : Rows.FnExactFarColoursSaid :=
  OpenClaim.holds_of_wide 8 Try.f8 rfl rfl rfl rfl rfl rfl rfl ⟨rfl, rfl, rfl, rfl, rfl⟩ rfl rfl rfl rfl rfl (by kernel_rfl) Try.func8 (by kernel_rfl)
    (of_decide_eq_true (by kernel_rfl)) (by unfold Func.isWrapper; rw [if_neg (of_decide_eq_false (by kernel_rfl))]; exact ⟨rfl, rfl⟩)
    (fun os started H enc _ => fnExactFarColours_lifted os started H enc)
#print axioms fnExactFarColours_proved

end Go.Proofs.Ytenpbnojabhlkaa
