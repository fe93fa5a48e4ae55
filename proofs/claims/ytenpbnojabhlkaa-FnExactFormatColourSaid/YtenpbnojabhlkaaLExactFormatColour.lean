/- The law FnExactFormatColour: for every colour the program's FormatColour returns what the reference's returns. No condition. -/
import Derived.Test.YtenpbnojabhlkaaFmtS
namespace Go.Proofs.Ytenpbnojabhlkaa
open Go.RowKit

set_option maxHeartbeats 1000000 in
theorem FnExactFormatColour_walk (r g b : Nat) (w : World) (_ : (Lit.float .f32 r).wf = true) (_ : (Lit.float .f32 g).wf = true) (_ : (Lit.float .f32 b).wf = true) :
    Calls Try.prog 4 #[.agg #[.float .f32 r, .float .f32 g, .float .f32 b]] w fun e w' => e = .returned (.bool true) ∧ Below w.heap.size w w' := by
  have hS := fun w => sFormatColour_any r g b w
  have hI := fun w => formatColour_any r g b w
  generalize fmtCol (isCol r g b) r g b = s at hS hI
  have HS := hide hS
  have HI := hide hI
  clear hS hI
  go_enter Try.func4, Try.ntmps4
  go_wp2_with fail
  refine (toColour_any _ _ _ _).mono ?_
  rintro e w1 ⟨rfl, rfl⟩
  go_wp2_with fail
  refine (HS.out _).mono ?_
  rintro e w2 ⟨rfl, hbw2⟩
  have bww2 : Below w.heap.size w w2 := by
    refine Below.trans ?_ (hbw2.mono ?_)
    · repeat (first | exact Below.refl _ _ | assumption | refine Below.drew ?_ | refine Below.alloc ?_ (by first | omega | (simp; omega) | simp) _)
    · first | omega | (simp; omega) | simp
  have hsw2 := bww2.size
  have hzw2w0 : w.heap.size < w2.heap.size := by have := hbw2.size; (try simp at this); omega
  obtain ⟨hcw2, hfw2⟩ := bcell hbw2
  go_wp2_with fail
  refine (toColour_any _ _ _ _).mono ?_
  rintro e w3 ⟨rfl, rfl⟩
  go_wp2_with fail
  refine (HI.out _).mono ?_
  rintro e w4 ⟨rfl, hbw4⟩
  have bww4 : Below w.heap.size w w4 := by
    refine Below.trans ?_ (hbw4.mono ?_)
    · repeat (first | exact Below.refl _ _ | assumption | refine Below.drew ?_ | refine Below.alloc ?_ (by first | omega | (simp; omega) | simp) _)
    · first | omega | (simp; omega) | simp
  have hsw4 := bww4.size
  obtain ⟨hcw4, hfw4⟩ := bcell hbw4
  go_wp2_with fail
  go_ret
  exact ⟨rfl, (by repeat (first | exact Below.refl _ _ | assumption | refine Below.drew ?_ | refine Below.alloc ?_ (by first | omega | (simp; omega) | simp) _))⟩

open Go.ChangeShapes Go.WideShapes Go.ChangeAt Go.Joins
open Go.ChangeMaps (open_string shut_string)

set_option maxRecDepth 100000 in
theorem fnExactFormatColour_lifted (os : Os) (started : os.Started) (H : Type) (enc : TypeId × Value → H) :
    ReturnsInHanded {} Try.checked os 4 .any (Rows.fnExactFormatColourSpec.pre6 enc Try.prog Try.f4 Rows.fnExactFormatColourRow.domain false) (Rows.fnExactFormatColourSpec.post enc Try.prog Try.f4 false true false false) := by
  refine returnsInHanded_of_change (C := Try.checked) Try.own started (by kernel_rfl) Try.func4
    (ChangeSpec.witness6 (enc := enc) (C := Try.checked) false ⟨#[], #[.agg #[.float .f32 0, .float .f32 0, .float .f32 0]], []⟩ 8 (by kernel_rfl) (by kernel_rfl) (by kernel_rfl) (by kernel_rfl)) ?_
  intro W base args ds gs before hval0 hW _ _
  have hval : ∀ (j : Nat) t v, Try.f4.params[j]? = some t → args[j]? = some v → Value.okWide Try.prog W .any base t v := hval0
  have hW' := hW
  obtain ⟨p, q, hA0, hV, rfl, _, _⟩ := hW
  have hA : DataW.TrodAll enc Try.prog W 0 (fun _ => true) true Try.f4.params.toList args.toList ds p := hA0
  rw [Try.params4] at hA hval
  obtain ⟨v0, vs0, d0, ds0, p0, q0, hargs, rfl, rfl, h0, r0⟩ := trodAll_cons hA
  obtain ⟨rfl, rfl, rfl⟩ := trodAll_nil r0
  obtain rfl : args = #[v0] := by cases args; simp_all
  obtain ⟨rfl, rfl⟩ := trodVars_none hV
  have k0 := h0
  have lt0 : ∀ x ∈ p0, x.block < W.heap.size := by obtain ⟨m, hm⟩ := k0; exact DataW.trod_lt m _ _ _ hm
  obtain ⟨c00, c01, c02, y00, y01, y02, m0, rfl, _, _, hy00, hy01, hy02⟩ := open_agg3 Try.underlying24 (by kernel_rfl) (show Try.prog.cellsOf 24 = 3 by kernel_rfl) (hval 0 24 v0 rfl rfl) h0
  obtain ⟨xr0, e00, _, wr0⟩ := trod_float Try.underlying22 hy00
  obtain ⟨xg0, e01, _, wg0⟩ := trod_float Try.underlying22 hy01
  obtain ⟨xb0, e02, _, wb0⟩ := trod_float Try.underlying22 hy02
  simp at e00 e01 e02
  subst e00 e01 e02
  clear hA0 hval0
  refine (FnExactFormatColour_walk xr0 xg0 xb0 W wr0 wg0 wb0).mono fun e W' ⟨he, bel⟩ => ?_
  subst he
  exact ⟨_, rfl, _, _, _, [], _, [], hW', trodAll_mk1 (shut_bool Try.underlying4 _), (trodAll_cons_mk (Below.trod Try.laidOut (by kernel_rfl) (of_decide_eq_true (by kernel_rfl)) k0 bel lt0) trodAll_mk0), rfl, bel.frame _, fun h => by cases h⟩

/-- The statement. -/
theorem fnExactFormatColour_proved : Rows.FnExactFormatColourSaid :=
  OpenClaim.holds_of_wide 4 Try.f4 rfl rfl rfl rfl rfl rfl rfl ⟨rfl, rfl, rfl, rfl, rfl⟩ rfl rfl rfl rfl rfl (by kernel_rfl) Try.func4 (by kernel_rfl)
    (of_decide_eq_true (by kernel_rfl)) (by unfold Func.isWrapper; rw [if_neg (of_decide_eq_false (by kernel_rfl))]; exact ⟨rfl, rfl⟩)
    (fun os started H enc _ => fnExactFormatColour_lifted os started H enc)
#print axioms fnExactFormatColour_proved

end Go.Proofs.Ytenpbnojabhlkaa
