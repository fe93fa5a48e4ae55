/- The law FnExactFormatSym: for every symmetry the program's FormatSym returns what the reference's returns. No condition. -/
import Derived.Test.YtnpgdijafmkmkaaFmt
import Derived.Test.YtnpgdijafmkmkaaFrame
namespace Go.Proofs.Ytnpgdijafmkmkaa
open Go.RowKit

set_option maxHeartbeats 400000 in
theorem FnExactFormatSym_walk (t : Int) (f : Bool) (w : World) (_ : (Lit.int .i64 t).wf = true) :
    Calls Try.prog 5 #[.agg #[.int .i64 t, .bool f]] w fun e w' => e = .returned (.bool true) ∧ Below w.heap.size w w' := by
  generalize hS : fmtSym t f = S
  have HS := hide hS
  clear hS
  go_enter Try.func5, Try.ntmps5
  go_wp2_with fail
  refine (toSym_any t f _).mono ?_
  rintro e w1 ⟨rfl, rfl⟩
  go_wp2_with fail
  refine (sFormatSym_any t f _).mono ?_
  rintro e w2 ⟨rfl, hbw2⟩
  have bww2 : Below w.heap.size w w2 := by
    refine Below.trans ?_ (hbw2.mono ?_)
    · repeat (first | exact Below.refl _ _ | assumption | refine Below.drew ?_ | refine Below.alloc ?_ (by first | omega | (simp; omega) | simp) _)
    · first | omega | (simp; omega) | simp
  have hzw2w0 : w.heap.size < w2.heap.size := by have := hbw2.size; simp at this; omega
  obtain ⟨hcw2, hfw2⟩ := bcell hbw2
  rw [HS.out]
  go_wp2_with fail
  refine (toSym_any t f _).mono ?_
  rintro e w3 ⟨rfl, rfl⟩
  go_wp2_with fail
  refine (formatSym_any t f _).mono ?_
  rintro e w4 ⟨rfl, hbw4⟩
  have bww4 : Below w.heap.size w w4 := by
    refine Below.trans ?_ (hbw4.mono ?_)
    · repeat (first | exact Below.refl _ _ | assumption | refine Below.drew ?_ | refine Below.alloc ?_ (by first | omega | (simp; omega) | simp) _)
    · first | omega | (simp; omega) | simp
  have hzw4w20 : w2.heap.size < w4.heap.size := by have := hbw4.size; simp at this; omega
  obtain ⟨hcw4, hfw4⟩ := bcell hbw4
  rw [HS.out]
  go_wp2_with fail
  go_ret
  exact ⟨rfl, (by repeat (first | exact Below.refl _ _ | assumption | refine Below.drew ?_ | refine Below.alloc ?_ (by first | omega | (simp; omega) | simp) _))⟩

open Go.ChangeShapes Go.WideShapes Go.ChangeAt Go.Joins
open Go.ChangeMaps (open_string shut_string)

set_option maxRecDepth 100000 in
theorem fnExactFormatSym_lifted (os : Os) (started : os.Started) (H : Type) (enc : TypeId × Value → H) :
    ReturnsInHanded {} Try.checked os 5 .any (Rows.fnExactFormatSymSpec.pre6 enc Try.prog Try.f5 Rows.fnExactFormatSymRow.domain false) (Rows.fnExactFormatSymSpec.post enc Try.prog Try.f5 false true false false) := by
  refine returnsInHanded_of_change (C := Try.checked) Try.own started (by kernel_rfl) Try.func5
    (ChangeSpec.witness6 (enc := enc) (C := Try.checked) false ⟨#[], #[.agg #[.int .i64 0, .bool false]], []⟩ 8 (by kernel_rfl) (by kernel_rfl) (by kernel_rfl) (by kernel_rfl)) ?_
  intro W base args ds gs before hval0 hW _ _
  have hval : ∀ (j : Nat) t v, Try.f5.params[j]? = some t → args[j]? = some v → Value.okWide Try.prog W .any base t v := hval0
  have hW' := hW
  obtain ⟨p, q, hA0, hV, rfl, _, _⟩ := hW
  have hA : DataW.TrodAll enc Try.prog W 0 (fun _ => true) true Try.f5.params.toList args.toList ds p := hA0
  rw [Try.params5] at hA hval
  obtain ⟨v0, vs0, d0, ds0, p0, q0, hargs, rfl, rfl, h0, r0⟩ := trodAll_cons hA
  obtain ⟨rfl, rfl, rfl⟩ := trodAll_nil r0
  obtain rfl : args = #[v0] := by cases args; simp_all
  obtain ⟨rfl, rfl⟩ := trodVars_none hV
  have k0 := h0
  have lt0 : ∀ x ∈ p0, x.block < W.heap.size := by obtain ⟨m, hm⟩ := k0; exact DataW.trod_lt m _ _ _ hm
  obtain ⟨c00, c01, y00, y01, m0, rfl, _, _, hy00, hy01⟩ := open_agg2 Try.underlying24 (by kernel_rfl) (show Try.prog.cellsOf 24 = 2 by kernel_rfl) (hval 0 24 v0 rfl rfl) h0
  obtain ⟨t0, e00, _, w0⟩ := DataW.trod_int Try.underlying3 hy00
  obtain ⟨f0, e01, _⟩ := DataW.trod_bool Try.underlying4 hy01
  simp at e00 e01
  subst e00 e01
  clear hA0 hval0
  refine (FnExactFormatSym_walk t0 f0 W w0).mono fun e W' ⟨he, bel⟩ => ?_
  subst he
  exact ⟨_, rfl, _, _, _, [], _, [], hW', trodAll_mk1 (shut_bool Try.underlying4 _), (trodAll_cons_mk (Below.trod Try.laidOut (by kernel_rfl) (of_decide_eq_true (by kernel_rfl)) k0 bel lt0) trodAll_mk0), rfl, bel.frame _, fun h => by cases h⟩

/-- The statement. -/
theorem fnExactFormatSym_proved : Rows.FnExactFormatSymSaid :=
  OpenClaim.holds_of_wide 5 Try.f5 rfl rfl rfl rfl rfl rfl rfl ⟨rfl, rfl, rfl, rfl, rfl⟩ rfl rfl rfl rfl rfl (by kernel_rfl) Try.func5 (by kernel_rfl)
    (of_decide_eq_true (by kernel_rfl)) (by unfold Func.isWrapper; rw [if_neg (of_decide_eq_false (by kernel_rfl))]; exact ⟨rfl, rfl⟩)
    (fun os started H enc _ => fnExactFormatSym_lifted os started H enc)
#print axioms fnExactFormatSym_proved

end Go.Proofs.Ytnpgdijafmkmkaa
