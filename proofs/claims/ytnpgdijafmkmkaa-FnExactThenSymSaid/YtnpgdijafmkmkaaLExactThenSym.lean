/- The law FnExactThenSym: for all symmetries the program's ThenSym returns what the reference's returns. No condition. -/
import Derived.Test.YtnpgdijafmkmkaaThen
import Derived.Test.YtnpgdijafmkmkaaFrame
import Derived.Deep.RegionHeld3
import Derived.Deep.CutRange
namespace Go.Proofs.Ytnpgdijafmkmkaa
open Go.RowKit

set_option maxRecDepth 100000 in
set_option maxHeartbeats 400000 in
theorem FnExactThenSym_walk (t : Int) (f : Bool) (t' : Int) (f' : Bool) (w : World) (_ : (Lit.int .i64 t).wf = true) (_ : (Lit.int .i64 t').wf = true) :
    Calls Try.prog 7 #[.agg #[.int .i64 t, .bool f], .agg #[.int .i64 t', .bool f']] w fun e w' => e = .returned (.bool true) ∧ Below w.heap.size w w' := by
  go_enter Try.func7, Try.ntmps7
  go_upto_region 1 with fail
  have a0 : ((w.alloc (.cells #[.int .i64 t, .bool f] 24)).alloc (.cells #[.int .i64 t', .bool f'] 24)).cell? ⟨w.heap.size, 0, none⟩ = some (.int .i64 t) := by go_simp
  have a1 : ((w.alloc (.cells #[.int .i64 t, .bool f] 24)).alloc (.cells #[.int .i64 t', .bool f'] 24)).cell? ⟨w.heap.size, 1, none⟩ = some (.bool f) := by go_simp
  have a2 : ((w.alloc (.cells #[.int .i64 t, .bool f] 24)).alloc (.cells #[.int .i64 t', .bool f'] 24)).cell? ⟨w.heap.size + 1, 0, none⟩ = some (.int .i64 t') := by go_simp
  have a3 : ((w.alloc (.cells #[.int .i64 t, .bool f] 24)).alloc (.cells #[.int .i64 t', .bool f'] 24)).cell? ⟨w.heap.size + 1, 1, none⟩ = some (.bool f') := by go_simp
  have bel : Below w.heap.size w ((w.alloc (.cells #[.int .i64 t, .bool f] 24)).alloc (.cells #[.int .i64 t', .bool f'] 24)) := (by repeat (first | exact Below.refl _ _ | assumption | refine Below.drew ?_ | refine Below.alloc ?_ (by first | omega | (simp; omega) | simp) _))
  generalize (w.alloc (.cells #[.int .i64 t, .bool f] 24)).alloc (.cells #[.int .i64 t', .bool f'] 24) = wA at a0 a1 a2 a3 bel ⊢
  go_cut [5] from 7 to 11 (fun s5 wx => ∃ b, s5 = .pointer (some ⟨b, 0, none⟩) ∧ HasSym wA wx b (thT t t' f') (thF t f t' f'))
  case first =>
    go_region_held3 (fun w' => w'.cell? ⟨w.heap.size, 0, none⟩ = some (.int .i64 t) ∧ w'.cell? ⟨w.heap.size, 1, none⟩ = some (.bool f) ∧ w'.cell? ⟨w.heap.size + 1, 0, none⟩ = some (.int .i64 t') ∧ w'.cell? ⟨w.heap.size + 1, 1, none⟩ = some (.bool f'))
      (exact ⟨keepc (by repeat (first | exact Below.refl _ _ | assumption | refine Below.drew ?_ | refine Below.setCell ?_ (by first | (dsimp only; omega) | (simp; omega) | simp) _ | refine Below.alloc ?_ (by first | omega | (simp; omega) | simp) _)) a0, keepc (by repeat (first | exact Below.refl _ _ | assumption | refine Below.drew ?_ | refine Below.setCell ?_ (by first | (dsimp only; omega) | (simp; omega) | simp) _ | refine Below.alloc ?_ (by first | omega | (simp; omega) | simp) _)) a1, keepc (by repeat (first | exact Below.refl _ _ | assumption | refine Below.drew ?_ | refine Below.setCell ?_ (by first | (dsimp only; omega) | (simp; omega) | simp) _ | refine Below.alloc ?_ (by first | omega | (simp; omega) | simp) _)) a2, keepc (by repeat (first | exact Below.refl _ _ | assumption | refine Below.drew ?_ | refine Below.setCell ?_ (by first | (dsimp only; omega) | (simp; omega) | simp) _ | refine Below.alloc ?_ (by first | omega | (simp; omega) | simp) _)) a3⟩)
      (first | (go_at_call 16; refine (toSym_any _ _ _).mono ?_; rintro e w1 ⟨rfl, rfl⟩) | (go_at_call 23; refine (sThenSym_any _ _ _ _ _).mono ?_; rintro e w2 ⟨rfl, hb2⟩; have bw2 : Below wA.heap.size wA w2 := (by refine Below.trans ?_ (hb2.mono ?_); exact (by repeat (first | exact Below.refl _ _ | assumption | refine Below.drew ?_ | refine Below.alloc ?_ (by first | omega | (simp; omega) | simp) _)); first | omega | (simp; done) | (simp; omega)); have hw2 := bw2.size; obtain ⟨hc2, hf2⟩ := bcell hb2))
    all_goals (go_wp2_with fail; go_meet)
    all_goals
      first
        | exact ⟨_, rfl, hasSym_new bw2⟩
        | (refine ⟨_, rfl, hasSym_set hb2 bw2 (u0 := .int .i64 0) (u1 := .bool false) ?_ ?_ ?_⟩
           · go_simp
           · go_simp
           · first | exact Nat.le_refl _ | omega)
  case rest =>
    obtain ⟨b1, rfl, ⟨c0, c1, bel1⟩⟩ := hcut
    have a0 := keepc bel1 a0
    have a1 := keepc bel1 a1
    have a2 := keepc bel1 a2
    have a3 := keepc bel1 a3
    have bel := belowOf bel bel1
    clear bel1
    obtain ⟨wB, rfl⟩ : ∃ wB : World, wB = wc := ⟨_, rfl⟩
    go_upto_region 2 with fail
    go_cut [6] from 12 to 16 (fun s6 wx => ∃ b, s6 = .pointer (some ⟨b, 0, none⟩) ∧ HasSym wB wx b (thT t t' f') (thF t f t' f'))
    case first =>
      go_region_held3 (fun w' => w'.cell? ⟨w.heap.size, 0, none⟩ = some (.int .i64 t) ∧ w'.cell? ⟨w.heap.size, 1, none⟩ = some (.bool f) ∧ w'.cell? ⟨w.heap.size + 1, 0, none⟩ = some (.int .i64 t') ∧ w'.cell? ⟨w.heap.size + 1, 1, none⟩ = some (.bool f'))
        (exact ⟨keepc (by repeat (first | exact Below.refl _ _ | assumption | refine Below.drew ?_ | refine Below.setCell ?_ (by first | (dsimp only; omega) | (simp; omega) | simp) _ | refine Below.alloc ?_ (by first | omega | (simp; omega) | simp) _)) a0, keepc (by repeat (first | exact Below.refl _ _ | assumption | refine Below.drew ?_ | refine Below.setCell ?_ (by first | (dsimp only; omega) | (simp; omega) | simp) _ | refine Below.alloc ?_ (by first | omega | (simp; omega) | simp) _)) a1, keepc (by repeat (first | exact Below.refl _ _ | assumption | refine Below.drew ?_ | refine Below.setCell ?_ (by first | (dsimp only; omega) | (simp; omega) | simp) _ | refine Below.alloc ?_ (by first | omega | (simp; omega) | simp) _)) a2, keepc (by repeat (first | exact Below.refl _ _ | assumption | refine Below.drew ?_ | refine Below.setCell ?_ (by first | (dsimp only; omega) | (simp; omega) | simp) _ | refine Below.alloc ?_ (by first | omega | (simp; omega) | simp) _)) a3⟩)
        (first | (go_at_call 16; refine (toSym_any _ _ _).mono ?_; rintro e w1 ⟨rfl, rfl⟩) | (go_at_call 24; refine (thenSym_any _ _ _ _ _).mono ?_; rintro e w2 ⟨rfl, hb2⟩; have bw2 : Below wB.heap.size wB w2 := (by refine Below.trans ?_ (hb2.mono ?_); exact (by repeat (first | exact Below.refl _ _ | assumption | refine Below.drew ?_ | refine Below.alloc ?_ (by first | omega | (simp; omega) | simp) _)); first | omega | (simp; done) | (simp; omega)); have hw2 := bw2.size; obtain ⟨hc2, hf2⟩ := bcell hb2))
      all_goals (go_wp2_with fail; go_meet)
      all_goals
        first
          | exact ⟨_, rfl, hasSym_new bw2⟩
          | (refine ⟨_, rfl, hasSym_set hb2 bw2 (u0 := .int .i64 0) (u1 := .bool false) ?_ ?_ ?_⟩
             · go_simp
             · go_simp
             · first | exact Nat.le_refl _ | omega)
    case rest =>
      obtain ⟨b2, rfl, ⟨d0, d1, bel2⟩⟩ := hcut
      have c0 := keepc bel2 c0
      have c1 := keepc bel2 c1
      have bel := belowOf bel bel2
      have hsz := bel.size
      clear a0 a1 a2 a3 bel2
      go_wp2_with fail
      refine (eqSym_any _ _ _ _ _).mono ?_
      rintro e w5 ⟨rfl, rfl⟩
      go_wp2_with fail
      go_ret
      exact ⟨rfl, (by repeat (first | exact Below.refl _ _ | assumption | refine Below.drew ?_ | refine Below.alloc ?_ (by first | omega | (simp; omega) | simp) _))⟩

open Go.ChangeShapes Go.WideShapes Go.ChangeAt Go.Joins
open Go.ChangeMaps (open_string shut_string)

set_option maxRecDepth 100000 in
theorem fnExactThenSym_lifted (os : Os) (started : os.Started) (H : Type) (enc : TypeId × Value → H) :
    ReturnsInHanded {} Try.checked os 7 .any (Rows.fnExactThenSymSpec.pre6 enc Try.prog Try.f7 Rows.fnExactThenSymRow.domain false) (Rows.fnExactThenSymSpec.post enc Try.prog Try.f7 false true false false) := by
  refine returnsInHanded_of_change (C := Try.checked) Try.own started (by kernel_rfl) Try.func7
    (ChangeSpec.witness6 (enc := enc) (C := Try.checked) false ⟨#[], #[.agg #[.int .i64 0, .bool false], .agg #[.int .i64 0, .bool false]], []⟩ 8 (by kernel_rfl) (by kernel_rfl) (by kernel_rfl) (by kernel_rfl)) ?_
  intro W base args ds gs before hval0 hW _ _
  have hval : ∀ (j : Nat) t v, Try.f7.params[j]? = some t → args[j]? = some v → Value.okWide Try.prog W .any base t v := hval0
  have hW' := hW
  obtain ⟨p, q, hA0, hV, rfl, _, _⟩ := hW
  have hA : DataW.TrodAll enc Try.prog W 0 (fun _ => true) true Try.f7.params.toList args.toList ds p := hA0
  rw [Try.params7] at hA hval
  obtain ⟨v0, vs0, d0, ds0, p0, q0, hargs, rfl, rfl, h0, r0⟩ := trodAll_cons hA
  obtain ⟨v1, vs1, d1, ds1, p1, q1, rfl, rfl, rfl, h1, r1⟩ := trodAll_cons r0
  obtain ⟨rfl, rfl, rfl⟩ := trodAll_nil r1
  obtain rfl : args = #[v0, v1] := by cases args; simp_all
  obtain ⟨rfl, rfl⟩ := trodVars_none hV
  have k0 := h0
  have lt0 : ∀ x ∈ p0, x.block < W.heap.size := by obtain ⟨m, hm⟩ := k0; exact DataW.trod_lt m _ _ _ hm
  have k1 := h1
  have lt1 : ∀ x ∈ p1, x.block < W.heap.size := by obtain ⟨m, hm⟩ := k1; exact DataW.trod_lt m _ _ _ hm
  obtain ⟨c00, c01, y00, y01, m0, rfl, _, _, hy00, hy01⟩ := open_agg2 Try.underlying24 (by kernel_rfl) (show Try.prog.cellsOf 24 = 2 by kernel_rfl) (hval 0 24 v0 rfl rfl) h0
  obtain ⟨t0, e00, _, w0⟩ := DataW.trod_int Try.underlying3 hy00
  obtain ⟨f0, e01, _⟩ := DataW.trod_bool Try.underlying4 hy01
  simp at e00 e01
  subst e00 e01
  obtain ⟨c10, c11, y10, y11, m1, rfl, _, _, hy10, hy11⟩ := open_agg2 Try.underlying24 (by kernel_rfl) (show Try.prog.cellsOf 24 = 2 by kernel_rfl) (hval 1 24 v1 rfl rfl) h1
  obtain ⟨t1, e10, _, w1⟩ := DataW.trod_int Try.underlying3 hy10
  obtain ⟨f1, e11, _⟩ := DataW.trod_bool Try.underlying4 hy11
  simp at e10 e11
  subst e10 e11
  clear hA0 hval0
  refine (FnExactThenSym_walk t0 f0 t1 f1 W w0 w1).mono fun e W' ⟨he, bel⟩ => ?_
  subst he
  exact ⟨_, rfl, _, _, _, [], _, [], hW', trodAll_mk1 (shut_bool Try.underlying4 _), (trodAll_cons_mk (Below.trod Try.laidOut (by kernel_rfl) (of_decide_eq_true (by kernel_rfl)) k0 bel lt0) (trodAll_cons_mk (Below.trod Try.laidOut (by kernel_rfl) (of_decide_eq_true (by kernel_rfl)) k1 bel lt1) trodAll_mk0)), rfl, bel.frame _, fun h => by cases h⟩

/-- The statement. -/
theorem fnExactThenSym_proved : Rows.FnExactThenSymSaid :=
  OpenClaim.holds_of_wide 7 Try.f7 rfl rfl rfl rfl rfl rfl rfl ⟨rfl, rfl, rfl, rfl, rfl⟩ rfl rfl rfl rfl rfl (by kernel_rfl) Try.func7 (by kernel_rfl)
    (of_decide_eq_true (by kernel_rfl)) (by unfold Func.isWrapper; rw [if_neg (of_decide_eq_false (by kernel_rfl))]; exact ⟨rfl, rfl⟩)
    (fun os started H enc _ => fnExactThenSym_lifted os started H enc)
#print axioms fnExactThenSym_proved

end Go.Proofs.Ytnpgdijafmkmkaa
