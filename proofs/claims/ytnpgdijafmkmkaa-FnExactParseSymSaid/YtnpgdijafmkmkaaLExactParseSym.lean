/- The law FnExactParseSym: for every text the program's ParseSym returns what the reference's returns. No condition. -/
import Derived.Test.YtnpgdijafmkmkaaParse
import Derived.Test.YtnpgdijafmkmkaaFrame
namespace Go.Proofs.Ytnpgdijafmkmkaa
open Go.RowKit

set_option maxHeartbeats 1000000 in
theorem FnExactParseSym_walk (s : ByteArray) (w : World) (hs : s.size ≤ maxLen) :
    Calls Try.prog 8 #[.string s] w fun e w' => e = .returned (.bool true) ∧ Below w.heap.size w w' := by
  unfold maxLen at hs
  generalize hT : parT s = T
  generalize hF : parF s = F
  generalize hO : parOk s = O
  have HT := hide hT
  have HF := hide hF
  have HO := hide hO
  clear hT hF hO
  by_cases hlong : 1048576 < s.size
  · go_enter Try.func8, Try.ntmps8
    go_wp2
    go_ret
    exact ⟨rfl, Below.refl _ _⟩
  · go_enter Try.func8, Try.ntmps8
    go_wp2_with fail
    refine (sParse_any _ _).mono ?_
    rintro e w1 ⟨rfl, hbw1⟩
    have bww1 : Below w.heap.size w w1 := by
      refine Below.trans ?_ (hbw1.mono ?_)
      · repeat (first | exact Below.refl _ _ | assumption | refine Below.drew ?_ | refine Below.alloc ?_ (by first | omega | (simp; omega) | simp) _)
      · first | omega | (simp; omega) | simp
    have hsw1 := bww1.size
    obtain ⟨hcw1, hfw1⟩ := bcell hbw1
    rw [HT.out, HF.out, HO.out]
    go_wp2_with fail
    refine (parse_any _ _).mono ?_
    rintro e w2 ⟨rfl, hbw2⟩
    have bww2 : Below w.heap.size w w2 := by
      refine Below.trans ?_ (hbw2.mono ?_)
      · repeat (first | exact Below.refl _ _ | assumption | refine Below.drew ?_ | refine Below.alloc ?_ (by first | omega | (simp; omega) | simp) _)
      · first | omega | (simp; omega) | simp
    have hsw2 := bww2.size
    have hzw2w10 : w1.heap.size < w2.heap.size := by have := hbw2.size; simp at this; omega
    obtain ⟨hcw2, hfw2⟩ := bcell hbw2
    rw [HT.out, HF.out, HO.out]
    go_wp2_with fail
    refine (eqSym_any _ _ _ _ _).mono ?_
    rintro e w3 ⟨rfl, rfl⟩
    have ho : (O != O) = false := by cases O <;> rfl
    go_wp2_with fail
    go_ret
    exact ⟨rfl, (by repeat (first | exact Below.refl _ _ | assumption | refine Below.drew ?_ | refine Below.alloc ?_ (by first | omega | (simp; omega) | simp) _))⟩

open Go.ChangeShapes Go.WideShapes Go.ChangeAt Go.Joins
open Go.ChangeMaps (open_string shut_string)

set_option maxRecDepth 100000 in
theorem fnExactParseSym_lifted (os : Os) (started : os.Started) (H : Type) (enc : TypeId × Value → H) :
    ReturnsInHanded {} Try.checked os 8 .any (Rows.fnExactParseSymSpec.pre6 enc Try.prog Try.f8 Rows.fnExactParseSymRow.domain false) (Rows.fnExactParseSymSpec.post enc Try.prog Try.f8 false true false false) := by
  refine returnsInHanded_of_change (C := Try.checked) Try.own started (by kernel_rfl) Try.func8
    (ChangeSpec.witness6 (enc := enc) (C := Try.checked) false ⟨#[], #[.string ByteArray.empty], []⟩ 8 (by kernel_rfl) (by kernel_rfl) (by kernel_rfl) (by kernel_rfl)) ?_
  intro W base args ds gs before hval0 hW _ _
  have hval : ∀ (j : Nat) t v, Try.f8.params[j]? = some t → args[j]? = some v → Value.okWide Try.prog W .any base t v := hval0
  have hW' := hW
  obtain ⟨p, q, hA0, hV, rfl, _, _⟩ := hW
  have hA : DataW.TrodAll enc Try.prog W 0 (fun _ => true) true Try.f8.params.toList args.toList ds p := hA0
  rw [Try.params8] at hA hval
  obtain ⟨v0, vs0, d0, ds0, p0, q0, hargs, rfl, rfl, h0, r0⟩ := trodAll_cons hA
  obtain ⟨rfl, rfl, rfl⟩ := trodAll_nil r0
  obtain rfl : args = #[v0] := by cases args; simp_all
  obtain ⟨rfl, rfl⟩ := trodVars_none hV
  have k0 := h0
  have lt0 : ∀ x ∈ p0, x.block < W.heap.size := by obtain ⟨m, hm⟩ := k0; exact DataW.trod_lt m _ _ _ hm
  obtain ⟨s0, rfl, _, _, w0⟩ := open_string Try.underlying9 (hval 0 9 v0 rfl rfl) h0
  clear hA0 hval0
  refine (FnExactParseSym_walk s0 W w0).mono fun e W' ⟨he, bel⟩ => ?_
  subst he
  exact ⟨_, rfl, _, _, _, [], _, [], hW', trodAll_mk1 (shut_bool Try.underlying4 _), (trodAll_cons_mk (Below.trod Try.laidOut (by kernel_rfl) (of_decide_eq_true (by kernel_rfl)) k0 bel lt0) trodAll_mk0), rfl, bel.frame _, fun h => by cases h⟩

/-- The statement. -/
theorem fnExactParseSym_proved : Rows.FnExactParseSymSaid :=
  OpenClaim.holds_of_wide 8 Try.f8 rfl rfl rfl rfl rfl rfl rfl ⟨rfl, rfl, rfl, rfl, rfl⟩ rfl rfl rfl rfl rfl (by kernel_rfl) Try.func8 (by kernel_rfl)
    (of_decide_eq_true (by kernel_rfl)) (by unfold Func.isWrapper; rw [if_neg (of_decide_eq_false (by kernel_rfl))]; exact ⟨rfl, rfl⟩)
    (fun os started H enc _ => fnExactParseSym_lifted os started H enc)
#print axioms fnExactParseSym_proved

end Go.Proofs.Ytnpgdijafmkmkaa
