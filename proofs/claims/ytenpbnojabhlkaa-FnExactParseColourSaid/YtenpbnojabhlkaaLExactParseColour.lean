/- The law FnExactParseColour: for every string the program's ParseColour returns what the reference's returns. No condition. -/
import Derived.Test.YtenpbnojabhlkaaParA
import Derived.Test.YtenpbnojabhlkaaEqCol
namespace Go.Proofs.Ytenpbnojabhlkaa
open Go.RowKit
open Fl

set_option maxHeartbeats 2000000 in
theorem FnExactParseColour_walk (s : ByteArray) (w : World) (hs : s.size ≤ maxLen) :
    Calls Try.prog 5 #[.string s] w fun e w' => e = .returned (.bool true) ∧ Below w.heap.size w w' := by
  unfold maxLen at hs
  have hS := fun w => sParseColour_any s w
  have hI := fun w => parseColour_any s w
  obtain ⟨p1, p2, p3⟩ := parR_parts s.data.toList
  unfold RetPar at hS hI
  generalize (parR s.data.toList).1 = ok at hS hI
  generalize (parR s.data.toList).2.1 = r at hS hI p1
  generalize (parR s.data.toList).2.2.1 = g at hS hI p2
  generalize (parR s.data.toList).2.2.2 = b at hS hI p3
  have HS := hide hS
  have HI := hide hI
  have P1 := hide p1
  have P2 := hide p2
  have P3 := hide p3
  clear hS hI p1 p2 p3
  by_cases hbig : 1048576 < s.size
  · go_enter Try.func5, Try.ntmps5
    go_wp2_with fail
    go_ret
    exact ⟨rfl, Below.refl _ _⟩
  · cases ok
    all_goals
      go_enter Try.func5, Try.ntmps5
      go_wp2_with fail
      refine (HS.out _).mono ?_
      rintro e w1 ⟨rfl, hb1⟩
      have bel := hb1
      have hs1 := hb1.size
      clear hb1
      go_wp2_with fail
      have nb : Below w1.heap.size w1 (w1.alloc (.cells #[.float .f32 r, .float .f32 g, .float .f32 b] 26)) := (Below.refl _ _).alloc (Nat.le_refl _) _
      have bel := belowOf bel nb
      have x0 : (w1.alloc (.cells #[.float .f32 r, .float .f32 g, .float .f32 b] 26)).cell? ⟨w1.heap.size, 0, none⟩ = some (.float .f32 r) := by go_simp
      have x1 : (w1.alloc (.cells #[.float .f32 r, .float .f32 g, .float .f32 b] 26)).cell? ⟨w1.heap.size, 1, none⟩ = some (.float .f32 g) := by go_simp
      have x2 : (w1.alloc (.cells #[.float .f32 r, .float .f32 g, .float .f32 b] 26)).cell? ⟨w1.heap.size, 2, none⟩ = some (.float .f32 b) := by go_simp
      clear nb
      generalize w1.alloc (.cells #[.float .f32 r, .float .f32 g, .float .f32 b] 26) = wB at bel x0 x1 x2 ⊢
      refine (HI.out _).mono ?_
      rintro e w2 ⟨rfl, hb2⟩
      have x0 := keepc hb2 x0
      have x1 := keepc hb2 x1
      have x2 := keepc hb2 x2
      have bel := belowOf bel hb2
      have hlt2 : w1.heap.size < w2.heap.size := World.block_lt_of_cell? w2 _ x0
      clear hb2
      go_wp2_with fail
      refine (eqColour_same _ _ _ _ (part_fin P1.out) (part_fin P2.out) (part_fin P3.out)).mono ?_
      rintro e w3 ⟨rfl, rfl⟩
      go_wp2_with fail
      go_ret
      exact ⟨rfl, by have := bel.size; exact (by repeat (first | exact Below.refl _ _ | assumption | refine Below.drew ?_ | refine Below.alloc ?_ (by first | omega | (simp; omega) | simp) _))⟩

open Go.ChangeShapes Go.WideShapes Go.ChangeAt Go.Joins
open Go.ChangeMaps (open_string shut_string)

set_option maxRecDepth 100000 in
theorem fnExactParseColour_lifted (os : Os) (started : os.Started) (H : Type) (enc : TypeId × Value → H) :
    ReturnsInHanded {} Try.checked os 5 .any (Rows.fnExactParseColourSpec.pre6 enc Try.prog Try.f5 Rows.fnExactParseColourRow.domain false) (Rows.fnExactParseColourSpec.post enc Try.prog Try.f5 false true false false) := by
  refine returnsInHanded_of_change (C := Try.checked) Try.own started (by kernel_rfl) Try.func5
    (ChangeSpec.witness6 (enc := enc) (C := Try.checked) false ⟨#[], #[.string ByteArray.empty], []⟩ 8 (by kernel_rfl) (by kernel_rfl) (by kernel_rfl) (by kernel_rfl)) ?_
  intro W base args ds gs before hval0 hW _ _
  have hval : ∀ (j : Nat) t v, Try.f5.params[j]? = some t → args[j]? = some v → Value.okWide Try.prog W .any base t v := hval0
  have hW' := hW
  obtain ⟨p, q, hA0, hV, rfl, _, _⟩ := hW
  have hA : DataW.TrodAll enc Try.prog W 0 (fun _ => true) true Try.f5.params.toList args.toList ds p := hA0
  rw [Try.params5] at hA hval
  obtain ⟨v0, vs0, d0, ds0, p0, q0, hargs, rfl, rfl, h0, r0⟩ := trodAll_cons hA
  obtain ⟨rfl, rfl, rfl⟩ := trodAll_nil r0
  obtain rfl : args = #[v0] := by cases args; simp_all
  obtain ⟨rfl, rfl⟩ := trodVars_none hV
  have k0 := h0
  have lt0 : ∀ x ∈ p0, x.block < W.heap.size := by obtain ⟨m, hm⟩ := k0; exact DataW.trod_lt m _ _ _ hm
  obtain ⟨s0, rfl, _, _, w0⟩ := open_string Try.underlying9 (hval 0 9 v0 rfl rfl) h0
  clear hA0 hval0
  refine (FnExactParseColour_walk s0 W w0).mono fun e W' ⟨he, bel⟩ => ?_
  subst he
  exact ⟨_, rfl, _, _, _, [], _, [], hW', trodAll_mk1 (shut_bool Try.underlying4 _), (trodAll_cons_mk (Below.trod Try.laidOut (by kernel_rfl) (of_decide_eq_true (by kernel_rfl)) k0 bel lt0) trodAll_mk0), rfl, bel.frame _, fun h => by cases h⟩

/-- The statement. -/
theorem fnExactParseColour_proved : Rows.FnExactParseColourSaid :=
  OpenClaim.holds_of_wide 5 Try.f5 rfl rfl rfl rfl rfl rfl rfl ⟨rfl, rfl, rfl, rfl, rfl⟩ rfl rfl rfl rfl rfl (by kernel_rfl) Try.func5 (by kernel_rfl)
    (of_decide_eq_true (by kernel_rfl)) (by unfold Func.isWrapper; rw [if_neg (of_decide_eq_false (by kernel_rfl))]; exact ⟨rfl, rfl⟩)
    (fun os started H enc _ => fnExactParseColour_lifted os started H enc)
#print axioms fnExactParseColour_proved

end Go.Proofs.Ytenpbnojabhlkaa
