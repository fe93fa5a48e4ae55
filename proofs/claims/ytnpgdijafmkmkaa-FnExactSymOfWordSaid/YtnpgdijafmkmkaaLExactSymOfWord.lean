/- The law FnExactSymOfWord: for every kind and every word the program's SymOfWord returns what the reference's returns. No condition. -/
import Derived.Test.YtnpgdijafmkmkaaWordI
import Derived.Test.YtnpgdijafmkmkaaInts
namespace Go.Proofs.Ytnpgdijafmkmkaa
open Go.RowKit

set_option maxHeartbeats 2000000 in
theorem FnExactSymOfWord_walk (kind : Int) (a : Option Addr) (len cap : Nat) (z : List Int) (w : World) (_ : (Lit.int .i64 kind).wf = true) (hz : IsRow .i64 w a len cap z) :
    Calls Try.prog 10 #[.int .i64 kind, .slice a len cap] w fun e w' => e = .returned (.bool true) ∧ Below w.heap.size w w' := by
  have hr := readsI_of_row hz
  have hm := hr.2.1
  unfold maxLen at hm
  have hlen := hr.1
  clear hz
  generalize z.take len = l at hr hlen
  have HR := hide hr
  have HLEN := hide hlen
  clear hr hlen
  by_cases hbig : 1048576 < len
  · go_enter Try.func10, Try.ntmps10
    go_wp2_with fail
    go_ret
    exact ⟨rfl, Below.refl _ _⟩
  · have HS := hide (fun a' cap' W (h : ReadsI W a' len cap' l) => sSymOfWord_any kind a' len cap' l W h)
    have HI := hide (fun a' cap' W (h : ReadsI W a' len cap' l) => symOfWord_any kind a' len cap' l W h)
    generalize wT kind l = T at HS HI
    generalize wF kind l = F at HS HI
    generalize wOk kind l = ok at HS HI
    cases ok
    all_goals
      go_enter Try.func10, Try.ntmps10
      go_wp2_with fail
      refine (toInt_any _ _ _ l _ HR.out (by omega)).mono ?_
      rintro e w1 ⟨v1, rfl, own1, hb1⟩
      obtain ⟨a1, c1, rfl, r1⟩ := readsI_of_own own1
      rw [HLEN.out] at r1 ⊢
      clear own1
      go_wp2_with fail
      refine (HS.out _ _ _ r1).mono ?_
      rintro e w2 ⟨rfl, hb2⟩
      have bel := hb1.trans (hb2.mono hb1.size)
      clear hb1 hb2 r1
      go_wp2_with fail
      have nb : Below w2.heap.size w2 (w2.alloc (.cells #[.int .i64 T, .bool F] 26)) := (Below.refl _ _).alloc (Nat.le_refl _) _
      have bel := belowOf bel nb
      have x0 : (w2.alloc (.cells #[.int .i64 T, .bool F] 26)).cell? ⟨w2.heap.size, 0, none⟩ = some (.int .i64 T) := by go_simp
      have x1 : (w2.alloc (.cells #[.int .i64 T, .bool F] 26)).cell? ⟨w2.heap.size, 1, none⟩ = some (.bool F) := by go_simp
      clear nb
      generalize w2.alloc (.cells #[.int .i64 T, .bool F] 26) = wA at bel x0 x1 ⊢
      refine (toInt_any _ _ _ l _ (HR.out.below bel) (by omega)).mono ?_
      rintro e w3 ⟨v3, rfl, own3, hb3⟩
      obtain ⟨a3, c3, rfl, r3⟩ := readsI_of_own own3
      rw [HLEN.out] at r3 ⊢
      have x0 := keepc hb3 x0
      have x1 := keepc hb3 x1
      have bel := belowOf bel hb3
      clear own3 hb3
      go_wp2_with fail
      refine (HI.out _ _ _ r3).mono ?_
      rintro e w4 ⟨rfl, hb4⟩
      have x0 := keepc hb4 x0
      have x1 := keepc hb4 x1
      have bel := belowOf bel hb4
      have R3 := hide (r3.below hb4)
      have hlt4 : w2.heap.size < w4.heap.size := World.block_lt_of_cell? w4 _ x0
      clear hb4 r3
      go_wp2_with fail
      refine (eqSym_any _ _ _ _ _).mono ?_
      rintro e w5 ⟨rfl, hw5⟩
      have nb : Below w4.heap.size w4 w5 := by rw [← hw5]; exact (by repeat (first | exact Below.refl _ _ | assumption | refine Below.drew ?_ | refine Below.alloc ?_ (by first | omega | (simp; omega) | simp) _))
      have bel := belowOf bel nb
      have R3 := hide (R3.out.below nb)
      clear nb hw5
      go_wp2_with fail
      refine (toInt_any _ _ _ l _ (HR.out.below bel) (by omega)).mono ?_
      rintro e w6 ⟨v6, rfl, own6, hb6⟩
      obtain ⟨a6, c6, rfl, r6⟩ := readsI_of_own own6
      rw [HLEN.out] at r6 ⊢
      have R3 := hide (R3.out.below hb6)
      have bel := belowOf bel hb6
      clear own6 hb6
      go_wp2_with fail
      refine (eqI_any _ _ _ _ _ l _ R3.out r6).mono ?_
      rintro e w7 ⟨rfl, hb7⟩
      have bel := belowOf bel hb7
      clear hb7 r6
      go_wp2_with fail
      go_ret
      exact ⟨rfl, bel⟩

open Go.ChangeShapes Go.WideShapes Go.ChangeAt Go.Joins
open Go.ChangeMaps (open_string shut_string)

set_option maxRecDepth 100000 in
theorem fnExactSymOfWord_lifted (os : Os) (started : os.Started) (H : Type) (enc : TypeId × Value → H) :
    ReturnsInHanded {} Try.checked os 10 .any (Rows.fnExactSymOfWordSpec.pre6 enc Try.prog Try.f10 Rows.fnExactSymOfWordRow.domain false) (Rows.fnExactSymOfWordSpec.post enc Try.prog Try.f10 false true false false) := by
  refine returnsInHanded_of_change (C := Try.checked) Try.own started (by kernel_rfl) Try.func10
    (ChangeSpec.witness6 (enc := enc) (C := Try.checked) false ⟨#[], #[.int .i64 0, .slice none 0 0], []⟩ 8 (by kernel_rfl) (by kernel_rfl) (by kernel_rfl) (by kernel_rfl)) ?_
  intro W base args ds gs before hval0 hW _ _
  have hval : ∀ (j : Nat) t v, Try.f10.params[j]? = some t → args[j]? = some v → Value.okWide Try.prog W .any base t v := hval0
  have hW' := hW
  obtain ⟨p, q, hA0, hV, rfl, _, _⟩ := hW
  have hA : DataW.TrodAll enc Try.prog W 0 (fun _ => true) true Try.f10.params.toList args.toList ds p := hA0
  rw [Try.params10] at hA hval
  obtain ⟨v0, vs0, d0, ds0, p0, q0, hargs, rfl, rfl, h0, r0⟩ := trodAll_cons hA
  obtain ⟨v1, vs1, d1, ds1, p1, q1, rfl, rfl, rfl, h1, r1⟩ := trodAll_cons r0
  obtain ⟨rfl, rfl, rfl⟩ := trodAll_nil r1
  obtain rfl : args = #[v0, v1] := by cases args; simp_all
  obtain ⟨rfl, rfl⟩ := trodVars_none hV
  have k0 := h0
  have lt0 : ∀ x ∈ p0, x.block < W.heap.size := by obtain ⟨m, hm⟩ := k0; exact DataW.trod_lt m _ _ _ hm
  have k1 := h1
  have lt1 : ∀ x ∈ p1, x.block < W.heap.size := by obtain ⟨m, hm⟩ := k1; exact DataW.trod_lt m _ _ _ hm
  obtain ⟨n0, rfl, _, _, w0⟩ := open_int Try.underlying3 (hval 0 3 v0 rfl rfl) h0
  obtain ⟨a1, len1, cap1, rfl⟩ := okWide_slice Try.underlying42 (hval 1 42 v1 rfl rfl)
  obtain ⟨z1, w1⟩ : ∃ zs, IsRow .i64 W a1 len1 cap1 zs := by
    obtain ⟨fuel, hf⟩ := h1
    rcases open_ints Try.underlying42 Try.underlying3 (by kernel_rfl) hf with ⟨hcs, _⟩ | ⟨x, l, c, zs, hcs, _, hl, hm, hz, _, hcell, hwz⟩
    · simp [Value.cells] at hcs
      obtain ⟨rfl, rfl, rfl⟩ := hcs
      exact ⟨[], .inl ⟨rfl, rfl, rfl, rfl⟩⟩
    · simp [Value.cells] at hcs
      obtain ⟨rfl, rfl, rfl⟩ := hcs
      exact ⟨zs, .inr ⟨_, rfl, hl, hm, by simpa using hz, hcell, hwz⟩⟩
  clear hA0 hval0
  refine (FnExactSymOfWord_walk n0 a1 len1 cap1 z1 W w0 w1).mono fun e W' ⟨he, bel⟩ => ?_
  subst he
  exact ⟨_, rfl, _, _, _, [], _, [], hW', trodAll_mk1 (shut_bool Try.underlying4 _), (trodAll_cons_mk (Below.trod Try.laidOut (by kernel_rfl) (of_decide_eq_true (by kernel_rfl)) k0 bel lt0) (trodAll_cons_mk (Below.trod Try.laidOut (by kernel_rfl) (of_decide_eq_true (by kernel_rfl)) k1 bel lt1) trodAll_mk0)), rfl, bel.frame _, fun h => by cases h⟩

/-- The statement. -/
theorem fnExactSymOfWord_proved : Rows.FnExactSymOfWordSaid :=
  OpenClaim.holds_of_wide 10 Try.f10 rfl rfl rfl rfl rfl rfl rfl ⟨rfl, rfl, rfl, rfl, rfl⟩ rfl rfl rfl rfl rfl (by kernel_rfl) Try.func10 (by kernel_rfl)
    (of_decide_eq_true (by kernel_rfl)) (by unfold Func.isWrapper; rw [if_neg (of_decide_eq_false (by kernel_rfl))]; exact ⟨rfl, rfl⟩)
    (fun os started H enc _ => fnExactSymOfWord_lifted os started H enc)
#print axioms fnExactSymOfWord_proved

end Go.Proofs.Ytnpgdijafmkmkaa
