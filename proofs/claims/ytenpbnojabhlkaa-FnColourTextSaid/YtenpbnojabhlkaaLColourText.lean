/- The law FnColourText: three digits are written again as they were read; what is written of a colour is read as one with the same digits. No condition. -/
import Derived.Test.YtenpbnojabhlkaaDrawP
import Derived.Test.YtenpbnojabhlkaaParA
import Derived.Test.YtenpbnojabhlkaaBig
namespace Go.Proofs.Ytenpbnojabhlkaa
open Go.RowKit
open Fl

/-- What a string that is read as a colour says of the text that is written again. -/
theorem fmt_again {s : ByteArray} {r g b : Nat} (h : parR s.data.toList = (true, r, g, b)) : isCol r g b = true ∧ fmtCol (isCol r g b) r g b = s := by
  have k := parR_law (l := s.data.toList) (by rw [h])
  rw [h] at k
  obtain ⟨p1, p2, p3, hl⟩ := k
  have hc : isCol r g b = true := by unfold isCol; rw [p1, p2, p3]; rfl
  refine ⟨hc, ?_⟩
  rw [hc]
  show (⟨#[hx (dig r), hx (dig g), hx (dig b)]⟩ : ByteArray) = s
  obtain ⟨⟨l⟩⟩ := s
  simp only at hl
  rw [hl]

theorem fmt_read {r g b : Nat} (h : isCol r g b = true) : parR (fmtCol (isCol r g b) r g b).data.toList = (true, q15 (dig r), q15 (dig g), q15 (dig b)) := by
  rw [h]
  exact parR_fmt r g b

set_option maxHeartbeats 2000000 in
theorem FnColourText_walk (a : Option Addr) (len cap : Nat) (z : List Int) (w : World) (hz : IsRow .u8 w a len cap z) :
    Calls Try.prog 10 #[.slice a len cap] w fun e w' => e = .returned (.bool true) ∧ Below w.heap.size w w' := by
  have HC := hide (isCode_of_row hz)
  have hm := (isCode_of_row hz).1
  clear hz
  by_cases hb : 4096 < len
  · go_enter Try.func10, Try.ntmps10
    go_wp2_with fail
    refine (big_any _ _ _ _).mono ?_
    rintro e w' ⟨rfl, rfl⟩
    go_wp2_with fail
    go_ret
    exact ⟨rfl, Below.refl _ _⟩
  · go_enter Try.func10, Try.ntmps10
    go_wp2_with fail
    refine (big_any _ _ _ _).mono ?_
    rintro e w' ⟨rfl, rfl⟩
    go_wp2_with fail
    refine (drawParse_any _ _ _ _ HC.out).mono ?_
    rintro e w1 ⟨s, rfl, bel⟩
    go_wp2_with fail
    refine (parseColour_any s _).mono ?_
    rintro e w2 ⟨he, hb2⟩
    obtain ⟨⟨ok, r, g, b⟩, hp⟩ : ∃ q, parR s.data.toList = q := ⟨_, rfl⟩
    rw [hp] at he
    simp only at he
    subst he
    have bel := belowOf bel hb2
    clear hb2
    go_upto_region 5 with fail
    have nb : Below w2.heap.size w2 (w2.alloc (.cells #[.float .f32 r, .float .f32 g, .float .f32 b] 26)) := (Below.refl _ _).alloc (Nat.le_refl _) _
    have bel := belowOf bel nb
    have x0 : (w2.alloc (.cells #[.float .f32 r, .float .f32 g, .float .f32 b] 26)).cell? ⟨w2.heap.size, 0, none⟩ = some (.float .f32 r) := by go_simp
    have x1 : (w2.alloc (.cells #[.float .f32 r, .float .f32 g, .float .f32 b] 26)).cell? ⟨w2.heap.size, 1, none⟩ = some (.float .f32 g) := by go_simp
    have x2 : (w2.alloc (.cells #[.float .f32 r, .float .f32 g, .float .f32 b] 26)).cell? ⟨w2.heap.size, 2, none⟩ = some (.float .f32 b) := by go_simp
    clear nb
    generalize w2.alloc (.cells #[.float .f32 r, .float .f32 g, .float .f32 b] 26) = wB at bel x0 x1 x2 ⊢
    go_cut [32] from 21 to 32 (fun s32 wx => s32 = .bool false ∧ Below w.heap.size w wx)
    case first =>
      cases ok
      · clear hp
        go_wp2_with fail
        go_meet
        exact ⟨rfl, bel⟩
      · obtain ⟨hc, hf⟩ := fmt_again hp
        have HC2 := hide hc
        have HF := hide hf
        clear hc hf hp
        go_wp2_with fail
        refine (formatColour_any r g b _).mono ?_
        rintro e w3 ⟨he, hb3⟩
        rw [HF.out] at he
        subst he
        have x0 := keepc hb3 x0
        have x1 := keepc hb3 x1
        have x2 := keepc hb3 x2
        have bel := belowOf bel hb3
        clear hb3
        go_wp2_with fail
        refine (isColourW _ _ _ _ HC2.out).mono ?_
        rintro e w4 ⟨rfl, hb4⟩
        have bel := belowOf bel hb4
        clear hb4
        go_wp2_with fail
        go_meet
        exact ⟨rfl, bel⟩
    case rest =>
      obtain ⟨rfl, bel⟩ := hcut
      clear hp x0 x1 x2
      have hcode := HC.out
      have HC := hide (isCode_belowC hcode bel)
      clear hcode
      go_wp2_with fail
      refine (drawColours_any _ _ _ _ HC.out).mono ?_
      rintro e w5 ⟨r, g, b, r', g', b', k, rfl, hv, hv', hk, hb5⟩
      clear hk hv'
      have bel := belowOf bel hb5
      clear hb5
      have hr := fmt_read hv
      have hF := fun w => formatColour_any r g b w
      have h2 := fmt_again hr
      have hP := fun w => parseColour_any (fmtCol (isCol r g b) r g b) w
      unfold RetPar at hP
      rw [hr] at hP
      have hF2 := fun w => formatColour_any (q15 (dig r)) (q15 (dig g)) (q15 (dig b)) w
      rw [h2.2] at hF2
      clear h2 hr hv
      generalize fmtCol (isCol r g b) r g b = t at hF hP hF2
      generalize q15 (dig r) = xr at hP hF2
      generalize q15 (dig g) = xg at hP hF2
      generalize q15 (dig b) = xb at hP hF2
      have HF := hide hF
      have HP := hide hP
      have HF2 := hide hF2
      clear hF hP hF2
      have hs5 := bel.size
      go_wp2_with fail
      have nb : Below w5.heap.size w5 ((w5.alloc (.cells #[.float .f32 r, .float .f32 g, .float .f32 b] 26)).alloc (.cells #[.float .f32 r', .float .f32 g', .float .f32 b'] 26)) := ((Below.refl _ _).alloc (Nat.le_refl _) _).alloc (by simp) _
      have bel := belowOf bel nb
      clear nb
      refine (HF.out _).mono ?_
      rintro e w6 ⟨rfl, hb6⟩
      have bel := belowOf bel hb6
      clear hb6
      go_wp2_with fail
      refine (HP.out _).mono ?_
      rintro e w7 ⟨rfl, hb7⟩
      have bel := belowOf bel hb7
      clear hb7
      have hs7 := bel.size
      go_wp2_with fail
      have nb : Below w7.heap.size w7 (w7.alloc (.cells #[.float .f32 xr, .float .f32 xg, .float .f32 xb] 26)) := (Below.refl _ _).alloc (Nat.le_refl _) _
      have bel := belowOf bel nb
      clear nb
      refine (HF2.out _).mono ?_
      rintro e w8 ⟨rfl, hb8⟩
      have bel := belowOf bel hb8
      clear hb8
      go_wp2_with fail
      go_ret
      exact ⟨rfl, bel⟩

open Go.ChangeShapes Go.WideShapes Go.ChangeAt Go.Joins
open Go.ChangeMaps (open_string shut_string)

set_option maxRecDepth 100000 in
theorem fnColourText_lifted (os : Os) (started : os.Started) (H : Type) (enc : TypeId × Value → H) :
    ReturnsInHanded {} Try.checked os 10 .any (Rows.fnColourTextSpec.pre6 enc Try.prog Try.f10 Rows.fnColourTextRow.domain false) (Rows.fnColourTextSpec.post enc Try.prog Try.f10 false true false false) := by
  refine returnsInHanded_of_change (C := Try.checked) Try.own started (by kernel_rfl) Try.func10
    (ChangeSpec.witness6 (enc := enc) (C := Try.checked) false ⟨#[], #[.slice none 0 0], []⟩ 8 (by kernel_rfl) (by kernel_rfl) (by kernel_rfl) (by kernel_rfl)) ?_
  intro W base args ds gs before hval0 hW _ _
  have hval : ∀ (j : Nat) t v, Try.f10.params[j]? = some t → args[j]? = some v → Value.okWide Try.prog W .any base t v := hval0
  have hW' := hW
  obtain ⟨p, q, hA0, hV, rfl, _, _⟩ := hW
  have hA : DataW.TrodAll enc Try.prog W 0 (fun _ => true) true Try.f10.params.toList args.toList ds p := hA0
  rw [Try.params10] at hA hval
  obtain ⟨v0, vs0, d0, ds0, p0, q0, hargs, rfl, rfl, h0, r0⟩ := trodAll_cons hA
  obtain ⟨rfl, rfl, rfl⟩ := trodAll_nil r0
  obtain rfl : args = #[v0] := by cases args; simp_all
  obtain ⟨rfl, rfl⟩ := trodVars_none hV
  have k0 := h0
  have lt0 : ∀ x ∈ p0, x.block < W.heap.size := by obtain ⟨m, hm⟩ := k0; exact DataW.trod_lt m _ _ _ hm
  obtain ⟨a0, len0, cap0, rfl⟩ := okWide_slice Try.underlying40 (hval 0 40 v0 rfl rfl)
  obtain ⟨z0, w0⟩ : ∃ zs, IsRow .u8 W a0 len0 cap0 zs := by
    obtain ⟨fuel, hf⟩ := h0
    rcases open_ints Try.underlying40 Try.underlying5 (by kernel_rfl) hf with ⟨hcs, _⟩ | ⟨x, l, c, zs, hcs, _, hl, hm, hz, _, hcell, hwz⟩
    · simp [Value.cells] at hcs
      obtain ⟨rfl, rfl, rfl⟩ := hcs
      exact ⟨[], .inl ⟨rfl, rfl, rfl, rfl⟩⟩
    · simp [Value.cells] at hcs
      obtain ⟨rfl, rfl, rfl⟩ := hcs
      exact ⟨zs, .inr ⟨_, rfl, hl, hm, by simpa using hz, hcell, hwz⟩⟩
  clear hA0 hval0
  refine (FnColourText_walk a0 len0 cap0 z0 W w0).mono fun e W' ⟨he, bel⟩ => ?_
  subst he
  exact ⟨_, rfl, _, _, _, [], _, [], hW', trodAll_mk1 (shut_bool Try.underlying4 _), (trodAll_cons_mk (Below.trod Try.laidOut (by kernel_rfl) (of_decide_eq_true (by kernel_rfl)) k0 bel lt0) trodAll_mk0), rfl, bel.frame _, fun h => by cases h⟩

/-- The statement. -/
theorem fnColourText_proved : Rows.FnColourTextSaid :=
  OpenClaim.holds_of_wide 10 Try.f10 rfl rfl rfl rfl rfl rfl rfl ⟨rfl, rfl, rfl, rfl, rfl⟩ rfl rfl rfl rfl rfl (by kernel_rfl) Try.func10 (by kernel_rfl)
    (of_decide_eq_true (by kernel_rfl)) (by unfold Func.isWrapper; rw [if_neg (of_decide_eq_false (by kernel_rfl))]; exact ⟨rfl, rfl⟩)
    (fun os started H enc _ => fnColourText_lifted os started H enc)
#print axioms fnColourText_proved

end Go.Proofs.Ytenpbnojabhlkaa
