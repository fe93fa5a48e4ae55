/- The law FnSymText: symmetries are read back from what is written, and only symmetries are written. No condition. -/
import Derived.Test.YtnpgdijafmkmkaaSymTextP
import Derived.Test.YtnpgdijafmkmkaaDrawA
import Derived.Test.YtnpgdijafmkmkaaBig
import Derived.Deep.RegionHeld3
import Derived.Deep.CutRange
namespace Go.Proofs.Ytnpgdijafmkmkaa
open Go.RowKit

set_option maxHeartbeats 1000000 in
theorem FnSymText_walk (a : Option Addr) (len cap : Nat) (z : List Int) (w : World) (hz : IsRow .u8 w a len cap z) :
    Calls Try.prog 11 #[.slice a len cap] w fun e w' => e = .returned (.bool true) ∧ Below w.heap.size w w' := by
  have hcode := isCode_of_row hz
  obtain ⟨hm, _⟩ := hcode
  have HC := hide (isCode_of_row hz)
  clear hz
  by_cases hb : 4096 < len
  · go_enter Try.func11, Try.ntmps11
    go_wp2_with fail
    refine (big_any _ _ _ _).mono ?_
    rintro e w' ⟨rfl, rfl⟩
    go_wp2_with fail
    go_ret
    exact ⟨rfl, Below.refl _ _⟩
  · go_enter Try.func11, Try.ntmps11
    go_wp2_with fail
    refine (big_any _ _ _ _).mono ?_
    rintro e w' ⟨rfl, rfl⟩
    go_wp2_with fail
    refine (drawFormatSym_any _ _ _ _ HC.out).mono ?_
    rintro e w1 ⟨t, f, rfl, hb1⟩
    have hs1 := hb1.size
    cases hv : win t 0 3
    · have hp := parse_bad t f hv
      have HP := hide hp
      clear hp
      go_wp2_with fail
      refine (formatSym_any _ _ _).mono ?_
      rintro e w2 ⟨rfl, hbw2⟩
      have bww2 : Below w.heap.size w w2 := by
        refine Below.trans ?_ (hbw2.mono ?_)
        · repeat (first | exact Below.refl _ _ | assumption | refine Below.drew ?_ | refine Below.alloc ?_ (by first | omega | (simp; omega) | simp) _)
        · first | omega | (simp; omega) | simp
      have hsw2 := bww2.size
      have hzw2w10 : w1.heap.size < w2.heap.size := by have := hbw2.size; (try simp at this); omega
      obtain ⟨hcw2, hfw2⟩ := bcell hbw2
      go_wp2_with fail
      refine (parse_any _ _).mono ?_
      rintro e w3 ⟨rfl, hbw3⟩
      have bww3 : Below w.heap.size w w3 := by
        refine Below.trans ?_ (hbw3.mono ?_)
        · repeat (first | exact Below.refl _ _ | assumption | refine Below.drew ?_ | refine Below.alloc ?_ (by first | omega | (simp; omega) | simp) _)
        · first | omega | (simp; omega) | simp
      have hsw3 := bww3.size
      have hzw3w10 : w1.heap.size < w3.heap.size := by have := hbw3.size; (try simp at this); omega
      obtain ⟨hcw3, hfw3⟩ := bcell hbw3
      rw [HP.out.1, HP.out.2.1, HP.out.2.2]
      have k1 := keepc hbw3 (keepc hbw2 (show (w1.alloc (.cells #[.int .i64 t, .bool f] 26)).cell? ⟨w1.heap.size, 0, none⟩ = some (.int .i64 t) by go_simp))
      have k2 := keepc hbw3 (keepc hbw2 (show (w1.alloc (.cells #[.int .i64 t, .bool f] 26)).cell? ⟨w1.heap.size, 1, none⟩ = some (.bool f) by go_simp))
      clear hbw2 hbw3 hcw2 hfw2 hcw3 hfw3 bww2 hzw2w10 hsw2
      go_upto_region 5 with fail
      have nb : Below w3.heap.size w3 (w3.alloc (.cells #[.int .i64 0, .bool false] 26)) := (Below.refl _ _).alloc (Nat.le_refl _) _
      have c0 : (w3.alloc (.cells #[.int .i64 0, .bool false] 26)).cell? ⟨w1.heap.size, 0, none⟩ = some (.int .i64 t) := keepc nb k1
      have c1 : (w3.alloc (.cells #[.int .i64 0, .bool false] 26)).cell? ⟨w1.heap.size, 1, none⟩ = some (.bool f) := keepc nb k2
      have bel : Below w.heap.size w (w3.alloc (.cells #[.int .i64 0, .bool false] 26)) := (by repeat (first | exact Below.refl _ _ | assumption | refine Below.drew ?_ | refine Below.setCell ?_ (by first | (dsimp only; omega) | (simp; omega) | simp) _ | refine Below.alloc ?_ (by first | omega | (simp; omega) | simp) _))
      generalize w3.alloc (.cells #[.int .i64 0, .bool false] 26) = wB at c0 c1 bel ⊢
      have hswB := bel.size
      clear nb k1 k2
      go_cut [23] from 19 to 22 (fun v wx => v = .bool false ∧ Below wB.heap.size wB wx)
      case first =>
        go_region_held3 (fun w' => w'.cell? ⟨w1.heap.size, 0, none⟩ = some (.int .i64 t) ∧ w'.cell? ⟨w1.heap.size, 1, none⟩ = some (.bool f))
          (exact ⟨keepc (by repeat (first | exact Below.refl _ _ | assumption | refine Below.drew ?_ | refine Below.setCell ?_ (by first | (dsimp only; omega) | (simp; omega) | simp) _ | refine Below.alloc ?_ (by first | omega | (simp; omega) | simp) _)) c0, keepc (by repeat (first | exact Below.refl _ _ | assumption | refine Below.drew ?_ | refine Below.setCell ?_ (by first | (dsimp only; omega) | (simp; omega) | simp) _ | refine Below.alloc ?_ (by first | omega | (simp; omega) | simp) _)) c1⟩)
          (first | (go_at_call 17; refine (isSym_any _ _ _).mono ?_; rintro e w' ⟨rfl, rfl⟩) | (go_at_call 15; refine (sIsSym_any _ _ _).mono ?_; rintro e w' ⟨rfl, rfl⟩))
        all_goals (go_wp2_with fail; go_meet; exact ⟨rfl, (by repeat (first | exact Below.refl _ _ | assumption | refine Below.drew ?_ | refine Below.setCell ?_ (by first | (dsimp only; omega) | (simp; omega) | simp) _ | refine Below.alloc ?_ (by first | omega | (simp; omega) | simp) _))⟩)
      case rest =>
        obtain ⟨rfl, hbc⟩ := hcut
        have c0 := keepc hbc c0
        have c1 := keepc hbc c1
        have bel := belowOf bel hbc
        clear hbc
        have hsc := bel.size
        go_wp2_with fail
        refine (isSym_any _ _ _).mono ?_
        rintro e w' ⟨rfl, rfl⟩
        go_wp2_with fail
        have bel6 : Below w.heap.size w (wc.alloc (.cells #[.int .i64 t, .bool f] 26)) := (by repeat (first | exact Below.refl _ _ | assumption | refine Below.drew ?_ | refine Below.alloc ?_ (by first | omega | (simp; omega) | simp) _))
        refine (drawParseSym_any _ _ _ _ (isCode_below HC.out bel6)).mono ?_
        rintro e w6 ⟨s, rfl, hb6⟩
        have bel7 := belowOf bel6 hb6
        have hs7 := bel7.size
        clear hb6
        generalize hT : parT s = T
        generalize hF : parF s = F
        have HT := hide hT
        have HF := hide hF
        cases hO : parOk s
        · have HO := hide hO
          clear hT hF hO
          go_wp2_with fail
          refine (parse_any _ _).mono ?_
          rintro e w7 ⟨rfl, hb7⟩
          rw [HT.out, HF.out, HO.out]
          have bel8 := belowOf bel7 hb7
          have hs8 := bel8.size
          go_wp2_with fail
          go_ret
          exact ⟨rfl, (by repeat (first | exact Below.refl _ _ | assumption | refine Below.drew ?_ | refine Below.setCell ?_ (by first | (dsimp only; omega) | (simp; omega) | simp) _ | refine Below.alloc ?_ (by first | omega | (simp; omega) | simp) _))⟩
        · have hfp := fmt_parse s hO
          have HO := hide hO
          rw [hT, hF] at hfp
          clear hT hF hO
          go_wp2_with fail
          refine (parse_any _ _).mono ?_
          rintro e w7 ⟨rfl, hb7⟩
          rw [HT.out, HF.out, HO.out]
          have bel8 := belowOf bel7 hb7
          have hs8 := bel8.size
          go_wp2_with fail
          refine (formatSym_any _ _ _).mono ?_
          rintro e w8 ⟨rfl, hb8⟩
          have bel9 : Below w.heap.size w w8 := belowOf (by repeat (first | exact Below.refl _ _ | assumption | refine Below.drew ?_ | refine Below.setCell ?_ (by first | (dsimp only; omega) | (simp; omega) | simp) _ | refine Below.alloc ?_ (by first | omega | (simp; omega) | simp) _)) hb8
          go_wp2_with fail
          go_ret
          exact ⟨rfl, bel9⟩
    · have hp := hide (parse_fmt t f hv)
      go_wp2_with fail
      refine (formatSym_any _ _ _).mono ?_
      rintro e w2 ⟨rfl, hbw2⟩
      have bww2 : Below w.heap.size w w2 := by
        refine Below.trans ?_ (hbw2.mono ?_)
        · repeat (first | exact Below.refl _ _ | assumption | refine Below.drew ?_ | refine Below.alloc ?_ (by first | omega | (simp; omega) | simp) _)
        · first | omega | (simp; omega) | simp
      have hsw2 := bww2.size
      have hzw2w10 : w1.heap.size < w2.heap.size := by have := hbw2.size; (try simp at this); omega
      obtain ⟨hcw2, hfw2⟩ := bcell hbw2
      go_wp2_with fail
      refine (parse_any _ _).mono ?_
      rintro e w3 ⟨rfl, hbw3⟩
      have bww3 : Below w.heap.size w w3 := by
        refine Below.trans ?_ (hbw3.mono ?_)
        · repeat (first | exact Below.refl _ _ | assumption | refine Below.drew ?_ | refine Below.alloc ?_ (by first | omega | (simp; omega) | simp) _)
        · first | omega | (simp; omega) | simp
      have hsw3 := bww3.size
      have hzw3w10 : w1.heap.size < w3.heap.size := by have := hbw3.size; (try simp at this); omega
      obtain ⟨hcw3, hfw3⟩ := bcell hbw3
      rw [hp.out.1, hp.out.2.1, hp.out.2.2]
      have k1 := keepc hbw3 (keepc hbw2 (show (w1.alloc (.cells #[.int .i64 t, .bool f] 26)).cell? ⟨w1.heap.size, 0, none⟩ = some (.int .i64 t) by go_simp))
      have k2 := keepc hbw3 (keepc hbw2 (show (w1.alloc (.cells #[.int .i64 t, .bool f] 26)).cell? ⟨w1.heap.size, 1, none⟩ = some (.bool f) by go_simp))
      clear hbw2 hbw3 hcw2 hfw2 hcw3 hfw3 bww2 hzw2w10 hsw2
      go_upto_region 5 with fail
      have nb : Below w3.heap.size w3 (w3.alloc (.cells #[.int .i64 t, .bool f] 26)) := (Below.refl _ _).alloc (Nat.le_refl _) _
      have c0 : (w3.alloc (.cells #[.int .i64 t, .bool f] 26)).cell? ⟨w1.heap.size, 0, none⟩ = some (.int .i64 t) := keepc nb k1
      have c1 : (w3.alloc (.cells #[.int .i64 t, .bool f] 26)).cell? ⟨w1.heap.size, 1, none⟩ = some (.bool f) := keepc nb k2
      have d0 : (w3.alloc (.cells #[.int .i64 t, .bool f] 26)).cell? ⟨w3.heap.size, 0, none⟩ = some (.int .i64 t) := by go_simp
      have d1 : (w3.alloc (.cells #[.int .i64 t, .bool f] 26)).cell? ⟨w3.heap.size, 1, none⟩ = some (.bool f) := by go_simp
      have bel : Below w.heap.size w (w3.alloc (.cells #[.int .i64 t, .bool f] 26)) := (by repeat (first | exact Below.refl _ _ | assumption | refine Below.drew ?_ | refine Below.setCell ?_ (by first | (dsimp only; omega) | (simp; omega) | simp) _ | refine Below.alloc ?_ (by first | omega | (simp; omega) | simp) _))
      generalize w3.alloc (.cells #[.int .i64 t, .bool f] 26) = wB at c0 c1 d0 d1 bel ⊢
      have hswB := bel.size
      clear nb k1 k2
      go_cut [23] from 19 to 22 (fun v wx => v = .bool false ∧ Below wB.heap.size wB wx)
      case first =>
        go_region_held3 (fun w' => w'.cell? ⟨w1.heap.size, 0, none⟩ = some (.int .i64 t) ∧ w'.cell? ⟨w1.heap.size, 1, none⟩ = some (.bool f))
          (exact ⟨keepc (by repeat (first | exact Below.refl _ _ | assumption | refine Below.drew ?_ | refine Below.setCell ?_ (by first | (dsimp only; omega) | (simp; omega) | simp) _ | refine Below.alloc ?_ (by first | omega | (simp; omega) | simp) _)) c0, keepc (by repeat (first | exact Below.refl _ _ | assumption | refine Below.drew ?_ | refine Below.setCell ?_ (by first | (dsimp only; omega) | (simp; omega) | simp) _ | refine Below.alloc ?_ (by first | omega | (simp; omega) | simp) _)) c1⟩)
          (first | (go_at_call 17; refine (isSym_any _ _ _).mono ?_; rintro e w' ⟨rfl, rfl⟩) | (go_at_call 15; refine (sIsSym_any _ _ _).mono ?_; rintro e w' ⟨rfl, rfl⟩))
        all_goals (go_wp2_with fail; go_meet; exact ⟨rfl, (by repeat (first | exact Below.refl _ _ | assumption | refine Below.drew ?_ | refine Below.setCell ?_ (by first | (dsimp only; omega) | (simp; omega) | simp) _ | refine Below.alloc ?_ (by first | omega | (simp; omega) | simp) _))⟩)
      case rest =>
        obtain ⟨rfl, hbc⟩ := hcut
        have c0 := keepc hbc c0
        have c1 := keepc hbc c1
        have d0 := keepc hbc d0
        have d1 := keepc hbc d1
        have bel := belowOf bel hbc
        clear hbc
        have z1 : w1.heap.size < wc.heap.size := World.block_lt_of_cell? wc _ c0
        have z2 : w3.heap.size < wc.heap.size := World.block_lt_of_cell? wc _ d0
        have hsc := bel.size
        go_wp2_with fail
        refine (isSym_any _ _ _).mono ?_
        rintro e w' ⟨rfl, rfl⟩
        go_wp2_with fail
        have bel6 : Below w.heap.size w (wc.alloc (.cells #[.int .i64 t, .bool f] 26)) := (by repeat (first | exact Below.refl _ _ | assumption | refine Below.drew ?_ | refine Below.alloc ?_ (by first | omega | (simp; omega) | simp) _))
        refine (drawParseSym_any _ _ _ _ (isCode_below HC.out bel6)).mono ?_
        rintro e w6 ⟨s, rfl, hb6⟩
        have bel7 := belowOf bel6 hb6
        have hs7 := bel7.size
        clear hb6
        generalize hT : parT s = T
        generalize hF : parF s = F
        have HT := hide hT
        have HF := hide hF
        cases hO : parOk s
        · have HO := hide hO
          clear hT hF hO
          go_wp2_with fail
          refine (parse_any _ _).mono ?_
          rintro e w7 ⟨rfl, hb7⟩
          rw [HT.out, HF.out, HO.out]
          have bel8 := belowOf bel7 hb7
          have hs8 := bel8.size
          go_wp2_with fail
          go_ret
          exact ⟨rfl, (by repeat (first | exact Below.refl _ _ | assumption | refine Below.drew ?_ | refine Below.setCell ?_ (by first | (dsimp only; omega) | (simp; omega) | simp) _ | refine Below.alloc ?_ (by first | omega | (simp; omega) | simp) _))⟩
        · have hfp := fmt_parse s hO
          have HO := hide hO
          rw [hT, hF] at hfp
          clear hT hF hO
          go_wp2_with fail
          refine (parse_any _ _).mono ?_
          rintro e w7 ⟨rfl, hb7⟩
          rw [HT.out, HF.out, HO.out]
          have bel8 := belowOf bel7 hb7
          have hs8 := bel8.size
          go_wp2_with fail
          refine (formatSym_any _ _ _).mono ?_
          rintro e w8 ⟨rfl, hb8⟩
          have bel9 : Below w.heap.size w w8 := belowOf (by repeat (first | exact Below.refl _ _ | assumption | refine Below.drew ?_ | refine Below.setCell ?_ (by first | (dsimp only; omega) | (simp; omega) | simp) _ | refine Below.alloc ?_ (by first | omega | (simp; omega) | simp) _)) hb8
          go_wp2_with fail
          go_ret
          exact ⟨rfl, bel9⟩

open Go.ChangeShapes Go.WideShapes Go.ChangeAt Go.Joins
open Go.ChangeMaps (open_string shut_string)

set_option maxRecDepth 100000 in
theorem fnSymText_lifted (os : Os) (started : os.Started) (H : Type) (enc : TypeId × Value → H) :
    ReturnsInHanded {} Try.checked os 11 .any (Rows.fnSymTextSpec.pre6 enc Try.prog Try.f11 Rows.fnSymTextRow.domain false) (Rows.fnSymTextSpec.post enc Try.prog Try.f11 false true false false) := by
  refine returnsInHanded_of_change (C := Try.checked) Try.own started (by kernel_rfl) Try.func11
    (ChangeSpec.witness6 (enc := enc) (C := Try.checked) false ⟨#[], #[.slice none 0 0], []⟩ 8 (by kernel_rfl) (by kernel_rfl) (by kernel_rfl) (by kernel_rfl)) ?_
  intro W base args ds gs before hval0 hW _ _
  have hval : ∀ (j : Nat) t v, Try.f11.params[j]? = some t → args[j]? = some v → Value.okWide Try.prog W .any base t v := hval0
  have hW' := hW
  obtain ⟨p, q, hA0, hV, rfl, _, _⟩ := hW
  have hA : DataW.TrodAll enc Try.prog W 0 (fun _ => true) true Try.f11.params.toList args.toList ds p := hA0
  rw [Try.params11] at hA hval
  obtain ⟨v0, vs0, d0, ds0, p0, q0, hargs, rfl, rfl, h0, r0⟩ := trodAll_cons hA
  obtain ⟨rfl, rfl, rfl⟩ := trodAll_nil r0
  obtain rfl : args = #[v0] := by cases args; simp_all
  obtain ⟨rfl, rfl⟩ := trodVars_none hV
  have k0 := h0
  have lt0 : ∀ x ∈ p0, x.block < W.heap.size := by obtain ⟨m, hm⟩ := k0; exact DataW.trod_lt m _ _ _ hm
  obtain ⟨a0, len0, cap0, rfl⟩ := okWide_slice Try.underlying47 (hval 0 47 v0 rfl rfl)
  obtain ⟨z0, w0⟩ : ∃ zs, IsRow .u8 W a0 len0 cap0 zs := by
    obtain ⟨fuel, hf⟩ := h0
    rcases open_ints Try.underlying47 Try.underlying5 (by kernel_rfl) hf with ⟨hcs, _⟩ | ⟨x, l, c, zs, hcs, _, hl, hm, hz, _, hcell, hwz⟩
    · simp [Value.cells] at hcs
      obtain ⟨rfl, rfl, rfl⟩ := hcs
      exact ⟨[], .inl ⟨rfl, rfl, rfl, rfl⟩⟩
    · simp [Value.cells] at hcs
      obtain ⟨rfl, rfl, rfl⟩ := hcs
      exact ⟨zs, .inr ⟨_, rfl, hl, hm, by simpa using hz, hcell, hwz⟩⟩
  clear hA0 hval0
  refine (FnSymText_walk a0 len0 cap0 z0 W w0).mono fun e W' ⟨he, bel⟩ => ?_
  subst he
  exact ⟨_, rfl, _, _, _, [], _, [], hW', trodAll_mk1 (shut_bool Try.underlying4 _), (trodAll_cons_mk (Below.trod Try.laidOut (by kernel_rfl) (of_decide_eq_true (by kernel_rfl)) k0 bel lt0) trodAll_mk0), rfl, bel.frame _, fun h => by cases h⟩

/-- The statement. -/
theorem fnSymText_proved : Rows.FnSymTextSaid :=
  OpenClaim.holds_of_wide 11 Try.f11 rfl rfl rfl rfl rfl rfl rfl ⟨rfl, rfl, rfl, rfl, rfl⟩ rfl rfl rfl rfl rfl (by kernel_rfl) Try.func11 (by kernel_rfl)
    (of_decide_eq_true (by kernel_rfl)) (by unfold Func.isWrapper; rw [if_neg (of_decide_eq_false (by kernel_rfl))]; exact ⟨rfl, rfl⟩)
    (fun os started H enc _ => fnSymText_lifted os started H enc)
#print axioms fnSymText_proved

end Go.Proofs.Ytnpgdijafmkmkaa
