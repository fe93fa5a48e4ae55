/- The law FnMixed: mixed by nothing a colour stays, mixed by all it is the other one; filters may be exchanged and do not brighten; white glass is none. No condition. -/
import Derived.Test.YtgafdkaiiajieaaMixP
import Derived.Test.YtgafdkaiiajieaaEqC
import Derived.Test.YtgafdkaiiajieaaDrawC
import Derived.Test.YtgafdkaiiajieaaBig
import Derived.Deep.CutRange
namespace Go.Proofs.Ytgafdkaiiajieaa
open Go.RowKit
open Fl

theorem mix_y (r g b r' g' b' k : Nat) (w : World) (h : isCol r g b = true) (h' : isCol r' g' b' = true) (hk : part k = true) :
    Calls Try.prog 22 #[.agg #[.float .f32 r, .float .f32 g, .float .f32 b], .agg #[.float .f32 r', .float .f32 g', .float .f32 b'], .float .f32 k] w fun e w' => e = .returned (.agg #[.float .f32 (mixF k r r'), .float .f32 (mixF k g g'), .float .f32 (mixF k b b')]) ∧ Below w.heap.size w w' := by
  have q := mix_any r g b r' g' b' k w
  rw [h, h', hk] at q
  exact q

theorem screen_y (r g b r' g' b' : Nat) (w : World) (h : isCol r g b = true) (h' : isCol r' g' b' = true) :
    Calls Try.prog 24 #[.agg #[.float .f32 r, .float .f32 g, .float .f32 b], .agg #[.float .f32 r', .float .f32 g', .float .f32 b']] w fun e w' => e = .returned (.agg #[.float .f32 (diffF one (timesF (diffF one r) (diffF one r'))), .float .f32 (diffF one (timesF (diffF one g) (diffF one g'))), .float .f32 (diffF one (timesF (diffF one b) (diffF one b')))]) ∧ Below w.heap.size w w' := by
  have q := screen_any r g b r' g' b' w
  rw [h, h'] at q
  exact q

theorem bright_y (r g b : Nat) (w : World) (h : isCol r g b = true) :
    Calls Try.prog 25 #[.agg #[.float .f32 r, .float .f32 g, .float .f32 b]] w fun e w' => e = .returned (.float .f32 (grF r g b)) ∧ Below w.heap.size w w' := by
  have q := bright_any r g b w
  rw [h] at q
  exact q

theorem isCol_y (r g b : Nat) (w : World) (h : isCol r g b = true) :
    Calls Try.prog 23 #[.agg #[.float .f32 r, .float .f32 g, .float .f32 b]] w fun e w' => e = .returned (.bool true) ∧ Below w.heap.size w w' := by
  have q := isColourB_any r g b w
  rw [h] at q
  exact q

/-- What the law says of two colours and a share, with the words that the calls hand back. -/
theorem mixed_facts {r g b r' g' b' k : Nat} (h : isCol r g b = true) (h' : isCol r' g' b' = true) (hk : part k = true) :
    eqC (mixF 0 r r') (mixF 0 g g') (mixF 0 b b') r g b = true ∧ eqC (mixF one r r') (mixF one g g') (mixF one b b') r' g' b' = true ∧ isCol (mixF k r r') (mixF k g g') (mixF k b b') = true ∧
    eqC (timesF r one) (timesF g one) (timesF b one) r g b = true ∧ isCol (timesF r r') (timesF g g') (timesF b b') = true ∧
    isCol (diffF one (timesF (diffF one r) (diffF one r'))) (diffF one (timesF (diffF one g) (diffF one g'))) (diffF one (timesF (diffF one b) (diffF one b'))) = true ∧
    (FloatKind.f32.format.order (grF (timesF r r') (timesF g g') (timesF b b')) (grF r g b) == some .lt || FloatKind.f32.format.order (grF (timesF r r') (timesF g g') (timesF b b')) (grF r g b) == some .eq) = true ∧
    (FloatKind.f32.format.order (grF (timesF r r') (timesF g g') (timesF b b')) (grF r' g' b') == some .lt || FloatKind.f32.format.order (grF (timesF r r') (timesF g g') (timesF b b')) (grF r' g' b') == some .eq) = true := by
  obtain ⟨pr, pg, pb⟩ := isCol_parts h
  obtain ⟨pr', pg', pb'⟩ := isCol_parts h'
  have fm : ∀ {k x y : Nat}, part k = true → part x = true → part y = true → fin (mixF k x y) := fun hk hx hy => part_fin (mix_part hx hy hk)
  have ps : ∀ {x y : Nat}, part x = true → part y = true → part (diffF one (timesF (diffF one x) (diffF one y))) = true := fun hx hy => part_diff (part_times (part_diff hx) (part_diff hy))
  have ft : ∀ {x y : Nat}, part x = true → part y = true → fin (timesF x y) := fun hx hy => part_fin (part_times hx hy)
  refine ⟨eqC_of (fm part_zero pr pr') (fm part_zero pg pg') (fm part_zero pb pb') (part_fin pr) (part_fin pg) (part_fin pb) (mix_none pr pr') (mix_none pg pg') (mix_none pb pb'),
    eqC_of (fm part_one pr pr') (fm part_one pg pg') (fm part_one pb pb') (part_fin pr') (part_fin pg') (part_fin pb') (mix_all pr pr') (mix_all pg pg') (mix_all pb pb'),
    isCol_of (mix_part pr pr' hk) (mix_part pg pg' hk) (mix_part pb pb' hk),
    eqC_of (ft pr part_one) (ft pg part_one) (ft pb part_one) (part_fin pr) (part_fin pg) (part_fin pb) (times_one pr) (times_one pg) (times_one pb),
    isCol_of (part_times pr pr') (part_times pg pg') (part_times pb pb'),
    isCol_of (ps pr pr') (ps pg pg') (ps pb pb'), ?_, ?_⟩
  · rw [order_le (gr_fin (ft pr pr') (ft pg pg') (ft pb pb')) (gr_fin (part_fin pr) (part_fin pg) (part_fin pb))]
    exact decide_eq_true (gr_le (ft pr pr') (ft pg pg') (ft pb pb') (part_fin pr) (part_fin pg) (part_fin pb) (times_le pr pr') (times_le pg pg') (times_le pb pb'))
  · rw [order_le (gr_fin (ft pr pr') (ft pg pg') (ft pb pb')) (gr_fin (part_fin pr') (part_fin pg') (part_fin pb'))]
    refine decide_eq_true (gr_le (ft pr pr') (ft pg pg') (ft pb pb') (part_fin pr') (part_fin pg') (part_fin pb') ?_ ?_ ?_)
    · rw [times_comm]; exact times_le pr' pr
    · rw [times_comm]; exact times_le pg' pg
    · rw [times_comm]; exact times_le pb' pb

theorem eqC_self {r g b : Nat} (h : isCol r g b = true) : eqC r g b r g b = true := by
  obtain ⟨pr, pg, pb⟩ := isCol_parts h
  exact eqC_of (part_fin pr) (part_fin pg) (part_fin pb) (part_fin pr) (part_fin pg) (part_fin pb) rfl rfl rfl

theorem white_col : isCol one one one = true := by unfold isCol; rw [part_one]; rfl

set_option maxRecDepth 100000 in
set_option maxHeartbeats 4000000 in
theorem FnMixed_walk (a : Option Addr) (len cap : Nat) (z : List Int) (w : World) (hz : IsRow .u8 w a len cap z) :
    Calls Try.prog 5 #[.slice a len cap] w fun e w' => e = .returned (.bool true) ∧ Below w.heap.size w w' := by
  have HC := hide (isCode_of_row hz)
  have hm := (isCode_of_row hz).1
  clear hz
  by_cases hb : 4096 < len
  · go_enter Try.func5, Try.ntmps5
    go_wp2_with fail
    refine (big_any _ _ _ _).mono ?_
    rintro e w' ⟨rfl, rfl⟩
    go_wp2_with fail
    go_ret
    exact ⟨rfl, Below.refl _ _⟩
  · go_enter Try.func5, Try.ntmps5
    go_wp2_with fail
    refine (big_any _ _ _ _).mono ?_
    rintro e w' ⟨rfl, rfl⟩
    go_wp2_with fail
    refine (drawColours_any _ _ _ _ HC.out).mono ?_
    rintro e w1 ⟨r, g, b, r', g', b', k, rfl, hv, hv', hk, bel⟩
    have hs1 := bel.size
    have M0 := fun W => mix_y r g b r' g' b' 0 W hv hv' part_zero
    have M1 := fun W => mix_y r g b r' g' b' one W hv hv' part_one
    have MK := fun W => mix_y r g b r' g' b' k W hv hv' hk
    obtain ⟨pr, pg, pb⟩ := isCol_parts hv
    obtain ⟨pr', pg', pb'⟩ := isCol_parts hv'
    have F1 := fun W => filter_yes r g b r' g' b' W pr pg pb pr' pg' pb'
    have F2 := fun W => filter_yes r' g' b' r g b W pr' pg' pb' pr pg pb
    have F3 := fun W => filter_yes r g b one one one W pr pg pb part_one part_one part_one
    have S1 := fun W => screen_y r g b r' g' b' W hv hv'
    have S2 := fun W => screen_y r' g' b' r g b W hv' hv
    obtain ⟨q1, q2, q3, q4, q5, q6, q7, q8⟩ := mixed_facts hv hv' hk
    rw [times_comm r' r, times_comm g' g, times_comm b' b] at F2
    rw [times_comm (diffF one r') (diffF one r), times_comm (diffF one g') (diffF one g), times_comm (diffF one b') (diffF one b)] at S2
    have B1 := fun W => bright_y _ _ _ W q5
    have B2 := fun W => bright_y r g b W hv
    have B3 := fun W => bright_y r' g' b' W hv'
    have C1 := fun W => isCol_y _ _ _ W q3
    have C2 := fun W => isCol_y _ _ _ W q5
    have C3 := fun W => isCol_y _ _ _ W q6
    have q9 := eqC_self q5
    have q10 := eqC_self q6
    clear hv hv' hk pr pg pb pr' pg' pb' q3 q5 q6
    generalize grF (timesF r r') (timesF g g') (timesF b b') = bf at B1 q7 q8
    generalize grF r g b = ba at B2 q7
    generalize grF r' g' b' = bb at B3 q8
    generalize mixF 0 r r' = m0r at M0 q1
    generalize mixF 0 g g' = m0g at M0 q1
    generalize mixF 0 b b' = m0b at M0 q1
    generalize mixF one r r' = m1r at M1 q2
    generalize mixF one g g' = m1g at M1 q2
    generalize mixF one b b' = m1b at M1 q2
    generalize mixF k r r' = mkr at MK C1
    generalize mixF k g g' = mkg at MK C1
    generalize mixF k b b' = mkb at MK C1
    generalize diffF one (timesF (diffF one r) (diffF one r')) = sr at S1 S2 C3 q10
    generalize diffF one (timesF (diffF one g) (diffF one g')) = sg at S1 S2 C3 q10
    generalize diffF one (timesF (diffF one b) (diffF one b')) = sb at S1 S2 C3 q10
    generalize timesF r r' = fr at F1 F2 B1 C2 q9
    generalize timesF g g' = fg at F1 F2 B1 C2 q9
    generalize timesF b b' = fb at F1 F2 B1 C2 q9
    generalize timesF r one = wr at F3 q4
    generalize timesF g one = wg at F3 q4
    generalize timesF b one = wb at F3 q4
    have HM0 := hide M0
    have HM1 := hide M1
    have HMK := hide MK
    have HF1 := hide F1
    have HF2 := hide F2
    have HF3 := hide F3
    have HS1 := hide S1
    have HS2 := hide S2
    have HB1 := hide B1
    have HB2 := hide B2
    have HB3 := hide B3
    have HC1 := hide C1
    have HC2 := hide C2
    have HC3 := hide C3
    clear M0 M1 MK F1 F2 F3 S1 S2 B1 B2 B3 C1 C2 C3
    go_wp2_with fail
    have a0 : ((((w1.alloc (.cells #[.float .f32 r, .float .f32 g, .float .f32 b] 41)).alloc (.cells #[.float .f32 r', .float .f32 g', .float .f32 b'] 41)).alloc (.cells #[.float .f32 1065353216, .float .f32 1065353216, .float .f32 1065353216] 41))).cell? ⟨w1.heap.size, 0, none⟩ = some (.float .f32 r) := by go_simp
    have a1 : ((((w1.alloc (.cells #[.float .f32 r, .float .f32 g, .float .f32 b] 41)).alloc (.cells #[.float .f32 r', .float .f32 g', .float .f32 b'] 41)).alloc (.cells #[.float .f32 1065353216, .float .f32 1065353216, .float .f32 1065353216] 41))).cell? ⟨w1.heap.size, 1, none⟩ = some (.float .f32 g) := by go_simp
    have a2 : ((((w1.alloc (.cells #[.float .f32 r, .float .f32 g, .float .f32 b] 41)).alloc (.cells #[.float .f32 r', .float .f32 g', .float .f32 b'] 41)).alloc (.cells #[.float .f32 1065353216, .float .f32 1065353216, .float .f32 1065353216] 41))).cell? ⟨w1.heap.size, 2, none⟩ = some (.float .f32 b) := by go_simp
    have b0 : ((((w1.alloc (.cells #[.float .f32 r, .float .f32 g, .float .f32 b] 41)).alloc (.cells #[.float .f32 r', .float .f32 g', .float .f32 b'] 41)).alloc (.cells #[.float .f32 1065353216, .float .f32 1065353216, .float .f32 1065353216] 41))).cell? ⟨w1.heap.size + 1, 0, none⟩ = some (.float .f32 r') := by go_simp
    have b1 : ((((w1.alloc (.cells #[.float .f32 r, .float .f32 g, .float .f32 b] 41)).alloc (.cells #[.float .f32 r', .float .f32 g', .float .f32 b'] 41)).alloc (.cells #[.float .f32 1065353216, .float .f32 1065353216, .float .f32 1065353216] 41))).cell? ⟨w1.heap.size + 1, 1, none⟩ = some (.float .f32 g') := by go_simp
    have b2 : ((((w1.alloc (.cells #[.float .f32 r, .float .f32 g, .float .f32 b] 41)).alloc (.cells #[.float .f32 r', .float .f32 g', .float .f32 b'] 41)).alloc (.cells #[.float .f32 1065353216, .float .f32 1065353216, .float .f32 1065353216] 41))).cell? ⟨w1.heap.size + 1, 2, none⟩ = some (.float .f32 b') := by go_simp
    have c0 : ((((w1.alloc (.cells #[.float .f32 r, .float .f32 g, .float .f32 b] 41)).alloc (.cells #[.float .f32 r', .float .f32 g', .float .f32 b'] 41)).alloc (.cells #[.float .f32 1065353216, .float .f32 1065353216, .float .f32 1065353216] 41))).cell? ⟨w1.heap.size + 1 + 1, 0, none⟩ = some (.float .f32 1065353216) := by go_simp
    have c1 : ((((w1.alloc (.cells #[.float .f32 r, .float .f32 g, .float .f32 b] 41)).alloc (.cells #[.float .f32 r', .float .f32 g', .float .f32 b'] 41)).alloc (.cells #[.float .f32 1065353216, .float .f32 1065353216, .float .f32 1065353216] 41))).cell? ⟨w1.heap.size + 1 + 1, 1, none⟩ = some (.float .f32 1065353216) := by go_simp
    have c2 : ((((w1.alloc (.cells #[.float .f32 r, .float .f32 g, .float .f32 b] 41)).alloc (.cells #[.float .f32 r', .float .f32 g', .float .f32 b'] 41)).alloc (.cells #[.float .f32 1065353216, .float .f32 1065353216, .float .f32 1065353216] 41))).cell? ⟨w1.heap.size + 1 + 1, 2, none⟩ = some (.float .f32 1065353216) := by go_simp
    have bel : Below w.heap.size w ((((w1.alloc (.cells #[.float .f32 r, .float .f32 g, .float .f32 b] 41)).alloc (.cells #[.float .f32 r', .float .f32 g', .float .f32 b'] 41)).alloc (.cells #[.float .f32 1065353216, .float .f32 1065353216, .float .f32 1065353216] 41))) := (by repeat (first | exact Below.refl _ _ | assumption | refine Below.drew ?_ | refine Below.setCell ?_ (by first | (dsimp only; omega) | (simp; omega) | simp) _ | refine Below.alloc ?_ (by first | omega | (simp; omega) | simp) _))
    generalize (((w1.alloc (.cells #[.float .f32 r, .float .f32 g, .float .f32 b] 41)).alloc (.cells #[.float .f32 r', .float .f32 g', .float .f32 b'] 41)).alloc (.cells #[.float .f32 1065353216, .float .f32 1065353216, .float .f32 1065353216] 41)) = wA at a0 a1 a2 b0 b1 b2 c0 c1 c2 bel ⊢
    have hswA := bel.size
    refine (HF1.out _).mono ?_
    rintro e w2 ⟨rfl, hb2⟩
    have a0 := keepc hb2 a0
    have a1 := keepc hb2 a1
    have a2 := keepc hb2 a2
    have b0 := keepc hb2 b0
    have b1 := keepc hb2 b1
    have b2 := keepc hb2 b2
    have c0 := keepc hb2 c0
    have c1 := keepc hb2 c1
    have c2 := keepc hb2 c2
    have bel := belowOf bel hb2
    have hlt2 : w1.heap.size + 1 + 1 < w2.heap.size := World.block_lt_of_cell? w2 _ c0
    clear hb2
    go_upto_region 6 with fail
    have nb : Below w2.heap.size w2 (w2.alloc (.cells #[.float .f32 fr, .float .f32 fg, .float .f32 fb] 41)) := (Below.refl _ _).alloc (Nat.le_refl _) _
    have a0 := keepc nb a0
    have a1 := keepc nb a1
    have a2 := keepc nb a2
    have b0 := keepc nb b0
    have b1 := keepc nb b1
    have b2 := keepc nb b2
    have c0 := keepc nb c0
    have c1 := keepc nb c1
    have c2 := keepc nb c2
    have bel := belowOf bel nb
    have f0 : (w2.alloc (.cells #[.float .f32 fr, .float .f32 fg, .float .f32 fb] 41)).cell? ⟨w2.heap.size, 0, none⟩ = some (.float .f32 fr) := by go_simp
    have f1 : (w2.alloc (.cells #[.float .f32 fr, .float .f32 fg, .float .f32 fb] 41)).cell? ⟨w2.heap.size, 1, none⟩ = some (.float .f32 fg) := by go_simp
    have f2 : (w2.alloc (.cells #[.float .f32 fr, .float .f32 fg, .float .f32 fb] 41)).cell? ⟨w2.heap.size, 2, none⟩ = some (.float .f32 fb) := by go_simp
    clear nb
    generalize w2.alloc (.cells #[.float .f32 fr, .float .f32 fg, .float .f32 fb] 41) = wB at a0 a1 a2 b0 b1 b2 c0 c1 c2 f0 f1 f2 bel ⊢
    go_cut [39] from 20 to 39 (fun s39 wx => s39 = .bool false ∧ Below wB.heap.size wB wx)
    case first =>
      go_region_held3 (fun w' => w'.cell? ⟨w1.heap.size, 0, none⟩ = some (.float .f32 r) ∧ w'.cell? ⟨w1.heap.size, 1, none⟩ = some (.float .f32 g) ∧ w'.cell? ⟨w1.heap.size, 2, none⟩ = some (.float .f32 b) ∧ w'.cell? ⟨w1.heap.size + 1, 0, none⟩ = some (.float .f32 r') ∧ w'.cell? ⟨w1.heap.size + 1, 1, none⟩ = some (.float .f32 g') ∧ w'.cell? ⟨w1.heap.size + 1, 2, none⟩ = some (.float .f32 b'))
        (exact ⟨keepc (by repeat (first | exact Below.refl _ _ | assumption | refine Below.drew ?_ | refine Below.setCell ?_ (by first | (dsimp only; omega) | (simp; omega) | simp) _ | refine Below.alloc ?_ (by first | omega | (simp; omega) | simp) _)) a0, keepc (by repeat (first | exact Below.refl _ _ | assumption | refine Below.drew ?_ | refine Below.setCell ?_ (by first | (dsimp only; omega) | (simp; omega) | simp) _ | refine Below.alloc ?_ (by first | omega | (simp; omega) | simp) _)) a1, keepc (by repeat (first | exact Below.refl _ _ | assumption | refine Below.drew ?_ | refine Below.setCell ?_ (by first | (dsimp only; omega) | (simp; omega) | simp) _ | refine Below.alloc ?_ (by first | omega | (simp; omega) | simp) _)) a2, keepc (by repeat (first | exact Below.refl _ _ | assumption | refine Below.drew ?_ | refine Below.setCell ?_ (by first | (dsimp only; omega) | (simp; omega) | simp) _ | refine Below.alloc ?_ (by first | omega | (simp; omega) | simp) _)) b0, keepc (by repeat (first | exact Below.refl _ _ | assumption | refine Below.drew ?_ | refine Below.setCell ?_ (by first | (dsimp only; omega) | (simp; omega) | simp) _ | refine Below.alloc ?_ (by first | omega | (simp; omega) | simp) _)) b1, keepc (by repeat (first | exact Below.refl _ _ | assumption | refine Below.drew ?_ | refine Below.setCell ?_ (by first | (dsimp only; omega) | (simp; omega) | simp) _ | refine Below.alloc ?_ (by first | omega | (simp; omega) | simp) _)) b2⟩)
        (first | (go_at_call 22; (first | (with_reducible refine (HM0.out _).mono ?_) | (with_reducible refine (HM1.out _).mono ?_) | (with_reducible refine (HMK.out _).mono ?_)); rintro e w3 ⟨rfl, hb3⟩; have bw := belowOf (w := wB) (by repeat (first | exact Below.refl _ _ | assumption | refine Below.drew ?_ | refine Below.setCell ?_ (by first | (dsimp only; omega) | (simp; omega) | simp) _ | refine Below.alloc ?_ (by first | omega | (simp; omega) | simp) _)) hb3) | (go_at_call 23; (with_reducible refine (HC1.out _).mono ?_); rintro e w3 ⟨rfl, hb3⟩; have bw := belowOf (w := wB) (by repeat (first | exact Below.refl _ _ | assumption | refine Below.drew ?_ | refine Below.setCell ?_ (by first | (dsimp only; omega) | (simp; omega) | simp) _ | refine Below.alloc ?_ (by first | omega | (simp; omega) | simp) _)) hb3))
      all_goals (go_wp2_with fail; go_meet)
      all_goals exact ⟨rfl, bw⟩
    case rest =>
      obtain ⟨rfl, bel1⟩ := hcut
      have a0 := keepc bel1 a0
      have a1 := keepc bel1 a1
      have a2 := keepc bel1 a2
      have b0 := keepc bel1 b0
      have b1 := keepc bel1 b1
      have b2 := keepc bel1 b2
      have c0 := keepc bel1 c0
      have c1 := keepc bel1 c1
      have c2 := keepc bel1 c2
      have f0 := keepc bel1 f0
      have f1 := keepc bel1 f1
      have f2 := keepc bel1 f2
      have bel := belowOf bel bel1
      clear bel1
      obtain ⟨wC, rfl⟩ : ∃ wC : World, wC = wc := ⟨_, rfl⟩
      go_upto_region 8 with fail
      go_cut [60] from 40 to 60 (fun s60 wx => s60 = .bool false ∧ Below wC.heap.size wC wx)
      case first =>
        go_region_held3 (fun w' => w'.cell? ⟨w1.heap.size, 0, none⟩ = some (.float .f32 r) ∧ w'.cell? ⟨w1.heap.size, 1, none⟩ = some (.float .f32 g) ∧ w'.cell? ⟨w1.heap.size, 2, none⟩ = some (.float .f32 b) ∧ w'.cell? ⟨w1.heap.size + 1, 0, none⟩ = some (.float .f32 r') ∧ w'.cell? ⟨w1.heap.size + 1, 1, none⟩ = some (.float .f32 g') ∧ w'.cell? ⟨w1.heap.size + 1, 2, none⟩ = some (.float .f32 b') ∧ w'.cell? ⟨w1.heap.size + 1 + 1, 0, none⟩ = some (.float .f32 1065353216) ∧ w'.cell? ⟨w1.heap.size + 1 + 1, 1, none⟩ = some (.float .f32 1065353216) ∧ w'.cell? ⟨w1.heap.size + 1 + 1, 2, none⟩ = some (.float .f32 1065353216) ∧ w'.cell? ⟨w2.heap.size, 0, none⟩ = some (.float .f32 fr) ∧ w'.cell? ⟨w2.heap.size, 1, none⟩ = some (.float .f32 fg) ∧ w'.cell? ⟨w2.heap.size, 2, none⟩ = some (.float .f32 fb))
          (exact ⟨keepc (by repeat (first | exact Below.refl _ _ | assumption | refine Below.drew ?_ | refine Below.setCell ?_ (by first | (dsimp only; omega) | (simp; omega) | simp) _ | refine Below.alloc ?_ (by first | omega | (simp; omega) | simp) _)) a0, keepc (by repeat (first | exact Below.refl _ _ | assumption | refine Below.drew ?_ | refine Below.setCell ?_ (by first | (dsimp only; omega) | (simp; omega) | simp) _ | refine Below.alloc ?_ (by first | omega | (simp; omega) | simp) _)) a1, keepc (by repeat (first | exact Below.refl _ _ | assumption | refine Below.drew ?_ | refine Below.setCell ?_ (by first | (dsimp only; omega) | (simp; omega) | simp) _ | refine Below.alloc ?_ (by first | omega | (simp; omega) | simp) _)) a2, keepc (by repeat (first | exact Below.refl _ _ | assumption | refine Below.drew ?_ | refine Below.setCell ?_ (by first | (dsimp only; omega) | (simp; omega) | simp) _ | refine Below.alloc ?_ (by first | omega | (simp; omega) | simp) _)) b0, keepc (by repeat (first | exact Below.refl _ _ | assumption | refine Below.drew ?_ | refine Below.setCell ?_ (by first | (dsimp only; omega) | (simp; omega) | simp) _ | refine Below.alloc ?_ (by first | omega | (simp; omega) | simp) _)) b1, keepc (by repeat (first | exact Below.refl _ _ | assumption | refine Below.drew ?_ | refine Below.setCell ?_ (by first | (dsimp only; omega) | (simp; omega) | simp) _ | refine Below.alloc ?_ (by first | omega | (simp; omega) | simp) _)) b2, keepc (by repeat (first | exact Below.refl _ _ | assumption | refine Below.drew ?_ | refine Below.setCell ?_ (by first | (dsimp only; omega) | (simp; omega) | simp) _ | refine Below.alloc ?_ (by first | omega | (simp; omega) | simp) _)) c0, keepc (by repeat (first | exact Below.refl _ _ | assumption | refine Below.drew ?_ | refine Below.setCell ?_ (by first | (dsimp only; omega) | (simp; omega) | simp) _ | refine Below.alloc ?_ (by first | omega | (simp; omega) | simp) _)) c1, keepc (by repeat (first | exact Below.refl _ _ | assumption | refine Below.drew ?_ | refine Below.setCell ?_ (by first | (dsimp only; omega) | (simp; omega) | simp) _ | refine Below.alloc ?_ (by first | omega | (simp; omega) | simp) _)) c2, keepc (by repeat (first | exact Below.refl _ _ | assumption | refine Below.drew ?_ | refine Below.setCell ?_ (by first | (dsimp only; omega) | (simp; omega) | simp) _ | refine Below.alloc ?_ (by first | omega | (simp; omega) | simp) _)) f0, keepc (by repeat (first | exact Below.refl _ _ | assumption | refine Below.drew ?_ | refine Below.setCell ?_ (by first | (dsimp only; omega) | (simp; omega) | simp) _ | refine Below.alloc ?_ (by first | omega | (simp; omega) | simp) _)) f1, keepc (by repeat (first | exact Below.refl _ _ | assumption | refine Below.drew ?_ | refine Below.setCell ?_ (by first | (dsimp only; omega) | (simp; omega) | simp) _ | refine Below.alloc ?_ (by first | omega | (simp; omega) | simp) _)) f2⟩)
          (first | (go_at_call 21; (first | (with_reducible refine (HF2.out _).mono ?_) | (with_reducible refine (HF3.out _).mono ?_)); rintro e w3 ⟨rfl, hb3⟩; have bw := belowOf (w := wC) (by repeat (first | exact Below.refl _ _ | assumption | refine Below.drew ?_ | refine Below.setCell ?_ (by first | (dsimp only; omega) | (simp; omega) | simp) _ | refine Below.alloc ?_ (by first | omega | (simp; omega) | simp) _)) hb3) | (go_at_call 24; (first | (with_reducible refine (HS1.out _).mono ?_) | (with_reducible refine (HS2.out _).mono ?_)); rintro e w3 ⟨rfl, hb3⟩; have bw := belowOf (w := wC) (by repeat (first | exact Below.refl _ _ | assumption | refine Below.drew ?_ | refine Below.setCell ?_ (by first | (dsimp only; omega) | (simp; omega) | simp) _ | refine Below.alloc ?_ (by first | omega | (simp; omega) | simp) _)) hb3))
        all_goals (go_wp2_with fail; go_meet)
        all_goals exact ⟨rfl, bw⟩
      case rest =>
        obtain ⟨rfl, bel1⟩ := hcut
        have a0 := keepc bel1 a0
        have a1 := keepc bel1 a1
        have a2 := keepc bel1 a2
        have b0 := keepc bel1 b0
        have b1 := keepc bel1 b1
        have b2 := keepc bel1 b2
        have f0 := keepc bel1 f0
        have f1 := keepc bel1 f1
        have f2 := keepc bel1 f2
        have bel := belowOf bel bel1
        clear bel1 c0 c1 c2
        obtain ⟨wD, rfl⟩ : ∃ wD : World, wD = wc := ⟨_, rfl⟩
        go_upto_region 10 with fail
        go_region_held3 (fun w' => w'.cell? ⟨w1.heap.size, 0, none⟩ = some (.float .f32 r) ∧ w'.cell? ⟨w1.heap.size, 1, none⟩ = some (.float .f32 g) ∧ w'.cell? ⟨w1.heap.size, 2, none⟩ = some (.float .f32 b) ∧ w'.cell? ⟨w1.heap.size + 1, 0, none⟩ = some (.float .f32 r') ∧ w'.cell? ⟨w1.heap.size + 1, 1, none⟩ = some (.float .f32 g') ∧ w'.cell? ⟨w1.heap.size + 1, 2, none⟩ = some (.float .f32 b') ∧ w'.cell? ⟨w2.heap.size, 0, none⟩ = some (.float .f32 fr) ∧ w'.cell? ⟨w2.heap.size, 1, none⟩ = some (.float .f32 fg) ∧ w'.cell? ⟨w2.heap.size, 2, none⟩ = some (.float .f32 fb))
          (exact ⟨keepc (by repeat (first | exact Below.refl _ _ | assumption | refine Below.drew ?_ | refine Below.setCell ?_ (by first | (dsimp only; omega) | (simp; omega) | simp) _ | refine Below.alloc ?_ (by first | omega | (simp; omega) | simp) _)) a0, keepc (by repeat (first | exact Below.refl _ _ | assumption | refine Below.drew ?_ | refine Below.setCell ?_ (by first | (dsimp only; omega) | (simp; omega) | simp) _ | refine Below.alloc ?_ (by first | omega | (simp; omega) | simp) _)) a1, keepc (by repeat (first | exact Below.refl _ _ | assumption | refine Below.drew ?_ | refine Below.setCell ?_ (by first | (dsimp only; omega) | (simp; omega) | simp) _ | refine Below.alloc ?_ (by first | omega | (simp; omega) | simp) _)) a2, keepc (by repeat (first | exact Below.refl _ _ | assumption | refine Below.drew ?_ | refine Below.setCell ?_ (by first | (dsimp only; omega) | (simp; omega) | simp) _ | refine Below.alloc ?_ (by first | omega | (simp; omega) | simp) _)) b0, keepc (by repeat (first | exact Below.refl _ _ | assumption | refine Below.drew ?_ | refine Below.setCell ?_ (by first | (dsimp only; omega) | (simp; omega) | simp) _ | refine Below.alloc ?_ (by first | omega | (simp; omega) | simp) _)) b1, keepc (by repeat (first | exact Below.refl _ _ | assumption | refine Below.drew ?_ | refine Below.setCell ?_ (by first | (dsimp only; omega) | (simp; omega) | simp) _ | refine Below.alloc ?_ (by first | omega | (simp; omega) | simp) _)) b2, keepc (by repeat (first | exact Below.refl _ _ | assumption | refine Below.drew ?_ | refine Below.setCell ?_ (by first | (dsimp only; omega) | (simp; omega) | simp) _ | refine Below.alloc ?_ (by first | omega | (simp; omega) | simp) _)) f0, keepc (by repeat (first | exact Below.refl _ _ | assumption | refine Below.drew ?_ | refine Below.setCell ?_ (by first | (dsimp only; omega) | (simp; omega) | simp) _ | refine Below.alloc ?_ (by first | omega | (simp; omega) | simp) _)) f1, keepc (by repeat (first | exact Below.refl _ _ | assumption | refine Below.drew ?_ | refine Below.setCell ?_ (by first | (dsimp only; omega) | (simp; omega) | simp) _ | refine Below.alloc ?_ (by first | omega | (simp; omega) | simp) _)) f2⟩)
          (first | (go_at_call 25; (first | (with_reducible refine (HB1.out _).mono ?_) | (with_reducible refine (HB2.out _).mono ?_) | (with_reducible refine (HB3.out _).mono ?_)); rintro e w3 ⟨rfl, hb3⟩; have bw := belowOf (w := wD) (by repeat (first | exact Below.refl _ _ | assumption | refine Below.drew ?_ | refine Below.setCell ?_ (by first | (dsimp only; omega) | (simp; omega) | simp) _ | refine Below.alloc ?_ (by first | omega | (simp; omega) | simp) _)) hb3) | (go_at_call 24; (with_reducible refine (HS1.out _).mono ?_); rintro e w3 ⟨rfl, hb3⟩; have bw := belowOf (w := wD) (by repeat (first | exact Below.refl _ _ | assumption | refine Below.drew ?_ | refine Below.setCell ?_ (by first | (dsimp only; omega) | (simp; omega) | simp) _ | refine Below.alloc ?_ (by first | omega | (simp; omega) | simp) _)) hb3) | (go_at_call 23; (first | (with_reducible refine (HC2.out _).mono ?_) | (with_reducible refine (HC3.out _).mono ?_)); rintro e w3 ⟨rfl, hb3⟩; have bw := belowOf (w := wD) (by repeat (first | exact Below.refl _ _ | assumption | refine Below.drew ?_ | refine Below.setCell ?_ (by first | (dsimp only; omega) | (simp; omega) | simp) _ | refine Below.alloc ?_ (by first | omega | (simp; omega) | simp) _)) hb3))
        all_goals
          go_wp2_with fail
          go_ret
          exact ⟨rfl, belowOf bel bw⟩

open Go.ChangeShapes Go.WideShapes Go.ChangeAt Go.Joins
open Go.ChangeMaps (open_string shut_string)

set_option maxRecDepth 100000 in
theorem fnMixed_lifted (os : Os) (started : os.Started) (H : Type) (enc : TypeId × Value → H) :
    ReturnsInHanded {} Try.checked os 5 .any (Rows.fnMixedSpec.pre6 enc Try.prog Try.f5 Rows.fnMixedRow.domain false) (Rows.fnMixedSpec.post enc Try.prog Try.f5 false true false false) := by
  refine returnsInHanded_of_change (C := Try.checked) Try.own started (by kernel_rfl) Try.func5
    (ChangeSpec.witness6 (enc := enc) (C := Try.checked) false ⟨#[], #[.slice none 0 0], []⟩ 8 (by kernel_rfl) (by kernel_rfl) (by kernel_rfl) (by kernel_rfl)) ?_
  intro W base args ds gs before hval0 hW _ _
  have hval : ∀ (j : Nat) t v, Try.f5.params[j]? = some t → args[j]? = some v → Value.okWide Try.prog W .any base t v := hval0
  have hW' := hW
  obtain ⟨p, q, hA0, hV, rfl, _, _⟩ := hW
  have hA : DataW.TrodAll enc Try.prog W 0 (fun _ => true) true Try.f5.params.toList args.toList ds p := hA0
  rw [Try.params5] at hA hval
  obtain ⟨v0, vs0, d0, ds0, p0, q0, hargs, rfl, rfl, h0, r0⟩ := trodAll_cons hA
  obtain ⟨rfl, rfl, rfl⟩ := trodAll_nil r0
  obtain rfl : args = #[v0] := by cases args; simp_all
  obtain ⟨rfl, rfl⟩ := trodVars_none hV
  have k0 := h0
  have lt0 : ∀ x ∈ p0, x.block < W.heap.size := by obtain ⟨m, hm⟩ := k0; exact DataW.trod_lt m _ _ _ hm
  obtain ⟨a0, len0, cap0, rfl⟩ := okWide_slice Try.underlying22 (hval 0 22 v0 rfl rfl)
  obtain ⟨z0, w0⟩ : ∃ zs, IsRow .u8 W a0 len0 cap0 zs := by
    obtain ⟨fuel, hf⟩ := h0
    rcases open_ints Try.underlying22 Try.underlying5 (by kernel_rfl) hf with ⟨hcs, _⟩ | ⟨x, l, c, zs, hcs, _, hl, hm, hz, _, hcell, hwz⟩
    · simp [Value.cells] at hcs
      obtain ⟨rfl, rfl, rfl⟩ := hcs
      exact ⟨[], .inl ⟨rfl, rfl, rfl, rfl⟩⟩
    · simp [Value.cells] at hcs
      obtain ⟨rfl, rfl, rfl⟩ := hcs
      exact ⟨zs, .inr ⟨_, rfl, hl, hm, by simpa using hz, hcell, hwz⟩⟩
  clear hA0 hval0
  refine (FnMixed_walk a0 len0 cap0 z0 W w0).mono fun e W' ⟨he, bel⟩ => ?_
  subst he
  exact ⟨_, rfl, _, _, _, [], _, [], hW', trodAll_mk1 (shut_bool Try.underlying4 _), (trodAll_cons_mk (Below.trod Try.laidOut (by kernel_rfl) (of_decide_eq_true (by kernel_rfl)) k0 bel lt0) trodAll_mk0), rfl, bel.frame _, fun h => by cases h⟩

/-- The statement. -/
theorem fnMixed_proved : Rows.FnMixedSaid :=
  OpenClaim.holds_of_wide 5 Try.f5 rfl rfl rfl rfl rfl rfl rfl ⟨rfl, rfl, rfl, rfl, rfl⟩ rfl rfl rfl rfl rfl (by kernel_rfl) Try.func5 (by kernel_rfl)
    (of_decide_eq_true (by kernel_rfl)) (by unfold Func.isWrapper; rw [if_neg (of_decide_eq_false (by kernel_rfl))]; exact ⟨rfl, rfl⟩)
    (fun os started H enc _ => fnMixed_lifted os started H enc)
#print axioms fnMixed_proved

end Go.Proofs.Ytgafdkaiiajieaa
