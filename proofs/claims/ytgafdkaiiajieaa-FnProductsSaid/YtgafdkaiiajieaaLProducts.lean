/- The law FnProducts: symmetries one after the other are one, in whatever way they are grouped; each is taken back by another one. No condition. -/
import Derived.Test.YtgafdkaiiajieaaProdP
import Derived.Test.YtgafdkaiiajieaaThen
import Derived.Test.YtgafdkaiiajieaaEqS2
import Derived.Test.YtgafdkaiiajieaaAct
import Derived.Test.YtgafdkaiiajieaaDrawSy
import Derived.Test.YtgafdkaiiajieaaDrawPt
import Derived.Test.YtgafdkaiiajieaaBig
import Derived.Deep.CutRange
namespace Go.Proofs.Ytgafdkaiiajieaa
open Go.RowKit
open Fl

theorem eqS2_self (t : Int) (f : Bool) : eqS2 t f t f = true := by unfold eqS2; simp

set_option maxRecDepth 100000 in
set_option maxHeartbeats 4000000 in
theorem FnProducts_walk (a : Option Addr) (len cap : Nat) (z : List Int) (w : World) (hz : IsRow .u8 w a len cap z) :
    Calls Try.prog 6 #[.slice a len cap] w fun e w' => e = .returned (.bool true) ∧ Below w.heap.size w w' := by
  have HC := hide (isCode_of_row hz)
  have hm := (isCode_of_row hz).1
  clear hz
  by_cases hb : 4096 < len
  · go_enter Try.func6, Try.ntmps6
    go_wp2_with fail
    refine (big_any _ _ _ _).mono ?_
    rintro e w' ⟨rfl, rfl⟩
    go_wp2_with fail
    go_ret
    exact ⟨rfl, Below.refl _ _⟩
  · go_enter Try.func6, Try.ntmps6
    go_wp2_with fail
    refine (big_any _ _ _ _).mono ?_
    rintro e w' ⟨rfl, rfl⟩
    go_wp2_with fail
    refine (drawSyms_any _ _ _ _ HC.out).mono ?_
    rintro e w1 ⟨t1, t2, t3, f1, f2, f3, rfl, h1, h2, h3, bel⟩
    have H1 := hide h1
    have H2 := hide h2
    have H3 := hide h3
    clear h1 h2 h3
    have hs1 := bel.size
    go_wp2_with fail
    have a0 : ((((w1.alloc (.cells #[.int .i64 t1, .bool f1] 28)).alloc (.cells #[.int .i64 t2, .bool f2] 28)).alloc (.cells #[.int .i64 t3, .bool f3] 28))).cell? ⟨w1.heap.size, 0, none⟩ = some (.int .i64 t1) := by go_simp
    have a1 : ((((w1.alloc (.cells #[.int .i64 t1, .bool f1] 28)).alloc (.cells #[.int .i64 t2, .bool f2] 28)).alloc (.cells #[.int .i64 t3, .bool f3] 28))).cell? ⟨w1.heap.size, 1, none⟩ = some (.bool f1) := by go_simp
    have b0 : ((((w1.alloc (.cells #[.int .i64 t1, .bool f1] 28)).alloc (.cells #[.int .i64 t2, .bool f2] 28)).alloc (.cells #[.int .i64 t3, .bool f3] 28))).cell? ⟨w1.heap.size + 1, 0, none⟩ = some (.int .i64 t2) := by go_simp
    have b1 : ((((w1.alloc (.cells #[.int .i64 t1, .bool f1] 28)).alloc (.cells #[.int .i64 t2, .bool f2] 28)).alloc (.cells #[.int .i64 t3, .bool f3] 28))).cell? ⟨w1.heap.size + 1, 1, none⟩ = some (.bool f2) := by go_simp
    have c0 : ((((w1.alloc (.cells #[.int .i64 t1, .bool f1] 28)).alloc (.cells #[.int .i64 t2, .bool f2] 28)).alloc (.cells #[.int .i64 t3, .bool f3] 28))).cell? ⟨w1.heap.size + 1 + 1, 0, none⟩ = some (.int .i64 t3) := by go_simp
    have c1 : ((((w1.alloc (.cells #[.int .i64 t1, .bool f1] 28)).alloc (.cells #[.int .i64 t2, .bool f2] 28)).alloc (.cells #[.int .i64 t3, .bool f3] 28))).cell? ⟨w1.heap.size + 1 + 1, 1, none⟩ = some (.bool f3) := by go_simp
    have bel : Below w.heap.size w ((((w1.alloc (.cells #[.int .i64 t1, .bool f1] 28)).alloc (.cells #[.int .i64 t2, .bool f2] 28)).alloc (.cells #[.int .i64 t3, .bool f3] 28))) := (by repeat (first | exact Below.refl _ _ | assumption | refine Below.drew ?_ | refine Below.setCell ?_ (by first | (dsimp only; omega) | (simp; omega) | simp) _ | refine Below.alloc ?_ (by first | omega | (simp; omega) | simp) _))
    generalize (((w1.alloc (.cells #[.int .i64 t1, .bool f1] 28)).alloc (.cells #[.int .i64 t2, .bool f2] 28)).alloc (.cells #[.int .i64 t3, .bool f3] 28)) = wA at a0 a1 b0 b1 c0 c1 bel ⊢
    have hswA := bel.size
    refine (drawPlace_any _ _ _ _ (isCode_belowC HC.out bel)).mono ?_
    rintro e w2 ⟨kind, x, y, rfl, k0, k3, hpt, hb2⟩
    have a0 := keepc hb2 a0
    have a1 := keepc hb2 a1
    have b0 := keepc hb2 b0
    have b1 := keepc hb2 b1
    have c0 := keepc hb2 c0
    have c1 := keepc hb2 c1
    have bel := belowOf bel hb2
    have hlt2 : w1.heap.size + 1 + 1 < w2.heap.size := World.block_lt_of_cell? w2 _ c0
    clear hb2 k0 k3
    have HPT := hide hpt
    clear hpt
    go_upto_region 6 with fail
    have nb : Below w2.heap.size w2 (w2.alloc (.cells #[.int .i64 0, .bool false] 28)) := (Below.refl _ _).alloc (Nat.le_refl _) _
    have a0 := keepc nb a0
    have a1 := keepc nb a1
    have b0 := keepc nb b0
    have b1 := keepc nb b1
    have c0 := keepc nb c0
    have c1 := keepc nb c1
    have bel := belowOf bel nb
    have d0 : (w2.alloc (.cells #[.int .i64 0, .bool false] 28)).cell? ⟨w2.heap.size, 0, none⟩ = some (.int .i64 0) := by go_simp
    have d1 : (w2.alloc (.cells #[.int .i64 0, .bool false] 28)).cell? ⟨w2.heap.size, 1, none⟩ = some (.bool false) := by go_simp
    clear nb
    generalize w2.alloc (.cells #[.int .i64 0, .bool false] 28) = wB at a0 a1 b0 b1 c0 c1 d0 d1 bel ⊢
    have P := hide (prod_ok f1 f2 f3 H1.out H2.out H3.out)
    go_cut [56] from 23 to 56 (fun s56 wx => s56 = .bool false ∧ Below wB.heap.size wB wx)
    case first =>
      have q1 : eqS2 (thT (thT t1 t2 f2) t3 f3) (thF (thT t1 t2 f2) (thF t1 f1 t2 f2) t3 f3) (thT t1 (thT t2 t3 f3) (thF t2 f2 t3 f3)) (thF t1 f1 (thT t2 t3 f3) (thF t2 f2 t3 f3)) = true := by rw [P.out.a1, P.out.a2]; exact eqS2_self _ _
      have q2 : eqS2 (thT t1 (bkT t1 f1) (bkF t1 f1)) (thF t1 f1 (bkT t1 f1) (bkF t1 f1)) 0 false = true := by rw [P.out.b1, P.out.b2]; exact eqS2_self _ _
      have q3 : eqS2 (thT (bkT t1 f1) t1 f1) (thF (bkT t1 f1) (bkF t1 f1) t1 f1) 0 false = true := by rw [P.out.c1, P.out.c2]; exact eqS2_self _ _
      have q4 : eqS2 (thT 0 t1 f1) (thF 0 false t1 f1) t1 f1 = true := by rw [P.out.d1, P.out.d2]; exact eqS2_self _ _
      go_region_held3 (fun w' => w'.cell? ⟨w1.heap.size, 0, none⟩ = some (.int .i64 t1) ∧ w'.cell? ⟨w1.heap.size, 1, none⟩ = some (.bool f1) ∧ w'.cell? ⟨w1.heap.size + 1, 0, none⟩ = some (.int .i64 t2) ∧ w'.cell? ⟨w1.heap.size + 1, 1, none⟩ = some (.bool f2) ∧ w'.cell? ⟨w1.heap.size + 1 + 1, 0, none⟩ = some (.int .i64 t3) ∧ w'.cell? ⟨w1.heap.size + 1 + 1, 1, none⟩ = some (.bool f3) ∧ w'.cell? ⟨w2.heap.size, 0, none⟩ = some (.int .i64 0) ∧ w'.cell? ⟨w2.heap.size, 1, none⟩ = some (.bool false))
        (exact ⟨keepc (by repeat (first | exact Below.refl _ _ | assumption | refine Below.drew ?_ | refine Below.setCell ?_ (by first | (dsimp only; omega) | (simp; omega) | simp) _ | refine Below.alloc ?_ (by first | omega | (simp; omega) | simp) _)) a0, keepc (by repeat (first | exact Below.refl _ _ | assumption | refine Below.drew ?_ | refine Below.setCell ?_ (by first | (dsimp only; omega) | (simp; omega) | simp) _ | refine Below.alloc ?_ (by first | omega | (simp; omega) | simp) _)) a1, keepc (by repeat (first | exact Below.refl _ _ | assumption | refine Below.drew ?_ | refine Below.setCell ?_ (by first | (dsimp only; omega) | (simp; omega) | simp) _ | refine Below.alloc ?_ (by first | omega | (simp; omega) | simp) _)) b0, keepc (by repeat (first | exact Below.refl _ _ | assumption | refine Below.drew ?_ | refine Below.setCell ?_ (by first | (dsimp only; omega) | (simp; omega) | simp) _ | refine Below.alloc ?_ (by first | omega | (simp; omega) | simp) _)) b1, keepc (by repeat (first | exact Below.refl _ _ | assumption | refine Below.drew ?_ | refine Below.setCell ?_ (by first | (dsimp only; omega) | (simp; omega) | simp) _ | refine Below.alloc ?_ (by first | omega | (simp; omega) | simp) _)) c0, keepc (by repeat (first | exact Below.refl _ _ | assumption | refine Below.drew ?_ | refine Below.setCell ?_ (by first | (dsimp only; omega) | (simp; omega) | simp) _ | refine Below.alloc ?_ (by first | omega | (simp; omega) | simp) _)) c1, keepc (by repeat (first | exact Below.refl _ _ | assumption | refine Below.drew ?_ | refine Below.setCell ?_ (by first | (dsimp only; omega) | (simp; omega) | simp) _ | refine Below.alloc ?_ (by first | omega | (simp; omega) | simp) _)) d0, keepc (by repeat (first | exact Below.refl _ _ | assumption | refine Below.drew ?_ | refine Below.setCell ?_ (by first | (dsimp only; omega) | (simp; omega) | simp) _ | refine Below.alloc ?_ (by first | omega | (simp; omega) | simp) _)) d1⟩)
        (first | (go_at_call 27; (with_reducible refine (thenSym_any _ _ _ _ _).mono ?_); rintro e w3 ⟨rfl, hb3⟩; have bw := belowOf (w := wB) (by repeat (first | exact Below.refl _ _ | assumption | refine Below.drew ?_ | refine Below.setCell ?_ (by first | (dsimp only; omega) | (simp; omega) | simp) _ | refine Below.alloc ?_ (by first | omega | (simp; omega) | simp) _)) hb3) | (go_at_call 28; (with_reducible refine (backSym_any _ _ _).mono ?_); rintro e w3 ⟨rfl, hb3⟩; have bw := belowOf (w := wB) (by repeat (first | exact Below.refl _ _ | assumption | refine Below.drew ?_ | refine Below.setCell ?_ (by first | (dsimp only; omega) | (simp; omega) | simp) _ | refine Below.alloc ?_ (by first | omega | (simp; omega) | simp) _)) hb3))
      all_goals (go_wp2_with fail; go_meet)
      all_goals exact ⟨rfl, bw⟩
    case rest =>
      obtain ⟨rfl, bel1⟩ := hcut
      have a0 := keepc bel1 a0
      have a1 := keepc bel1 a1
      have b0 := keepc bel1 b0
      have b1 := keepc bel1 b1
      have bel := belowOf bel bel1
      clear bel1 c0 c1 d0 d1
      obtain ⟨wC, rfl⟩ : ∃ wC : World, wC = wc := ⟨_, rfl⟩
      go_upto_region 8 with fail
      have h1 := H1.out
      have h2 := H2.out
      have h12 := win_thT t1 t2 f2
      have hbk := win_bkT t1 f1
      have p0 := HPT.out
      have p1 := (act_ok t1 f1 p0).1.pt
      obtain ⟨p2, e2⟩ := act_th (f := f1) (f' := f2) h1 h2 p0
      obtain ⟨p3, v1, v2⟩ := act_bk (f := f1) h1 p0
      have q5 : FloatKind.f32.format.order (actW t2 f2 (actW t1 f1 x y).1 (actW t1 f1 x y).2).1 (actW (thT t1 t2 f2) (thF t1 f1 t2 f2) x y).1 = some .eq := by rw [← e2]; exact order_self p2.cx.fin p2.cx.fin rfl
      have q6 : FloatKind.f32.format.order (actW t2 f2 (actW t1 f1 x y).1 (actW t1 f1 x y).2).2 (actW (thT t1 t2 f2) (thF t1 f1 t2 f2) x y).2 = some .eq := by rw [← e2]; exact order_self p2.cy.fin p2.cy.fin rfl
      have q7 : FloatKind.f32.format.order (actW (bkT t1 f1) (bkF t1 f1) (actW t1 f1 x y).1 (actW t1 f1 x y).2).1 x = some .eq := order_self p3.cx.fin (rch_fin p0.rx) v1
      have q8 : FloatKind.f32.format.order (actW (bkT t1 f1) (bkF t1 f1) (actW t1 f1 x y).1 (actW t1 f1 x y).2).2 y = some .eq := order_self p3.cy.fin (rch_fin p0.ry) v2
      clear p2 e2 p3 v1 v2 P
      have A1 := hide (fun W => actSym_y t1 f1 x y W h1 p0)
      have A2 := hide (fun W => actSym_y t2 f2 (actW t1 f1 x y).1 (actW t1 f1 x y).2 W h2 p1)
      have A3 := hide (fun W => actSym_y (thT t1 t2 f2) (thF t1 f1 t2 f2) x y W h12 p0)
      have A4 := hide (fun W => actSym_y (bkT t1 f1) (bkF t1 f1) (actW t1 f1 x y).1 (actW t1 f1 x y).2 W hbk p1)
      clear h1 h2 h12 hbk p0 p1
      go_region_held3 (fun w' => w'.cell? ⟨w1.heap.size, 0, none⟩ = some (.int .i64 t1) ∧ w'.cell? ⟨w1.heap.size, 1, none⟩ = some (.bool f1) ∧ w'.cell? ⟨w1.heap.size + 1, 0, none⟩ = some (.int .i64 t2) ∧ w'.cell? ⟨w1.heap.size + 1, 1, none⟩ = some (.bool f2))
        (exact ⟨keepc (by repeat (first | exact Below.refl _ _ | assumption | refine Below.drew ?_ | refine Below.setCell ?_ (by first | (dsimp only; omega) | (simp; omega) | simp) _ | refine Below.alloc ?_ (by first | omega | (simp; omega) | simp) _)) a0, keepc (by repeat (first | exact Below.refl _ _ | assumption | refine Below.drew ?_ | refine Below.setCell ?_ (by first | (dsimp only; omega) | (simp; omega) | simp) _ | refine Below.alloc ?_ (by first | omega | (simp; omega) | simp) _)) a1, keepc (by repeat (first | exact Below.refl _ _ | assumption | refine Below.drew ?_ | refine Below.setCell ?_ (by first | (dsimp only; omega) | (simp; omega) | simp) _ | refine Below.alloc ?_ (by first | omega | (simp; omega) | simp) _)) b0, keepc (by repeat (first | exact Below.refl _ _ | assumption | refine Below.drew ?_ | refine Below.setCell ?_ (by first | (dsimp only; omega) | (simp; omega) | simp) _ | refine Below.alloc ?_ (by first | omega | (simp; omega) | simp) _)) b1⟩)
        (first | (go_at_call 27; (with_reducible refine (thenSym_any _ _ _ _ _).mono ?_); rintro e w3 ⟨rfl, hb3⟩; have bw := belowOf (w := wC) (by repeat (first | exact Below.refl _ _ | assumption | refine Below.drew ?_ | refine Below.setCell ?_ (by first | (dsimp only; omega) | (simp; omega) | simp) _ | refine Below.alloc ?_ (by first | omega | (simp; omega) | simp) _)) hb3) | (go_at_call 28; (with_reducible refine (backSym_any _ _ _).mono ?_); rintro e w3 ⟨rfl, hb3⟩; have bw := belowOf (w := wC) (by repeat (first | exact Below.refl _ _ | assumption | refine Below.drew ?_ | refine Below.setCell ?_ (by first | (dsimp only; omega) | (simp; omega) | simp) _ | refine Below.alloc ?_ (by first | omega | (simp; omega) | simp) _)) hb3) | (go_at_call 17; (first | (with_reducible refine (A1.out _).mono ?_) | (with_reducible refine (A2.out _).mono ?_) | (with_reducible refine (A3.out _).mono ?_) | (with_reducible refine (A4.out _).mono ?_)); rintro e w3 ⟨rfl, hb3⟩; have bw := belowOf (w := wC) (by repeat (first | exact Below.refl _ _ | assumption | refine Below.drew ?_ | refine Below.setCell ?_ (by first | (dsimp only; omega) | (simp; omega) | simp) _ | refine Below.alloc ?_ (by first | omega | (simp; omega) | simp) _)) hb3))
      all_goals
        go_wp2_with fail
        go_ret
        exact ⟨rfl, belowOf bel bw⟩

open Go.ChangeShapes Go.WideShapes Go.ChangeAt Go.Joins
open Go.ChangeMaps (open_string shut_string)

set_option maxRecDepth 100000 in
theorem fnProducts_lifted (os : Os) (started : os.Started) (H : Type) (enc : TypeId × Value → H) :
    ReturnsInHanded {} Try.checked os 6 .any (Rows.fnProductsSpec.pre6 enc Try.prog Try.f6 Rows.fnProductsRow.domain false) (Rows.fnProductsSpec.post enc Try.prog Try.f6 false true false false) := by
  refine returnsInHanded_of_change (C := Try.checked) Try.own started (by kernel_rfl) Try.func6
    (ChangeSpec.witness6 (enc := enc) (C := Try.checked) false ⟨#[], #[.slice none 0 0], []⟩ 8 (by kernel_rfl) (by kernel_rfl) (by kernel_rfl) (by kernel_rfl)) ?_
  intro W base args ds gs before hval0 hW _ _
  have hval : ∀ (j : Nat) t v, Try.f6.params[j]? = some t → args[j]? = some v → Value.okWide Try.prog W .any base t v := hval0
  have hW' := hW
  obtain ⟨p, q, hA0, hV, rfl, _, _⟩ := hW
  have hA : DataW.TrodAll enc Try.prog W 0 (fun _ => true) true Try.f6.params.toList args.toList ds p := hA0
  rw [Try.params6] at hA hval
  obtain ⟨v0, vs0, d0, ds0, p0, q0, hargs, rfl, rfl, h0, r0⟩ := trodAll_cons hA
  obtain ⟨rfl, rfl, rfl⟩ := trodAll_nil r0
  obtain rfl : args = #[v0] := by cases args; simp_all
  obtain ⟨rfl, rfl⟩ := trodVars_none hV
  have k0 := h0
  have lt0 : ∀ x ∈ p0, x.block < W.heap.size := by obtain ⟨m, hm⟩ := k0; exact DataW.trod_lt m _ _ _ hm
  obtain ⟨a0, len0, cap0, rfl⟩ := okWide_slice Try.underlying22 (hval 0 22 v0 rfl rfl)
  obtain ⟨z0, w0⟩ : ∃ zs, IsRow .u8 W a0 len0 cap0 zs := by
    obtain ⟨fuel, hf⟩ := h0
    rcases open_ints Try.underlying22 Try.underlying5 (by kernel_rfl) hf with ⟨hcs, _⟩ | ⟨x, l, c, zs, hcs, _, hl, hm, hz, _, hcell, hwz⟩
    · simp [Value.cells] at hcs
      obtain ⟨rfl, rfl, rfl⟩ := hcs
      exact ⟨[], .inl ⟨rfl, rfl, rfl, rfl⟩⟩
    · simp [Value.cells] at hcs
      obtain ⟨rfl, rfl, rfl⟩ := hcs
      exact ⟨zs, .inr ⟨_, rfl, hl, hm, by simpa using hz, hcell, hwz⟩⟩
  clear hA0 hval0
  refine (FnProducts_walk a0 len0 cap0 z0 W w0).mono fun e W' ⟨he, bel⟩ => ?_
  subst he
  exact ⟨_, rfl, _, _, _, [], _, [], hW', trodAll_mk1 (shut_bool Try.underlying4 _), (trodAll_cons_mk (Below.trod Try.laidOut (by kernel_rfl) (of_decide_eq_true (by kernel_rfl)) k0 bel lt0) trodAll_mk0), rfl, bel.frame _, fun h => by cases h⟩

/-- The statement. -/
theorem fnProducts_proved : Rows.FnProductsSaid :=
  OpenClaim.holds_of_wide 6 Try.f6 rfl rfl rfl rfl rfl rfl rfl ⟨rfl, rfl, rfl, rfl, rfl⟩ rfl rfl rfl rfl rfl (by kernel_rfl) Try.func6 (by kernel_rfl)
    (of_decide_eq_true (by kernel_rfl)) (by unfold Func.isWrapper; rw [if_neg (of_decide_eq_false (by kernel_rfl))]; exact ⟨rfl, rfl⟩)
    (fun os started H enc _ => fnProducts_lifted os started H enc)
#print axioms fnProducts_proved

end Go.Proofs.Ytgafdkaiiajieaa
