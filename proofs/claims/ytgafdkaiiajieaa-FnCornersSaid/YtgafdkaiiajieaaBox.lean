/- What slices.Min, slices.Max at three numbers, AreaOf and BoxOf compute. Condition: valid shards; cleaned numbers. -/
import Derived.Test.YtgafdkaiiajieaaBoxP
import Derived.Test.YtgafdkaiiajieaaTail
namespace Go.Proofs.Ytgafdkaiiajieaa
open Go.RowKit Go.Sort
open Fl

set_option maxHeartbeats 2000000 in
theorem min3_any (q u0 u1 u2 : Nat) (w : World) (h0 : Can u0) (h1 : Can u1) (h2 : Can u2) (c0 : w.cell? ⟨q, 0, none⟩ = some (.float .f32 u0)) (c1 : w.cell? ⟨q, 1, none⟩ = some (.float .f32 u1)) (c2 : w.cell? ⟨q, 2, none⟩ = some (.float .f32 u2)) :
    Calls Try.prog 68 #[.slice (some ⟨q, 0, none⟩) 3 3] w fun e w' => e = .returned (.float .f32 (mn2 (mn2 u0 u1) u2)) ∧ w = w' := by
  have r1 := fun w ts t => run_min2 (P := Try.prog) w ts t h0 h1
  have r2 := fun w ts t => run_min2 (P := Try.prog) w ts t (mn2_can h0 h1) h2
  clear h0 h1 h2
  generalize mn2 u0 u1 = v1 at r1 r2 ⊢
  generalize mn2 v1 u2 = v2 at r2 ⊢
  go_enter Try.func68, Try.ntmps68
  go_wp2
  go_loop [3, 4] (fun m i => (m = .float .f32 u0 ∧ i = .int .i64 1) ∨ (m = .float .f32 v1 ∧ i = .int .i64 2) ∨ (m = .float .f32 v2 ∧ i = .int .i64 3)) (fun _ i => 3 - (intOf i).toNat)
  case atStart => exact .inl ⟨rfl, rfl⟩
  case round =>
    rcases hrel with ⟨rfl, rfl⟩ | ⟨rfl, rfl⟩ | ⟨rfl, rfl⟩
    · go_wp2_with fail
      go_round
      case rel => exact .inr (.inl ⟨rfl, rfl⟩)
      case measure => simp [intOf]
    · go_wp2_with fail
      go_round
      case rel => exact .inr (.inr ⟨rfl, rfl⟩)
      case measure => simp [intOf]
    · go_wp2_with fail
      go_ret
      exact ⟨rfl, rfl⟩

set_option maxHeartbeats 2000000 in
theorem max3_any (q u0 u1 u2 : Nat) (w : World) (h0 : Can u0) (h1 : Can u1) (h2 : Can u2) (c0 : w.cell? ⟨q, 0, none⟩ = some (.float .f32 u0)) (c1 : w.cell? ⟨q, 1, none⟩ = some (.float .f32 u1)) (c2 : w.cell? ⟨q, 2, none⟩ = some (.float .f32 u2)) :
    Calls Try.prog 69 #[.slice (some ⟨q, 0, none⟩) 3 3] w fun e w' => e = .returned (.float .f32 (mx2 (mx2 u0 u1) u2)) ∧ w = w' := by
  have r1 := fun w ts t => run_max2f (P := Try.prog) w ts t h0 h1
  have r2 := fun w ts t => run_max2f (P := Try.prog) w ts t (mx2_can h0 h1) h2
  clear h0 h1 h2
  generalize mx2 u0 u1 = v1 at r1 r2 ⊢
  generalize mx2 v1 u2 = v2 at r2 ⊢
  go_enter Try.func69, Try.ntmps69
  go_wp2
  go_loop [3, 4] (fun m i => (m = .float .f32 u0 ∧ i = .int .i64 1) ∨ (m = .float .f32 v1 ∧ i = .int .i64 2) ∨ (m = .float .f32 v2 ∧ i = .int .i64 3)) (fun _ i => 3 - (intOf i).toNat)
  case atStart => exact .inl ⟨rfl, rfl⟩
  case round =>
    rcases hrel with ⟨rfl, rfl⟩ | ⟨rfl, rfl⟩ | ⟨rfl, rfl⟩
    · go_wp2_with fail
      go_round
      case rel => exact .inr (.inl ⟨rfl, rfl⟩)
      case measure => simp [intOf]
    · go_wp2_with fail
      go_round
      case rel => exact .inr (.inr ⟨rfl, rfl⟩)
      case measure => simp [intOf]
    · go_wp2_with fail
      go_ret
      exact ⟨rfl, rfl⟩

/-- Half of the side, without its sign. -/
def areaW (s : Shd) : Nat := timesF half (if FloatKind.f32.format.order (sideW s.ax s.ay s.bx s.b_y s.cx s.cy) 0 == some .lt then Op.negFloat .f32 (sideW s.ax s.ay s.bx s.b_y s.cx s.cy) else sideW s.ax s.ay s.bx s.b_y s.cx s.cy)

theorem area_ok {s : Shd} (h : ShOk s) : let x := (if FloatKind.f32.format.order (sideW s.ax s.ay s.bx s.b_y s.cx s.cy) 0 == some .lt then Op.negFloat .f32 (sideW s.ax s.ay s.bx s.b_y s.cx s.cy) else sideW s.ax s.ay s.bx s.b_y s.cx s.cy)
    fin x ∧ fin (wordP (isNeg half ^^ isNeg x) (mv (rg half) * mv (rg x))) ∧ fin (timesF half x) ∧ 0 ≤ val (timesF half x) := by
  have K := side_ok h.pa.rx h.pa.ry h.pb.rx h.pb.ry h.pc.rx h.pc.ry
  have hc := K.can
  have ha := K.abs
  have e : (FloatKind.f32.format.order (sideW s.ax s.ay s.bx s.b_y s.cx s.cy) 0 == some .lt) = decide (val (sideW s.ax s.ay s.bx s.b_y s.cx s.cy) < 0) := by
    show (S.order _ 0 == some .lt) = _
    rw [order_fin hc.fin fin_zero, cmp_lt, val_zero]
  simp only
  rw [e]
  generalize sideW s.ax s.ay s.bx s.b_y s.cx s.cy = X at hc ha
  by_cases hl : val X < 0
  · rw [if_pos (decide_eq_true hl)]
    obtain ⟨f1, f2⟩ := neg_fin hc.lt hc.fin
    obtain ⟨g1, g2, g3⟩ := half_ok (x := Op.negFloat .f32 X) (by rw [f2, Int.natAbs_neg]; exact ha) (by omega)
    exact ⟨f1, g1, g2, g3⟩
  · rw [if_neg (by rw [decide_eq_false hl]; exact Bool.false_ne_true)]
    obtain ⟨g1, g2, g3⟩ := half_ok (x := X) ha (by omega)
    exact ⟨hc.fin, g1, g2, g3⟩

set_option maxRecDepth 100000 in
set_option maxHeartbeats 2000000 in
theorem areaOf_any (s : Shd) (w : World) (hs : ShOk s) :
    Calls Try.prog 36 #[.agg #[.complex .f32 s.ax s.ay, .complex .f32 s.bx s.b_y, .complex .f32 s.cx s.cy, .float .f32 s.r, .float .f32 s.g, .float .f32 s.b, .float .f32 s.k]] w fun e w' => e = .returned (.float .f32 (areaW s)) ∧ Below w.heap.size w w' := by
  have I1 := hide (isShard_y hs)
  have M1 := hide (fun W => sideOf_pt s.ax s.ay s.bx s.b_y s.cx s.cy W hs.pa hs.pb hs.pc)
  have K := area_ok hs
  have H : Hid (areaW s = timesF half (if FloatKind.f32.format.order (sideW s.ax s.ay s.bx s.b_y s.cx s.cy) 0 == some .lt then Op.negFloat .f32 (sideW s.ax s.ay s.bx s.b_y s.cx s.cy) else sideW s.ax s.ay s.bx s.b_y s.cx s.cy)) := rfl
  generalize areaW s = R at H ⊢
  obtain ⟨ax, ay, bx, b_y, cx, cy, r, g, b, k⟩ := s
  simp only at I1 M1 K H ⊢
  clear hs
  generalize sideW ax ay bx b_y cx cy = X at M1 K H
  obtain ⟨N, hN⟩ : ∃ q, Op.negFloat .f32 X = q := ⟨_, rfl⟩
  rw [hN] at K H
  have hng : ∀ w, (Op.unary .neg (.float .f32 X)).run Try.prog w = .ok (.float .f32 N) w := fun w => by rw [← hN]; rfl
  clear hN
  cases hl : (FloatKind.f32.format.order X 0 == some .lt)
  all_goals
    rw [hl] at K H
    simp only [if_true, if_false, Bool.false_eq_true] at K
    have T := hide (fun W => times_fin half _ W fin_half K.1 K.2.1)
    clear K
    go_enter Try.func36, Try.ntmps36
    go_wp2_with fail
    have a0 : ((w.alloc (.cells #[.complex .f32 ax ay, .complex .f32 bx b_y, .complex .f32 cx cy, .float .f32 r, .float .f32 g, .float .f32 b, .float .f32 k] 56))).cell? ⟨w.heap.size, 0, none⟩ = some (.complex .f32 ax ay) := by go_simp
    have a1 : ((w.alloc (.cells #[.complex .f32 ax ay, .complex .f32 bx b_y, .complex .f32 cx cy, .float .f32 r, .float .f32 g, .float .f32 b, .float .f32 k] 56))).cell? ⟨w.heap.size, 1, none⟩ = some (.complex .f32 bx b_y) := by go_simp
    have a2 : ((w.alloc (.cells #[.complex .f32 ax ay, .complex .f32 bx b_y, .complex .f32 cx cy, .float .f32 r, .float .f32 g, .float .f32 b, .float .f32 k] 56))).cell? ⟨w.heap.size, 2, none⟩ = some (.complex .f32 cx cy) := by go_simp
    have a3 : ((w.alloc (.cells #[.complex .f32 ax ay, .complex .f32 bx b_y, .complex .f32 cx cy, .float .f32 r, .float .f32 g, .float .f32 b, .float .f32 k] 56))).cell? ⟨w.heap.size, 3, none⟩ = some (.float .f32 r) := by go_simp
    have a4 : ((w.alloc (.cells #[.complex .f32 ax ay, .complex .f32 bx b_y, .complex .f32 cx cy, .float .f32 r, .float .f32 g, .float .f32 b, .float .f32 k] 56))).cell? ⟨w.heap.size, 4, none⟩ = some (.float .f32 g) := by go_simp
    have a5 : ((w.alloc (.cells #[.complex .f32 ax ay, .complex .f32 bx b_y, .complex .f32 cx cy, .float .f32 r, .float .f32 g, .float .f32 b, .float .f32 k] 56))).cell? ⟨w.heap.size, 5, none⟩ = some (.float .f32 b) := by go_simp
    have a6 : ((w.alloc (.cells #[.complex .f32 ax ay, .complex .f32 bx b_y, .complex .f32 cx cy, .float .f32 r, .float .f32 g, .float .f32 b, .float .f32 k] 56))).cell? ⟨w.heap.size, 6, none⟩ = some (.float .f32 k) := by go_simp
    have bel : Below w.heap.size w ((w.alloc (.cells #[.complex .f32 ax ay, .complex .f32 bx b_y, .complex .f32 cx cy, .float .f32 r, .float .f32 g, .float .f32 b, .float .f32 k] 56))) := (by repeat (first | exact Below.refl _ _ | assumption | refine Below.drew ?_ | refine Below.setCell ?_ (by first | (dsimp only; omega) | (simp; omega) | simp) _ | refine Below.alloc ?_ (by first | omega | (simp; omega) | simp) _))
    generalize (w.alloc (.cells #[.complex .f32 ax ay, .complex .f32 bx b_y, .complex .f32 cx cy, .float .f32 r, .float .f32 g, .float .f32 b, .float .f32 k] 56)) = wA at a0 a1 a2 a3 a4 a5 a6 bel ⊢
    have hswA := bel.size
    refine (I1.out _).mono ?_
    rintro e w1 ⟨rfl, nb⟩
    have a0 := keepc nb a0
    have a1 := keepc nb a1
    have a2 := keepc nb a2
    have a3 := keepc nb a3
    have a4 := keepc nb a4
    have a5 := keepc nb a5
    have a6 := keepc nb a6
    have bel := belowOf bel nb
    clear nb
    go_wp2_with fail
    refine (M1.out _).mono ?_
    rintro e w' ⟨rfl, rfl⟩
    go_wp2_with fail
    refine (T.out _).mono ?_
    rintro e w' ⟨rfl, rfl⟩
    go_wp2_with fail
    go_ret
    have H2 := H.out
    simp only [if_true, if_false, Bool.false_eq_true] at H2
    exact ⟨by rw [H2]; rfl, bel⟩

set_option maxRecDepth 100000 in
set_option maxHeartbeats 2000000 in
theorem boxOf_any (s : Shd) (w : World) (hs : ShOk s) :
    Calls Try.prog 35 #[.agg #[.complex .f32 s.ax s.ay, .complex .f32 s.bx s.b_y, .complex .f32 s.cx s.cy, .float .f32 s.r, .float .f32 s.g, .float .f32 s.b, .float .f32 s.k]] w fun e w' => e = .returned (.tuple #[.complex .f32 (mn2 (mn2 (cl s.ax) (cl s.bx)) (cl s.cx)) (mn2 (mn2 (cl s.ay) (cl s.b_y)) (cl s.cy)), .complex .f32 (mx2 (mx2 (cl s.ax) (cl s.bx)) (cl s.cx)) (mx2 (mx2 (cl s.ay) (cl s.b_y)) (cl s.cy)), .bool true]) ∧ Below w.heap.size w w' := by
  have I1 := hide (isShard_y hs)
  have hx1 := (cl_word hs.pa.rx hs.pa.lx).2.2.2
  have hx2 := (cl_word hs.pb.rx hs.pb.lx).2.2.2
  have hx3 := (cl_word hs.pc.rx hs.pc.lx).2.2.2
  have hy1 := (cl_word hs.pa.ry hs.pa.ly).2.2.2
  have hy2 := (cl_word hs.pb.ry hs.pb.ly).2.2.2
  have hy3 := (cl_word hs.pc.ry hs.pc.ly).2.2.2
  have X1 := hide (fun W => clean_fin s.ax W (rch_fin hs.pa.rx))
  have X2 := hide (fun W => clean_fin s.bx W (rch_fin hs.pb.rx))
  have X3 := hide (fun W => clean_fin s.cx W (rch_fin hs.pc.rx))
  have Y1 := hide (fun W => clean_fin s.ay W (rch_fin hs.pa.ry))
  have Y2 := hide (fun W => clean_fin s.b_y W (rch_fin hs.pb.ry))
  have Y3 := hide (fun W => clean_fin s.cy W (rch_fin hs.pc.ry))
  have N1 := hide (fun q W c0 c1 c2 => min3_any q _ _ _ W hx1 hx2 hx3 c0 c1 c2)
  have N2 := hide (fun q W c0 c1 c2 => min3_any q _ _ _ W hy1 hy2 hy3 c0 c1 c2)
  have N3 := hide (fun q W c0 c1 c2 => max3_any q _ _ _ W hx1 hx2 hx3 c0 c1 c2)
  have N4 := hide (fun q W c0 c1 c2 => max3_any q _ _ _ W hy1 hy2 hy3 c0 c1 c2)
  obtain ⟨ax, ay, bx, b_y, cx, cy, r, g, b, k⟩ := s
  simp only at I1 X1 X2 X3 Y1 Y2 Y3 N1 N2 N3 N4 ⊢
  clear hs hx1 hx2 hx3 hy1 hy2 hy3
  generalize mn2 (mn2 (cl ax) (cl bx)) (cl cx) = n1 at N1 ⊢
  generalize mn2 (mn2 (cl ay) (cl b_y)) (cl cy) = n2 at N2 ⊢
  generalize mx2 (mx2 (cl ax) (cl bx)) (cl cx) = n3 at N3 ⊢
  generalize mx2 (mx2 (cl ay) (cl b_y)) (cl cy) = n4 at N4 ⊢
  generalize cl ax = ux at X1 N1 N3
  generalize cl bx = vx at X2 N1 N3
  generalize cl cx = wx at X3 N1 N3
  generalize cl ay = uy at Y1 N2 N4
  generalize cl b_y = vy at Y2 N2 N4
  generalize cl cy = wy at Y3 N2 N4
  go_enter Try.func35, Try.ntmps35
  go_wp2_with fail
  have a0 : ((w.alloc (.cells #[.complex .f32 ax ay, .complex .f32 bx b_y, .complex .f32 cx cy, .float .f32 r, .float .f32 g, .float .f32 b, .float .f32 k] 56))).cell? ⟨w.heap.size, 0, none⟩ = some (.complex .f32 ax ay) := by go_simp
  have a1 : ((w.alloc (.cells #[.complex .f32 ax ay, .complex .f32 bx b_y, .complex .f32 cx cy, .float .f32 r, .float .f32 g, .float .f32 b, .float .f32 k] 56))).cell? ⟨w.heap.size, 1, none⟩ = some (.complex .f32 bx b_y) := by go_simp
  have a2 : ((w.alloc (.cells #[.complex .f32 ax ay, .complex .f32 bx b_y, .complex .f32 cx cy, .float .f32 r, .float .f32 g, .float .f32 b, .float .f32 k] 56))).cell? ⟨w.heap.size, 2, none⟩ = some (.complex .f32 cx cy) := by go_simp
  have a3 : ((w.alloc (.cells #[.complex .f32 ax ay, .complex .f32 bx b_y, .complex .f32 cx cy, .float .f32 r, .float .f32 g, .float .f32 b, .float .f32 k] 56))).cell? ⟨w.heap.size, 3, none⟩ = some (.float .f32 r) := by go_simp
  have a4 : ((w.alloc (.cells #[.complex .f32 ax ay, .complex .f32 bx b_y, .complex .f32 cx cy, .float .f32 r, .float .f32 g, .float .f32 b, .float .f32 k] 56))).cell? ⟨w.heap.size, 4, none⟩ = some (.float .f32 g) := by go_simp
  have a5 : ((w.alloc (.cells #[.complex .f32 ax ay, .complex .f32 bx b_y, .complex .f32 cx cy, .float .f32 r, .float .f32 g, .float .f32 b, .float .f32 k] 56))).cell? ⟨w.heap.size, 5, none⟩ = some (.float .f32 b) := by go_simp
  have a6 : ((w.alloc (.cells #[.complex .f32 ax ay, .complex .f32 bx b_y, .complex .f32 cx cy, .float .f32 r, .float .f32 g, .float .f32 b, .float .f32 k] 56))).cell? ⟨w.heap.size, 6, none⟩ = some (.float .f32 k) := by go_simp
  have bel : Below w.heap.size w ((w.alloc (.cells #[.complex .f32 ax ay, .complex .f32 bx b_y, .complex .f32 cx cy, .float .f32 r, .float .f32 g, .float .f32 b, .float .f32 k] 56))) := (by repeat (first | exact Below.refl _ _ | assumption | refine Below.drew ?_ | refine Below.setCell ?_ (by first | (dsimp only; omega) | (simp; omega) | simp) _ | refine Below.alloc ?_ (by first | omega | (simp; omega) | simp) _))
  generalize (w.alloc (.cells #[.complex .f32 ax ay, .complex .f32 bx b_y, .complex .f32 cx cy, .float .f32 r, .float .f32 g, .float .f32 b, .float .f32 k] 56)) = wA at a0 a1 a2 a3 a4 a5 a6 bel ⊢
  have hswA := bel.size
  refine (I1.out _).mono ?_
  rintro e w1 ⟨rfl, nb⟩
  have a0 := keepc nb a0
  have a1 := keepc nb a1
  have a2 := keepc nb a2
  have a3 := keepc nb a3
  have a4 := keepc nb a4
  have a5 := keepc nb a5
  have a6 := keepc nb a6
  have bel := belowOf bel nb
  clear nb
  go_upto_region 3 with fail
  have C1 := regE (w := w1) X1.out
  have C2 := regE (w := w1) X2.out
  have C3 := regE (w := w1) X3.out
  have k_a0 := cell_regrown a0
  have k_a1 := cell_regrown a1
  have k_a2 := cell_regrown a2
  refine wp_region_below_tail 12 (by kernel_rfl) (by kernel_rfl) ?_
  simp only [List.take_succ_cons, List.take_zero, List.drop_succ_cons, List.drop_zero]
  repeat (go_big_quiet_step (first | (with_reducible exact C1 _ _) | (with_reducible exact C2 _ _) | (with_reducible exact C3 _ _)))
  refine wpQuiet_nil ?_
  intro w2 nb
  clear k_a0 k_a1 k_a2
  have a0 := keepc nb a0
  have a1 := keepc nb a1
  have a2 := keepc nb a2
  have bel := belowOf bel nb
  clear nb
  clear C1 C2 C3
  have hl : w.heap.size < w2.heap.size := World.block_lt_of_cell? w2 _ a0
  go_upto_region 4 with fail
  have a0 : ((w2.alloc (.cells #[.float .f32 ux, .float .f32 vx, .float .f32 wx] 39))).cell? ⟨w.heap.size, 0, none⟩ = some (.complex .f32 ax ay) := by go_simp
  have a1 : ((w2.alloc (.cells #[.float .f32 ux, .float .f32 vx, .float .f32 wx] 39))).cell? ⟨w.heap.size, 1, none⟩ = some (.complex .f32 bx b_y) := by go_simp
  have a2 : ((w2.alloc (.cells #[.float .f32 ux, .float .f32 vx, .float .f32 wx] 39))).cell? ⟨w.heap.size, 2, none⟩ = some (.complex .f32 cx cy) := by go_simp
  have x0 : ((w2.alloc (.cells #[.float .f32 ux, .float .f32 vx, .float .f32 wx] 39))).cell? ⟨w2.heap.size, 0, none⟩ = some (.float .f32 ux) := by go_simp
  have x1 : ((w2.alloc (.cells #[.float .f32 ux, .float .f32 vx, .float .f32 wx] 39))).cell? ⟨w2.heap.size, 1, none⟩ = some (.float .f32 vx) := by go_simp
  have x2 : ((w2.alloc (.cells #[.float .f32 ux, .float .f32 vx, .float .f32 wx] 39))).cell? ⟨w2.heap.size, 2, none⟩ = some (.float .f32 wx) := by go_simp
  have bel : Below w.heap.size w ((w2.alloc (.cells #[.float .f32 ux, .float .f32 vx, .float .f32 wx] 39))) := bel.alloc bel.size _
  generalize (w2.alloc (.cells #[.float .f32 ux, .float .f32 vx, .float .f32 wx] 39)) = w3 at a0 a1 a2 x0 x1 x2 bel ⊢
  have hsw3 := bel.size
  have C1 := regE (w := w3) Y1.out
  have C2 := regE (w := w3) Y2.out
  have C3 := regE (w := w3) Y3.out
  have k_a0 := cell_regrown a0
  have k_a1 := cell_regrown a1
  have k_a2 := cell_regrown a2
  refine wp_region_below_tail 12 (by kernel_rfl) (by kernel_rfl) ?_
  simp only [List.take_succ_cons, List.take_zero, List.drop_succ_cons, List.drop_zero]
  repeat (go_big_quiet_step (first | (with_reducible exact C1 _ _) | (with_reducible exact C2 _ _) | (with_reducible exact C3 _ _)))
  refine wpQuiet_nil ?_
  intro w4 nb
  clear k_a0 k_a1 k_a2
  have x0 := keepc nb x0
  have x1 := keepc nb x1
  have x2 := keepc nb x2
  have bel := belowOf bel nb
  clear nb
  clear C1 C2 C3
  have hl : w2.heap.size < w4.heap.size := World.block_lt_of_cell? w4 _ x0
  go_upto_region 5 with fail
  have x0 : ((w4.alloc (.cells #[.float .f32 uy, .float .f32 vy, .float .f32 wy] 39))).cell? ⟨w2.heap.size, 0, none⟩ = some (.float .f32 ux) := by go_simp
  have x1 : ((w4.alloc (.cells #[.float .f32 uy, .float .f32 vy, .float .f32 wy] 39))).cell? ⟨w2.heap.size, 1, none⟩ = some (.float .f32 vx) := by go_simp
  have x2 : ((w4.alloc (.cells #[.float .f32 uy, .float .f32 vy, .float .f32 wy] 39))).cell? ⟨w2.heap.size, 2, none⟩ = some (.float .f32 wx) := by go_simp
  have y0 : ((w4.alloc (.cells #[.float .f32 uy, .float .f32 vy, .float .f32 wy] 39))).cell? ⟨w4.heap.size, 0, none⟩ = some (.float .f32 uy) := by go_simp
  have y1 : ((w4.alloc (.cells #[.float .f32 uy, .float .f32 vy, .float .f32 wy] 39))).cell? ⟨w4.heap.size, 1, none⟩ = some (.float .f32 vy) := by go_simp
  have y2 : ((w4.alloc (.cells #[.float .f32 uy, .float .f32 vy, .float .f32 wy] 39))).cell? ⟨w4.heap.size, 2, none⟩ = some (.float .f32 wy) := by go_simp
  have bel : Below w.heap.size w ((w4.alloc (.cells #[.float .f32 uy, .float .f32 vy, .float .f32 wy] 39))) := bel.alloc bel.size _
  generalize (w4.alloc (.cells #[.float .f32 uy, .float .f32 vy, .float .f32 wy] 39)) = w5 at x0 x1 x2 y0 y1 y2 bel ⊢
  have hsw5 := bel.size
  go_wp2_with fail
  refine (N1.out _ _ x0 x1 x2).mono ?_
  rintro e w' ⟨rfl, rfl⟩
  go_wp2_with fail
  refine (N2.out _ _ y0 y1 y2).mono ?_
  rintro e w' ⟨rfl, rfl⟩
  go_wp2_with fail
  refine (N3.out _ _ x0 x1 x2).mono ?_
  rintro e w' ⟨rfl, rfl⟩
  go_wp2_with fail
  refine (N4.out _ _ y0 y1 y2).mono ?_
  rintro e w' ⟨rfl, rfl⟩
  go_wp2_with fail
  exact bodyPost_ret (v := .tuple #[.complex .f32 n1 n2, .complex .f32 n3 n4, .bool true]) (by simp [results, Try.results35, go_sem]) rfl ⟨rfl, bel⟩

end Go.Proofs.Ytgafdkaiiajieaa
