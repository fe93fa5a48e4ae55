/- What the program's functions on shards compute: IsShard, SideOf, lies, InShard, ActShard, MoveShard. Condition where one is named: valid shards, points. -/
import Derived.Test.YtgafdkaiiajieaaShardP
import Derived.Test.YtgafdkaiiajieaaAct
import Derived.Deep.RegionHeld3
import Derived.Deep.CutRange
namespace Go.Proofs.Ytgafdkaiiajieaa
open Go.RowKit
open Fl

/-- Whether a shard is valid. -/
def shOk (s : Shd) : Bool := (rch s.ax && rch s.ay) && (rch s.bx && rch s.b_y) && (rch s.cx && rch s.cy) && isCol s.r s.g s.b && part s.k

theorem shOk_of {s : Shd} (h : ShOk s) : shOk s = true := by
  unfold shOk
  rw [h.pa.rx, h.pa.ry, h.pb.rx, h.pb.ry, h.pc.rx, h.pc.ry, h.col, h.clear]
  rfl

set_option maxHeartbeats 4000000 in
theorem isShard_any (s : Shd) (w : World) :
    Calls Try.prog 31 #[.agg #[.complex .f32 s.ax s.ay, .complex .f32 s.bx s.b_y, .complex .f32 s.cx s.cy, .float .f32 s.r, .float .f32 s.g, .float .f32 s.b, .float .f32 s.k]] w fun e w' => e = .returned (.bool (shOk s)) ∧ Below w.heap.size w w' := by
  obtain ⟨ax, ay, bx, b_y, cx, cy, r, g, b, k⟩ := s
  have H : Hid (shOk ⟨ax, ay, bx, b_y, cx, cy, r, g, b, k⟩ = ((rch ax && rch ay) && (rch bx && rch b_y) && (rch cx && rch cy) && isCol r g b && part k)) := rfl
  have P1 := hide (fun W => isPoint_any ax ay W)
  have P2 := hide (fun W => isPoint_any bx b_y W)
  have P3 := hide (fun W => isPoint_any cx cy W)
  have P4 := hide (fun W => isColour_any r g b W)
  have P5 := hide (fun W => isPart_any k W)
  generalize (rch ax && rch ay) = p1 at H P1
  generalize (rch bx && rch b_y) = p2 at H P2
  generalize (rch cx && rch cy) = p3 at H P3
  generalize isCol r g b = p4 at H P4
  generalize part k = p5 at H P5
  have key : (p1 = false ∨ p1 = true ∧ p2 = false ∨ p1 = true ∧ p2 = true ∧ p3 = false ∨ p1 = true ∧ p2 = true ∧ p3 = true ∧ p4 = false) ∨ p1 = true ∧ p2 = true ∧ p3 = true ∧ p4 = true := by
    cases p1 <;> cases p2 <;> cases p3 <;> cases p4 <;> simp
  rcases key with (rfl | ⟨rfl, rfl⟩ | ⟨rfl, rfl, rfl⟩ | ⟨rfl, rfl, rfl, rfl⟩) | ⟨rfl, rfl, rfl, rfl⟩
  all_goals
    go_enter Try.func31, Try.ntmps31
    go_wp2_with (first | (go_at_call 37; (first | (with_reducible refine (P1.out _).mono ?_) | (with_reducible refine (P2.out _).mono ?_) | (with_reducible refine (P3.out _).mono ?_)); rintro e w' ⟨rfl, rfl⟩) | (go_at_call 23; (with_reducible refine (P4.out _).mono ?_); rintro e w' ⟨rfl, rfl⟩) | (go_at_call 56; (with_reducible refine (P5.out _).mono ?_); rintro e w' ⟨rfl, rfl⟩))
    go_ret
    exact ⟨by rw [H.out]; simp, (by repeat (first | exact Below.refl _ _ | assumption | refine Below.drew ?_ | refine Below.alloc ?_ (by first | omega | (simp; omega) | simp) _))⟩

set_option maxHeartbeats 400000 in
theorem less_fin (x y x' y' : Nat) (w : World) (fx : fin x) (fy : fin y) (fx' : fin x') (fy' : fin y') (h1 : fin (word (isNeg x && !isNeg x') (val x - val x'))) (h2 : fin (word (isNeg y && !isNeg y') (val y - val y'))) :
    Calls Try.prog 66 #[.complex .f32 x y, .complex .f32 x' y'] w fun e w' => e = .returned (.complex .f32 (diffF x x') (diffF y y')) ∧ w = w' := by
  have H1 := hide (fun w => diff_fin x x' w fx fx' h1)
  have H2 := hide (fun w => diff_fin y y' w fy fy' h2)
  clear fx fy fx' fy' h1 h2
  go_enter Try.func66, Try.ntmps66
  go_wp2_with (go_at_call 45; (first | (with_reducible refine (H1.out _).mono ?_) | (with_reducible refine (H2.out _).mono ?_)); rintro e w' ⟨rfl, rfl⟩)
  go_ret
  exact ⟨rfl, rfl⟩

set_option maxHeartbeats 400000 in
theorem plus_fin (x y x' y' : Nat) (w : World) (fx : fin x) (fy : fin y) (fx' : fin x') (fy' : fin y') (h1 : fin (word (isNeg x && isNeg x') (val x + val x'))) (h2 : fin (word (isNeg y && isNeg y') (val y + val y'))) :
    Calls Try.prog 65 #[.complex .f32 x y, .complex .f32 x' y'] w fun e w' => e = .returned (.complex .f32 (sumF x x') (sumF y y')) ∧ w = w' := by
  have H1 := hide (fun w => sum_fin x x' w fx fx' h1)
  have H2 := hide (fun w => sum_fin y y' w fy fy' h2)
  clear fx fy fx' fy' h1 h2
  go_enter Try.func65, Try.ntmps65
  go_wp2_with (go_at_call 58; (first | (with_reducible refine (H1.out _).mono ?_) | (with_reducible refine (H2.out _).mono ?_)); rintro e w' ⟨rfl, rfl⟩)
  go_ret
  exact ⟨rfl, rfl⟩

set_option maxHeartbeats 1000000 in
theorem sideOf_pt (ax ay bx b_y px py : Nat) (w : World) (ha : Pt ax ay) (hb : Pt bx b_y) (hp : Pt px py) :
    Calls Try.prog 32 #[.complex .f32 ax ay, .complex .f32 bx b_y, .complex .f32 px py] w fun e w' => e = .returned (.float .f32 (sideW ax ay bx b_y px py)) ∧ w = w' := by
  have P1 := hide (fun W => isPoint_y ax ay W ha)
  have P2 := hide (fun W => isPoint_y bx b_y W hb)
  have P3 := hide (fun W => isPoint_y px py W hp)
  have K := side_ok ha.rx ha.ry hb.rx hb.ry hp.rx hp.ry
  have L1 := hide (fun W => less_fin bx b_y ax ay W (rch_fin hb.rx) (rch_fin hb.ry) (rch_fin ha.rx) (rch_fin ha.ry) K.f1 K.f2)
  have L2 := hide (fun W => less_fin px py ax ay W (rch_fin hp.rx) (rch_fin hp.ry) (rch_fin ha.rx) (rch_fin ha.ry) K.f3 K.f4)
  have T1 := hide (fun W => times_fin (diffF bx ax) (diffF py ay) W K.g1 K.g4 K.t1)
  have T2 := hide (fun W => times_fin (diffF b_y ay) (diffF px ax) W K.g2 K.g3 K.t2)
  have D := hide (fun W => diff_fin (timesF (diffF bx ax) (diffF py ay)) (timesF (diffF b_y ay) (diffF px ax)) W K.u1 K.u2 K.d)
  have H : Hid (sideW ax ay bx b_y px py = diffF (timesF (diffF bx ax) (diffF py ay)) (timesF (diffF b_y ay) (diffF px ax))) := rfl
  clear K ha hb hp
  generalize sideW ax ay bx b_y px py = R at H ⊢
  go_enter Try.func32, Try.ntmps32
  go_wp2_with (first | (go_at_call 37; (first | (with_reducible refine (P1.out _).mono ?_) | (with_reducible refine (P2.out _).mono ?_) | (with_reducible refine (P3.out _).mono ?_)); rintro e w' ⟨rfl, rfl⟩) | (go_at_call 66; (first | (with_reducible refine (L1.out _).mono ?_) | (with_reducible refine (L2.out _).mono ?_)); rintro e w' ⟨rfl, rfl⟩) | (go_at_call 55; (first | (with_reducible refine (T1.out _).mono ?_) | (with_reducible refine (T2.out _).mono ?_)); rintro e w' ⟨rfl, rfl⟩) | (go_at_call 45; (with_reducible refine (D.out _).mono ?_); rintro e w' ⟨rfl, rfl⟩))
  go_ret
  exact ⟨by rw [H.out]; rfl, rfl⟩

def ge0 (x : Nat) : Bool := (FloatKind.f32.format.order x 0 == some .gt || FloatKind.f32.format.order x 0 == some .eq)
def le0 (x : Nat) : Bool := (FloatKind.f32.format.order x 0 == some .lt || FloatKind.f32.format.order x 0 == some .eq)
def inB (x y z : Nat) : Bool := (ge0 x && ge0 y && ge0 z) || (le0 x && le0 y && le0 z)

/-- Whether a point lies in a shard. -/
def liesW (s : Shd) (px py : Nat) : Bool := inB (sideW s.ax s.ay s.bx s.b_y px py) (sideW s.bx s.b_y s.cx s.cy px py) (sideW s.cx s.cy s.ax s.ay px py)

theorem inB_paths (G1 G2 G3 L1 L2 : Bool) : (G1 = true ∧ G2 = true ∧ G3 = true) ∨ ((G1 = false ∨ G1 = true ∧ G2 = false ∨ G1 = true ∧ G2 = true ∧ G3 = false) ∧ (L1 = false ∨ L1 = true ∧ L2 = false ∨ L1 = true ∧ L2 = true)) := by
  cases G1 <;> cases G2 <;> cases G3 <;> cases L1 <;> cases L2 <;> simp

set_option maxHeartbeats 4000000 in
theorem lies_any (s : Shd) (px py : Nat) (w : World) (hs : ShOk s) (hp : Pt px py) :
    Calls Try.prog 67 #[.agg #[.complex .f32 s.ax s.ay, .complex .f32 s.bx s.b_y, .complex .f32 s.cx s.cy, .float .f32 s.r, .float .f32 s.g, .float .f32 s.b, .float .f32 s.k], .complex .f32 px py] w fun e w' => e = .returned (.bool (liesW s px py)) ∧ Below w.heap.size w w' := by
  have P1 := hide (fun W => sideOf_pt s.ax s.ay s.bx s.b_y px py W hs.pa hs.pb hp)
  have P2 := hide (fun W => sideOf_pt s.bx s.b_y s.cx s.cy px py W hs.pb hs.pc hp)
  have P3 := hide (fun W => sideOf_pt s.cx s.cy s.ax s.ay px py W hs.pc hs.pa hp)
  have H : Hid (liesW s px py = inB (sideW s.ax s.ay s.bx s.b_y px py) (sideW s.bx s.b_y s.cx s.cy px py) (sideW s.cx s.cy s.ax s.ay px py)) := rfl
  clear hs hp
  generalize liesW s px py = R at H ⊢
  obtain ⟨ax, ay, bx, b_y, cx, cy, r, g, b, k⟩ := s
  simp only at P1 P2 P3 H ⊢
  generalize sideW ax ay bx b_y px py = X at P1 H
  generalize sideW bx b_y cx cy px py = Y at P2 H
  generalize sideW cx cy ax ay px py = Z at P3 H
  obtain ⟨G1, e1⟩ : ∃ G, (FloatKind.f32.format.order X 0 == some .gt || FloatKind.f32.format.order X 0 == some .eq) = G := ⟨_, rfl⟩
  obtain ⟨G2, e2⟩ : ∃ G, (FloatKind.f32.format.order Y 0 == some .gt || FloatKind.f32.format.order Y 0 == some .eq) = G := ⟨_, rfl⟩
  obtain ⟨G3, e3⟩ : ∃ G, (FloatKind.f32.format.order Z 0 == some .gt || FloatKind.f32.format.order Z 0 == some .eq) = G := ⟨_, rfl⟩
  obtain ⟨L1, e4⟩ : ∃ G, (FloatKind.f32.format.order X 0 == some .lt || FloatKind.f32.format.order X 0 == some .eq) = G := ⟨_, rfl⟩
  obtain ⟨L2, e5⟩ : ∃ G, (FloatKind.f32.format.order Y 0 == some .lt || FloatKind.f32.format.order Y 0 == some .eq) = G := ⟨_, rfl⟩
  obtain ⟨L3, e6⟩ : ∃ G, (FloatKind.f32.format.order Z 0 == some .lt || FloatKind.f32.format.order Z 0 == some .eq) = G := ⟨_, rfl⟩
  have H : Hid (R = ((G1 && G2 && G3) || (L1 && L2 && L3))) := by
    show R = _
    rw [H.out, ← e1, ← e2, ← e3, ← e4, ← e5, ← e6]
    rfl
  go_enter Try.func67, Try.ntmps67
  go_wp2_with fail
  go_region_held3 (fun w' => w'.cell? ⟨w.heap.size, 0, none⟩ = some (.complex .f32 ax ay) ∧ w'.cell? ⟨w.heap.size, 1, none⟩ = some (.complex .f32 bx b_y) ∧ w'.cell? ⟨w.heap.size, 2, none⟩ = some (.complex .f32 cx cy))
    (refine ⟨?_, ?_, ?_⟩ <;> (go_simp; done))
    (first | (go_at_call 32; (first | (with_reducible refine (P1.out _).mono ?_) | (with_reducible refine (P2.out _).mono ?_) | (with_reducible refine (P3.out _).mono ?_)); rintro e w' ⟨rfl, rfl⟩))
  rcases inB_paths G1 G2 G3 L1 L2 with ⟨rfl, rfl, rfl⟩ | ⟨rfl | ⟨rfl, rfl⟩ | ⟨rfl, rfl, rfl⟩, rfl | ⟨rfl, rfl⟩ | ⟨rfl, rfl⟩⟩
  all_goals
    go_wp2_with fail
    go_ret
    exact ⟨by rw [H.out]; simp, (by repeat (first | exact Below.refl _ _ | assumption | refine Below.drew ?_ | refine Below.setCell ?_ (by first | (dsimp only; omega) | (simp; omega) | simp) _ | refine Below.alloc ?_ (by first | omega | (simp; omega) | simp) _))⟩

/-- InShard of a valid shard and a point. -/
theorem inShard_any (s : Shd) (px py : Nat) (w : World) (hs : ShOk s) (hp : Pt px py) :
    Calls Try.prog 34 #[.agg #[.complex .f32 s.ax s.ay, .complex .f32 s.bx s.b_y, .complex .f32 s.cx s.cy, .float .f32 s.r, .float .f32 s.g, .float .f32 s.b, .float .f32 s.k], .complex .f32 px py] w fun e w' => e = .returned (.bool (liesW s px py)) ∧ Below w.heap.size w w' := by
  have P1 := isShard_any s
  rw [shOk_of hs] at P1
  have P1 := hide P1
  have P2 := hide (fun W => isPoint_y px py W hp)
  have P3 := hide (fun W => lies_any s px py W hs hp)
  clear hs hp
  generalize liesW s px py = R at P3 ⊢
  obtain ⟨ax, ay, bx, b_y, cx, cy, r, g, b, k⟩ := s
  simp only at P1 P2 P3 ⊢
  go_enter Try.func34, Try.ntmps34
  go_wp2_with fail
  have a0 : ((w.alloc (.cells #[.complex .f32 ax ay, .complex .f32 bx b_y, .complex .f32 cx cy, .float .f32 r, .float .f32 g, .float .f32 b, .float .f32 k] 56))).cell? ⟨w.heap.size, 0, none⟩ = some (.complex .f32 ax ay) := by go_simp
  have a1 : ((w.alloc (.cells #[.complex .f32 ax ay, .complex .f32 bx b_y, .complex .f32 cx cy, .float .f32 r, .float .f32 g, .float .f32 b, .float .f32 k] 56))).cell? ⟨w.heap.size, 1, none⟩ = some (.complex .f32 bx b_y) := by go_simp
  have a2 : ((w.alloc (.cells #[.complex .f32 ax ay, .complex .f32 bx b_y, .complex .f32 cx cy, .float .f32 r, .float .f32 g, .float .f32 b, .float .f32 k] 56))).cell? ⟨w.heap.size, 2, none⟩ = some (.complex .f32 cx cy) := by go_simp
  have a3 : ((w.alloc (.cells #[.complex .f32 ax ay, .complex .f32 bx b_y, .complex .f32 cx cy, .float .f32 r, .float .f32 g, .float .f32 b, .float .f32 k] 56))).cell? ⟨w.heap.size, 3, none⟩ = some (.float .f32 r) := by go_simp
  have a4 : ((w.alloc (.cells #[.complex .f32 ax ay, .complex .f32 bx b_y, .complex .f32 cx cy, .float .f32 r, .float .f32 g, .float .f32 b, .float .f32 k] 56))).cell? ⟨w.heap.size, 4, none⟩ = some (.float .f32 g) := by go_simp
  have a5 : ((w.alloc (.cells #[.complex .f32 ax ay, .complex .f32 bx b_y, .complex .f32 cx cy, .float .f32 r, .float .f32 g, .float .f32 b, .float .f32 k] 56))).cell? ⟨w.heap.size, 5, none⟩ = some (.float .f32 b) := by go_simp
  have a6 : ((w.alloc (.cells #[.complex .f32 ax ay, .complex .f32 bx b_y, .complex .f32 cx cy, .float .f32 r, .float .f32 g, .float .f32 b, .float .f32 k] 56))).cell? ⟨w.heap.size, 6, none⟩ = some (.float .f32 k) := by go_simp
  have bel : Below w.heap.size w ((w.alloc (.cells #[.complex .f32 ax ay, .complex .f32 bx b_y, .complex .f32 cx cy, .float .f32 r, .float .f32 g, .float .f32 b, .float .f32 k] 56))) := (by repeat (first | exact Below.refl _ _ | assumption | refine Below.drew ?_ | refine Below.setCell ?_ (by first | (dsimp only; omega) | (simp; omega) | simp) _ | refine Below.alloc ?_ (by first | omega | (simp; omega) | simp) _))
  generalize (w.alloc (.cells #[.complex .f32 ax ay, .complex .f32 bx b_y, .complex .f32 cx cy, .float .f32 r, .float .f32 g, .float .f32 b, .float .f32 k] 56)) = wA at a0 a1 a2 a3 a4 a5 a6 bel ⊢
  have hswA := bel.size
  refine (P1.out _).mono ?_
  rintro e w1 ⟨rfl, hb1⟩
  have a0 := keepc hb1 a0
  have a1 := keepc hb1 a1
  have a2 := keepc hb1 a2
  have a3 := keepc hb1 a3
  have a4 := keepc hb1 a4
  have a5 := keepc hb1 a5
  have a6 := keepc hb1 a6
  have bel := belowOf bel hb1
  clear hb1
  go_wp2_with fail
  refine (P2.out _).mono ?_
  rintro e w2 ⟨rfl, rfl⟩
  go_wp2_with fail
  refine (P3.out _).mono ?_
  rintro e w3 ⟨rfl, hb3⟩
  have bel := belowOf bel hb3
  go_wp2_with fail
  go_ret
  exact ⟨rfl, bel⟩

/-- What a symmetry makes of a shard. -/
def actS (t : Int) (f : Bool) (s : Shd) : Shd :=
  ⟨(actW t f s.ax s.ay).1, (actW t f s.ax s.ay).2, (actW t f s.bx s.b_y).1, (actW t f s.bx s.b_y).2, (actW t f s.cx s.cy).1, (actW t f s.cx s.cy).2, s.r, s.g, s.b, s.k⟩

theorem actS_ok (t : Int) (f : Bool) {s : Shd} (h : ShOk s) : ShOk (actS t f s) :=
  ⟨(act_ok t f h.pa).1.pt, (act_ok t f h.pb).1.pt, (act_ok t f h.pc).1.pt, h.col, h.clear⟩

end Go.Proofs.Ytgafdkaiiajieaa
