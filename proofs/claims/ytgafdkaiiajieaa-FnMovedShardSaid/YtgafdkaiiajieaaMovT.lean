/- What MoveShard computes. Condition: a valid shard, a point. -/
import Derived.Test.YtgafdkaiiajieaaMovS
namespace Go.Proofs.Ytgafdkaiiajieaa
open Go.RowKit Go.Sort
open Fl

set_option maxRecDepth 100000 in
set_option maxHeartbeats 4000000 in
theorem moveShard_any (zx zy : Nat) (s : Shd) (w : World) (hz : Pt zx zy) (hs : ShOk s) :
    Calls Try.prog 30 #[.agg #[.complex .f32 s.ax s.ay, .complex .f32 s.bx s.b_y, .complex .f32 s.cx s.cy, .float .f32 s.r, .float .f32 s.g, .float .f32 s.b, .float .f32 s.k], .complex .f32 zx zy] w fun e w' => e = .returned (.tuple #[.agg #[.complex .f32 (if shOk (movS zx zy s) then movS zx zy s else s).ax (if shOk (movS zx zy s) then movS zx zy s else s).ay, .complex .f32 (if shOk (movS zx zy s) then movS zx zy s else s).bx (if shOk (movS zx zy s) then movS zx zy s else s).b_y, .complex .f32 (if shOk (movS zx zy s) then movS zx zy s else s).cx (if shOk (movS zx zy s) then movS zx zy s else s).cy, .float .f32 s.r, .float .f32 s.g, .float .f32 s.b, .float .f32 s.k], .bool (shOk (movS zx zy s))]) ∧ Below w.heap.size w w' := by
  have P1 := isShard_any s
  rw [shOk_of hs] at P1
  have H1 := hide P1
  clear P1
  have H2 := hide (isShard_any (movS zx zy s))
  have A1 := hide (fun W => plusC s.ax s.ay zx zy W hs.pa hz)
  have A2 := hide (fun W => plusC s.bx s.b_y zx zy W hs.pb hz)
  have A3 := hide (fun W => plusC s.cx s.cy zx zy W hs.pc hz)
  have H3 := hide (fun W => isPoint_y zx zy W hz)
  obtain ⟨ax, ay, bx, b_y, cx, cy, r, g, b, k⟩ := s
  generalize shOk (movS zx zy ⟨ax, ay, bx, b_y, cx, cy, r, g, b, k⟩) = ok at H2 ⊢
  unfold movS at H2 ⊢
  simp only at H1 H2 A1 A2 A3 ⊢
  generalize sumF ax zx = ax' at A1 H2 ⊢
  generalize sumF ay zy = ay' at A1 H2 ⊢
  generalize sumF bx zx = bx' at A2 H2 ⊢
  generalize sumF b_y zy = by' at A2 H2 ⊢
  generalize sumF cx zx = cx' at A3 H2 ⊢
  generalize sumF cy zy = cy' at A3 H2 ⊢
  clear hs hz
  cases ok
  · simp only [Bool.false_eq_true, if_false]
    go_enter Try.func30, Try.ntmps30
    go_upto_region 2 with fail
    have rf : ∀ j, (((w.alloc (.cells #[.complex .f32 ax ay, .complex .f32 bx b_y, .complex .f32 cx cy, .float .f32 r, .float .f32 g, .float .f32 b, .float .f32 k] 56)).alloc (.cells #[.complex .f32 0 0, .complex .f32 0 0, .complex .f32 0 0, .float .f32 0, .float .f32 0, .float .f32 0, .float .f32 0] 56)).alloc (.cells #[.complex .f32 ax ay, .complex .f32 bx b_y, .complex .f32 cx cy, .float .f32 r, .float .f32 g, .float .f32 b, .float .f32 k] 56)).frozen? ⟨w.heap.size + 1, j, none⟩ = false := fun j => by go_simp
    have of : ∀ j, (((w.alloc (.cells #[.complex .f32 ax ay, .complex .f32 bx b_y, .complex .f32 cx cy, .float .f32 r, .float .f32 g, .float .f32 b, .float .f32 k] 56)).alloc (.cells #[.complex .f32 0 0, .complex .f32 0 0, .complex .f32 0 0, .float .f32 0, .float .f32 0, .float .f32 0, .float .f32 0] 56)).alloc (.cells #[.complex .f32 ax ay, .complex .f32 bx b_y, .complex .f32 cx cy, .float .f32 r, .float .f32 g, .float .f32 b, .float .f32 k] 56)).frozen? ⟨w.heap.size + 1 + 1, j, none⟩ = false := fun j => by go_simp
    have a0 : (((w.alloc (.cells #[.complex .f32 ax ay, .complex .f32 bx b_y, .complex .f32 cx cy, .float .f32 r, .float .f32 g, .float .f32 b, .float .f32 k] 56)).alloc (.cells #[.complex .f32 0 0, .complex .f32 0 0, .complex .f32 0 0, .float .f32 0, .float .f32 0, .float .f32 0, .float .f32 0] 56)).alloc (.cells #[.complex .f32 ax ay, .complex .f32 bx b_y, .complex .f32 cx cy, .float .f32 r, .float .f32 g, .float .f32 b, .float .f32 k] 56)).cell? ⟨w.heap.size, 0, none⟩ = some (.complex .f32 ax ay) := by go_simp
    have a1 : (((w.alloc (.cells #[.complex .f32 ax ay, .complex .f32 bx b_y, .complex .f32 cx cy, .float .f32 r, .float .f32 g, .float .f32 b, .float .f32 k] 56)).alloc (.cells #[.complex .f32 0 0, .complex .f32 0 0, .complex .f32 0 0, .float .f32 0, .float .f32 0, .float .f32 0, .float .f32 0] 56)).alloc (.cells #[.complex .f32 ax ay, .complex .f32 bx b_y, .complex .f32 cx cy, .float .f32 r, .float .f32 g, .float .f32 b, .float .f32 k] 56)).cell? ⟨w.heap.size, 1, none⟩ = some (.complex .f32 bx b_y) := by go_simp
    have a2 : (((w.alloc (.cells #[.complex .f32 ax ay, .complex .f32 bx b_y, .complex .f32 cx cy, .float .f32 r, .float .f32 g, .float .f32 b, .float .f32 k] 56)).alloc (.cells #[.complex .f32 0 0, .complex .f32 0 0, .complex .f32 0 0, .float .f32 0, .float .f32 0, .float .f32 0, .float .f32 0] 56)).alloc (.cells #[.complex .f32 ax ay, .complex .f32 bx b_y, .complex .f32 cx cy, .float .f32 r, .float .f32 g, .float .f32 b, .float .f32 k] 56)).cell? ⟨w.heap.size, 2, none⟩ = some (.complex .f32 cx cy) := by go_simp
    have a3 : (((w.alloc (.cells #[.complex .f32 ax ay, .complex .f32 bx b_y, .complex .f32 cx cy, .float .f32 r, .float .f32 g, .float .f32 b, .float .f32 k] 56)).alloc (.cells #[.complex .f32 0 0, .complex .f32 0 0, .complex .f32 0 0, .float .f32 0, .float .f32 0, .float .f32 0, .float .f32 0] 56)).alloc (.cells #[.complex .f32 ax ay, .complex .f32 bx b_y, .complex .f32 cx cy, .float .f32 r, .float .f32 g, .float .f32 b, .float .f32 k] 56)).cell? ⟨w.heap.size, 3, none⟩ = some (.float .f32 r) := by go_simp
    have a4 : (((w.alloc (.cells #[.complex .f32 ax ay, .complex .f32 bx b_y, .complex .f32 cx cy, .float .f32 r, .float .f32 g, .float .f32 b, .float .f32 k] 56)).alloc (.cells #[.complex .f32 0 0, .complex .f32 0 0, .complex .f32 0 0, .float .f32 0, .float .f32 0, .float .f32 0, .float .f32 0] 56)).alloc (.cells #[.complex .f32 ax ay, .complex .f32 bx b_y, .complex .f32 cx cy, .float .f32 r, .float .f32 g, .float .f32 b, .float .f32 k] 56)).cell? ⟨w.heap.size, 4, none⟩ = some (.float .f32 g) := by go_simp
    have a5 : (((w.alloc (.cells #[.complex .f32 ax ay, .complex .f32 bx b_y, .complex .f32 cx cy, .float .f32 r, .float .f32 g, .float .f32 b, .float .f32 k] 56)).alloc (.cells #[.complex .f32 0 0, .complex .f32 0 0, .complex .f32 0 0, .float .f32 0, .float .f32 0, .float .f32 0, .float .f32 0] 56)).alloc (.cells #[.complex .f32 ax ay, .complex .f32 bx b_y, .complex .f32 cx cy, .float .f32 r, .float .f32 g, .float .f32 b, .float .f32 k] 56)).cell? ⟨w.heap.size, 5, none⟩ = some (.float .f32 b) := by go_simp
    have a6 : (((w.alloc (.cells #[.complex .f32 ax ay, .complex .f32 bx b_y, .complex .f32 cx cy, .float .f32 r, .float .f32 g, .float .f32 b, .float .f32 k] 56)).alloc (.cells #[.complex .f32 0 0, .complex .f32 0 0, .complex .f32 0 0, .float .f32 0, .float .f32 0, .float .f32 0, .float .f32 0] 56)).alloc (.cells #[.complex .f32 ax ay, .complex .f32 bx b_y, .complex .f32 cx cy, .float .f32 r, .float .f32 g, .float .f32 b, .float .f32 k] 56)).cell? ⟨w.heap.size, 6, none⟩ = some (.float .f32 k) := by go_simp
    have r0 : (((w.alloc (.cells #[.complex .f32 ax ay, .complex .f32 bx b_y, .complex .f32 cx cy, .float .f32 r, .float .f32 g, .float .f32 b, .float .f32 k] 56)).alloc (.cells #[.complex .f32 0 0, .complex .f32 0 0, .complex .f32 0 0, .float .f32 0, .float .f32 0, .float .f32 0, .float .f32 0] 56)).alloc (.cells #[.complex .f32 ax ay, .complex .f32 bx b_y, .complex .f32 cx cy, .float .f32 r, .float .f32 g, .float .f32 b, .float .f32 k] 56)).cell? ⟨w.heap.size + 1, 0, none⟩ = some (.complex .f32 0 0) := by go_simp
    have r1 : (((w.alloc (.cells #[.complex .f32 ax ay, .complex .f32 bx b_y, .complex .f32 cx cy, .float .f32 r, .float .f32 g, .float .f32 b, .float .f32 k] 56)).alloc (.cells #[.complex .f32 0 0, .complex .f32 0 0, .complex .f32 0 0, .float .f32 0, .float .f32 0, .float .f32 0, .float .f32 0] 56)).alloc (.cells #[.complex .f32 ax ay, .complex .f32 bx b_y, .complex .f32 cx cy, .float .f32 r, .float .f32 g, .float .f32 b, .float .f32 k] 56)).cell? ⟨w.heap.size + 1, 1, none⟩ = some (.complex .f32 0 0) := by go_simp
    have r2 : (((w.alloc (.cells #[.complex .f32 ax ay, .complex .f32 bx b_y, .complex .f32 cx cy, .float .f32 r, .float .f32 g, .float .f32 b, .float .f32 k] 56)).alloc (.cells #[.complex .f32 0 0, .complex .f32 0 0, .complex .f32 0 0, .float .f32 0, .float .f32 0, .float .f32 0, .float .f32 0] 56)).alloc (.cells #[.complex .f32 ax ay, .complex .f32 bx b_y, .complex .f32 cx cy, .float .f32 r, .float .f32 g, .float .f32 b, .float .f32 k] 56)).cell? ⟨w.heap.size + 1, 2, none⟩ = some (.complex .f32 0 0) := by go_simp
    have r3 : (((w.alloc (.cells #[.complex .f32 ax ay, .complex .f32 bx b_y, .complex .f32 cx cy, .float .f32 r, .float .f32 g, .float .f32 b, .float .f32 k] 56)).alloc (.cells #[.complex .f32 0 0, .complex .f32 0 0, .complex .f32 0 0, .float .f32 0, .float .f32 0, .float .f32 0, .float .f32 0] 56)).alloc (.cells #[.complex .f32 ax ay, .complex .f32 bx b_y, .complex .f32 cx cy, .float .f32 r, .float .f32 g, .float .f32 b, .float .f32 k] 56)).cell? ⟨w.heap.size + 1, 3, none⟩ = some (.float .f32 0) := by go_simp
    have r4 : (((w.alloc (.cells #[.complex .f32 ax ay, .complex .f32 bx b_y, .complex .f32 cx cy, .float .f32 r, .float .f32 g, .float .f32 b, .float .f32 k] 56)).alloc (.cells #[.complex .f32 0 0, .complex .f32 0 0, .complex .f32 0 0, .float .f32 0, .float .f32 0, .float .f32 0, .float .f32 0] 56)).alloc (.cells #[.complex .f32 ax ay, .complex .f32 bx b_y, .complex .f32 cx cy, .float .f32 r, .float .f32 g, .float .f32 b, .float .f32 k] 56)).cell? ⟨w.heap.size + 1, 4, none⟩ = some (.float .f32 0) := by go_simp
    have r5 : (((w.alloc (.cells #[.complex .f32 ax ay, .complex .f32 bx b_y, .complex .f32 cx cy, .float .f32 r, .float .f32 g, .float .f32 b, .float .f32 k] 56)).alloc (.cells #[.complex .f32 0 0, .complex .f32 0 0, .complex .f32 0 0, .float .f32 0, .float .f32 0, .float .f32 0, .float .f32 0] 56)).alloc (.cells #[.complex .f32 ax ay, .complex .f32 bx b_y, .complex .f32 cx cy, .float .f32 r, .float .f32 g, .float .f32 b, .float .f32 k] 56)).cell? ⟨w.heap.size + 1, 5, none⟩ = some (.float .f32 0) := by go_simp
    have r6 : (((w.alloc (.cells #[.complex .f32 ax ay, .complex .f32 bx b_y, .complex .f32 cx cy, .float .f32 r, .float .f32 g, .float .f32 b, .float .f32 k] 56)).alloc (.cells #[.complex .f32 0 0, .complex .f32 0 0, .complex .f32 0 0, .float .f32 0, .float .f32 0, .float .f32 0, .float .f32 0] 56)).alloc (.cells #[.complex .f32 ax ay, .complex .f32 bx b_y, .complex .f32 cx cy, .float .f32 r, .float .f32 g, .float .f32 b, .float .f32 k] 56)).cell? ⟨w.heap.size + 1, 6, none⟩ = some (.float .f32 0) := by go_simp
    have o0 : (((w.alloc (.cells #[.complex .f32 ax ay, .complex .f32 bx b_y, .complex .f32 cx cy, .float .f32 r, .float .f32 g, .float .f32 b, .float .f32 k] 56)).alloc (.cells #[.complex .f32 0 0, .complex .f32 0 0, .complex .f32 0 0, .float .f32 0, .float .f32 0, .float .f32 0, .float .f32 0] 56)).alloc (.cells #[.complex .f32 ax ay, .complex .f32 bx b_y, .complex .f32 cx cy, .float .f32 r, .float .f32 g, .float .f32 b, .float .f32 k] 56)).cell? ⟨w.heap.size + 1 + 1, 0, none⟩ = some (.complex .f32 ax ay) := by go_simp
    have o1 : (((w.alloc (.cells #[.complex .f32 ax ay, .complex .f32 bx b_y, .complex .f32 cx cy, .float .f32 r, .float .f32 g, .float .f32 b, .float .f32 k] 56)).alloc (.cells #[.complex .f32 0 0, .complex .f32 0 0, .complex .f32 0 0, .float .f32 0, .float .f32 0, .float .f32 0, .float .f32 0] 56)).alloc (.cells #[.complex .f32 ax ay, .complex .f32 bx b_y, .complex .f32 cx cy, .float .f32 r, .float .f32 g, .float .f32 b, .float .f32 k] 56)).cell? ⟨w.heap.size + 1 + 1, 1, none⟩ = some (.complex .f32 bx b_y) := by go_simp
    have o2 : (((w.alloc (.cells #[.complex .f32 ax ay, .complex .f32 bx b_y, .complex .f32 cx cy, .float .f32 r, .float .f32 g, .float .f32 b, .float .f32 k] 56)).alloc (.cells #[.complex .f32 0 0, .complex .f32 0 0, .complex .f32 0 0, .float .f32 0, .float .f32 0, .float .f32 0, .float .f32 0] 56)).alloc (.cells #[.complex .f32 ax ay, .complex .f32 bx b_y, .complex .f32 cx cy, .float .f32 r, .float .f32 g, .float .f32 b, .float .f32 k] 56)).cell? ⟨w.heap.size + 1 + 1, 2, none⟩ = some (.complex .f32 cx cy) := by go_simp
    have o3 : (((w.alloc (.cells #[.complex .f32 ax ay, .complex .f32 bx b_y, .complex .f32 cx cy, .float .f32 r, .float .f32 g, .float .f32 b, .float .f32 k] 56)).alloc (.cells #[.complex .f32 0 0, .complex .f32 0 0, .complex .f32 0 0, .float .f32 0, .float .f32 0, .float .f32 0, .float .f32 0] 56)).alloc (.cells #[.complex .f32 ax ay, .complex .f32 bx b_y, .complex .f32 cx cy, .float .f32 r, .float .f32 g, .float .f32 b, .float .f32 k] 56)).cell? ⟨w.heap.size + 1 + 1, 3, none⟩ = some (.float .f32 r) := by go_simp
    have o4 : (((w.alloc (.cells #[.complex .f32 ax ay, .complex .f32 bx b_y, .complex .f32 cx cy, .float .f32 r, .float .f32 g, .float .f32 b, .float .f32 k] 56)).alloc (.cells #[.complex .f32 0 0, .complex .f32 0 0, .complex .f32 0 0, .float .f32 0, .float .f32 0, .float .f32 0, .float .f32 0] 56)).alloc (.cells #[.complex .f32 ax ay, .complex .f32 bx b_y, .complex .f32 cx cy, .float .f32 r, .float .f32 g, .float .f32 b, .float .f32 k] 56)).cell? ⟨w.heap.size + 1 + 1, 4, none⟩ = some (.float .f32 g) := by go_simp
    have o5 : (((w.alloc (.cells #[.complex .f32 ax ay, .complex .f32 bx b_y, .complex .f32 cx cy, .float .f32 r, .float .f32 g, .float .f32 b, .float .f32 k] 56)).alloc (.cells #[.complex .f32 0 0, .complex .f32 0 0, .complex .f32 0 0, .float .f32 0, .float .f32 0, .float .f32 0, .float .f32 0] 56)).alloc (.cells #[.complex .f32 ax ay, .complex .f32 bx b_y, .complex .f32 cx cy, .float .f32 r, .float .f32 g, .float .f32 b, .float .f32 k] 56)).cell? ⟨w.heap.size + 1 + 1, 5, none⟩ = some (.float .f32 b) := by go_simp
    have o6 : (((w.alloc (.cells #[.complex .f32 ax ay, .complex .f32 bx b_y, .complex .f32 cx cy, .float .f32 r, .float .f32 g, .float .f32 b, .float .f32 k] 56)).alloc (.cells #[.complex .f32 0 0, .complex .f32 0 0, .complex .f32 0 0, .float .f32 0, .float .f32 0, .float .f32 0, .float .f32 0] 56)).alloc (.cells #[.complex .f32 ax ay, .complex .f32 bx b_y, .complex .f32 cx cy, .float .f32 r, .float .f32 g, .float .f32 b, .float .f32 k] 56)).cell? ⟨w.heap.size + 1 + 1, 6, none⟩ = some (.float .f32 k) := by go_simp
    have bel : Below w.heap.size w (((w.alloc (.cells #[.complex .f32 ax ay, .complex .f32 bx b_y, .complex .f32 cx cy, .float .f32 r, .float .f32 g, .float .f32 b, .float .f32 k] 56)).alloc (.cells #[.complex .f32 0 0, .complex .f32 0 0, .complex .f32 0 0, .float .f32 0, .float .f32 0, .float .f32 0, .float .f32 0] 56)).alloc (.cells #[.complex .f32 ax ay, .complex .f32 bx b_y, .complex .f32 cx cy, .float .f32 r, .float .f32 g, .float .f32 b, .float .f32 k] 56)) := (by repeat (first | exact Below.refl _ _ | assumption | refine Below.drew ?_ | refine Below.setCell ?_ (by first | (dsimp only; omega) | (simp; omega) | simp) _ | refine Below.alloc ?_ (by first | omega | (simp; omega) | simp) _))
    generalize ((w.alloc (.cells #[.complex .f32 ax ay, .complex .f32 bx b_y, .complex .f32 cx cy, .float .f32 r, .float .f32 g, .float .f32 b, .float .f32 k] 56)).alloc (.cells #[.complex .f32 0 0, .complex .f32 0 0, .complex .f32 0 0, .float .f32 0, .float .f32 0, .float .f32 0, .float .f32 0] 56)).alloc (.cells #[.complex .f32 ax ay, .complex .f32 bx b_y, .complex .f32 cx cy, .float .f32 r, .float .f32 g, .float .f32 b, .float .f32 k] 56) = wA at rf of a0 a1 a2 a3 a4 a5 a6 r0 r1 r2 r3 r4 r5 r6 o0 o1 o2 o3 o4 o5 o6 bel ⊢
    have hswA := bel.size
    have hlt : w.heap.size + 1 + 1 < wA.heap.size := World.block_lt_of_cell? wA _ o0
    have C1 := regE (w := wA) A1.out
    have C2 := regE (w := wA) A2.out
    have C3 := regE (w := wA) A3.out
    have k_a0 := cell_regrown a0
    have k_a1 := cell_regrown a1
    have k_a2 := cell_regrown a2
    refine wp_region_below_tail 13 (by kernel_rfl) (by kernel_rfl) ?_
    simp only [List.take_succ_cons, List.take_zero, List.drop_succ_cons, List.drop_zero]
    repeat (go_big_quiet_step (first | (with_reducible exact C1 _ _) | (with_reducible exact C2 _ _) | (with_reducible exact C3 _ _)))
    refine wpQuiet_nil ?_
    intro w1 nb
    clear k_a0 k_a1 k_a2
    have a0 := keepc nb a0
    have a1 := keepc nb a1
    have a2 := keepc nb a2
    have a3 := keepc nb a3
    have a4 := keepc nb a4
    have a5 := keepc nb a5
    have a6 := keepc nb a6
    have r0 := keepc nb r0
    have r1 := keepc nb r1
    have r2 := keepc nb r2
    have r3 := keepc nb r3
    have r4 := keepc nb r4
    have r5 := keepc nb r5
    have r6 := keepc nb r6
    have o0 := keepc nb o0
    have o1 := keepc nb o1
    have o2 := keepc nb o2
    have o3 := keepc nb o3
    have o4 := keepc nb o4
    have o5 := keepc nb o5
    have o6 := keepc nb o6
    have rf := fun j => (nb.frozen (p := ⟨w.heap.size + 1, j, none⟩) (show w.heap.size + 1 < _ by omega)).trans (rf j)
    have of := fun j => (nb.frozen (p := ⟨w.heap.size + 1 + 1, j, none⟩) (show w.heap.size + 1 + 1 < _ by omega)).trans (of j)
    have hlt : w.heap.size + 1 + 1 < w1.heap.size := Nat.lt_of_lt_of_le hlt nb.size
    have bel := belowOf bel nb
    clear nb
    go_wp2_with fail
    have hl0 : w.heap.size < w1.heap.size := by omega
    have hl1 : w.heap.size + 1 < w1.heap.size := by omega
    have rf : ∀ j, ((((w1.setCell ⟨w.heap.size + 1 + 1, 0, none⟩ (.complex .f32 ax' ay')).setCell ⟨w.heap.size + 1 + 1, 1, none⟩ (.complex .f32 bx' by')).setCell ⟨w.heap.size + 1 + 1, 2, none⟩ (.complex .f32 cx' cy'))).frozen? ⟨w.heap.size + 1, j, none⟩ = false := fun j => by go_simp
    have a0 : ((((w1.setCell ⟨w.heap.size + 1 + 1, 0, none⟩ (.complex .f32 ax' ay')).setCell ⟨w.heap.size + 1 + 1, 1, none⟩ (.complex .f32 bx' by')).setCell ⟨w.heap.size + 1 + 1, 2, none⟩ (.complex .f32 cx' cy'))).cell? ⟨w.heap.size, 0, none⟩ = some (.complex .f32 ax ay) := by go_simp
    have a1 : ((((w1.setCell ⟨w.heap.size + 1 + 1, 0, none⟩ (.complex .f32 ax' ay')).setCell ⟨w.heap.size + 1 + 1, 1, none⟩ (.complex .f32 bx' by')).setCell ⟨w.heap.size + 1 + 1, 2, none⟩ (.complex .f32 cx' cy'))).cell? ⟨w.heap.size, 1, none⟩ = some (.complex .f32 bx b_y) := by go_simp
    have a2 : ((((w1.setCell ⟨w.heap.size + 1 + 1, 0, none⟩ (.complex .f32 ax' ay')).setCell ⟨w.heap.size + 1 + 1, 1, none⟩ (.complex .f32 bx' by')).setCell ⟨w.heap.size + 1 + 1, 2, none⟩ (.complex .f32 cx' cy'))).cell? ⟨w.heap.size, 2, none⟩ = some (.complex .f32 cx cy) := by go_simp
    have a3 : ((((w1.setCell ⟨w.heap.size + 1 + 1, 0, none⟩ (.complex .f32 ax' ay')).setCell ⟨w.heap.size + 1 + 1, 1, none⟩ (.complex .f32 bx' by')).setCell ⟨w.heap.size + 1 + 1, 2, none⟩ (.complex .f32 cx' cy'))).cell? ⟨w.heap.size, 3, none⟩ = some (.float .f32 r) := by go_simp
    have a4 : ((((w1.setCell ⟨w.heap.size + 1 + 1, 0, none⟩ (.complex .f32 ax' ay')).setCell ⟨w.heap.size + 1 + 1, 1, none⟩ (.complex .f32 bx' by')).setCell ⟨w.heap.size + 1 + 1, 2, none⟩ (.complex .f32 cx' cy'))).cell? ⟨w.heap.size, 4, none⟩ = some (.float .f32 g) := by go_simp
    have a5 : ((((w1.setCell ⟨w.heap.size + 1 + 1, 0, none⟩ (.complex .f32 ax' ay')).setCell ⟨w.heap.size + 1 + 1, 1, none⟩ (.complex .f32 bx' by')).setCell ⟨w.heap.size + 1 + 1, 2, none⟩ (.complex .f32 cx' cy'))).cell? ⟨w.heap.size, 5, none⟩ = some (.float .f32 b) := by go_simp
    have a6 : ((((w1.setCell ⟨w.heap.size + 1 + 1, 0, none⟩ (.complex .f32 ax' ay')).setCell ⟨w.heap.size + 1 + 1, 1, none⟩ (.complex .f32 bx' by')).setCell ⟨w.heap.size + 1 + 1, 2, none⟩ (.complex .f32 cx' cy'))).cell? ⟨w.heap.size, 6, none⟩ = some (.float .f32 k) := by go_simp
    have r0 : ((((w1.setCell ⟨w.heap.size + 1 + 1, 0, none⟩ (.complex .f32 ax' ay')).setCell ⟨w.heap.size + 1 + 1, 1, none⟩ (.complex .f32 bx' by')).setCell ⟨w.heap.size + 1 + 1, 2, none⟩ (.complex .f32 cx' cy'))).cell? ⟨w.heap.size + 1, 0, none⟩ = some (.complex .f32 0 0) := by go_simp
    have r1 : ((((w1.setCell ⟨w.heap.size + 1 + 1, 0, none⟩ (.complex .f32 ax' ay')).setCell ⟨w.heap.size + 1 + 1, 1, none⟩ (.complex .f32 bx' by')).setCell ⟨w.heap.size + 1 + 1, 2, none⟩ (.complex .f32 cx' cy'))).cell? ⟨w.heap.size + 1, 1, none⟩ = some (.complex .f32 0 0) := by go_simp
    have r2 : ((((w1.setCell ⟨w.heap.size + 1 + 1, 0, none⟩ (.complex .f32 ax' ay')).setCell ⟨w.heap.size + 1 + 1, 1, none⟩ (.complex .f32 bx' by')).setCell ⟨w.heap.size + 1 + 1, 2, none⟩ (.complex .f32 cx' cy'))).cell? ⟨w.heap.size + 1, 2, none⟩ = some (.complex .f32 0 0) := by go_simp
    have r3 : ((((w1.setCell ⟨w.heap.size + 1 + 1, 0, none⟩ (.complex .f32 ax' ay')).setCell ⟨w.heap.size + 1 + 1, 1, none⟩ (.complex .f32 bx' by')).setCell ⟨w.heap.size + 1 + 1, 2, none⟩ (.complex .f32 cx' cy'))).cell? ⟨w.heap.size + 1, 3, none⟩ = some (.float .f32 0) := by go_simp
    have r4 : ((((w1.setCell ⟨w.heap.size + 1 + 1, 0, none⟩ (.complex .f32 ax' ay')).setCell ⟨w.heap.size + 1 + 1, 1, none⟩ (.complex .f32 bx' by')).setCell ⟨w.heap.size + 1 + 1, 2, none⟩ (.complex .f32 cx' cy'))).cell? ⟨w.heap.size + 1, 4, none⟩ = some (.float .f32 0) := by go_simp
    have r5 : ((((w1.setCell ⟨w.heap.size + 1 + 1, 0, none⟩ (.complex .f32 ax' ay')).setCell ⟨w.heap.size + 1 + 1, 1, none⟩ (.complex .f32 bx' by')).setCell ⟨w.heap.size + 1 + 1, 2, none⟩ (.complex .f32 cx' cy'))).cell? ⟨w.heap.size + 1, 5, none⟩ = some (.float .f32 0) := by go_simp
    have r6 : ((((w1.setCell ⟨w.heap.size + 1 + 1, 0, none⟩ (.complex .f32 ax' ay')).setCell ⟨w.heap.size + 1 + 1, 1, none⟩ (.complex .f32 bx' by')).setCell ⟨w.heap.size + 1 + 1, 2, none⟩ (.complex .f32 cx' cy'))).cell? ⟨w.heap.size + 1, 6, none⟩ = some (.float .f32 0) := by go_simp
    have o0 : ((((w1.setCell ⟨w.heap.size + 1 + 1, 0, none⟩ (.complex .f32 ax' ay')).setCell ⟨w.heap.size + 1 + 1, 1, none⟩ (.complex .f32 bx' by')).setCell ⟨w.heap.size + 1 + 1, 2, none⟩ (.complex .f32 cx' cy'))).cell? ⟨w.heap.size + 1 + 1, 0, none⟩ = some (.complex .f32 ax' ay') := by go_simp
    have o1 : ((((w1.setCell ⟨w.heap.size + 1 + 1, 0, none⟩ (.complex .f32 ax' ay')).setCell ⟨w.heap.size + 1 + 1, 1, none⟩ (.complex .f32 bx' by')).setCell ⟨w.heap.size + 1 + 1, 2, none⟩ (.complex .f32 cx' cy'))).cell? ⟨w.heap.size + 1 + 1, 1, none⟩ = some (.complex .f32 bx' by') := by go_simp
    have o2 : ((((w1.setCell ⟨w.heap.size + 1 + 1, 0, none⟩ (.complex .f32 ax' ay')).setCell ⟨w.heap.size + 1 + 1, 1, none⟩ (.complex .f32 bx' by')).setCell ⟨w.heap.size + 1 + 1, 2, none⟩ (.complex .f32 cx' cy'))).cell? ⟨w.heap.size + 1 + 1, 2, none⟩ = some (.complex .f32 cx' cy') := by go_simp
    have o3 : ((((w1.setCell ⟨w.heap.size + 1 + 1, 0, none⟩ (.complex .f32 ax' ay')).setCell ⟨w.heap.size + 1 + 1, 1, none⟩ (.complex .f32 bx' by')).setCell ⟨w.heap.size + 1 + 1, 2, none⟩ (.complex .f32 cx' cy'))).cell? ⟨w.heap.size + 1 + 1, 3, none⟩ = some (.float .f32 r) := by go_simp
    have o4 : ((((w1.setCell ⟨w.heap.size + 1 + 1, 0, none⟩ (.complex .f32 ax' ay')).setCell ⟨w.heap.size + 1 + 1, 1, none⟩ (.complex .f32 bx' by')).setCell ⟨w.heap.size + 1 + 1, 2, none⟩ (.complex .f32 cx' cy'))).cell? ⟨w.heap.size + 1 + 1, 4, none⟩ = some (.float .f32 g) := by go_simp
    have o5 : ((((w1.setCell ⟨w.heap.size + 1 + 1, 0, none⟩ (.complex .f32 ax' ay')).setCell ⟨w.heap.size + 1 + 1, 1, none⟩ (.complex .f32 bx' by')).setCell ⟨w.heap.size + 1 + 1, 2, none⟩ (.complex .f32 cx' cy'))).cell? ⟨w.heap.size + 1 + 1, 5, none⟩ = some (.float .f32 b) := by go_simp
    have o6 : ((((w1.setCell ⟨w.heap.size + 1 + 1, 0, none⟩ (.complex .f32 ax' ay')).setCell ⟨w.heap.size + 1 + 1, 1, none⟩ (.complex .f32 bx' by')).setCell ⟨w.heap.size + 1 + 1, 2, none⟩ (.complex .f32 cx' cy'))).cell? ⟨w.heap.size + 1 + 1, 6, none⟩ = some (.float .f32 k) := by go_simp
    have bel : Below w.heap.size w ((((w1.setCell ⟨w.heap.size + 1 + 1, 0, none⟩ (.complex .f32 ax' ay')).setCell ⟨w.heap.size + 1 + 1, 1, none⟩ (.complex .f32 bx' by')).setCell ⟨w.heap.size + 1 + 1, 2, none⟩ (.complex .f32 cx' cy'))) := ((bel.setCell (show w.heap.size ≤ w.heap.size + 1 + 1 by omega) _).setCell (show w.heap.size ≤ w.heap.size + 1 + 1 by omega) _).setCell (show w.heap.size ≤ w.heap.size + 1 + 1 by omega) _
    generalize (((w1.setCell ⟨w.heap.size + 1 + 1, 0, none⟩ (.complex .f32 ax' ay')).setCell ⟨w.heap.size + 1 + 1, 1, none⟩ (.complex .f32 bx' by')).setCell ⟨w.heap.size + 1 + 1, 2, none⟩ (.complex .f32 cx' cy')) = wB at rf a0 a1 a2 a3 a4 a5 a6 r0 r1 r2 r3 r4 r5 r6 o0 o1 o2 o3 o4 o5 o6 bel ⊢
    have hswB := bel.size
    have hlt : w.heap.size + 1 + 1 < wB.heap.size := World.block_lt_of_cell? wB _ o0
    refine (H1.out _).mono ?_
    rintro e w2 ⟨rfl, nb⟩
    have a0 := keepc nb a0
    have a1 := keepc nb a1
    have a2 := keepc nb a2
    have a3 := keepc nb a3
    have a4 := keepc nb a4
    have a5 := keepc nb a5
    have a6 := keepc nb a6
    have r0 := keepc nb r0
    have r1 := keepc nb r1
    have r2 := keepc nb r2
    have r3 := keepc nb r3
    have r4 := keepc nb r4
    have r5 := keepc nb r5
    have r6 := keepc nb r6
    have o0 := keepc nb o0
    have o1 := keepc nb o1
    have o2 := keepc nb o2
    have o3 := keepc nb o3
    have o4 := keepc nb o4
    have o5 := keepc nb o5
    have o6 := keepc nb o6
    have rf := fun j => (nb.frozen (p := ⟨w.heap.size + 1, j, none⟩) (show w.heap.size + 1 < _ by omega)).trans (rf j)
    have hlt : w.heap.size + 1 + 1 < w2.heap.size := Nat.lt_of_lt_of_le hlt nb.size
    have bel := belowOf bel nb
    clear nb
    go_wp2_with fail
    refine (H3.out _).mono ?_
    rintro e w' ⟨rfl, rfl⟩
    go_wp2_with fail
    refine (H2.out _).mono ?_
    rintro e w3 ⟨rfl, nb⟩
    have a0 := keepc nb a0
    have a1 := keepc nb a1
    have a2 := keepc nb a2
    have a3 := keepc nb a3
    have a4 := keepc nb a4
    have a5 := keepc nb a5
    have a6 := keepc nb a6
    have r0 := keepc nb r0
    have r1 := keepc nb r1
    have r2 := keepc nb r2
    have r3 := keepc nb r3
    have r4 := keepc nb r4
    have r5 := keepc nb r5
    have r6 := keepc nb r6
    have o0 := keepc nb o0
    have o1 := keepc nb o1
    have o2 := keepc nb o2
    have o3 := keepc nb o3
    have o4 := keepc nb o4
    have o5 := keepc nb o5
    have o6 := keepc nb o6
    have rf := fun j => (nb.frozen (p := ⟨w.heap.size + 1, j, none⟩) (show w.heap.size + 1 < _ by omega)).trans (rf j)
    have hlt : w.heap.size + 1 + 1 < w3.heap.size := Nat.lt_of_lt_of_le hlt nb.size
    have bel := belowOf bel nb
    clear nb
    have k1 : w.heap.size ≤ w.heap.size + 1 := Nat.le_succ _
    go_wp2_with fail
    exact bodyPost_ret (v := .tuple #[.agg #[.complex .f32 ax ay, .complex .f32 bx b_y, .complex .f32 cx cy, .float .f32 r, .float .f32 g, .float .f32 b, .float .f32 k], .bool false]) (by simp [results, Try.results30, go_sem, r0, r1, r2, r3, r4, r5, r6]) rfl ⟨rfl, ((((((bel.setCell k1 _).setCell k1 _).setCell k1 _).setCell k1 _).setCell k1 _).setCell k1 _).setCell k1 _⟩
  · simp only [if_true]
    go_enter Try.func30, Try.ntmps30
    go_upto_region 2 with fail
    have rf : ∀ j, (((w.alloc (.cells #[.complex .f32 ax ay, .complex .f32 bx b_y, .complex .f32 cx cy, .float .f32 r, .float .f32 g, .float .f32 b, .float .f32 k] 56)).alloc (.cells #[.complex .f32 0 0, .complex .f32 0 0, .complex .f32 0 0, .float .f32 0, .float .f32 0, .float .f32 0, .float .f32 0] 56)).alloc (.cells #[.complex .f32 ax ay, .complex .f32 bx b_y, .complex .f32 cx cy, .float .f32 r, .float .f32 g, .float .f32 b, .float .f32 k] 56)).frozen? ⟨w.heap.size + 1, j, none⟩ = false := fun j => by go_simp
    have of : ∀ j, (((w.alloc (.cells #[.complex .f32 ax ay, .complex .f32 bx b_y, .complex .f32 cx cy, .float .f32 r, .float .f32 g, .float .f32 b, .float .f32 k] 56)).alloc (.cells #[.complex .f32 0 0, .complex .f32 0 0, .complex .f32 0 0, .float .f32 0, .float .f32 0, .float .f32 0, .float .f32 0] 56)).alloc (.cells #[.complex .f32 ax ay, .complex .f32 bx b_y, .complex .f32 cx cy, .float .f32 r, .float .f32 g, .float .f32 b, .float .f32 k] 56)).frozen? ⟨w.heap.size + 1 + 1, j, none⟩ = false := fun j => by go_simp
    have a0 : (((w.alloc (.cells #[.complex .f32 ax ay, .complex .f32 bx b_y, .complex .f32 cx cy, .float .f32 r, .float .f32 g, .float .f32 b, .float .f32 k] 56)).alloc (.cells #[.complex .f32 0 0, .complex .f32 0 0, .complex .f32 0 0, .float .f32 0, .float .f32 0, .float .f32 0, .float .f32 0] 56)).alloc (.cells #[.complex .f32 ax ay, .complex .f32 bx b_y, .complex .f32 cx cy, .float .f32 r, .float .f32 g, .float .f32 b, .float .f32 k] 56)).cell? ⟨w.heap.size, 0, none⟩ = some (.complex .f32 ax ay) := by go_simp
    have a1 : (((w.alloc (.cells #[.complex .f32 ax ay, .complex .f32 bx b_y, .complex .f32 cx cy, .float .f32 r, .float .f32 g, .float .f32 b, .float .f32 k] 56)).alloc (.cells #[.complex .f32 0 0, .complex .f32 0 0, .complex .f32 0 0, .float .f32 0, .float .f32 0, .float .f32 0, .float .f32 0] 56)).alloc (.cells #[.complex .f32 ax ay, .complex .f32 bx b_y, .complex .f32 cx cy, .float .f32 r, .float .f32 g, .float .f32 b, .float .f32 k] 56)).cell? ⟨w.heap.size, 1, none⟩ = some (.complex .f32 bx b_y) := by go_simp
    have a2 : (((w.alloc (.cells #[.complex .f32 ax ay, .complex .f32 bx b_y, .complex .f32 cx cy, .float .f32 r, .float .f32 g, .float .f32 b, .float .f32 k] 56)).alloc (.cells #[.complex .f32 0 0, .complex .f32 0 0, .complex .f32 0 0, .float .f32 0, .float .f32 0, .float .f32 0, .float .f32 0] 56)).alloc (.cells #[.complex .f32 ax ay, .complex .f32 bx b_y, .complex .f32 cx cy, .float .f32 r, .float .f32 g, .float .f32 b, .float .f32 k] 56)).cell? ⟨w.heap.size, 2, none⟩ = some (.complex .f32 cx cy) := by go_simp
    have a3 : (((w.alloc (.cells #[.complex .f32 ax ay, .complex .f32 bx b_y, .complex .f32 cx cy, .float .f32 r, .float .f32 g, .float .f32 b, .float .f32 k] 56)).alloc (.cells #[.complex .f32 0 0, .complex .f32 0 0, .complex .f32 0 0, .float .f32 0, .float .f32 0, .float .f32 0, .float .f32 0] 56)).alloc (.cells #[.complex .f32 ax ay, .complex .f32 bx b_y, .complex .f32 cx cy, .float .f32 r, .float .f32 g, .float .f32 b, .float .f32 k] 56)).cell? ⟨w.heap.size, 3, none⟩ = some (.float .f32 r) := by go_simp
    have a4 : (((w.alloc (.cells #[.complex .f32 ax ay, .complex .f32 bx b_y, .complex .f32 cx cy, .float .f32 r, .float .f32 g, .float .f32 b, .float .f32 k] 56)).alloc (.cells #[.complex .f32 0 0, .complex .f32 0 0, .complex .f32 0 0, .float .f32 0, .float .f32 0, .float .f32 0, .float .f32 0] 56)).alloc (.cells #[.complex .f32 ax ay, .complex .f32 bx b_y, .complex .f32 cx cy, .float .f32 r, .float .f32 g, .float .f32 b, .float .f32 k] 56)).cell? ⟨w.heap.size, 4, none⟩ = some (.float .f32 g) := by go_simp
    have a5 : (((w.alloc (.cells #[.complex .f32 ax ay, .complex .f32 bx b_y, .complex .f32 cx cy, .float .f32 r, .float .f32 g, .float .f32 b, .float .f32 k] 56)).alloc (.cells #[.complex .f32 0 0, .complex .f32 0 0, .complex .f32 0 0, .float .f32 0, .float .f32 0, .float .f32 0, .float .f32 0] 56)).alloc (.cells #[.complex .f32 ax ay, .complex .f32 bx b_y, .complex .f32 cx cy, .float .f32 r, .float .f32 g, .float .f32 b, .float .f32 k] 56)).cell? ⟨w.heap.size, 5, none⟩ = some (.float .f32 b) := by go_simp
    have a6 : (((w.alloc (.cells #[.complex .f32 ax ay, .complex .f32 bx b_y, .complex .f32 cx cy, .float .f32 r, .float .f32 g, .float .f32 b, .float .f32 k] 56)).alloc (.cells #[.complex .f32 0 0, .complex .f32 0 0, .complex .f32 0 0, .float .f32 0, .float .f32 0, .float .f32 0, .float .f32 0] 56)).alloc (.cells #[.complex .f32 ax ay, .complex .f32 bx b_y, .complex .f32 cx cy, .float .f32 r, .float .f32 g, .float .f32 b, .float .f32 k] 56)).cell? ⟨w.heap.size, 6, none⟩ = some (.float .f32 k) := by go_simp
    have r0 : (((w.alloc (.cells #[.complex .f32 ax ay, .complex .f32 bx b_y, .complex .f32 cx cy, .float .f32 r, .float .f32 g, .float .f32 b, .float .f32 k] 56)).alloc (.cells #[.complex .f32 0 0, .complex .f32 0 0, .complex .f32 0 0, .float .f32 0, .float .f32 0, .float .f32 0, .float .f32 0] 56)).alloc (.cells #[.complex .f32 ax ay, .complex .f32 bx b_y, .complex .f32 cx cy, .float .f32 r, .float .f32 g, .float .f32 b, .float .f32 k] 56)).cell? ⟨w.heap.size + 1, 0, none⟩ = some (.complex .f32 0 0) := by go_simp
    have r1 : (((w.alloc (.cells #[.complex .f32 ax ay, .complex .f32 bx b_y, .complex .f32 cx cy, .float .f32 r, .float .f32 g, .float .f32 b, .float .f32 k] 56)).alloc (.cells #[.complex .f32 0 0, .complex .f32 0 0, .complex .f32 0 0, .float .f32 0, .float .f32 0, .float .f32 0, .float .f32 0] 56)).alloc (.cells #[.complex .f32 ax ay, .complex .f32 bx b_y, .complex .f32 cx cy, .float .f32 r, .float .f32 g, .float .f32 b, .float .f32 k] 56)).cell? ⟨w.heap.size + 1, 1, none⟩ = some (.complex .f32 0 0) := by go_simp
    have r2 : (((w.alloc (.cells #[.complex .f32 ax ay, .complex .f32 bx b_y, .complex .f32 cx cy, .float .f32 r, .float .f32 g, .float .f32 b, .float .f32 k] 56)).alloc (.cells #[.complex .f32 0 0, .complex .f32 0 0, .complex .f32 0 0, .float .f32 0, .float .f32 0, .float .f32 0, .float .f32 0] 56)).alloc (.cells #[.complex .f32 ax ay, .complex .f32 bx b_y, .complex .f32 cx cy, .float .f32 r, .float .f32 g, .float .f32 b, .float .f32 k] 56)).cell? ⟨w.heap.size + 1, 2, none⟩ = some (.complex .f32 0 0) := by go_simp
    have r3 : (((w.alloc (.cells #[.complex .f32 ax ay, .complex .f32 bx b_y, .complex .f32 cx cy, .float .f32 r, .float .f32 g, .float .f32 b, .float .f32 k] 56)).alloc (.cells #[.complex .f32 0 0, .complex .f32 0 0, .complex .f32 0 0, .float .f32 0, .float .f32 0, .float .f32 0, .float .f32 0] 56)).alloc (.cells #[.complex .f32 ax ay, .complex .f32 bx b_y, .complex .f32 cx cy, .float .f32 r, .float .f32 g, .float .f32 b, .float .f32 k] 56)).cell? ⟨w.heap.size + 1, 3, none⟩ = some (.float .f32 0) := by go_simp
    have r4 : (((w.alloc (.cells #[.complex .f32 ax ay, .complex .f32 bx b_y, .complex .f32 cx cy, .float .f32 r, .float .f32 g, .float .f32 b, .float .f32 k] 56)).alloc (.cells #[.complex .f32 0 0, .complex .f32 0 0, .complex .f32 0 0, .float .f32 0, .float .f32 0, .float .f32 0, .float .f32 0] 56)).alloc (.cells #[.complex .f32 ax ay, .complex .f32 bx b_y, .complex .f32 cx cy, .float .f32 r, .float .f32 g, .float .f32 b, .float .f32 k] 56)).cell? ⟨w.heap.size + 1, 4, none⟩ = some (.float .f32 0) := by go_simp
    have r5 : (((w.alloc (.cells #[.complex .f32 ax ay, .complex .f32 bx b_y, .complex .f32 cx cy, .float .f32 r, .float .f32 g, .float .f32 b, .float .f32 k] 56)).alloc (.cells #[.complex .f32 0 0, .complex .f32 0 0, .complex .f32 0 0, .float .f32 0, .float .f32 0, .float .f32 0, .float .f32 0] 56)).alloc (.cells #[.complex .f32 ax ay, .complex .f32 bx b_y, .complex .f32 cx cy, .float .f32 r, .float .f32 g, .float .f32 b, .float .f32 k] 56)).cell? ⟨w.heap.size + 1, 5, none⟩ = some (.float .f32 0) := by go_simp
    have r6 : (((w.alloc (.cells #[.complex .f32 ax ay, .complex .f32 bx b_y, .complex .f32 cx cy, .float .f32 r, .float .f32 g, .float .f32 b, .float .f32 k] 56)).alloc (.cells #[.complex .f32 0 0, .complex .f32 0 0, .complex .f32 0 0, .float .f32 0, .float .f32 0, .float .f32 0, .float .f32 0] 56)).alloc (.cells #[.complex .f32 ax ay, .complex .f32 bx b_y, .complex .f32 cx cy, .float .f32 r, .float .f32 g, .float .f32 b, .float .f32 k] 56)).cell? ⟨w.heap.size + 1, 6, none⟩ = some (.float .f32 0) := by go_simp
    have o0 : (((w.alloc (.cells #[.complex .f32 ax ay, .complex .f32 bx b_y, .complex .f32 cx cy, .float .f32 r, .float .f32 g, .float .f32 b, .float .f32 k] 56)).alloc (.cells #[.complex .f32 0 0, .complex .f32 0 0, .complex .f32 0 0, .float .f32 0, .float .f32 0, .float .f32 0, .float .f32 0] 56)).alloc (.cells #[.complex .f32 ax ay, .complex .f32 bx b_y, .complex .f32 cx cy, .float .f32 r, .float .f32 g, .float .f32 b, .float .f32 k] 56)).cell? ⟨w.heap.size + 1 + 1, 0, none⟩ = some (.complex .f32 ax ay) := by go_simp
    have o1 : (((w.alloc (.cells #[.complex .f32 ax ay, .complex .f32 bx b_y, .complex .f32 cx cy, .float .f32 r, .float .f32 g, .float .f32 b, .float .f32 k] 56)).alloc (.cells #[.complex .f32 0 0, .complex .f32 0 0, .complex .f32 0 0, .float .f32 0, .float .f32 0, .float .f32 0, .float .f32 0] 56)).alloc (.cells #[.complex .f32 ax ay, .complex .f32 bx b_y, .complex .f32 cx cy, .float .f32 r, .float .f32 g, .float .f32 b, .float .f32 k] 56)).cell? ⟨w.heap.size + 1 + 1, 1, none⟩ = some (.complex .f32 bx b_y) := by go_simp
    have o2 : (((w.alloc (.cells #[.complex .f32 ax ay, .complex .f32 bx b_y, .complex .f32 cx cy, .float .f32 r, .float .f32 g, .float .f32 b, .float .f32 k] 56)).alloc (.cells #[.complex .f32 0 0, .complex .f32 0 0, .complex .f32 0 0, .float .f32 0, .float .f32 0, .float .f32 0, .float .f32 0] 56)).alloc (.cells #[.complex .f32 ax ay, .complex .f32 bx b_y, .complex .f32 cx cy, .float .f32 r, .float .f32 g, .float .f32 b, .float .f32 k] 56)).cell? ⟨w.heap.size + 1 + 1, 2, none⟩ = some (.complex .f32 cx cy) := by go_simp
    have o3 : (((w.alloc (.cells #[.complex .f32 ax ay, .complex .f32 bx b_y, .complex .f32 cx cy, .float .f32 r, .float .f32 g, .float .f32 b, .float .f32 k] 56)).alloc (.cells #[.complex .f32 0 0, .complex .f32 0 0, .complex .f32 0 0, .float .f32 0, .float .f32 0, .float .f32 0, .float .f32 0] 56)).alloc (.cells #[.complex .f32 ax ay, .complex .f32 bx b_y, .complex .f32 cx cy, .float .f32 r, .float .f32 g, .float .f32 b, .float .f32 k] 56)).cell? ⟨w.heap.size + 1 + 1, 3, none⟩ = some (.float .f32 r) := by go_simp
    have o4 : (((w.alloc (.cells #[.complex .f32 ax ay, .complex .f32 bx b_y, .complex .f32 cx cy, .float .f32 r, .float .f32 g, .float .f32 b, .float .f32 k] 56)).alloc (.cells #[.complex .f32 0 0, .complex .f32 0 0, .complex .f32 0 0, .float .f32 0, .float .f32 0, .float .f32 0, .float .f32 0] 56)).alloc (.cells #[.complex .f32 ax ay, .complex .f32 bx b_y, .complex .f32 cx cy, .float .f32 r, .float .f32 g, .float .f32 b, .float .f32 k] 56)).cell? ⟨w.heap.size + 1 + 1, 4, none⟩ = some (.float .f32 g) := by go_simp
    have o5 : (((w.alloc (.cells #[.complex .f32 ax ay, .complex .f32 bx b_y, .complex .f32 cx cy, .float .f32 r, .float .f32 g, .float .f32 b, .float .f32 k] 56)).alloc (.cells #[.complex .f32 0 0, .complex .f32 0 0, .complex .f32 0 0, .float .f32 0, .float .f32 0, .float .f32 0, .float .f32 0] 56)).alloc (.cells #[.complex .f32 ax ay, .complex .f32 bx b_y, .complex .f32 cx cy, .float .f32 r, .float .f32 g, .float .f32 b, .float .f32 k] 56)).cell? ⟨w.heap.size + 1 + 1, 5, none⟩ = some (.float .f32 b) := by go_simp
    have o6 : (((w.alloc (.cells #[.complex .f32 ax ay, .complex .f32 bx b_y, .complex .f32 cx cy, .float .f32 r, .float .f32 g, .float .f32 b, .float .f32 k] 56)).alloc (.cells #[.complex .f32 0 0, .complex .f32 0 0, .complex .f32 0 0, .float .f32 0, .float .f32 0, .float .f32 0, .float .f32 0] 56)).alloc (.cells #[.complex .f32 ax ay, .complex .f32 bx b_y, .complex .f32 cx cy, .float .f32 r, .float .f32 g, .float .f32 b, .float .f32 k] 56)).cell? ⟨w.heap.size + 1 + 1, 6, none⟩ = some (.float .f32 k) := by go_simp
    have bel : Below w.heap.size w (((w.alloc (.cells #[.complex .f32 ax ay, .complex .f32 bx b_y, .complex .f32 cx cy, .float .f32 r, .float .f32 g, .float .f32 b, .float .f32 k] 56)).alloc (.cells #[.complex .f32 0 0, .complex .f32 0 0, .complex .f32 0 0, .float .f32 0, .float .f32 0, .float .f32 0, .float .f32 0] 56)).alloc (.cells #[.complex .f32 ax ay, .complex .f32 bx b_y, .complex .f32 cx cy, .float .f32 r, .float .f32 g, .float .f32 b, .float .f32 k] 56)) := (by repeat (first | exact Below.refl _ _ | assumption | refine Below.drew ?_ | refine Below.setCell ?_ (by first | (dsimp only; omega) | (simp; omega) | simp) _ | refine Below.alloc ?_ (by first | omega | (simp; omega) | simp) _))
    generalize ((w.alloc (.cells #[.complex .f32 ax ay, .complex .f32 bx b_y, .complex .f32 cx cy, .float .f32 r, .float .f32 g, .float .f32 b, .float .f32 k] 56)).alloc (.cells #[.complex .f32 0 0, .complex .f32 0 0, .complex .f32 0 0, .float .f32 0, .float .f32 0, .float .f32 0, .float .f32 0] 56)).alloc (.cells #[.complex .f32 ax ay, .complex .f32 bx b_y, .complex .f32 cx cy, .float .f32 r, .float .f32 g, .float .f32 b, .float .f32 k] 56) = wA at rf of a0 a1 a2 a3 a4 a5 a6 r0 r1 r2 r3 r4 r5 r6 o0 o1 o2 o3 o4 o5 o6 bel ⊢
    have hswA := bel.size
    have hlt : w.heap.size + 1 + 1 < wA.heap.size := World.block_lt_of_cell? wA _ o0
    have C1 := regE (w := wA) A1.out
    have C2 := regE (w := wA) A2.out
    have C3 := regE (w := wA) A3.out
    have k_a0 := cell_regrown a0
    have k_a1 := cell_regrown a1
    have k_a2 := cell_regrown a2
    refine wp_region_below_tail 13 (by kernel_rfl) (by kernel_rfl) ?_
    simp only [List.take_succ_cons, List.take_zero, List.drop_succ_cons, List.drop_zero]
    repeat (go_big_quiet_step (first | (with_reducible exact C1 _ _) | (with_reducible exact C2 _ _) | (with_reducible exact C3 _ _)))
    refine wpQuiet_nil ?_
    intro w1 nb
    clear k_a0 k_a1 k_a2
    have a0 := keepc nb a0
    have a1 := keepc nb a1
    have a2 := keepc nb a2
    have a3 := keepc nb a3
    have a4 := keepc nb a4
    have a5 := keepc nb a5
    have a6 := keepc nb a6
    have r0 := keepc nb r0
    have r1 := keepc nb r1
    have r2 := keepc nb r2
    have r3 := keepc nb r3
    have r4 := keepc nb r4
    have r5 := keepc nb r5
    have r6 := keepc nb r6
    have o0 := keepc nb o0
    have o1 := keepc nb o1
    have o2 := keepc nb o2
    have o3 := keepc nb o3
    have o4 := keepc nb o4
    have o5 := keepc nb o5
    have o6 := keepc nb o6
    have rf := fun j => (nb.frozen (p := ⟨w.heap.size + 1, j, none⟩) (show w.heap.size + 1 < _ by omega)).trans (rf j)
    have of := fun j => (nb.frozen (p := ⟨w.heap.size + 1 + 1, j, none⟩) (show w.heap.size + 1 + 1 < _ by omega)).trans (of j)
    have hlt : w.heap.size + 1 + 1 < w1.heap.size := Nat.lt_of_lt_of_le hlt nb.size
    have bel := belowOf bel nb
    clear nb
    go_wp2_with fail
    have hl0 : w.heap.size < w1.heap.size := by omega
    have hl1 : w.heap.size + 1 < w1.heap.size := by omega
    have rf : ∀ j, ((((w1.setCell ⟨w.heap.size + 1 + 1, 0, none⟩ (.complex .f32 ax' ay')).setCell ⟨w.heap.size + 1 + 1, 1, none⟩ (.complex .f32 bx' by')).setCell ⟨w.heap.size + 1 + 1, 2, none⟩ (.complex .f32 cx' cy'))).frozen? ⟨w.heap.size + 1, j, none⟩ = false := fun j => by go_simp
    have a0 : ((((w1.setCell ⟨w.heap.size + 1 + 1, 0, none⟩ (.complex .f32 ax' ay')).setCell ⟨w.heap.size + 1 + 1, 1, none⟩ (.complex .f32 bx' by')).setCell ⟨w.heap.size + 1 + 1, 2, none⟩ (.complex .f32 cx' cy'))).cell? ⟨w.heap.size, 0, none⟩ = some (.complex .f32 ax ay) := by go_simp
    have a1 : ((((w1.setCell ⟨w.heap.size + 1 + 1, 0, none⟩ (.complex .f32 ax' ay')).setCell ⟨w.heap.size + 1 + 1, 1, none⟩ (.complex .f32 bx' by')).setCell ⟨w.heap.size + 1 + 1, 2, none⟩ (.complex .f32 cx' cy'))).cell? ⟨w.heap.size, 1, none⟩ = some (.complex .f32 bx b_y) := by go_simp
    have a2 : ((((w1.setCell ⟨w.heap.size + 1 + 1, 0, none⟩ (.complex .f32 ax' ay')).setCell ⟨w.heap.size + 1 + 1, 1, none⟩ (.complex .f32 bx' by')).setCell ⟨w.heap.size + 1 + 1, 2, none⟩ (.complex .f32 cx' cy'))).cell? ⟨w.heap.size, 2, none⟩ = some (.complex .f32 cx cy) := by go_simp
    have a3 : ((((w1.setCell ⟨w.heap.size + 1 + 1, 0, none⟩ (.complex .f32 ax' ay')).setCell ⟨w.heap.size + 1 + 1, 1, none⟩ (.complex .f32 bx' by')).setCell ⟨w.heap.size + 1 + 1, 2, none⟩ (.complex .f32 cx' cy'))).cell? ⟨w.heap.size, 3, none⟩ = some (.float .f32 r) := by go_simp
    have a4 : ((((w1.setCell ⟨w.heap.size + 1 + 1, 0, none⟩ (.complex .f32 ax' ay')).setCell ⟨w.heap.size + 1 + 1, 1, none⟩ (.complex .f32 bx' by')).setCell ⟨w.heap.size + 1 + 1, 2, none⟩ (.complex .f32 cx' cy'))).cell? ⟨w.heap.size, 4, none⟩ = some (.float .f32 g) := by go_simp
    have a5 : ((((w1.setCell ⟨w.heap.size + 1 + 1, 0, none⟩ (.complex .f32 ax' ay')).setCell ⟨w.heap.size + 1 + 1, 1, none⟩ (.complex .f32 bx' by')).setCell ⟨w.heap.size + 1 + 1, 2, none⟩ (.complex .f32 cx' cy'))).cell? ⟨w.heap.size, 5, none⟩ = some (.float .f32 b) := by go_simp
    have a6 : ((((w1.setCell ⟨w.heap.size + 1 + 1, 0, none⟩ (.complex .f32 ax' ay')).setCell ⟨w.heap.size + 1 + 1, 1, none⟩ (.complex .f32 bx' by')).setCell ⟨w.heap.size + 1 + 1, 2, none⟩ (.complex .f32 cx' cy'))).cell? ⟨w.heap.size, 6, none⟩ = some (.float .f32 k) := by go_simp
    have r0 : ((((w1.setCell ⟨w.heap.size + 1 + 1, 0, none⟩ (.complex .f32 ax' ay')).setCell ⟨w.heap.size + 1 + 1, 1, none⟩ (.complex .f32 bx' by')).setCell ⟨w.heap.size + 1 + 1, 2, none⟩ (.complex .f32 cx' cy'))).cell? ⟨w.heap.size + 1, 0, none⟩ = some (.complex .f32 0 0) := by go_simp
    have r1 : ((((w1.setCell ⟨w.heap.size + 1 + 1, 0, none⟩ (.complex .f32 ax' ay')).setCell ⟨w.heap.size + 1 + 1, 1, none⟩ (.complex .f32 bx' by')).setCell ⟨w.heap.size + 1 + 1, 2, none⟩ (.complex .f32 cx' cy'))).cell? ⟨w.heap.size + 1, 1, none⟩ = some (.complex .f32 0 0) := by go_simp
    have r2 : ((((w1.setCell ⟨w.heap.size + 1 + 1, 0, none⟩ (.complex .f32 ax' ay')).setCell ⟨w.heap.size + 1 + 1, 1, none⟩ (.complex .f32 bx' by')).setCell ⟨w.heap.size + 1 + 1, 2, none⟩ (.complex .f32 cx' cy'))).cell? ⟨w.heap.size + 1, 2, none⟩ = some (.complex .f32 0 0) := by go_simp
    have r3 : ((((w1.setCell ⟨w.heap.size + 1 + 1, 0, none⟩ (.complex .f32 ax' ay')).setCell ⟨w.heap.size + 1 + 1, 1, none⟩ (.complex .f32 bx' by')).setCell ⟨w.heap.size + 1 + 1, 2, none⟩ (.complex .f32 cx' cy'))).cell? ⟨w.heap.size + 1, 3, none⟩ = some (.float .f32 0) := by go_simp
    have r4 : ((((w1.setCell ⟨w.heap.size + 1 + 1, 0, none⟩ (.complex .f32 ax' ay')).setCell ⟨w.heap.size + 1 + 1, 1, none⟩ (.complex .f32 bx' by')).setCell ⟨w.heap.size + 1 + 1, 2, none⟩ (.complex .f32 cx' cy'))).cell? ⟨w.heap.size + 1, 4, none⟩ = some (.float .f32 0) := by go_simp
    have r5 : ((((w1.setCell ⟨w.heap.size + 1 + 1, 0, none⟩ (.complex .f32 ax' ay')).setCell ⟨w.heap.size + 1 + 1, 1, none⟩ (.complex .f32 bx' by')).setCell ⟨w.heap.size + 1 + 1, 2, none⟩ (.complex .f32 cx' cy'))).cell? ⟨w.heap.size + 1, 5, none⟩ = some (.float .f32 0) := by go_simp
    have r6 : ((((w1.setCell ⟨w.heap.size + 1 + 1, 0, none⟩ (.complex .f32 ax' ay')).setCell ⟨w.heap.size + 1 + 1, 1, none⟩ (.complex .f32 bx' by')).setCell ⟨w.heap.size + 1 + 1, 2, none⟩ (.complex .f32 cx' cy'))).cell? ⟨w.heap.size + 1, 6, none⟩ = some (.float .f32 0) := by go_simp
    have o0 : ((((w1.setCell ⟨w.heap.size + 1 + 1, 0, none⟩ (.complex .f32 ax' ay')).setCell ⟨w.heap.size + 1 + 1, 1, none⟩ (.complex .f32 bx' by')).setCell ⟨w.heap.size + 1 + 1, 2, none⟩ (.complex .f32 cx' cy'))).cell? ⟨w.heap.size + 1 + 1, 0, none⟩ = some (.complex .f32 ax' ay') := by go_simp
    have o1 : ((((w1.setCell ⟨w.heap.size + 1 + 1, 0, none⟩ (.complex .f32 ax' ay')).setCell ⟨w.heap.size + 1 + 1, 1, none⟩ (.complex .f32 bx' by')).setCell ⟨w.heap.size + 1 + 1, 2, none⟩ (.complex .f32 cx' cy'))).cell? ⟨w.heap.size + 1 + 1, 1, none⟩ = some (.complex .f32 bx' by') := by go_simp
    have o2 : ((((w1.setCell ⟨w.heap.size + 1 + 1, 0, none⟩ (.complex .f32 ax' ay')).setCell ⟨w.heap.size + 1 + 1, 1, none⟩ (.complex .f32 bx' by')).setCell ⟨w.heap.size + 1 + 1, 2, none⟩ (.complex .f32 cx' cy'))).cell? ⟨w.heap.size + 1 + 1, 2, none⟩ = some (.complex .f32 cx' cy') := by go_simp
    have o3 : ((((w1.setCell ⟨w.heap.size + 1 + 1, 0, none⟩ (.complex .f32 ax' ay')).setCell ⟨w.heap.size + 1 + 1, 1, none⟩ (.complex .f32 bx' by')).setCell ⟨w.heap.size + 1 + 1, 2, none⟩ (.complex .f32 cx' cy'))).cell? ⟨w.heap.size + 1 + 1, 3, none⟩ = some (.float .f32 r) := by go_simp
    have o4 : ((((w1.setCell ⟨w.heap.size + 1 + 1, 0, none⟩ (.complex .f32 ax' ay')).setCell ⟨w.heap.size + 1 + 1, 1, none⟩ (.complex .f32 bx' by')).setCell ⟨w.heap.size + 1 + 1, 2, none⟩ (.complex .f32 cx' cy'))).cell? ⟨w.heap.size + 1 + 1, 4, none⟩ = some (.float .f32 g) := by go_simp
    have o5 : ((((w1.setCell ⟨w.heap.size + 1 + 1, 0, none⟩ (.complex .f32 ax' ay')).setCell ⟨w.heap.size + 1 + 1, 1, none⟩ (.complex .f32 bx' by')).setCell ⟨w.heap.size + 1 + 1, 2, none⟩ (.complex .f32 cx' cy'))).cell? ⟨w.heap.size + 1 + 1, 5, none⟩ = some (.float .f32 b) := by go_simp
    have o6 : ((((w1.setCell ⟨w.heap.size + 1 + 1, 0, none⟩ (.complex .f32 ax' ay')).setCell ⟨w.heap.size + 1 + 1, 1, none⟩ (.complex .f32 bx' by')).setCell ⟨w.heap.size + 1 + 1, 2, none⟩ (.complex .f32 cx' cy'))).cell? ⟨w.heap.size + 1 + 1, 6, none⟩ = some (.float .f32 k) := by go_simp
    have bel : Below w.heap.size w ((((w1.setCell ⟨w.heap.size + 1 + 1, 0, none⟩ (.complex .f32 ax' ay')).setCell ⟨w.heap.size + 1 + 1, 1, none⟩ (.complex .f32 bx' by')).setCell ⟨w.heap.size + 1 + 1, 2, none⟩ (.complex .f32 cx' cy'))) := ((bel.setCell (show w.heap.size ≤ w.heap.size + 1 + 1 by omega) _).setCell (show w.heap.size ≤ w.heap.size + 1 + 1 by omega) _).setCell (show w.heap.size ≤ w.heap.size + 1 + 1 by omega) _
    generalize (((w1.setCell ⟨w.heap.size + 1 + 1, 0, none⟩ (.complex .f32 ax' ay')).setCell ⟨w.heap.size + 1 + 1, 1, none⟩ (.complex .f32 bx' by')).setCell ⟨w.heap.size + 1 + 1, 2, none⟩ (.complex .f32 cx' cy')) = wB at rf a0 a1 a2 a3 a4 a5 a6 r0 r1 r2 r3 r4 r5 r6 o0 o1 o2 o3 o4 o5 o6 bel ⊢
    have hswB := bel.size
    have hlt : w.heap.size + 1 + 1 < wB.heap.size := World.block_lt_of_cell? wB _ o0
    refine (H1.out _).mono ?_
    rintro e w2 ⟨rfl, nb⟩
    have a0 := keepc nb a0
    have a1 := keepc nb a1
    have a2 := keepc nb a2
    have a3 := keepc nb a3
    have a4 := keepc nb a4
    have a5 := keepc nb a5
    have a6 := keepc nb a6
    have r0 := keepc nb r0
    have r1 := keepc nb r1
    have r2 := keepc nb r2
    have r3 := keepc nb r3
    have r4 := keepc nb r4
    have r5 := keepc nb r5
    have r6 := keepc nb r6
    have o0 := keepc nb o0
    have o1 := keepc nb o1
    have o2 := keepc nb o2
    have o3 := keepc nb o3
    have o4 := keepc nb o4
    have o5 := keepc nb o5
    have o6 := keepc nb o6
    have rf := fun j => (nb.frozen (p := ⟨w.heap.size + 1, j, none⟩) (show w.heap.size + 1 < _ by omega)).trans (rf j)
    have hlt : w.heap.size + 1 + 1 < w2.heap.size := Nat.lt_of_lt_of_le hlt nb.size
    have bel := belowOf bel nb
    clear nb
    go_wp2_with fail
    refine (H3.out _).mono ?_
    rintro e w' ⟨rfl, rfl⟩
    go_wp2_with fail
    refine (H2.out _).mono ?_
    rintro e w3 ⟨rfl, nb⟩
    have a0 := keepc nb a0
    have a1 := keepc nb a1
    have a2 := keepc nb a2
    have a3 := keepc nb a3
    have a4 := keepc nb a4
    have a5 := keepc nb a5
    have a6 := keepc nb a6
    have r0 := keepc nb r0
    have r1 := keepc nb r1
    have r2 := keepc nb r2
    have r3 := keepc nb r3
    have r4 := keepc nb r4
    have r5 := keepc nb r5
    have r6 := keepc nb r6
    have o0 := keepc nb o0
    have o1 := keepc nb o1
    have o2 := keepc nb o2
    have o3 := keepc nb o3
    have o4 := keepc nb o4
    have o5 := keepc nb o5
    have o6 := keepc nb o6
    have rf := fun j => (nb.frozen (p := ⟨w.heap.size + 1, j, none⟩) (show w.heap.size + 1 < _ by omega)).trans (rf j)
    have hlt : w.heap.size + 1 + 1 < w3.heap.size := Nat.lt_of_lt_of_le hlt nb.size
    have bel := belowOf bel nb
    clear nb
    have k1 : w.heap.size ≤ w.heap.size + 1 := Nat.le_succ _
    go_wp2_with fail
    exact bodyPost_ret (v := .tuple #[.agg #[.complex .f32 ax' ay', .complex .f32 bx' by', .complex .f32 cx' cy', .float .f32 r, .float .f32 g, .float .f32 b, .float .f32 k], .bool true]) (by simp [results, Try.results30, go_sem, r0, r1, r2, r3, r4, r5, r6]) rfl ⟨rfl, ((((((bel.setCell k1 _).setCell k1 _).setCell k1 _).setCell k1 _).setCell k1 _).setCell k1 _).setCell k1 _⟩

end Go.Proofs.Ytgafdkaiiajieaa
