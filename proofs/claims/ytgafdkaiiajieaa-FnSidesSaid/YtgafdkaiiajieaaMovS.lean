/- What the program's ActShard and MoveShard compute. Condition: a valid shard, a point, a symmetry. -/
import Derived.Test.YtgafdkaiiajieaaGlassF
import Derived.Test.YtgafdkaiiajieaaDrawPt
import Derived.Test.YtgafdkaiiajieaaTail
namespace Go.Proofs.Ytgafdkaiiajieaa
open Go.RowKit Go.Sort
open Fl

/-- A sum of two parts of points. -/
theorem plus_pt {x z : Nat} (hx : rch x = true) (hz : rch z = true) : fin (word (isNeg x && isNeg z) (val x + val z)) ∧ Can (sumF x z) ∧ val (sumF x z) = rnd (val x + val z) := by
  have e1 : (2 : Nat) ^ 161 + 2 ^ 161 ≤ mv (140 * 8388608) := by rw [mv_pow162]; decide
  have h1 := rch_abs hx
  have h2 := rch_abs hz
  have hb : (val x + val z).natAbs ≤ mv (140 * 8388608) := by omega
  obtain ⟨a1, a2, a3, _⟩ := sum_val (a := x) (b := z) (r := 140 * 8388608) (by omega) hb
  exact ⟨a1, a2, a3⟩

theorem plus_none {x : Nat} (hx : rch x = true) : rch (sumF x 0) = true ∧ val (sumF x 0) = val x ∧ FloatKind.f32.format.order (sumF x 0) x = some .eq := by
  obtain ⟨_, h2, h3⟩ := plus_pt hx rch_zero
  have e : val (sumF x 0) = val x := by rw [h3, val_zero, Int.add_zero, rnd_val (rch_fin hx)]
  exact ⟨rch_of h2.fin (by rw [e]; exact rch_abs hx), e, order_self h2.fin (rch_fin hx) e⟩

/-- A shard that is moved. -/
def movS (zx zy : Nat) (s : Shd) : Shd :=
  ⟨sumF s.ax zx, sumF s.ay zy, sumF s.bx zx, sumF s.b_y zy, sumF s.cx zx, sumF s.cy zy, s.r, s.g, s.b, s.k⟩

theorem movS_none {s : Shd} (h : ShOk s) : shOk (movS 0 0 s) = true := by
  show ((rch (sumF s.ax 0) && rch (sumF s.ay 0)) && (rch (sumF s.bx 0) && rch (sumF s.b_y 0)) && (rch (sumF s.cx 0) && rch (sumF s.cy 0)) && isCol s.r s.g s.b && part s.k) = true
  rw [(plus_none h.pa.rx).1, (plus_none h.pa.ry).1, (plus_none h.pb.rx).1, (plus_none h.pb.ry).1, (plus_none h.pc.rx).1, (plus_none h.pc.ry).1, h.col, h.clear]
  rfl

theorem plusC (x y zx zy : Nat) (w : World) (h : Pt x y) (hz : Pt zx zy) :
    Calls Try.prog 65 #[.complex .f32 x y, .complex .f32 zx zy] w fun e w' => e = .returned (.complex .f32 (sumF x zx) (sumF y zy)) ∧ w = w' :=
  plus_fin x y zx zy w (rch_fin h.rx) (rch_fin h.ry) (rch_fin hz.rx) (rch_fin hz.ry) (plus_pt h.rx hz.rx).1 (plus_pt h.ry hz.ry).1

set_option maxRecDepth 100000 in
set_option maxHeartbeats 4000000 in
theorem actShard_any (t : Int) (f : Bool) (s : Shd) (w : World) (ht : win t 0 3 = true) (hs : ShOk s) :
    Calls Try.prog 33 #[.agg #[.int .i64 t, .bool f], .agg #[.complex .f32 s.ax s.ay, .complex .f32 s.bx s.b_y, .complex .f32 s.cx s.cy, .float .f32 s.r, .float .f32 s.g, .float .f32 s.b, .float .f32 s.k]] w fun e w' => e = .returned (.agg #[.complex .f32 (actS t f s).ax (actS t f s).ay, .complex .f32 (actS t f s).bx (actS t f s).b_y, .complex .f32 (actS t f s).cx (actS t f s).cy, .float .f32 s.r, .float .f32 s.g, .float .f32 s.b, .float .f32 s.k]) ∧ Below w.heap.size w w' := by
  have P1 := isShard_any s
  rw [shOk_of hs] at P1
  have H1 := hide P1
  clear P1
  have A1 := hide (fun W => actSym_y t f s.ax s.ay W ht hs.pa)
  have A2 := hide (fun W => actSym_y t f s.bx s.b_y W ht hs.pb)
  have A3 := hide (fun W => actSym_y t f s.cx s.cy W ht hs.pc)
  obtain ⟨ax, ay, bx, b_y, cx, cy, r, g, b, k⟩ := s
  unfold actS
  simp only at H1 A1 A2 A3 ⊢
  obtain ⟨⟨ax', ay'⟩, e1⟩ : ∃ q, actW t f ax ay = q := ⟨_, rfl⟩
  obtain ⟨⟨bx', by'⟩, e2⟩ : ∃ q, actW t f bx b_y = q := ⟨_, rfl⟩
  obtain ⟨⟨cx', cy'⟩, e3⟩ : ∃ q, actW t f cx cy = q := ⟨_, rfl⟩
  rw [e1] at A1 ⊢
  rw [e2] at A2 ⊢
  rw [e3] at A3 ⊢
  simp only at A1 A2 A3 ⊢
  clear e1 e2 e3 hs
  have kr : w.heap.size ≤ w.heap.size + 1 + 1 := by omega
  have ks : w.heap.size ≤ w.heap.size + 1 := by omega
  go_enter Try.func33, Try.ntmps33
  go_wp2_with fail
  have sf : ∀ j, (((w.alloc (.cells #[.int .i64 t, .bool f] 28)).alloc (.cells #[.complex .f32 ax ay, .complex .f32 bx b_y, .complex .f32 cx cy, .float .f32 r, .float .f32 g, .float .f32 b, .float .f32 k] 56)).alloc (.cells #[.complex .f32 0 0, .complex .f32 0 0, .complex .f32 0 0, .float .f32 0, .float .f32 0, .float .f32 0, .float .f32 0] 56)).frozen? ⟨w.heap.size + 1, j, none⟩ = false := fun j => by go_simp
  have rf : ∀ j, (((w.alloc (.cells #[.int .i64 t, .bool f] 28)).alloc (.cells #[.complex .f32 ax ay, .complex .f32 bx b_y, .complex .f32 cx cy, .float .f32 r, .float .f32 g, .float .f32 b, .float .f32 k] 56)).alloc (.cells #[.complex .f32 0 0, .complex .f32 0 0, .complex .f32 0 0, .float .f32 0, .float .f32 0, .float .f32 0, .float .f32 0] 56)).frozen? ⟨w.heap.size + 1 + 1, j, none⟩ = false := fun j => by go_simp
  have g0 : ((((w.alloc (.cells #[.int .i64 t, .bool f] 28)).alloc (.cells #[.complex .f32 ax ay, .complex .f32 bx b_y, .complex .f32 cx cy, .float .f32 r, .float .f32 g, .float .f32 b, .float .f32 k] 56)).alloc (.cells #[.complex .f32 0 0, .complex .f32 0 0, .complex .f32 0 0, .float .f32 0, .float .f32 0, .float .f32 0, .float .f32 0] 56))).cell? ⟨w.heap.size, 0, none⟩ = some (.int .i64 t) := by go_simp
  have g1 : ((((w.alloc (.cells #[.int .i64 t, .bool f] 28)).alloc (.cells #[.complex .f32 ax ay, .complex .f32 bx b_y, .complex .f32 cx cy, .float .f32 r, .float .f32 g, .float .f32 b, .float .f32 k] 56)).alloc (.cells #[.complex .f32 0 0, .complex .f32 0 0, .complex .f32 0 0, .float .f32 0, .float .f32 0, .float .f32 0, .float .f32 0] 56))).cell? ⟨w.heap.size, 1, none⟩ = some (.bool f) := by go_simp
  have a0 : ((((w.alloc (.cells #[.int .i64 t, .bool f] 28)).alloc (.cells #[.complex .f32 ax ay, .complex .f32 bx b_y, .complex .f32 cx cy, .float .f32 r, .float .f32 g, .float .f32 b, .float .f32 k] 56)).alloc (.cells #[.complex .f32 0 0, .complex .f32 0 0, .complex .f32 0 0, .float .f32 0, .float .f32 0, .float .f32 0, .float .f32 0] 56))).cell? ⟨w.heap.size + 1, 0, none⟩ = some (.complex .f32 ax ay) := by go_simp
  have a1 : ((((w.alloc (.cells #[.int .i64 t, .bool f] 28)).alloc (.cells #[.complex .f32 ax ay, .complex .f32 bx b_y, .complex .f32 cx cy, .float .f32 r, .float .f32 g, .float .f32 b, .float .f32 k] 56)).alloc (.cells #[.complex .f32 0 0, .complex .f32 0 0, .complex .f32 0 0, .float .f32 0, .float .f32 0, .float .f32 0, .float .f32 0] 56))).cell? ⟨w.heap.size + 1, 1, none⟩ = some (.complex .f32 bx b_y) := by go_simp
  have a2 : ((((w.alloc (.cells #[.int .i64 t, .bool f] 28)).alloc (.cells #[.complex .f32 ax ay, .complex .f32 bx b_y, .complex .f32 cx cy, .float .f32 r, .float .f32 g, .float .f32 b, .float .f32 k] 56)).alloc (.cells #[.complex .f32 0 0, .complex .f32 0 0, .complex .f32 0 0, .float .f32 0, .float .f32 0, .float .f32 0, .float .f32 0] 56))).cell? ⟨w.heap.size + 1, 2, none⟩ = some (.complex .f32 cx cy) := by go_simp
  have a3 : ((((w.alloc (.cells #[.int .i64 t, .bool f] 28)).alloc (.cells #[.complex .f32 ax ay, .complex .f32 bx b_y, .complex .f32 cx cy, .float .f32 r, .float .f32 g, .float .f32 b, .float .f32 k] 56)).alloc (.cells #[.complex .f32 0 0, .complex .f32 0 0, .complex .f32 0 0, .float .f32 0, .float .f32 0, .float .f32 0, .float .f32 0] 56))).cell? ⟨w.heap.size + 1, 3, none⟩ = some (.float .f32 r) := by go_simp
  have a4 : ((((w.alloc (.cells #[.int .i64 t, .bool f] 28)).alloc (.cells #[.complex .f32 ax ay, .complex .f32 bx b_y, .complex .f32 cx cy, .float .f32 r, .float .f32 g, .float .f32 b, .float .f32 k] 56)).alloc (.cells #[.complex .f32 0 0, .complex .f32 0 0, .complex .f32 0 0, .float .f32 0, .float .f32 0, .float .f32 0, .float .f32 0] 56))).cell? ⟨w.heap.size + 1, 4, none⟩ = some (.float .f32 g) := by go_simp
  have a5 : ((((w.alloc (.cells #[.int .i64 t, .bool f] 28)).alloc (.cells #[.complex .f32 ax ay, .complex .f32 bx b_y, .complex .f32 cx cy, .float .f32 r, .float .f32 g, .float .f32 b, .float .f32 k] 56)).alloc (.cells #[.complex .f32 0 0, .complex .f32 0 0, .complex .f32 0 0, .float .f32 0, .float .f32 0, .float .f32 0, .float .f32 0] 56))).cell? ⟨w.heap.size + 1, 5, none⟩ = some (.float .f32 b) := by go_simp
  have a6 : ((((w.alloc (.cells #[.int .i64 t, .bool f] 28)).alloc (.cells #[.complex .f32 ax ay, .complex .f32 bx b_y, .complex .f32 cx cy, .float .f32 r, .float .f32 g, .float .f32 b, .float .f32 k] 56)).alloc (.cells #[.complex .f32 0 0, .complex .f32 0 0, .complex .f32 0 0, .float .f32 0, .float .f32 0, .float .f32 0, .float .f32 0] 56))).cell? ⟨w.heap.size + 1, 6, none⟩ = some (.float .f32 k) := by go_simp
  have r0 : ((((w.alloc (.cells #[.int .i64 t, .bool f] 28)).alloc (.cells #[.complex .f32 ax ay, .complex .f32 bx b_y, .complex .f32 cx cy, .float .f32 r, .float .f32 g, .float .f32 b, .float .f32 k] 56)).alloc (.cells #[.complex .f32 0 0, .complex .f32 0 0, .complex .f32 0 0, .float .f32 0, .float .f32 0, .float .f32 0, .float .f32 0] 56))).cell? ⟨w.heap.size + 1 + 1, 0, none⟩ = some (.complex .f32 0 0) := by go_simp
  have r1 : ((((w.alloc (.cells #[.int .i64 t, .bool f] 28)).alloc (.cells #[.complex .f32 ax ay, .complex .f32 bx b_y, .complex .f32 cx cy, .float .f32 r, .float .f32 g, .float .f32 b, .float .f32 k] 56)).alloc (.cells #[.complex .f32 0 0, .complex .f32 0 0, .complex .f32 0 0, .float .f32 0, .float .f32 0, .float .f32 0, .float .f32 0] 56))).cell? ⟨w.heap.size + 1 + 1, 1, none⟩ = some (.complex .f32 0 0) := by go_simp
  have r2 : ((((w.alloc (.cells #[.int .i64 t, .bool f] 28)).alloc (.cells #[.complex .f32 ax ay, .complex .f32 bx b_y, .complex .f32 cx cy, .float .f32 r, .float .f32 g, .float .f32 b, .float .f32 k] 56)).alloc (.cells #[.complex .f32 0 0, .complex .f32 0 0, .complex .f32 0 0, .float .f32 0, .float .f32 0, .float .f32 0, .float .f32 0] 56))).cell? ⟨w.heap.size + 1 + 1, 2, none⟩ = some (.complex .f32 0 0) := by go_simp
  have r3 : ((((w.alloc (.cells #[.int .i64 t, .bool f] 28)).alloc (.cells #[.complex .f32 ax ay, .complex .f32 bx b_y, .complex .f32 cx cy, .float .f32 r, .float .f32 g, .float .f32 b, .float .f32 k] 56)).alloc (.cells #[.complex .f32 0 0, .complex .f32 0 0, .complex .f32 0 0, .float .f32 0, .float .f32 0, .float .f32 0, .float .f32 0] 56))).cell? ⟨w.heap.size + 1 + 1, 3, none⟩ = some (.float .f32 0) := by go_simp
  have r4 : ((((w.alloc (.cells #[.int .i64 t, .bool f] 28)).alloc (.cells #[.complex .f32 ax ay, .complex .f32 bx b_y, .complex .f32 cx cy, .float .f32 r, .float .f32 g, .float .f32 b, .float .f32 k] 56)).alloc (.cells #[.complex .f32 0 0, .complex .f32 0 0, .complex .f32 0 0, .float .f32 0, .float .f32 0, .float .f32 0, .float .f32 0] 56))).cell? ⟨w.heap.size + 1 + 1, 4, none⟩ = some (.float .f32 0) := by go_simp
  have r5 : ((((w.alloc (.cells #[.int .i64 t, .bool f] 28)).alloc (.cells #[.complex .f32 ax ay, .complex .f32 bx b_y, .complex .f32 cx cy, .float .f32 r, .float .f32 g, .float .f32 b, .float .f32 k] 56)).alloc (.cells #[.complex .f32 0 0, .complex .f32 0 0, .complex .f32 0 0, .float .f32 0, .float .f32 0, .float .f32 0, .float .f32 0] 56))).cell? ⟨w.heap.size + 1 + 1, 5, none⟩ = some (.float .f32 0) := by go_simp
  have r6 : ((((w.alloc (.cells #[.int .i64 t, .bool f] 28)).alloc (.cells #[.complex .f32 ax ay, .complex .f32 bx b_y, .complex .f32 cx cy, .float .f32 r, .float .f32 g, .float .f32 b, .float .f32 k] 56)).alloc (.cells #[.complex .f32 0 0, .complex .f32 0 0, .complex .f32 0 0, .float .f32 0, .float .f32 0, .float .f32 0, .float .f32 0] 56))).cell? ⟨w.heap.size + 1 + 1, 6, none⟩ = some (.float .f32 0) := by go_simp
  have bel : Below w.heap.size w ((((w.alloc (.cells #[.int .i64 t, .bool f] 28)).alloc (.cells #[.complex .f32 ax ay, .complex .f32 bx b_y, .complex .f32 cx cy, .float .f32 r, .float .f32 g, .float .f32 b, .float .f32 k] 56)).alloc (.cells #[.complex .f32 0 0, .complex .f32 0 0, .complex .f32 0 0, .float .f32 0, .float .f32 0, .float .f32 0, .float .f32 0] 56))) := (by repeat (first | exact Below.refl _ _ | assumption | refine Below.drew ?_ | refine Below.setCell ?_ (by first | (dsimp only; omega) | (simp; omega) | simp) _ | refine Below.alloc ?_ (by first | omega | (simp; omega) | simp) _))
  generalize (((w.alloc (.cells #[.int .i64 t, .bool f] 28)).alloc (.cells #[.complex .f32 ax ay, .complex .f32 bx b_y, .complex .f32 cx cy, .float .f32 r, .float .f32 g, .float .f32 b, .float .f32 k] 56)).alloc (.cells #[.complex .f32 0 0, .complex .f32 0 0, .complex .f32 0 0, .float .f32 0, .float .f32 0, .float .f32 0, .float .f32 0] 56)) = wA at g0 g1 a0 a1 a2 a3 a4 a5 a6 r0 r1 r2 r3 r4 r5 r6 sf rf bel ⊢
  have hswA := bel.size
  have hlt : w.heap.size + 1 + 1 < wA.heap.size := World.block_lt_of_cell? wA _ r0
  refine (isSym_any _ _ _).mono ?_
  rintro e w1 ⟨rfl, hw1⟩
  have nb : Below wA.heap.size wA w1 := by rw [← hw1]; exact (by repeat (first | exact Below.refl _ _ | assumption | refine Below.drew ?_ | refine Below.alloc ?_ (by first | omega | (simp; omega) | simp) _))
  clear hw1
  have g0 := keepc nb g0
  have g1 := keepc nb g1
  have a0 := keepc nb a0
  have a1 := keepc nb a1
  have a2 := keepc nb a2
  have a3 := keepc nb a3
  have a4 := keepc nb a4
  have a5 := keepc nb a5
  have a6 := keepc nb a6
  have r0 := keepc nb r0
  have r1 := keepc nb r1
  have r2 := keepc nb r2
  have r3 := keepc nb r3
  have r4 := keepc nb r4
  have r5 := keepc nb r5
  have r6 := keepc nb r6
  have sf := fun j => (nb.frozen (p := ⟨w.heap.size + 1, j, none⟩) (show w.heap.size + 1 < _ by omega)).trans (sf j)
  have rf := fun j => (nb.frozen (p := ⟨w.heap.size + 1 + 1, j, none⟩) hlt).trans (rf j)
  have bel := belowOf bel nb
  have hlt : w.heap.size + 1 + 1 < w1.heap.size := World.block_lt_of_cell? w1 _ r0
  clear nb
  go_wp2_with fail
  refine (H1.out _).mono ?_
  rintro e w2 ⟨rfl, nb⟩
  have g0 := keepc nb g0
  have g1 := keepc nb g1
  have a0 := keepc nb a0
  have a1 := keepc nb a1
  have a2 := keepc nb a2
  have a3 := keepc nb a3
  have a4 := keepc nb a4
  have a5 := keepc nb a5
  have a6 := keepc nb a6
  have r0 := keepc nb r0
  have r1 := keepc nb r1
  have r2 := keepc nb r2
  have r3 := keepc nb r3
  have r4 := keepc nb r4
  have r5 := keepc nb r5
  have r6 := keepc nb r6
  have sf := fun j => (nb.frozen (p := ⟨w.heap.size + 1, j, none⟩) (show w.heap.size + 1 < _ by omega)).trans (sf j)
  have rf := fun j => (nb.frozen (p := ⟨w.heap.size + 1 + 1, j, none⟩) hlt).trans (rf j)
  have bel := belowOf bel nb
  have hlt : w.heap.size + 1 + 1 < w2.heap.size := World.block_lt_of_cell? w2 _ r0
  clear nb H1
  go_wp2_with fail
  have k0 := cell_regrown g0
  have k1 := cell_regrown g1
  have k2 := cell_regrown a0
  have k3 := cell_regrown a1
  have k4 := cell_regrown a2
  have C1 := regC (w := w2) A1.out
  have C2 := regC (w := w2) A2.out
  have C3 := regC (w := w2) A3.out
  refine wp_region_below_tail 13 (by kernel_rfl) (by kernel_rfl) ?_
  simp only [List.take_succ_cons, List.take_zero, List.drop_succ_cons, List.drop_zero]
  repeat (go_big_quiet_step (first | (with_reducible exact C1 _ _) | (with_reducible exact C2 _ _) | (with_reducible exact C3 _ _)))
  refine wpQuiet_nil ?_
  intro w3 nb
  have a0 := keepc nb a0
  have a1 := keepc nb a1
  have a2 := keepc nb a2
  have a3 := keepc nb a3
  have a4 := keepc nb a4
  have a5 := keepc nb a5
  have a6 := keepc nb a6
  have r0 := keepc nb r0
  have r1 := keepc nb r1
  have r2 := keepc nb r2
  have r3 := keepc nb r3
  have r4 := keepc nb r4
  have r5 := keepc nb r5
  have r6 := keepc nb r6
  have sf := fun j => (nb.frozen (p := ⟨w.heap.size + 1, j, none⟩) (show w.heap.size + 1 < _ by omega)).trans (sf j)
  have rf := fun j => (nb.frozen (p := ⟨w.heap.size + 1 + 1, j, none⟩) hlt).trans (rf j)
  have bel := belowOf bel nb
  have hlt : w.heap.size + 1 + 1 < w3.heap.size := World.block_lt_of_cell? w3 _ r0
  clear nb k0 k1 k2 k3 k4 C1 C2 C3
  go_wp2_with fail
  exact bodyPost_ret (v := .agg #[.complex .f32 ax' ay', .complex .f32 bx' by', .complex .f32 cx' cy', .float .f32 r, .float .f32 g, .float .f32 b, .float .f32 k]) (by simp [results, Try.results33, go_sem, r0, r1, r2, r3, r4, r5, r6]) rfl ⟨rfl, (((((((((bel.setCell ks _).setCell ks _).setCell ks _).setCell kr _).setCell kr _).setCell kr _).setCell kr _).setCell kr _).setCell kr _).setCell kr _⟩

end Go.Proofs.Ytgafdkaiiajieaa
