/- The law FnMovedShard: a shard that is moved keeps its glass, and one that is moved by nothing stays. No condition. -/
import Derived.Test.YtgafdkaiiajieaaMovT
import Derived.Test.YtgafdkaiiajieaaGlassE
import Derived.Test.YtgafdkaiiajieaaEqC
import Derived.Test.YtgafdkaiiajieaaFilt
import Derived.Test.YtgafdkaiiajieaaBig
namespace Go.Proofs.Ytgafdkaiiajieaa
open Go.RowKit Go.Sort
open Fl

set_option maxRecDepth 100000 in
set_option maxHeartbeats 4000000 in
theorem FnMovedShard_walk (a : Option Addr) (len cap : Nat) (z : List Int) (w : World) (hz : IsRow .u8 w a len cap z) :
    Calls Try.prog 7 #[.slice a len cap] w fun e w' => e = .returned (.bool true) ∧ Below w.heap.size w w' := by
  have HC := hide (isCode_of_row hz)
  have hm := (isCode_of_row hz).1
  clear hz
  by_cases hb : 4096 < len
  · go_enter Try.func7, Try.ntmps7
    go_wp2_with fail
    refine (big_any _ _ _ _).mono ?_
    rintro e w' ⟨rfl, rfl⟩
    go_wp2_with fail
    go_ret
    exact ⟨rfl, Below.refl _ _⟩
  · go_enter Try.func7, Try.ntmps7
    go_wp2_with fail
    refine (big_any _ _ _ _).mono ?_
    rintro e w' ⟨rfl, rfl⟩
    go_wp2_with fail
    refine (drawGlass_any _ _ _ _ HC.out).mono ?_
    rintro e w1 ⟨v, l, x, y, r, g, b, rfl, hl6, hok, hpt, hcol, own, bel⟩
    obtain ⟨av, cv, rfl, hr, hav⟩ := readsSh_of_own own
    have HOK := hide hok
    have HPT := hide hpt
    have HR := hide hr
    generalize hn : l.length = n at HR hl6 ⊢
    clear hok hpt hr own hav hn hcol
    go_wp2_with fail
    have nb0 : Below w1.heap.size w1 (w1.alloc (.cells #[.float .f32 r, .float .f32 g, .float .f32 b] 41)) := (Below.refl _ _).alloc (Nat.le_refl _) _
    go_loopw [6] (fun i wr => ∃ k : Nat, k ≤ n ∧ i = .int .i64 k ∧ Below w1.heap.size w1 wr) (fun i _ => n - (intOf i).toNat)
    case atStart => exact ⟨0, Nat.zero_le _, rfl, nb0⟩
    case round =>
      clear nb0
      obtain ⟨k, hk, rfl, hb1⟩ := hrel
      have belw := bel
      have bel := hb1
      by_cases hlt : k < n
      · obtain ⟨gm, s, rfl, hs, hat, _⟩ := (HR.out.below hb1).at hlt
        have hsok := HOK.out s hs
        have M1 := hide (fun W => moveShard_any x y s W HPT.out hsok)
        have M2 := hide (fun W => moveShard_any 0 0 s W pt_zero hsok)
        rw [movS_none hsok] at M2
        have E1 := (plus_none hsok.pa.rx).2.2
        have E2 := (plus_none hsok.pa.ry).2.2
        have E3 := (plus_none hsok.pb.rx).2.2
        have E4 := (plus_none hsok.pb.ry).2.2
        have E5 := (plus_none hsok.pc.rx).2.2
        have E6 := (plus_none hsok.pc.ry).2.2
        obtain ⟨fr, fg, fb⟩ := isCol_parts hsok.col
        have E7 := eqC_of (part_fin fr) (part_fin fg) (part_fin fb) (part_fin fr) (part_fin fg) (part_fin fb) rfl rfl rfl
        have E8 := order_self (part_fin hsok.clear) (part_fin hsok.clear) rfl
        have I1 := isShard_any (movS x y s)
        obtain ⟨ax, ay, bx, b_y, cx, cy, r, g, b, ck⟩ := s
        obtain ⟨c0, c1, c2, c3, c4, c5, c6⟩ := hat
        simp only [if_true] at c0 c1 c2 c3 c4 c5 c6 M1 M2 E1 E2 E3 E4 E5 E6 E7 E8
        unfold movS at M2
        simp only at M2
        generalize sumF ax 0 = ax0 at M2 E1
        generalize sumF ay 0 = ay0 at M2 E2
        generalize sumF bx 0 = bx0 at M2 E3
        generalize sumF b_y 0 = by0 at M2 E4
        generalize sumF cx 0 = cx0 at M2 E5
        generalize sumF cy 0 = cy0 at M2 E6
        clear hs hsok fr fg fb HR HOK HPT HC
        generalize shOk (movS x y ⟨ax, ay, bx, b_y, cx, cy, r, g, b, ck⟩) = ok at M1 I1
        unfold movS at M1 I1
        cases ok
        · simp only [if_false, Bool.false_eq_true] at M1
          clear I1
          go_wp2_with fail
          refine (M1.out _).mono ?_
          rintro e w2 ⟨rfl, nb⟩
          have c0 := keepc nb c0
          have c1 := keepc nb c1
          have c2 := keepc nb c2
          have c3 := keepc nb c3
          have c4 := keepc nb c4
          have c5 := keepc nb c5
          have c6 := keepc nb c6
          have bel := belowOf bel nb
          clear nb
          have hgm : gm < w2.heap.size := World.block_lt_of_cell? w2 _ c0
          go_wp2_with fail
          have c0 : ((w2.alloc (.cells #[.complex .f32 ax ay, .complex .f32 bx b_y, .complex .f32 cx cy, .float .f32 r, .float .f32 g, .float .f32 b, .float .f32 ck] 56))).cell? ⟨gm, k * 7, none⟩ = some (.complex .f32 ax ay) := by go_simp
          have c1 : ((w2.alloc (.cells #[.complex .f32 ax ay, .complex .f32 bx b_y, .complex .f32 cx cy, .float .f32 r, .float .f32 g, .float .f32 b, .float .f32 ck] 56))).cell? ⟨gm, k * 7 + 1, none⟩ = some (.complex .f32 bx b_y) := by go_simp
          have c2 : ((w2.alloc (.cells #[.complex .f32 ax ay, .complex .f32 bx b_y, .complex .f32 cx cy, .float .f32 r, .float .f32 g, .float .f32 b, .float .f32 ck] 56))).cell? ⟨gm, k * 7 + 2, none⟩ = some (.complex .f32 cx cy) := by go_simp
          have c3 : ((w2.alloc (.cells #[.complex .f32 ax ay, .complex .f32 bx b_y, .complex .f32 cx cy, .float .f32 r, .float .f32 g, .float .f32 b, .float .f32 ck] 56))).cell? ⟨gm, k * 7 + 3, none⟩ = some (.float .f32 r) := by go_simp
          have c4 : ((w2.alloc (.cells #[.complex .f32 ax ay, .complex .f32 bx b_y, .complex .f32 cx cy, .float .f32 r, .float .f32 g, .float .f32 b, .float .f32 ck] 56))).cell? ⟨gm, k * 7 + 4, none⟩ = some (.float .f32 g) := by go_simp
          have c5 : ((w2.alloc (.cells #[.complex .f32 ax ay, .complex .f32 bx b_y, .complex .f32 cx cy, .float .f32 r, .float .f32 g, .float .f32 b, .float .f32 ck] 56))).cell? ⟨gm, k * 7 + 5, none⟩ = some (.float .f32 b) := by go_simp
          have c6 : ((w2.alloc (.cells #[.complex .f32 ax ay, .complex .f32 bx b_y, .complex .f32 cx cy, .float .f32 r, .float .f32 g, .float .f32 b, .float .f32 ck] 56))).cell? ⟨gm, k * 7 + 6, none⟩ = some (.float .f32 ck) := by go_simp
          have s0 : ((w2.alloc (.cells #[.complex .f32 ax ay, .complex .f32 bx b_y, .complex .f32 cx cy, .float .f32 r, .float .f32 g, .float .f32 b, .float .f32 ck] 56))).cell? ⟨w2.heap.size, 0, none⟩ = some (.complex .f32 ax ay) := by go_simp
          have s1 : ((w2.alloc (.cells #[.complex .f32 ax ay, .complex .f32 bx b_y, .complex .f32 cx cy, .float .f32 r, .float .f32 g, .float .f32 b, .float .f32 ck] 56))).cell? ⟨w2.heap.size, 1, none⟩ = some (.complex .f32 bx b_y) := by go_simp
          have s2 : ((w2.alloc (.cells #[.complex .f32 ax ay, .complex .f32 bx b_y, .complex .f32 cx cy, .float .f32 r, .float .f32 g, .float .f32 b, .float .f32 ck] 56))).cell? ⟨w2.heap.size, 2, none⟩ = some (.complex .f32 cx cy) := by go_simp
          have s3 : ((w2.alloc (.cells #[.complex .f32 ax ay, .complex .f32 bx b_y, .complex .f32 cx cy, .float .f32 r, .float .f32 g, .float .f32 b, .float .f32 ck] 56))).cell? ⟨w2.heap.size, 3, none⟩ = some (.float .f32 r) := by go_simp
          have s4 : ((w2.alloc (.cells #[.complex .f32 ax ay, .complex .f32 bx b_y, .complex .f32 cx cy, .float .f32 r, .float .f32 g, .float .f32 b, .float .f32 ck] 56))).cell? ⟨w2.heap.size, 4, none⟩ = some (.float .f32 g) := by go_simp
          have s5 : ((w2.alloc (.cells #[.complex .f32 ax ay, .complex .f32 bx b_y, .complex .f32 cx cy, .float .f32 r, .float .f32 g, .float .f32 b, .float .f32 ck] 56))).cell? ⟨w2.heap.size, 5, none⟩ = some (.float .f32 b) := by go_simp
          have s6 : ((w2.alloc (.cells #[.complex .f32 ax ay, .complex .f32 bx b_y, .complex .f32 cx cy, .float .f32 r, .float .f32 g, .float .f32 b, .float .f32 ck] 56))).cell? ⟨w2.heap.size, 6, none⟩ = some (.float .f32 ck) := by go_simp
          have bel : Below w1.heap.size w1 ((w2.alloc (.cells #[.complex .f32 ax ay, .complex .f32 bx b_y, .complex .f32 cx cy, .float .f32 r, .float .f32 g, .float .f32 b, .float .f32 ck] 56))) := bel.alloc bel.size _
          generalize (w2.alloc (.cells #[.complex .f32 ax ay, .complex .f32 bx b_y, .complex .f32 cx cy, .float .f32 r, .float .f32 g, .float .f32 b, .float .f32 ck] 56)) = w3 at c0 c1 c2 c3 c4 c5 c6 s0 s1 s2 s3 s4 s5 s6 bel ⊢
          have hsw3 := bel.size
          refine (M2.out _).mono ?_
          rintro e w4 ⟨rfl, nb⟩
          have c0 := keepc nb c0
          have c1 := keepc nb c1
          have c2 := keepc nb c2
          have c3 := keepc nb c3
          have c4 := keepc nb c4
          have c5 := keepc nb c5
          have c6 := keepc nb c6
          have s0 := keepc nb s0
          have s1 := keepc nb s1
          have s2 := keepc nb s2
          have s3 := keepc nb s3
          have s4 := keepc nb s4
          have s5 := keepc nb s5
          have s6 := keepc nb s6
          have bel := belowOf bel nb
          have hgm : gm < w4.heap.size := World.block_lt_of_cell? w4 _ c0
          have hq2 : w2.heap.size < w4.heap.size := World.block_lt_of_cell? w4 _ s0
          clear nb
          go_wp2_with fail
          have c0 : ((w4.alloc (.cells #[.complex .f32 ax0 ay0, .complex .f32 bx0 by0, .complex .f32 cx0 cy0, .float .f32 r, .float .f32 g, .float .f32 b, .float .f32 ck] 56))).cell? ⟨gm, k * 7, none⟩ = some (.complex .f32 ax ay) := by go_simp
          have c1 : ((w4.alloc (.cells #[.complex .f32 ax0 ay0, .complex .f32 bx0 by0, .complex .f32 cx0 cy0, .float .f32 r, .float .f32 g, .float .f32 b, .float .f32 ck] 56))).cell? ⟨gm, k * 7 + 1, none⟩ = some (.complex .f32 bx b_y) := by go_simp
          have c2 : ((w4.alloc (.cells #[.complex .f32 ax0 ay0, .complex .f32 bx0 by0, .complex .f32 cx0 cy0, .float .f32 r, .float .f32 g, .float .f32 b, .float .f32 ck] 56))).cell? ⟨gm, k * 7 + 2, none⟩ = some (.complex .f32 cx cy) := by go_simp
          have c3 : ((w4.alloc (.cells #[.complex .f32 ax0 ay0, .complex .f32 bx0 by0, .complex .f32 cx0 cy0, .float .f32 r, .float .f32 g, .float .f32 b, .float .f32 ck] 56))).cell? ⟨gm, k * 7 + 3, none⟩ = some (.float .f32 r) := by go_simp
          have c4 : ((w4.alloc (.cells #[.complex .f32 ax0 ay0, .complex .f32 bx0 by0, .complex .f32 cx0 cy0, .float .f32 r, .float .f32 g, .float .f32 b, .float .f32 ck] 56))).cell? ⟨gm, k * 7 + 4, none⟩ = some (.float .f32 g) := by go_simp
          have c5 : ((w4.alloc (.cells #[.complex .f32 ax0 ay0, .complex .f32 bx0 by0, .complex .f32 cx0 cy0, .float .f32 r, .float .f32 g, .float .f32 b, .float .f32 ck] 56))).cell? ⟨gm, k * 7 + 5, none⟩ = some (.float .f32 b) := by go_simp
          have c6 : ((w4.alloc (.cells #[.complex .f32 ax0 ay0, .complex .f32 bx0 by0, .complex .f32 cx0 cy0, .float .f32 r, .float .f32 g, .float .f32 b, .float .f32 ck] 56))).cell? ⟨gm, k * 7 + 6, none⟩ = some (.float .f32 ck) := by go_simp
          have s0 : ((w4.alloc (.cells #[.complex .f32 ax0 ay0, .complex .f32 bx0 by0, .complex .f32 cx0 cy0, .float .f32 r, .float .f32 g, .float .f32 b, .float .f32 ck] 56))).cell? ⟨w2.heap.size, 0, none⟩ = some (.complex .f32 ax ay) := by go_simp
          have s1 : ((w4.alloc (.cells #[.complex .f32 ax0 ay0, .complex .f32 bx0 by0, .complex .f32 cx0 cy0, .float .f32 r, .float .f32 g, .float .f32 b, .float .f32 ck] 56))).cell? ⟨w2.heap.size, 1, none⟩ = some (.complex .f32 bx b_y) := by go_simp
          have s2 : ((w4.alloc (.cells #[.complex .f32 ax0 ay0, .complex .f32 bx0 by0, .complex .f32 cx0 cy0, .float .f32 r, .float .f32 g, .float .f32 b, .float .f32 ck] 56))).cell? ⟨w2.heap.size, 2, none⟩ = some (.complex .f32 cx cy) := by go_simp
          have s3 : ((w4.alloc (.cells #[.complex .f32 ax0 ay0, .complex .f32 bx0 by0, .complex .f32 cx0 cy0, .float .f32 r, .float .f32 g, .float .f32 b, .float .f32 ck] 56))).cell? ⟨w2.heap.size, 3, none⟩ = some (.float .f32 r) := by go_simp
          have s4 : ((w4.alloc (.cells #[.complex .f32 ax0 ay0, .complex .f32 bx0 by0, .complex .f32 cx0 cy0, .float .f32 r, .float .f32 g, .float .f32 b, .float .f32 ck] 56))).cell? ⟨w2.heap.size, 4, none⟩ = some (.float .f32 g) := by go_simp
          have s5 : ((w4.alloc (.cells #[.complex .f32 ax0 ay0, .complex .f32 bx0 by0, .complex .f32 cx0 cy0, .float .f32 r, .float .f32 g, .float .f32 b, .float .f32 ck] 56))).cell? ⟨w2.heap.size, 5, none⟩ = some (.float .f32 b) := by go_simp
          have s6 : ((w4.alloc (.cells #[.complex .f32 ax0 ay0, .complex .f32 bx0 by0, .complex .f32 cx0 cy0, .float .f32 r, .float .f32 g, .float .f32 b, .float .f32 ck] 56))).cell? ⟨w2.heap.size, 6, none⟩ = some (.float .f32 ck) := by go_simp
          have t0 : ((w4.alloc (.cells #[.complex .f32 ax0 ay0, .complex .f32 bx0 by0, .complex .f32 cx0 cy0, .float .f32 r, .float .f32 g, .float .f32 b, .float .f32 ck] 56))).cell? ⟨w4.heap.size, 0, none⟩ = some (.complex .f32 ax0 ay0) := by go_simp
          have t1 : ((w4.alloc (.cells #[.complex .f32 ax0 ay0, .complex .f32 bx0 by0, .complex .f32 cx0 cy0, .float .f32 r, .float .f32 g, .float .f32 b, .float .f32 ck] 56))).cell? ⟨w4.heap.size, 1, none⟩ = some (.complex .f32 bx0 by0) := by go_simp
          have t2 : ((w4.alloc (.cells #[.complex .f32 ax0 ay0, .complex .f32 bx0 by0, .complex .f32 cx0 cy0, .float .f32 r, .float .f32 g, .float .f32 b, .float .f32 ck] 56))).cell? ⟨w4.heap.size, 2, none⟩ = some (.complex .f32 cx0 cy0) := by go_simp
          have t3 : ((w4.alloc (.cells #[.complex .f32 ax0 ay0, .complex .f32 bx0 by0, .complex .f32 cx0 cy0, .float .f32 r, .float .f32 g, .float .f32 b, .float .f32 ck] 56))).cell? ⟨w4.heap.size, 3, none⟩ = some (.float .f32 r) := by go_simp
          have t4 : ((w4.alloc (.cells #[.complex .f32 ax0 ay0, .complex .f32 bx0 by0, .complex .f32 cx0 cy0, .float .f32 r, .float .f32 g, .float .f32 b, .float .f32 ck] 56))).cell? ⟨w4.heap.size, 4, none⟩ = some (.float .f32 g) := by go_simp
          have t5 : ((w4.alloc (.cells #[.complex .f32 ax0 ay0, .complex .f32 bx0 by0, .complex .f32 cx0 cy0, .float .f32 r, .float .f32 g, .float .f32 b, .float .f32 ck] 56))).cell? ⟨w4.heap.size, 5, none⟩ = some (.float .f32 b) := by go_simp
          have t6 : ((w4.alloc (.cells #[.complex .f32 ax0 ay0, .complex .f32 bx0 by0, .complex .f32 cx0 cy0, .float .f32 r, .float .f32 g, .float .f32 b, .float .f32 ck] 56))).cell? ⟨w4.heap.size, 6, none⟩ = some (.float .f32 ck) := by go_simp
          have bel : Below w1.heap.size w1 ((w4.alloc (.cells #[.complex .f32 ax0 ay0, .complex .f32 bx0 by0, .complex .f32 cx0 cy0, .float .f32 r, .float .f32 g, .float .f32 b, .float .f32 ck] 56))) := bel.alloc bel.size _
          generalize (w4.alloc (.cells #[.complex .f32 ax0 ay0, .complex .f32 bx0 by0, .complex .f32 cx0 cy0, .float .f32 r, .float .f32 g, .float .f32 b, .float .f32 ck] 56)) = w5 at c0 c1 c2 c3 c4 c5 c6 s0 s1 s2 s3 s4 s5 s6 t0 t1 t2 t3 t4 t5 t6 bel ⊢
          have hsw5 := bel.size
          have k_c0 := cell_regrown c0
          have k_c1 := cell_regrown c1
          have k_c2 := cell_regrown c2
          have k_c3 := cell_regrown c3
          have k_c4 := cell_regrown c4
          have k_c5 := cell_regrown c5
          have k_c6 := cell_regrown c6
          have k_s0 := cell_regrown s0
          have k_s1 := cell_regrown s1
          have k_s2 := cell_regrown s2
          have k_s3 := cell_regrown s3
          have k_s4 := cell_regrown s4
          have k_s5 := cell_regrown s5
          have k_s6 := cell_regrown s6
          have k_t0 := cell_regrown t0
          have k_t1 := cell_regrown t1
          have k_t2 := cell_regrown t2
          have k_t3 := cell_regrown t3
          have k_t4 := cell_regrown t4
          have k_t5 := cell_regrown t5
          have k_t6 := cell_regrown t6
          refine wp_region_below (by kernel_rfl) (by kernel_rfl) ?_
          repeat (go_big_quiet_step (fail))
          refine wpQuiet_nil ?_
          intro w6 nb
          clear k_c0 k_c1 k_c2 k_c3 k_c4 k_c5 k_c6 k_s0 k_s1 k_s2 k_s3 k_s4 k_s5 k_s6 k_t0 k_t1 k_t2 k_t3 k_t4 k_t5 k_t6
          have c0 := keepc nb c0
          have bel := belowOf bel nb
          clear nb
          clear c1 c2 c3 c4 c5 c6 s0 s1 s2 s3 s4 s5 s6 t0 t1 t2 t3 t4 t5 t6
          go_wp2_with fail
          go_roundw
          case rel => exact ⟨k + 1, by omega, by go_num, bel⟩
          case measure => simp [intOf]; omega
        · simp only [if_true] at M1 I1
          generalize sumF ax x = ax' at M1 I1
          generalize sumF ay y = ay' at M1 I1
          generalize sumF bx x = bx' at M1 I1
          generalize sumF b_y y = by' at M1 I1
          generalize sumF cx x = cx' at M1 I1
          generalize sumF cy y = cy' at M1 I1
          have I1 := hide I1
          go_wp2_with fail
          refine (M1.out _).mono ?_
          rintro e w2 ⟨rfl, nb⟩
          have c0 := keepc nb c0
          have c1 := keepc nb c1
          have c2 := keepc nb c2
          have c3 := keepc nb c3
          have c4 := keepc nb c4
          have c5 := keepc nb c5
          have c6 := keepc nb c6
          have bel := belowOf bel nb
          clear nb
          have hgm : gm < w2.heap.size := World.block_lt_of_cell? w2 _ c0
          go_wp2_with fail
          have c0 : ((w2.alloc (.cells #[.complex .f32 ax' ay', .complex .f32 bx' by', .complex .f32 cx' cy', .float .f32 r, .float .f32 g, .float .f32 b, .float .f32 ck] 56))).cell? ⟨gm, k * 7, none⟩ = some (.complex .f32 ax ay) := by go_simp
          have c1 : ((w2.alloc (.cells #[.complex .f32 ax' ay', .complex .f32 bx' by', .complex .f32 cx' cy', .float .f32 r, .float .f32 g, .float .f32 b, .float .f32 ck] 56))).cell? ⟨gm, k * 7 + 1, none⟩ = some (.complex .f32 bx b_y) := by go_simp
          have c2 : ((w2.alloc (.cells #[.complex .f32 ax' ay', .complex .f32 bx' by', .complex .f32 cx' cy', .float .f32 r, .float .f32 g, .float .f32 b, .float .f32 ck] 56))).cell? ⟨gm, k * 7 + 2, none⟩ = some (.complex .f32 cx cy) := by go_simp
          have c3 : ((w2.alloc (.cells #[.complex .f32 ax' ay', .complex .f32 bx' by', .complex .f32 cx' cy', .float .f32 r, .float .f32 g, .float .f32 b, .float .f32 ck] 56))).cell? ⟨gm, k * 7 + 3, none⟩ = some (.float .f32 r) := by go_simp
          have c4 : ((w2.alloc (.cells #[.complex .f32 ax' ay', .complex .f32 bx' by', .complex .f32 cx' cy', .float .f32 r, .float .f32 g, .float .f32 b, .float .f32 ck] 56))).cell? ⟨gm, k * 7 + 4, none⟩ = some (.float .f32 g) := by go_simp
          have c5 : ((w2.alloc (.cells #[.complex .f32 ax' ay', .complex .f32 bx' by', .complex .f32 cx' cy', .float .f32 r, .float .f32 g, .float .f32 b, .float .f32 ck] 56))).cell? ⟨gm, k * 7 + 5, none⟩ = some (.float .f32 b) := by go_simp
          have c6 : ((w2.alloc (.cells #[.complex .f32 ax' ay', .complex .f32 bx' by', .complex .f32 cx' cy', .float .f32 r, .float .f32 g, .float .f32 b, .float .f32 ck] 56))).cell? ⟨gm, k * 7 + 6, none⟩ = some (.float .f32 ck) := by go_simp
          have s0 : ((w2.alloc (.cells #[.complex .f32 ax' ay', .complex .f32 bx' by', .complex .f32 cx' cy', .float .f32 r, .float .f32 g, .float .f32 b, .float .f32 ck] 56))).cell? ⟨w2.heap.size, 0, none⟩ = some (.complex .f32 ax' ay') := by go_simp
          have s1 : ((w2.alloc (.cells #[.complex .f32 ax' ay', .complex .f32 bx' by', .complex .f32 cx' cy', .float .f32 r, .float .f32 g, .float .f32 b, .float .f32 ck] 56))).cell? ⟨w2.heap.size, 1, none⟩ = some (.complex .f32 bx' by') := by go_simp
          have s2 : ((w2.alloc (.cells #[.complex .f32 ax' ay', .complex .f32 bx' by', .complex .f32 cx' cy', .float .f32 r, .float .f32 g, .float .f32 b, .float .f32 ck] 56))).cell? ⟨w2.heap.size, 2, none⟩ = some (.complex .f32 cx' cy') := by go_simp
          have s3 : ((w2.alloc (.cells #[.complex .f32 ax' ay', .complex .f32 bx' by', .complex .f32 cx' cy', .float .f32 r, .float .f32 g, .float .f32 b, .float .f32 ck] 56))).cell? ⟨w2.heap.size, 3, none⟩ = some (.float .f32 r) := by go_simp
          have s4 : ((w2.alloc (.cells #[.complex .f32 ax' ay', .complex .f32 bx' by', .complex .f32 cx' cy', .float .f32 r, .float .f32 g, .float .f32 b, .float .f32 ck] 56))).cell? ⟨w2.heap.size, 4, none⟩ = some (.float .f32 g) := by go_simp
          have s5 : ((w2.alloc (.cells #[.complex .f32 ax' ay', .complex .f32 bx' by', .complex .f32 cx' cy', .float .f32 r, .float .f32 g, .float .f32 b, .float .f32 ck] 56))).cell? ⟨w2.heap.size, 5, none⟩ = some (.float .f32 b) := by go_simp
          have s6 : ((w2.alloc (.cells #[.complex .f32 ax' ay', .complex .f32 bx' by', .complex .f32 cx' cy', .float .f32 r, .float .f32 g, .float .f32 b, .float .f32 ck] 56))).cell? ⟨w2.heap.size, 6, none⟩ = some (.float .f32 ck) := by go_simp
          have bel : Below w1.heap.size w1 ((w2.alloc (.cells #[.complex .f32 ax' ay', .complex .f32 bx' by', .complex .f32 cx' cy', .float .f32 r, .float .f32 g, .float .f32 b, .float .f32 ck] 56))) := bel.alloc bel.size _
          generalize (w2.alloc (.cells #[.complex .f32 ax' ay', .complex .f32 bx' by', .complex .f32 cx' cy', .float .f32 r, .float .f32 g, .float .f32 b, .float .f32 ck] 56)) = w3 at c0 c1 c2 c3 c4 c5 c6 s0 s1 s2 s3 s4 s5 s6 bel ⊢
          have hsw3 := bel.size
          refine (M2.out _).mono ?_
          rintro e w4 ⟨rfl, nb⟩
          have c0 := keepc nb c0
          have c1 := keepc nb c1
          have c2 := keepc nb c2
          have c3 := keepc nb c3
          have c4 := keepc nb c4
          have c5 := keepc nb c5
          have c6 := keepc nb c6
          have s0 := keepc nb s0
          have s1 := keepc nb s1
          have s2 := keepc nb s2
          have s3 := keepc nb s3
          have s4 := keepc nb s4
          have s5 := keepc nb s5
          have s6 := keepc nb s6
          have bel := belowOf bel nb
          have hgm : gm < w4.heap.size := World.block_lt_of_cell? w4 _ c0
          have hq2 : w2.heap.size < w4.heap.size := World.block_lt_of_cell? w4 _ s0
          clear nb
          go_wp2_with fail
          have c0 : ((w4.alloc (.cells #[.complex .f32 ax0 ay0, .complex .f32 bx0 by0, .complex .f32 cx0 cy0, .float .f32 r, .float .f32 g, .float .f32 b, .float .f32 ck] 56))).cell? ⟨gm, k * 7, none⟩ = some (.complex .f32 ax ay) := by go_simp
          have c1 : ((w4.alloc (.cells #[.complex .f32 ax0 ay0, .complex .f32 bx0 by0, .complex .f32 cx0 cy0, .float .f32 r, .float .f32 g, .float .f32 b, .float .f32 ck] 56))).cell? ⟨gm, k * 7 + 1, none⟩ = some (.complex .f32 bx b_y) := by go_simp
          have c2 : ((w4.alloc (.cells #[.complex .f32 ax0 ay0, .complex .f32 bx0 by0, .complex .f32 cx0 cy0, .float .f32 r, .float .f32 g, .float .f32 b, .float .f32 ck] 56))).cell? ⟨gm, k * 7 + 2, none⟩ = some (.complex .f32 cx cy) := by go_simp
          have c3 : ((w4.alloc (.cells #[.complex .f32 ax0 ay0, .complex .f32 bx0 by0, .complex .f32 cx0 cy0, .float .f32 r, .float .f32 g, .float .f32 b, .float .f32 ck] 56))).cell? ⟨gm, k * 7 + 3, none⟩ = some (.float .f32 r) := by go_simp
          have c4 : ((w4.alloc (.cells #[.complex .f32 ax0 ay0, .complex .f32 bx0 by0, .complex .f32 cx0 cy0, .float .f32 r, .float .f32 g, .float .f32 b, .float .f32 ck] 56))).cell? ⟨gm, k * 7 + 4, none⟩ = some (.float .f32 g) := by go_simp
          have c5 : ((w4.alloc (.cells #[.complex .f32 ax0 ay0, .complex .f32 bx0 by0, .complex .f32 cx0 cy0, .float .f32 r, .float .f32 g, .float .f32 b, .float .f32 ck] 56))).cell? ⟨gm, k * 7 + 5, none⟩ = some (.float .f32 b) := by go_simp
          have c6 : ((w4.alloc (.cells #[.complex .f32 ax0 ay0, .complex .f32 bx0 by0, .complex .f32 cx0 cy0, .float .f32 r, .float .f32 g, .float .f32 b, .float .f32 ck] 56))).cell? ⟨gm, k * 7 + 6, none⟩ = some (.float .f32 ck) := by go_simp
          have s0 : ((w4.alloc (.cells #[.complex .f32 ax0 ay0, .complex .f32 bx0 by0, .complex .f32 cx0 cy0, .float .f32 r, .float .f32 g, .float .f32 b, .float .f32 ck] 56))).cell? ⟨w2.heap.size, 0, none⟩ = some (.complex .f32 ax' ay') := by go_simp
          have s1 : ((w4.alloc (.cells #[.complex .f32 ax0 ay0, .complex .f32 bx0 by0, .complex .f32 cx0 cy0, .float .f32 r, .float .f32 g, .float .f32 b, .float .f32 ck] 56))).cell? ⟨w2.heap.size, 1, none⟩ = some (.complex .f32 bx' by') := by go_simp
          have s2 : ((w4.alloc (.cells #[.complex .f32 ax0 ay0, .complex .f32 bx0 by0, .complex .f32 cx0 cy0, .float .f32 r, .float .f32 g, .float .f32 b, .float .f32 ck] 56))).cell? ⟨w2.heap.size, 2, none⟩ = some (.complex .f32 cx' cy') := by go_simp
          have s3 : ((w4.alloc (.cells #[.complex .f32 ax0 ay0, .complex .f32 bx0 by0, .complex .f32 cx0 cy0, .float .f32 r, .float .f32 g, .float .f32 b, .float .f32 ck] 56))).cell? ⟨w2.heap.size, 3, none⟩ = some (.float .f32 r) := by go_simp
          have s4 : ((w4.alloc (.cells #[.complex .f32 ax0 ay0, .complex .f32 bx0 by0, .complex .f32 cx0 cy0, .float .f32 r, .float .f32 g, .float .f32 b, .float .f32 ck] 56))).cell? ⟨w2.heap.size, 4, none⟩ = some (.float .f32 g) := by go_simp
          have s5 : ((w4.alloc (.cells #[.complex .f32 ax0 ay0, .complex .f32 bx0 by0, .complex .f32 cx0 cy0, .float .f32 r, .float .f32 g, .float .f32 b, .float .f32 ck] 56))).cell? ⟨w2.heap.size, 5, none⟩ = some (.float .f32 b) := by go_simp
          have s6 : ((w4.alloc (.cells #[.complex .f32 ax0 ay0, .complex .f32 bx0 by0, .complex .f32 cx0 cy0, .float .f32 r, .float .f32 g, .float .f32 b, .float .f32 ck] 56))).cell? ⟨w2.heap.size, 6, none⟩ = some (.float .f32 ck) := by go_simp
          have t0 : ((w4.alloc (.cells #[.complex .f32 ax0 ay0, .complex .f32 bx0 by0, .complex .f32 cx0 cy0, .float .f32 r, .float .f32 g, .float .f32 b, .float .f32 ck] 56))).cell? ⟨w4.heap.size, 0, none⟩ = some (.complex .f32 ax0 ay0) := by go_simp
          have t1 : ((w4.alloc (.cells #[.complex .f32 ax0 ay0, .complex .f32 bx0 by0, .complex .f32 cx0 cy0, .float .f32 r, .float .f32 g, .float .f32 b, .float .f32 ck] 56))).cell? ⟨w4.heap.size, 1, none⟩ = some (.complex .f32 bx0 by0) := by go_simp
          have t2 : ((w4.alloc (.cells #[.complex .f32 ax0 ay0, .complex .f32 bx0 by0, .complex .f32 cx0 cy0, .float .f32 r, .float .f32 g, .float .f32 b, .float .f32 ck] 56))).cell? ⟨w4.heap.size, 2, none⟩ = some (.complex .f32 cx0 cy0) := by go_simp
          have t3 : ((w4.alloc (.cells #[.complex .f32 ax0 ay0, .complex .f32 bx0 by0, .complex .f32 cx0 cy0, .float .f32 r, .float .f32 g, .float .f32 b, .float .f32 ck] 56))).cell? ⟨w4.heap.size, 3, none⟩ = some (.float .f32 r) := by go_simp
          have t4 : ((w4.alloc (.cells #[.complex .f32 ax0 ay0, .complex .f32 bx0 by0, .complex .f32 cx0 cy0, .float .f32 r, .float .f32 g, .float .f32 b, .float .f32 ck] 56))).cell? ⟨w4.heap.size, 4, none⟩ = some (.float .f32 g) := by go_simp
          have t5 : ((w4.alloc (.cells #[.complex .f32 ax0 ay0, .complex .f32 bx0 by0, .complex .f32 cx0 cy0, .float .f32 r, .float .f32 g, .float .f32 b, .float .f32 ck] 56))).cell? ⟨w4.heap.size, 5, none⟩ = some (.float .f32 b) := by go_simp
          have t6 : ((w4.alloc (.cells #[.complex .f32 ax0 ay0, .complex .f32 bx0 by0, .complex .f32 cx0 cy0, .float .f32 r, .float .f32 g, .float .f32 b, .float .f32 ck] 56))).cell? ⟨w4.heap.size, 6, none⟩ = some (.float .f32 ck) := by go_simp
          have bel : Below w1.heap.size w1 ((w4.alloc (.cells #[.complex .f32 ax0 ay0, .complex .f32 bx0 by0, .complex .f32 cx0 cy0, .float .f32 r, .float .f32 g, .float .f32 b, .float .f32 ck] 56))) := bel.alloc bel.size _
          generalize (w4.alloc (.cells #[.complex .f32 ax0 ay0, .complex .f32 bx0 by0, .complex .f32 cx0 cy0, .float .f32 r, .float .f32 g, .float .f32 b, .float .f32 ck] 56)) = w5 at c0 c1 c2 c3 c4 c5 c6 s0 s1 s2 s3 s4 s5 s6 t0 t1 t2 t3 t4 t5 t6 bel ⊢
          have hsw5 := bel.size
          have C1 := regC (w := w5) I1.out
          have k_c0 := cell_regrown c0
          have k_c1 := cell_regrown c1
          have k_c2 := cell_regrown c2
          have k_c3 := cell_regrown c3
          have k_c4 := cell_regrown c4
          have k_c5 := cell_regrown c5
          have k_c6 := cell_regrown c6
          have k_s0 := cell_regrown s0
          have k_s1 := cell_regrown s1
          have k_s2 := cell_regrown s2
          have k_s3 := cell_regrown s3
          have k_s4 := cell_regrown s4
          have k_s5 := cell_regrown s5
          have k_s6 := cell_regrown s6
          have k_t0 := cell_regrown t0
          have k_t1 := cell_regrown t1
          have k_t2 := cell_regrown t2
          have k_t3 := cell_regrown t3
          have k_t4 := cell_regrown t4
          have k_t5 := cell_regrown t5
          have k_t6 := cell_regrown t6
          refine wp_region_below (by kernel_rfl) (by kernel_rfl) ?_
          repeat (go_big_quiet_step (first | (with_reducible exact C1 _ _)))
          refine wpQuiet_nil ?_
          intro w6 nb
          clear k_c0 k_c1 k_c2 k_c3 k_c4 k_c5 k_c6 k_s0 k_s1 k_s2 k_s3 k_s4 k_s5 k_s6 k_t0 k_t1 k_t2 k_t3 k_t4 k_t5 k_t6
          have c0 := keepc nb c0
          have bel := belowOf bel nb
          clear nb
          clear c1 c2 c3 c4 c5 c6 s0 s1 s2 s3 s4 s5 s6 t0 t1 t2 t3 t4 t5 t6
          go_wp2_with fail
          go_roundw
          case rel => exact ⟨k + 1, by omega, by go_num, bel⟩
          case measure => simp [intOf]; omega
      · obtain rfl : k = n := by omega
        go_wp2_with fail
        go_ret
        exact ⟨rfl, belowOf belw bel⟩

open Go.ChangeShapes Go.WideShapes Go.ChangeAt Go.Joins
open Go.ChangeMaps (open_string shut_string)

set_option maxRecDepth 100000 in
theorem fnMovedShard_lifted (os : Os) (started : os.Started) (H : Type) (enc : TypeId × Value → H) :
    ReturnsInHanded {} Try.checked os 7 .any (Rows.fnMovedShardSpec.pre6 enc Try.prog Try.f7 Rows.fnMovedShardRow.domain false) (Rows.fnMovedShardSpec.post enc Try.prog Try.f7 false true false false) := by
  refine returnsInHanded_of_change (C := Try.checked) Try.own started (by kernel_rfl) Try.func7
    (ChangeSpec.witness6 (enc := enc) (C := Try.checked) false ⟨#[], #[.slice none 0 0], []⟩ 8 (by kernel_rfl) (by kernel_rfl) (by kernel_rfl) (by kernel_rfl)) ?_
  intro W base args ds gs before hval0 hW _ _
  have hval : ∀ (j : Nat) t v, Try.f7.params[j]? = some t → args[j]? = some v → Value.okWide Try.prog W .any base t v := hval0
  have hW' := hW
  obtain ⟨p, q, hA0, hV, rfl, _, _⟩ := hW
  have hA : DataW.TrodAll enc Try.prog W 0 (fun _ => true) true Try.f7.params.toList args.toList ds p := hA0
  rw [Try.params7] at hA hval
  obtain ⟨v0, vs0, d0, ds0, p0, q0, hargs, rfl, rfl, h0, r0⟩ := trodAll_cons hA
  obtain ⟨rfl, rfl, rfl⟩ := trodAll_nil r0
  obtain rfl : args = #[v0] := by cases args; simp_all
  obtain ⟨rfl, rfl⟩ := trodVars_none hV
  have k0 := h0
  have lt0 : ∀ x ∈ p0, x.block < W.heap.size := by obtain ⟨m, hm⟩ := k0; exact DataW.trod_lt m _ _ _ hm
  obtain ⟨a0, len0, cap0, rfl⟩ := okWide_slice Try.underlying22 (hval 0 22 v0 rfl rfl)
  obtain ⟨z0, w0⟩ : ∃ zs, IsRow .u8 W a0 len0 cap0 zs := by
    obtain ⟨fuel, hf⟩ := h0
    rcases open_ints Try.underlying22 Try.underlying5 (by kernel_rfl) hf with ⟨hcs, _⟩ | ⟨x, l, c, zs, hcs, _, hl, hm, hz, _, hcell, hwz⟩
    · simp [Value.cells] at hcs
      obtain ⟨rfl, rfl, rfl⟩ := hcs
      exact ⟨[], .inl ⟨rfl, rfl, rfl, rfl⟩⟩
    · simp [Value.cells] at hcs
      obtain ⟨rfl, rfl, rfl⟩ := hcs
      exact ⟨zs, .inr ⟨_, rfl, hl, hm, by simpa using hz, hcell, hwz⟩⟩
  clear hA0 hval0
  refine (FnMovedShard_walk a0 len0 cap0 z0 W w0).mono fun e W' ⟨he, bel⟩ => ?_
  subst he
  exact ⟨_, rfl, _, _, _, [], _, [], hW', trodAll_mk1 (shut_bool Try.underlying4 _), (trodAll_cons_mk (Below.trod Try.laidOut (by kernel_rfl) (of_decide_eq_true (by kernel_rfl)) k0 bel lt0) trodAll_mk0), rfl, bel.frame _, fun h => by cases h⟩

/-- The statement. -/
theorem fnMovedShard_proved : Rows.FnMovedShardSaid :=
  OpenClaim.holds_of_wide 7 Try.f7 rfl rfl rfl rfl rfl rfl rfl ⟨rfl, rfl, rfl, rfl, rfl⟩ rfl rfl rfl rfl rfl (by kernel_rfl) Try.func7 (by kernel_rfl)
    (of_decide_eq_true (by kernel_rfl)) (by unfold Func.isWrapper; rw [if_neg (of_decide_eq_false (by kernel_rfl))]; exact ⟨rfl, rfl⟩)
    (fun os started H enc _ => fnMovedShard_lifted os started H enc)
#print axioms fnMovedShard_proved

end Go.Proofs.Ytgafdkaiiajieaa
