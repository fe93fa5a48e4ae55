/- What the reference draws for glass: a shard; a wild number; any complex number. Condition: the code is a slice of bytes that can be read. -/
import Derived.Test.YtgafdkaiiajieaaShardP
import Derived.Test.YtgafdkaiiajieaaDrawPt
namespace Go.Proofs.Ytgafdkaiiajieaa
open Go.RowKit
open Fl

set_option maxHeartbeats 400000 in
theorem l3Plus_small (x y x' y' : Nat) (w : World) (hx : (val x).natAbs ≤ 2 ^ 152) (hy : (val y).natAbs ≤ 2 ^ 152) (hx' : (val x').natAbs ≤ 2 ^ 152) (hy' : (val y').natAbs ≤ 2 ^ 152) (fx : fin x) (fy : fin y) (fx' : fin x') (fy' : fin y') :
    Calls Try.prog 97 #[.complex .f32 x y, .complex .f32 x' y'] w fun e w' => e = .returned (.complex .f32 (sumF x x') (sumF y y')) ∧ w = w' := by
  have H1 := hide (fun w => l1Plus_fin x x' w fx fx' (plus_small hx hx').1)
  have H2 := hide (fun w => l1Plus_fin y y' w fy fy' (plus_small hy hy').1)
  clear hx hy hx' hy' fx fy fx' fy'
  go_enter Try.func97, Try.ntmps97
  go_wp2_with (go_at_call 105; (first | (with_reducible refine (H1.out _).mono ?_) | (with_reducible refine (H2.out _).mono ?_)); rintro e w' ⟨rfl, rfl⟩)
  go_ret
  exact ⟨rfl, rfl⟩

/-- A shard of a draw. -/
def RetShard (w0 w : World) (p : Nat) (a : Option Addr) (len cap : Nat) (e : Ending) (w' : World) : Prop :=
  ∃ s : Shd, e = .returned (.agg #[.complex .f32 s.ax s.ay, .complex .f32 s.bx s.b_y, .complex .f32 s.cx s.cy, .float .f32 s.r, .float .f32 s.g, .float .f32 s.b, .float .f32 s.k]) ∧ ShOk s ∧ CurAt w0 w' p a len cap ∧ w.grownBy w' (some p)

set_option maxRecDepth 100000 in
set_option maxHeartbeats 4000000 in
theorem l3Draw_any (w0 w : World) (p : Nat) (a : Option Addr) (len cap : Nat) (c : CurAt w0 w p a len cap) :
    Calls Try.prog 81 #[.pointer (some ⟨p, 0, none⟩)] w (RetShard w0 w p a len cap) := by
  have hp : p < w.heap.size := by
    obtain ⟨H, hh⟩ := c.h
    exact World.block_lt_of_cell? w _ hh
  go_enter Try.func81, Try.ntmps81
  have c := c.below ((Below.refl w.heap.size w).alloc (Nat.le_refl _) (.cells #[.complex .f32 0 0, .complex .f32 0 0, .complex .f32 0 0, .float .f32 0, .float .f32 0, .float .f32 0, .float .f32 0] 56))
  have gg : w.grownBy (w.alloc (.cells #[.complex .f32 0 0, .complex .f32 0 0, .complex .f32 0 0, .float .f32 0, .float .f32 0, .float .f32 0, .float .f32 0] 56)) (some p) := grown_below ((Below.refl _ _).alloc (Nat.le_refl _) _)
  have z0 : (w.alloc (.cells #[.complex .f32 0 0, .complex .f32 0 0, .complex .f32 0 0, .float .f32 0, .float .f32 0, .float .f32 0, .float .f32 0] 56)).cell? ⟨w.heap.size, 0, none⟩ = some (.complex .f32 0 0) := by go_simp
  have z1 : (w.alloc (.cells #[.complex .f32 0 0, .complex .f32 0 0, .complex .f32 0 0, .float .f32 0, .float .f32 0, .float .f32 0, .float .f32 0] 56)).cell? ⟨w.heap.size, 1, none⟩ = some (.complex .f32 0 0) := by go_simp
  have z2 : (w.alloc (.cells #[.complex .f32 0 0, .complex .f32 0 0, .complex .f32 0 0, .float .f32 0, .float .f32 0, .float .f32 0, .float .f32 0] 56)).cell? ⟨w.heap.size, 2, none⟩ = some (.complex .f32 0 0) := by go_simp
  have z3 : (w.alloc (.cells #[.complex .f32 0 0, .complex .f32 0 0, .complex .f32 0 0, .float .f32 0, .float .f32 0, .float .f32 0, .float .f32 0] 56)).cell? ⟨w.heap.size, 3, none⟩ = some (.float .f32 0) := by go_simp
  have z4 : (w.alloc (.cells #[.complex .f32 0 0, .complex .f32 0 0, .complex .f32 0 0, .float .f32 0, .float .f32 0, .float .f32 0, .float .f32 0] 56)).cell? ⟨w.heap.size, 4, none⟩ = some (.float .f32 0) := by go_simp
  have z5 : (w.alloc (.cells #[.complex .f32 0 0, .complex .f32 0 0, .complex .f32 0 0, .float .f32 0, .float .f32 0, .float .f32 0, .float .f32 0] 56)).cell? ⟨w.heap.size, 5, none⟩ = some (.float .f32 0) := by go_simp
  have z6 : (w.alloc (.cells #[.complex .f32 0 0, .complex .f32 0 0, .complex .f32 0 0, .float .f32 0, .float .f32 0, .float .f32 0, .float .f32 0] 56)).cell? ⟨w.heap.size, 6, none⟩ = some (.float .f32 0) := by go_simp
  have zf : ∀ j, (w.alloc (.cells #[.complex .f32 0 0, .complex .f32 0 0, .complex .f32 0 0, .float .f32 0, .float .f32 0, .float .f32 0, .float .f32 0] 56)).frozen? ⟨w.heap.size, j, none⟩ = false := fun j => by go_simp
  have zz : w.heap.size < (w.alloc (.cells #[.complex .f32 0 0, .complex .f32 0 0, .complex .f32 0 0, .float .f32 0, .float .f32 0, .float .f32 0, .float .f32 0] 56)).heap.size := by simp
  obtain ⟨wA, hwA⟩ : ∃ wA, w.alloc (.cells #[.complex .f32 0 0, .complex .f32 0 0, .complex .f32 0 0, .float .f32 0, .float .f32 0, .float .f32 0, .float .f32 0] 56) = wA := ⟨_, rfl⟩
  rw [hwA] at c gg z0 z1 z2 z3 z4 z5 z6 zf zz
  have HWA := hide hwA
  have HZ := hide (And.intro z0 (And.intro z1 (And.intro z2 (And.intro z3 (And.intro z4 (And.intro z5 z6))))))
  have HZF := hide zf
  have np : w.heap.size ≠ p := by omega
  clear hwA z0 z1 z2 z3 z4 z5 z6 zf
  have gA := gg
  have gg : wA.grownBy wA (some p) := grown_refl _ _
  go_wp2_with fail
  rw [HWA.out]
  refine (l1Some_any w0 _ p a len cap (-32) 32 c (by omega) (by omega) (by omega)).mono ?_
  rintro e w1 ⟨n1, rfl, lo1, hi1, c, g⟩
  obtain ⟨q1, hq1, e1, e2, e3⟩ := quarter_some (x := n1) (by omega) (by omega)
  have run1 := fun t w => run_ok (P := Try.prog) .quo t _ _ q1 hq1 w
  have Q1 : Hid (rch q1 = true ∧ q1 < 4294967296 ∧ (val q1).natAbs ≤ 2 ^ 152) := ⟨e1, e2, e3⟩
  have gg := grown_trans gg g
  clear g lo1 hi1 hq1 e1 e2 e3
  go_wp2_with fail
  refine (l1Some_any w0 _ p a len cap (-32) 32 c (by omega) (by omega) (by omega)).mono ?_
  rintro e w2 ⟨n2, rfl, lo2, hi2, c, g⟩
  obtain ⟨q2, hq2, e1, e2, e3⟩ := quarter_some (x := n2) (by omega) (by omega)
  have run2 := fun t w => run_ok (P := Try.prog) .quo t _ _ q2 hq2 w
  have Q2 : Hid (rch q2 = true ∧ q2 < 4294967296 ∧ (val q2).natAbs ≤ 2 ^ 152) := ⟨e1, e2, e3⟩
  have gg := grown_trans gg g
  clear g lo2 hi2 hq2 e1 e2 e3
  go_wp2_with fail
  refine (l1Some_any w0 _ p a len cap (-24) 24 c (by omega) (by omega) (by omega)).mono ?_
  rintro e w3 ⟨n3, rfl, lo3, hi3, c, g⟩
  obtain ⟨q3, hq3, e1, e2, e3⟩ := quarter_some (x := n3) (by omega) (by omega)
  have run3 := fun t w => run_ok (P := Try.prog) .quo t _ _ q3 hq3 w
  have Q3 : Hid (rch q3 = true ∧ q3 < 4294967296 ∧ (val q3).natAbs ≤ 2 ^ 152) := ⟨e1, e2, e3⟩
  have gg := grown_trans gg g
  clear g lo3 hi3 hq3 e1 e2 e3
  go_wp2_with fail
  refine (l1Some_any w0 _ p a len cap (-24) 24 c (by omega) (by omega) (by omega)).mono ?_
  rintro e w4 ⟨n4, rfl, lo4, hi4, c, g⟩
  obtain ⟨q4, hq4, e1, e2, e3⟩ := quarter_some (x := n4) (by omega) (by omega)
  have run4 := fun t w => run_ok (P := Try.prog) .quo t _ _ q4 hq4 w
  have Q4 : Hid (rch q4 = true ∧ q4 < 4294967296 ∧ (val q4).natAbs ≤ 2 ^ 152) := ⟨e1, e2, e3⟩
  have gg := grown_trans gg g
  clear g lo4 hi4 hq4 e1 e2 e3
  go_wp2_with fail
  refine (l3Plus_small q1 q2 q3 q4 _ Q1.out.2.2 Q2.out.2.2 Q3.out.2.2 Q4.out.2.2 (rch_fin Q1.out.1) (rch_fin Q2.out.1) (rch_fin Q3.out.1) (rch_fin Q4.out.1)).mono ?_
  rintro e w' ⟨rfl, rfl⟩
  go_wp2_with fail
  refine (l1Some_any w0 _ p a len cap (-24) 24 c (by omega) (by omega) (by omega)).mono ?_
  rintro e w5 ⟨n5, rfl, lo5, hi5, c, g⟩
  obtain ⟨q5, hq5, e1, e2, e3⟩ := quarter_some (x := n5) (by omega) (by omega)
  have run5 := fun t w => run_ok (P := Try.prog) .quo t _ _ q5 hq5 w
  have Q5 : Hid (rch q5 = true ∧ q5 < 4294967296 ∧ (val q5).natAbs ≤ 2 ^ 152) := ⟨e1, e2, e3⟩
  have gg := grown_trans gg g
  clear g lo5 hi5 hq5 e1 e2 e3
  go_wp2_with fail
  refine (l1Some_any w0 _ p a len cap (-24) 24 c (by omega) (by omega) (by omega)).mono ?_
  rintro e w6 ⟨n6, rfl, lo6, hi6, c, g⟩
  obtain ⟨q6, hq6, e1, e2, e3⟩ := quarter_some (x := n6) (by omega) (by omega)
  have run6 := fun t w => run_ok (P := Try.prog) .quo t _ _ q6 hq6 w
  have Q6 : Hid (rch q6 = true ∧ q6 < 4294967296 ∧ (val q6).natAbs ≤ 2 ^ 152) := ⟨e1, e2, e3⟩
  have gg := grown_trans gg g
  clear g lo6 hi6 hq6 e1 e2 e3
  go_wp2_with fail
  refine (l3Plus_small q1 q2 q5 q6 _ Q1.out.2.2 Q2.out.2.2 Q5.out.2.2 Q6.out.2.2 (rch_fin Q1.out.1) (rch_fin Q2.out.1) (rch_fin Q5.out.1) (rch_fin Q6.out.1)).mono ?_
  rintro e w' ⟨rfl, rfl⟩
  go_wp2_with fail
  refine (l2Draw_any w0 _ p a len cap c).mono ?_
  rintro e w7 ⟨cr, cg, cb, rfl, hcol, c, g⟩
  have HCOL := hide hcol
  have gg := grown_trans gg g
  clear g hcol
  go_wp2_with fail
  refine (l2One_any w0 _ p a len cap c).mono ?_
  rintro e w8 ⟨ck, rfl, hk, c, g⟩
  have HK := hide hk
  have gg := grown_trans gg g
  clear g hk
  have B1 := hide (plus_small Q1.out.2.2 Q3.out.2.2).2
  have B2 := hide (plus_small Q2.out.2.2 Q4.out.2.2).2
  have B3 := hide (plus_small Q1.out.2.2 Q5.out.2.2).2
  have B4 := hide (plus_small Q2.out.2.2 Q6.out.2.2).2
  generalize sumF q1 q3 = s1 at B1 ⊢
  generalize sumF q2 q4 = s2 at B2 ⊢
  generalize sumF q1 q5 = s3 at B3 ⊢
  generalize sumF q2 q6 = s4 at B4 ⊢
  have z0 := keepg gg HZ.out.1 np
  have z1 := keepg gg HZ.out.2.1 np
  have z2 := keepg gg HZ.out.2.2.1 np
  have z3 := keepg gg HZ.out.2.2.2.1 np
  have z4 := keepg gg HZ.out.2.2.2.2.1 np
  have z5 := keepg gg HZ.out.2.2.2.2.2.1 np
  have z6 := keepg gg HZ.out.2.2.2.2.2.2 np
  have zf := fun j => keepgf gg (HZF.out j) zz np
  have z8 : w.heap.size < w8.heap.size := World.block_lt_of_cell? w8 _ z0
  have gg := grown_trans gA gg
  clear gA run1 run2 run3 run4 run5 run6 HWA
  go_wp2_with fail
  have nb : Below w8.heap.size w8 (w8.alloc (.cells #[.complex .f32 q1 q2, .complex .f32 s1 s2, .complex .f32 s3 s4, .float .f32 cr, .float .f32 cg, .float .f32 cb, .float .f32 ck] 56)) := (Below.refl _ _).alloc (Nat.le_refl _) _
  have y0 : (w8.alloc (.cells #[.complex .f32 q1 q2, .complex .f32 s1 s2, .complex .f32 s3 s4, .float .f32 cr, .float .f32 cg, .float .f32 cb, .float .f32 ck] 56)).cell? ⟨w8.heap.size, 0, none⟩ = some (.complex .f32 q1 q2) := by go_simp
  have y1 : (w8.alloc (.cells #[.complex .f32 q1 q2, .complex .f32 s1 s2, .complex .f32 s3 s4, .float .f32 cr, .float .f32 cg, .float .f32 cb, .float .f32 ck] 56)).cell? ⟨w8.heap.size, 1, none⟩ = some (.complex .f32 s1 s2) := by go_simp
  have y2 : (w8.alloc (.cells #[.complex .f32 q1 q2, .complex .f32 s1 s2, .complex .f32 s3 s4, .float .f32 cr, .float .f32 cg, .float .f32 cb, .float .f32 ck] 56)).cell? ⟨w8.heap.size, 2, none⟩ = some (.complex .f32 s3 s4) := by go_simp
  have y3 : (w8.alloc (.cells #[.complex .f32 q1 q2, .complex .f32 s1 s2, .complex .f32 s3 s4, .float .f32 cr, .float .f32 cg, .float .f32 cb, .float .f32 ck] 56)).cell? ⟨w8.heap.size, 3, none⟩ = some (.float .f32 cr) := by go_simp
  have y4 : (w8.alloc (.cells #[.complex .f32 q1 q2, .complex .f32 s1 s2, .complex .f32 s3 s4, .float .f32 cr, .float .f32 cg, .float .f32 cb, .float .f32 ck] 56)).cell? ⟨w8.heap.size, 4, none⟩ = some (.float .f32 cg) := by go_simp
  have y5 : (w8.alloc (.cells #[.complex .f32 q1 q2, .complex .f32 s1 s2, .complex .f32 s3 s4, .float .f32 cr, .float .f32 cg, .float .f32 cb, .float .f32 ck] 56)).cell? ⟨w8.heap.size, 5, none⟩ = some (.float .f32 cb) := by go_simp
  have y6 : (w8.alloc (.cells #[.complex .f32 q1 q2, .complex .f32 s1 s2, .complex .f32 s3 s4, .float .f32 cr, .float .f32 cg, .float .f32 cb, .float .f32 ck] 56)).cell? ⟨w8.heap.size, 6, none⟩ = some (.float .f32 ck) := by go_simp
  have yf : ∀ j, (w8.alloc (.cells #[.complex .f32 q1 q2, .complex .f32 s1 s2, .complex .f32 s3 s4, .float .f32 cr, .float .f32 cg, .float .f32 cb, .float .f32 ck] 56)).frozen? ⟨w8.heap.size, j, none⟩ = false := fun j => by go_simp
  have yz : w8.heap.size < (w8.alloc (.cells #[.complex .f32 q1 q2, .complex .f32 s1 s2, .complex .f32 s3 s4, .float .f32 cr, .float .f32 cg, .float .f32 cb, .float .f32 ck] 56)).heap.size := by simp
  have z0 := keepc nb z0
  have z1 := keepc nb z1
  have z2 := keepc nb z2
  have z3 := keepc nb z3
  have z4 := keepc nb z4
  have z5 := keepc nb z5
  have z6 := keepc nb z6
  have zf := fun j => (nb.frozen (p := ⟨w.heap.size, j, none⟩) z8).trans (zf j)
  have c := c.below nb
  have gg := grown_trans gg (grown_below (r := some p) nb)
  have hp8 : p < w8.heap.size := by omega
  have hq8 : w8.heap.size ≠ p := by omega
  generalize w8.alloc (.cells #[.complex .f32 q1 q2, .complex .f32 s1 s2, .complex .f32 s3 s4, .float .f32 cr, .float .f32 cg, .float .f32 cb, .float .f32 ck] 56) = wB at nb y0 y1 y2 y3 y4 y5 y6 yf yz z0 z1 z2 z3 z4 z5 z6 zf c gg ⊢
  clear nb
  refine (l1Once_any w0 _ p a len cap 5 c (by omega) (by omega)).mono ?_
  rintro e w9 ⟨o, rfl, c, g⟩
  have y0 := keepg g y0 hq8
  have y1 := keepg g y1 hq8
  have y2 := keepg g y2 hq8
  have y3 := keepg g y3 hq8
  have y4 := keepg g y4 hq8
  have y5 := keepg g y5 hq8
  have y6 := keepg g y6 hq8
  have z0 := keepg g z0 np
  have z1 := keepg g z1 np
  have z2 := keepg g z2 np
  have z3 := keepg g z3 np
  have z4 := keepg g z4 np
  have z5 := keepg g z5 np
  have z6 := keepg g z6 np
  have yf := fun j => keepgf g (yf j) yz hq8
  have zf := fun j => keepgf g (zf j) (show w.heap.size < _ by omega) np
  have gg := grown_trans gg g
  have k0 : w.heap.size ≤ w.heap.size := Nat.le_refl _
  have ne : w8.heap.size ≠ w.heap.size := by omega
  have hsz : wB.heap.size ≤ w9.heap.size := g.size
  clear g
  cases o
  · go_wp2_with fail
    exact bodyPost_ret (v := .agg #[.complex .f32 q1 q2, .complex .f32 s1 s2, .complex .f32 s3 s4, .float .f32 cr, .float .f32 cg, .float .f32 cb, .float .f32 ck]) (by simp [results, Try.results81, go_sem, z0, z1, z2, z3, z4, z5, z6]) rfl ⟨⟨q1, q2, s1, s2, s3, s4, cr, cg, cb, ck⟩, rfl, ⟨⟨Q1.out.1, Q2.out.1, Q1.out.2.1, Q2.out.2.1⟩, ⟨B1.out.1, B2.out.1, B1.out.2, B2.out.2⟩, ⟨B3.out.1, B4.out.1, B3.out.2, B4.out.2⟩, HCOL.out, HK.out⟩, (((((((c.set hp).set hp).set hp).set hp).set hp).set hp).set hp), (grown_setNew (grown_setNew (grown_setNew (grown_setNew (grown_setNew (grown_setNew (grown_setNew gg k0) k0) k0) k0) k0) k0) k0)⟩
  · go_wp2_with fail
    refine (l1Point_any w0 _ p a len cap c).mono ?_
    rintro e w10 ⟨x, y, rfl, hpt, c, g⟩
    have HPT := hide hpt
    have y0 := keepg g y0 hq8
    have y1 := keepg g y1 hq8
    have y2 := keepg g y2 hq8
    have y3 := keepg g y3 hq8
    have y4 := keepg g y4 hq8
    have y5 := keepg g y5 hq8
    have y6 := keepg g y6 hq8
    have z0 := keepg g z0 np
    have z1 := keepg g z1 np
    have z2 := keepg g z2 np
    have z3 := keepg g z3 np
    have z4 := keepg g z4 np
    have z5 := keepg g z5 np
    have z6 := keepg g z6 np
    have yf := fun j => keepgf g (yf j) (show w8.heap.size < _ by omega) hq8
    have zf := fun j => keepgf g (zf j) (show w.heap.size < _ by omega) np
    have gg := grown_trans gg g
    have h8 : p < w8.heap.size := hp8
    have k8 : w.heap.size ≤ w8.heap.size := by omega
    clear g hpt
    go_wp2_with fail
    exact bodyPost_ret (v := .agg #[.complex .f32 q1 q2, .complex .f32 s1 s2, .complex .f32 x y, .float .f32 cr, .float .f32 cg, .float .f32 cb, .float .f32 ck]) (by simp [results, Try.results81, go_sem, z0, z1, z2, z3, z4, z5, z6]) rfl ⟨⟨q1, q2, s1, s2, x, y, cr, cg, cb, ck⟩, rfl, ⟨⟨Q1.out.1, Q2.out.1, Q1.out.2.1, Q2.out.2.1⟩, ⟨B1.out.1, B2.out.1, B1.out.2, B2.out.2⟩, HPT.out, HCOL.out, HK.out⟩, ((((((((c.set h8).set hp).set hp).set hp).set hp).set hp).set hp).set hp), (grown_setNew (grown_setNew (grown_setNew (grown_setNew (grown_setNew (grown_setNew (grown_setNew (grown_setNew gg k8) k0) k0) k0) k0) k0) k0) k0)⟩

end Go.Proofs.Ytgafdkaiiajieaa
