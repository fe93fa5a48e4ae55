/- What AreShards, SeenThrough and LayersAt compute. Condition: at most twelve valid shards, a point, a colour. -/
import Derived.Test.YtgafdkaiiajieaaLightP
import Derived.Test.YtgafdkaiiajieaaTail
import Derived.Deep.AppendLies
namespace Go.Proofs.Ytgafdkaiiajieaa
open Go.RowKit Go.Sort
open Fl

set_option maxRecDepth 100000 in
set_option maxHeartbeats 2000000 in
theorem badShard_any (s : Shd) (w : World) (hs : ShOk s) :
    Calls Try.prog 85 #[.agg #[.complex .f32 s.ax s.ay, .complex .f32 s.bx s.b_y, .complex .f32 s.cx s.cy, .float .f32 s.r, .float .f32 s.g, .float .f32 s.b, .float .f32 s.k]] w fun e w' => e = .returned (.bool false) ∧ Below w.heap.size w w' := by
  have I1 := hide (isShard_y hs)
  obtain ⟨ax, ay, bx, b_y, cx, cy, r, g, b, k⟩ := s
  simp only at I1 ⊢
  clear hs
  go_enter Try.func85, Try.ntmps85
  go_wp2_with fail
  have a0 : ((w.alloc (.cells #[.complex .f32 ax ay, .complex .f32 bx b_y, .complex .f32 cx cy, .float .f32 r, .float .f32 g, .float .f32 b, .float .f32 k] 56))).cell? ⟨w.heap.size, 0, none⟩ = some (.complex .f32 ax ay) := by go_simp
  have a1 : ((w.alloc (.cells #[.complex .f32 ax ay, .complex .f32 bx b_y, .complex .f32 cx cy, .float .f32 r, .float .f32 g, .float .f32 b, .float .f32 k] 56))).cell? ⟨w.heap.size, 1, none⟩ = some (.complex .f32 bx b_y) := by go_simp
  have a2 : ((w.alloc (.cells #[.complex .f32 ax ay, .complex .f32 bx b_y, .complex .f32 cx cy, .float .f32 r, .float .f32 g, .float .f32 b, .float .f32 k] 56))).cell? ⟨w.heap.size, 2, none⟩ = some (.complex .f32 cx cy) := by go_simp
  have a3 : ((w.alloc (.cells #[.complex .f32 ax ay, .complex .f32 bx b_y, .complex .f32 cx cy, .float .f32 r, .float .f32 g, .float .f32 b, .float .f32 k] 56))).cell? ⟨w.heap.size, 3, none⟩ = some (.float .f32 r) := by go_simp
  have a4 : ((w.alloc (.cells #[.complex .f32 ax ay, .complex .f32 bx b_y, .complex .f32 cx cy, .float .f32 r, .float .f32 g, .float .f32 b, .float .f32 k] 56))).cell? ⟨w.heap.size, 4, none⟩ = some (.float .f32 g) := by go_simp
  have a5 : ((w.alloc (.cells #[.complex .f32 ax ay, .complex .f32 bx b_y, .complex .f32 cx cy, .float .f32 r, .float .f32 g, .float .f32 b, .float .f32 k] 56))).cell? ⟨w.heap.size, 5, none⟩ = some (.float .f32 b) := by go_simp
  have a6 : ((w.alloc (.cells #[.complex .f32 ax ay, .complex .f32 bx b_y, .complex .f32 cx cy, .float .f32 r, .float .f32 g, .float .f32 b, .float .f32 k] 56))).cell? ⟨w.heap.size, 6, none⟩ = some (.float .f32 k) := by go_simp
  have bel : Below w.heap.size w ((w.alloc (.cells #[.complex .f32 ax ay, .complex .f32 bx b_y, .complex .f32 cx cy, .float .f32 r, .float .f32 g, .float .f32 b, .float .f32 k] 56))) := (by repeat (first | exact Below.refl _ _ | assumption | refine Below.drew ?_ | refine Below.setCell ?_ (by first | (dsimp only; omega) | (simp; omega) | simp) _ | refine Below.alloc ?_ (by first | omega | (simp; omega) | simp) _))
  generalize (w.alloc (.cells #[.complex .f32 ax ay, .complex .f32 bx b_y, .complex .f32 cx cy, .float .f32 r, .float .f32 g, .float .f32 b, .float .f32 k] 56)) = wA at a0 a1 a2 a3 a4 a5 a6 bel ⊢
  have hswA := bel.size
  refine (I1.out _).mono ?_
  rintro e w1 ⟨rfl, nb⟩
  have a0 := keepc nb a0
  have bel := belowOf bel nb
  clear nb
  go_wp2_with fail
  go_ret
  exact ⟨rfl, bel⟩

set_option maxRecDepth 100000 in
set_option maxHeartbeats 2000000 in
theorem indexBad_any (a : Option Addr) (n cap : Nat) (l : List Shd) (w : World) (hr : ReadsO w a n cap l) (hok : ∀ s ∈ l, ShOk s) :
    Calls Try.prog 99 #[.slice a n cap, .func (.func 85) #[] #[]] w fun e w' => e = .returned (.int .i64 (-1)) ∧ Below w.heap.size w w' := by
  have hm := hr.2.1
  unfold maxLen at hm
  have HR := hide hr
  have HOK := hide hok
  clear hr hok
  go_enter Try.func99, Try.ntmps99
  go_wp2_with fail
  go_loopw [8] (fun i wr => ∃ k : Nat, k ≤ n ∧ i = .int .i64 k ∧ Below w.heap.size w wr) (fun i _ => n - (intOf i).toNat)
  case atStart => exact ⟨0, Nat.zero_le _, rfl, Below.refl _ _⟩
  case round =>
    obtain ⟨k, hk, rfl, bel⟩ := hrel
    by_cases hlt : k < n
    · obtain ⟨gm, o, s, rfl, hs, hat, _⟩ := (HR.out.below bel).at hlt
      have B1 := hide (fun W => badShard_any s W (HOK.out s hs))
      obtain ⟨ax, ay, bx, b_y, cx, cy, sr, sg, sb, ck⟩ := s
      obtain ⟨c0, c1, c2, c3, c4, c5, c6⟩ := hat
      simp only at B1 c0 c1 c2 c3 c4 c5 c6
      clear hs HR HOK
      go_wp2_with fail
      refine (B1.out _).mono ?_
      rintro e w2 ⟨rfl, nb⟩
      have bel := belowOf bel nb
      clear nb
      go_wp2_with fail
      go_roundw
      case rel => exact ⟨k + 1, by omega, by go_num, bel⟩
      case measure => simp [intOf]; omega
    · obtain rfl : k = n := by omega
      go_wp2_with fail
      go_ret
      exact ⟨rfl, bel⟩

set_option maxRecDepth 100000 in
set_option maxHeartbeats 2000000 in
theorem areShards_any (a : Option Addr) (n cap : Nat) (l : List Shd) (w : World) (hr : ReadsO w a n cap l) (hok : ∀ s ∈ l, ShOk s) (h12 : n ≤ 12) :
    Calls Try.prog 71 #[.slice a n cap] w fun e w' => e = .returned (.bool true) ∧ Below w.heap.size w w' := by
  have hI : ((n : Int) ≤ 12) := by omega
  have hB : decide ((n : Int) ≤ 12) = true := decide_eq_true hI
  have C1 : Calls Try.prog 84 #[.slice a n cap, .func (.func 85) #[] #[]] w fun e w' => e = .returned (.bool false) ∧ Below w.heap.size w w' := by
    have HX := hide (indexBad_any a n cap l w hr hok)
    clear hr hok hI hB h12
    go_enter Try.func84, Try.ntmps84
    go_wp2_with fail
    refine HX.out.mono ?_
    rintro e w1 ⟨rfl, nb⟩
    go_wp2_with fail
    go_ret
    exact ⟨rfl, nb⟩
  have HX := hide C1
  clear C1 hr hok
  go_enter Try.func71, Try.ntmps71
  go_wp2_with fail
  refine HX.out.mono ?_
  rintro e w1 ⟨rfl, nb⟩
  go_wp2_with fail
  go_ret
  exact ⟨rfl, nb⟩

/-- What holds at a round's head of SeenThrough. -/
structure LInv (w : World) (px py : Nat) (l : List Shd) (c : Col) (k xr xg xb : Nat) (wr : World) : Prop where
  l0 : wr.cell? ⟨w.heap.size, 0, none⟩ = some (.float .f32 xr)
  l1 : wr.cell? ⟨w.heap.size, 1, none⟩ = some (.float .f32 xg)
  l2 : wr.cell? ⟨w.heap.size, 2, none⟩ = some (.float .f32 xb)
  r0 : wr.cell? ⟨w.heap.size + 1, 0, none⟩ = some (.float .f32 0)
  r1 : wr.cell? ⟨w.heap.size + 1, 1, none⟩ = some (.float .f32 0)
  r2 : wr.cell? ⟨w.heap.size + 1, 2, none⟩ = some (.float .f32 0)
  lf : ∀ j, wr.frozen? ⟨w.heap.size, j, none⟩ = false
  rf : ∀ j, wr.frozen? ⟨w.heap.size + 1, j, none⟩ = false
  bel : Below w.heap.size w wr
  val : (⟨xr, xg, xb⟩ : Col) = glow px py (l.take k) c
  col : isCol xr xg xb = true

set_option maxRecDepth 100000 in
set_option maxHeartbeats 4000000 in
theorem seen_any (a : Option Addr) (n cap : Nat) (l : List Shd) (px py : Nat) (c : Col) (w : World) (hr : ReadsO w a n cap l) (hok : ∀ s ∈ l, ShOk s) (h12 : n ≤ 12) (hp : Pt px py) (hc : isCol c.r c.g c.b = true) :
    Calls Try.prog 38 #[.slice a n cap, .complex .f32 px py, .agg #[.float .f32 c.r, .float .f32 c.g, .float .f32 c.b]] w fun e w' => e = .returned (.agg #[.float .f32 (glow px py l c).r, .float .f32 (glow px py l c).g, .float .f32 (glow px py l c).b]) ∧ Below w.heap.size w w' := by
  have hm := hr.2.1
  unfold maxLen at hm
  have HR := hide hr
  have HOK := hide hok
  have HPT := hide hp
  have HC := hide hc
  have HLEN := hide hr.1
  have A1 := hide (fun W (hb : Below w.heap.size w W) => areShards_any a n cap l W (hr.below hb) hok h12)
  have I1 := hide (fun W => isColourY hc W)
  have P1 := hide (fun W => isPoint_y px py W hp)
  clear hr hok hp hc
  obtain ⟨cr, cg, cb⟩ := c
  simp only at HC I1 ⊢
  have kl : w.heap.size ≤ w.heap.size := Nat.le_refl _
  have kr : w.heap.size ≤ w.heap.size + 1 := Nat.le_succ _
  go_enter Try.func38, Try.ntmps38
  go_wp2_with fail
  have lf : ∀ j, (((w.alloc (.cells #[.float .f32 cr, .float .f32 cg, .float .f32 cb] 41)).alloc (.cells #[.float .f32 0, .float .f32 0, .float .f32 0] 41))).frozen? ⟨w.heap.size, j, none⟩ = false := fun j => by go_simp
  have rf : ∀ j, (((w.alloc (.cells #[.float .f32 cr, .float .f32 cg, .float .f32 cb] 41)).alloc (.cells #[.float .f32 0, .float .f32 0, .float .f32 0] 41))).frozen? ⟨w.heap.size + 1, j, none⟩ = false := fun j => by go_simp
  have l0 : (((w.alloc (.cells #[.float .f32 cr, .float .f32 cg, .float .f32 cb] 41)).alloc (.cells #[.float .f32 0, .float .f32 0, .float .f32 0] 41))).cell? ⟨w.heap.size, 0, none⟩ = some (.float .f32 cr) := by go_simp
  have l1 : (((w.alloc (.cells #[.float .f32 cr, .float .f32 cg, .float .f32 cb] 41)).alloc (.cells #[.float .f32 0, .float .f32 0, .float .f32 0] 41))).cell? ⟨w.heap.size, 1, none⟩ = some (.float .f32 cg) := by go_simp
  have l2 : (((w.alloc (.cells #[.float .f32 cr, .float .f32 cg, .float .f32 cb] 41)).alloc (.cells #[.float .f32 0, .float .f32 0, .float .f32 0] 41))).cell? ⟨w.heap.size, 2, none⟩ = some (.float .f32 cb) := by go_simp
  have r0 : (((w.alloc (.cells #[.float .f32 cr, .float .f32 cg, .float .f32 cb] 41)).alloc (.cells #[.float .f32 0, .float .f32 0, .float .f32 0] 41))).cell? ⟨w.heap.size + 1, 0, none⟩ = some (.float .f32 0) := by go_simp
  have r1 : (((w.alloc (.cells #[.float .f32 cr, .float .f32 cg, .float .f32 cb] 41)).alloc (.cells #[.float .f32 0, .float .f32 0, .float .f32 0] 41))).cell? ⟨w.heap.size + 1, 1, none⟩ = some (.float .f32 0) := by go_simp
  have r2 : (((w.alloc (.cells #[.float .f32 cr, .float .f32 cg, .float .f32 cb] 41)).alloc (.cells #[.float .f32 0, .float .f32 0, .float .f32 0] 41))).cell? ⟨w.heap.size + 1, 2, none⟩ = some (.float .f32 0) := by go_simp
  have bel : Below w.heap.size w (((w.alloc (.cells #[.float .f32 cr, .float .f32 cg, .float .f32 cb] 41)).alloc (.cells #[.float .f32 0, .float .f32 0, .float .f32 0] 41))) := (by repeat (first | exact Below.refl _ _ | assumption | refine Below.drew ?_ | refine Below.setCell ?_ (by first | (dsimp only; omega) | (simp; omega) | simp) _ | refine Below.alloc ?_ (by first | omega | (simp; omega) | simp) _))
  generalize ((w.alloc (.cells #[.float .f32 cr, .float .f32 cg, .float .f32 cb] 41)).alloc (.cells #[.float .f32 0, .float .f32 0, .float .f32 0] 41)) = wA at lf rf l0 l1 l2 r0 r1 r2 bel ⊢
  have hswA := bel.size
  have hlt : w.heap.size + 1 < wA.heap.size := World.block_lt_of_cell? wA _ r0
  refine (A1.out _ bel).mono ?_
  rintro e w1 ⟨rfl, nb⟩
  have l0 := keepc nb l0
  have l1 := keepc nb l1
  have l2 := keepc nb l2
  have r0 := keepc nb r0
  have r1 := keepc nb r1
  have r2 := keepc nb r2
  have lf := fun j => (nb.frozen (p := ⟨w.heap.size, j, none⟩) (show w.heap.size < _ by omega)).trans (lf j)
  have rf := fun j => (nb.frozen (p := ⟨w.heap.size + 1, j, none⟩) (show w.heap.size + 1 < _ by omega)).trans (rf j)
  have hlt : w.heap.size + 1 < w1.heap.size := Nat.lt_of_lt_of_le hlt nb.size
  have bel := belowOf bel nb
  clear nb
  go_wp2_with fail
  refine (P1.out _).mono ?_
  rintro e w' ⟨rfl, rfl⟩
  go_wp2_with fail
  refine (I1.out _).mono ?_
  rintro e w2 ⟨rfl, nb⟩
  have l0 := keepc nb l0
  have l1 := keepc nb l1
  have l2 := keepc nb l2
  have r0 := keepc nb r0
  have r1 := keepc nb r1
  have r2 := keepc nb r2
  have lf := fun j => (nb.frozen (p := ⟨w.heap.size, j, none⟩) (show w.heap.size < _ by omega)).trans (lf j)
  have rf := fun j => (nb.frozen (p := ⟨w.heap.size + 1, j, none⟩) (show w.heap.size + 1 < _ by omega)).trans (rf j)
  have hlt : w.heap.size + 1 < w2.heap.size := Nat.lt_of_lt_of_le hlt nb.size
  have bel := belowOf bel nb
  clear nb
  go_wp2_with fail
  have hi0 : LInv w px py l ⟨cr, cg, cb⟩ 0 cr cg cb w2 := ⟨l0, l1, l2, r0, r1, r2, lf, rf, bel, rfl, HC.out⟩
  clear l0 l1 l2 r0 r1 r2 lf rf bel hlt A1 I1 P1 HC
  go_loopw [25] (fun i wr => ∃ (k xr xg xb : Nat), k ≤ n ∧ i = .int .i64 k ∧ LInv w px py l ⟨cr, cg, cb⟩ k xr xg xb wr) (fun i _ => n - (intOf i).toNat)
  case atStart => exact ⟨0, cr, cg, cb, Nat.zero_le _, rfl, hi0⟩
  case round =>
    clear hi0
    obtain ⟨k, xr, xg, xb, hk, rfl, hv⟩ := hrel
    obtain ⟨l0, l1, l2, r0, r1, r2, lf, rf, bel, hval, hcol⟩ := hv
    have hq : w.heap.size + 1 < wr.heap.size := World.block_lt_of_cell? wr _ r0
    by_cases hlt : k < n
    · obtain ⟨gm, o, s, rfl, hs, hat, hget⟩ := (HR.out.below bel).at hlt
      have hsok := HOK.out s hs
      have L1 := hide (fun W => lies_any s px py W hsok HPT.out)
      have F1 := hide (fun W => filterY hcol hsok.col W)
      obtain ⟨q1, q2, q3⟩ := isCol_parts hcol
      obtain ⟨p1, p2, p3⟩ := isCol_parts hsok.col
      have hcf := isColMk (part_times q1 p1) (part_times q2 p2) (part_times q3 p3)
      have M1 := hide (fun W => mixY (k := s.k) hcf hcol hsok.clear W)
      have HV := hide (show (shine px py ⟨xr, xg, xb⟩ s) = glow px py (l.take (k + 1)) ⟨cr, cg, cb⟩ by rw [List.take_add_one, hget]; rw [show (some s).toList = [s] from rfl, glow_snoc, ← hval])
      have HCN := hide (shine_col (px := px) (py := py) (c := ⟨xr, xg, xb⟩) hcol hsok)
      unfold shine at HV HCN
      clear q1 q2 q3 p1 p2 p3 hcf hval hcol hsok hs hget HPT HOK HLEN
      cases hl : liesW s px py
      all_goals
        rw [hl] at L1 HV HCN
        clear hl
        obtain ⟨ax, ay, bx, b_y, cx, cy, sr, sg, sb, ck⟩ := s
        obtain ⟨c0, c1, c2, c3, c4, c5, c6⟩ := hat
        simp only at L1 F1 M1 HV HCN c0 c1 c2 c3 c4 c5 c6
        go_upto_region 6 with fail
        have hq0 : w.heap.size < wr.heap.size := by omega
        have lf : ∀ j, ((wr.alloc (.cells #[.complex .f32 ax ay, .complex .f32 bx b_y, .complex .f32 cx cy, .float .f32 sr, .float .f32 sg, .float .f32 sb, .float .f32 ck] 56))).frozen? ⟨w.heap.size, j, none⟩ = false := fun j => by go_simp
        have rf : ∀ j, ((wr.alloc (.cells #[.complex .f32 ax ay, .complex .f32 bx b_y, .complex .f32 cx cy, .float .f32 sr, .float .f32 sg, .float .f32 sb, .float .f32 ck] 56))).frozen? ⟨w.heap.size + 1, j, none⟩ = false := fun j => by go_simp
        have l0 : ((wr.alloc (.cells #[.complex .f32 ax ay, .complex .f32 bx b_y, .complex .f32 cx cy, .float .f32 sr, .float .f32 sg, .float .f32 sb, .float .f32 ck] 56))).cell? ⟨w.heap.size, 0, none⟩ = some (.float .f32 xr) := by go_simp
        have l1 : ((wr.alloc (.cells #[.complex .f32 ax ay, .complex .f32 bx b_y, .complex .f32 cx cy, .float .f32 sr, .float .f32 sg, .float .f32 sb, .float .f32 ck] 56))).cell? ⟨w.heap.size, 1, none⟩ = some (.float .f32 xg) := by go_simp
        have l2 : ((wr.alloc (.cells #[.complex .f32 ax ay, .complex .f32 bx b_y, .complex .f32 cx cy, .float .f32 sr, .float .f32 sg, .float .f32 sb, .float .f32 ck] 56))).cell? ⟨w.heap.size, 2, none⟩ = some (.float .f32 xb) := by go_simp
        have r0 : ((wr.alloc (.cells #[.complex .f32 ax ay, .complex .f32 bx b_y, .complex .f32 cx cy, .float .f32 sr, .float .f32 sg, .float .f32 sb, .float .f32 ck] 56))).cell? ⟨w.heap.size + 1, 0, none⟩ = some (.float .f32 0) := by go_simp
        have r1 : ((wr.alloc (.cells #[.complex .f32 ax ay, .complex .f32 bx b_y, .complex .f32 cx cy, .float .f32 sr, .float .f32 sg, .float .f32 sb, .float .f32 ck] 56))).cell? ⟨w.heap.size + 1, 1, none⟩ = some (.float .f32 0) := by go_simp
        have r2 : ((wr.alloc (.cells #[.complex .f32 ax ay, .complex .f32 bx b_y, .complex .f32 cx cy, .float .f32 sr, .float .f32 sg, .float .f32 sb, .float .f32 ck] 56))).cell? ⟨w.heap.size + 1, 2, none⟩ = some (.float .f32 0) := by go_simp
        have s0 : ((wr.alloc (.cells #[.complex .f32 ax ay, .complex .f32 bx b_y, .complex .f32 cx cy, .float .f32 sr, .float .f32 sg, .float .f32 sb, .float .f32 ck] 56))).cell? ⟨wr.heap.size, 0, none⟩ = some (.complex .f32 ax ay) := by go_simp
        have s1 : ((wr.alloc (.cells #[.complex .f32 ax ay, .complex .f32 bx b_y, .complex .f32 cx cy, .float .f32 sr, .float .f32 sg, .float .f32 sb, .float .f32 ck] 56))).cell? ⟨wr.heap.size, 1, none⟩ = some (.complex .f32 bx b_y) := by go_simp
        have s2 : ((wr.alloc (.cells #[.complex .f32 ax ay, .complex .f32 bx b_y, .complex .f32 cx cy, .float .f32 sr, .float .f32 sg, .float .f32 sb, .float .f32 ck] 56))).cell? ⟨wr.heap.size, 2, none⟩ = some (.complex .f32 cx cy) := by go_simp
        have s3 : ((wr.alloc (.cells #[.complex .f32 ax ay, .complex .f32 bx b_y, .complex .f32 cx cy, .float .f32 sr, .float .f32 sg, .float .f32 sb, .float .f32 ck] 56))).cell? ⟨wr.heap.size, 3, none⟩ = some (.float .f32 sr) := by go_simp
        have s4 : ((wr.alloc (.cells #[.complex .f32 ax ay, .complex .f32 bx b_y, .complex .f32 cx cy, .float .f32 sr, .float .f32 sg, .float .f32 sb, .float .f32 ck] 56))).cell? ⟨wr.heap.size, 4, none⟩ = some (.float .f32 sg) := by go_simp
        have s5 : ((wr.alloc (.cells #[.complex .f32 ax ay, .complex .f32 bx b_y, .complex .f32 cx cy, .float .f32 sr, .float .f32 sg, .float .f32 sb, .float .f32 ck] 56))).cell? ⟨wr.heap.size, 5, none⟩ = some (.float .f32 sb) := by go_simp
        have s6 : ((wr.alloc (.cells #[.complex .f32 ax ay, .complex .f32 bx b_y, .complex .f32 cx cy, .float .f32 sr, .float .f32 sg, .float .f32 sb, .float .f32 ck] 56))).cell? ⟨wr.heap.size, 6, none⟩ = some (.float .f32 ck) := by go_simp
        have bel : Below w.heap.size w ((wr.alloc (.cells #[.complex .f32 ax ay, .complex .f32 bx b_y, .complex .f32 cx cy, .float .f32 sr, .float .f32 sg, .float .f32 sb, .float .f32 ck] 56))) := bel.alloc bel.size _
        generalize (wr.alloc (.cells #[.complex .f32 ax ay, .complex .f32 bx b_y, .complex .f32 cx cy, .float .f32 sr, .float .f32 sg, .float .f32 sb, .float .f32 ck] 56)) = wB at lf rf l0 l1 l2 r0 r1 r2 s0 s1 s2 s3 s4 s5 s6 bel ⊢
        have hswB := bel.size
        have hlt : w.heap.size + 1 < wB.heap.size := World.block_lt_of_cell? wB _ r0
        clear c0 c1 c2 c3 c4 c5 c6
        go_wp2_with fail
        refine (L1.out _).mono ?_
        rintro e w3 ⟨rfl, nb⟩
        have l0 := keepc nb l0
        have l1 := keepc nb l1
        have l2 := keepc nb l2
        have r0 := keepc nb r0
        have r1 := keepc nb r1
        have r2 := keepc nb r2
        have s0 := keepc nb s0
        have s1 := keepc nb s1
        have s2 := keepc nb s2
        have s3 := keepc nb s3
        have s4 := keepc nb s4
        have s5 := keepc nb s5
        have s6 := keepc nb s6
        have lf := fun j => (nb.frozen (p := ⟨w.heap.size, j, none⟩) (show w.heap.size < _ by omega)).trans (lf j)
        have rf := fun j => (nb.frozen (p := ⟨w.heap.size + 1, j, none⟩) (show w.heap.size + 1 < _ by omega)).trans (rf j)
        have hlt : w.heap.size + 1 < w3.heap.size := Nat.lt_of_lt_of_le hlt nb.size
        have bel := belowOf bel nb
        clear nb
      · simp only [if_false, Bool.false_eq_true] at HV HCN
        go_wp2_with fail
        go_roundw
        case rel => exact ⟨k + 1, xr, xg, xb, by omega, by go_num, ⟨l0, l1, l2, r0, r1, r2, lf, rf, bel, HV.out, HCN.out⟩⟩
        case measure => simp [intOf]; omega
      · simp only [if_true] at HV HCN
        unfold shine1 at HV HCN
        generalize mixF ck (timesF xr sr) xr = yr at M1 HV HCN
        generalize mixF ck (timesF xg sg) xg = yg at M1 HV HCN
        generalize mixF ck (timesF xb sb) xb = yb at M1 HV HCN
        generalize timesF xr sr = zr at F1 M1
        generalize timesF xg sg = zg at F1 M1
        generalize timesF xb sb = zb at F1 M1
        go_upto_region 7 with fail
        have C1 := regC (w := w3) F1.out
        have C2 := regC (w := w3) M1.out
        have k_l0 := cell_regrown l0
        have k_l1 := cell_regrown l1
        have k_l2 := cell_regrown l2
        have k_s0 := cell_regrown s0
        have k_s1 := cell_regrown s1
        have k_s2 := cell_regrown s2
        have k_s3 := cell_regrown s3
        have k_s4 := cell_regrown s4
        have k_s5 := cell_regrown s5
        have k_s6 := cell_regrown s6
        refine wp_region_below_tail 8 (by kernel_rfl) (by kernel_rfl) ?_
        simp only [List.take_succ_cons, List.take_zero, List.drop_succ_cons, List.drop_zero]
        repeat (go_big_quiet_step (first | (with_reducible exact C1 _ _) | (with_reducible exact C2 _ _)))
        refine wpQuiet_nil ?_
        intro w4 nb
        clear k_l0 k_l1 k_l2 k_s0 k_s1 k_s2 k_s3 k_s4 k_s5 k_s6
        have l0 := keepc nb l0
        have l1 := keepc nb l1
        have l2 := keepc nb l2
        have r0 := keepc nb r0
        have r1 := keepc nb r1
        have r2 := keepc nb r2
        have lf := fun j => (nb.frozen (p := ⟨w.heap.size, j, none⟩) (show w.heap.size < _ by omega)).trans (lf j)
        have rf := fun j => (nb.frozen (p := ⟨w.heap.size + 1, j, none⟩) (show w.heap.size + 1 < _ by omega)).trans (rf j)
        have hlt : w.heap.size + 1 < w4.heap.size := Nat.lt_of_lt_of_le hlt nb.size
        have bel := belowOf bel nb
        clear nb
        clear C1 C2
        have hn : LInv w px py l ⟨cr, cg, cb⟩ (k + 1) yr yg yb (((w4.setCell ⟨w.heap.size, 0, none⟩ (.float .f32 yr)).setCell ⟨w.heap.size, 1, none⟩ (.float .f32 yg)).setCell ⟨w.heap.size, 2, none⟩ (.float .f32 yb)) :=
          ⟨by go_simp, by go_simp, by go_simp, by go_simp, by go_simp, by go_simp, fun j => by go_simp, fun j => by go_simp, ((bel.setCell (Nat.le_refl _) _).setCell (Nat.le_refl _) _).setCell (Nat.le_refl _) _, HV.out, HCN.out⟩
        go_wp2_with fail
        go_roundw
        case rel => exact ⟨k + 1, yr, yg, yb, by omega, by go_num, hn⟩
        case measure => simp [intOf]; omega
    · obtain rfl : k = n := by omega
      have hall : l.take k = l := List.take_of_length_le (by rw [HLEN.out]; exact Nat.le_refl _)
      rw [hall] at hval
      have HV := hide hval
      clear hval hcol HR HOK
      go_wp2_with fail
      exact bodyPost_ret (v := .agg #[.float .f32 xr, .float .f32 xg, .float .f32 xb]) (by simp [results, Try.results38, go_sem, r0, r1, r2]) rfl ⟨by rw [← HV.out], ((bel.setCell kr _).setCell kr _).setCell kr _⟩

end Go.Proofs.Ytgafdkaiiajieaa
