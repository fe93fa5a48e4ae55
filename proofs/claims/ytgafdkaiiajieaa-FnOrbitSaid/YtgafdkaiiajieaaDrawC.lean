/- What the reference draws of a code: parts, colours, two colours and a share: numbers from 0 to 1, whatever the code. Condition: the code is a slice of bytes that can be read. -/
import Derived.Test.YtgafdkaiiajieaaDraw
import Derived.Test.YtgafdkaiiajieaaCol
namespace Go.Proofs.Ytgafdkaiiajieaa
open Go.RowKit
open Fl

/-- n / 100 is a part. -/
def hundredth (n : Nat) : Bool := match floatBits .quo .f32 (floatOfInt .f32 n) 1120403456 with
  | some r => part r
  | none => false

theorem hundredths : ∀ n, n < 101 → hundredth n = true := by decide +kernel

theorem hundredth_some {n : Nat} (h : n < 101) : ∃ r, floatBits .quo .f32 (floatOfInt .f32 n) 1120403456 = some r ∧ part r = true := by
  have := hundredths n h
  unfold hundredth at this
  split at this
  · rename_i r hr; exact ⟨r, hr, this⟩
  · cases this

def RetPart (w0 w : World) (p : Nat) (a : Option Addr) (len cap : Nat) (e : Ending) (w' : World) : Prop :=
  ∃ x : Nat, e = .returned (.float .f32 x) ∧ part x = true ∧ CurAt w0 w' p a len cap ∧ w.grownBy w' (some p)

set_option maxRecDepth 100000 in
set_option maxHeartbeats 1000000 in
theorem l2One_any (w0 w : World) (p : Nat) (a : Option Addr) (len cap : Nat) (c : CurAt w0 w p a len cap) :
    Calls Try.prog 53 #[.pointer (some ⟨p, 0, none⟩)] w (RetPart w0 w p a len cap) := by
  have hp : p < w.heap.size := by
    obtain ⟨H, hh⟩ := c.h
    exact World.block_lt_of_cell? w _ hh
  go_enter Try.func53, Try.ntmps53
  go_wp2_with fail
  refine (l1Once_any w0 _ p a len cap 3 c (by omega) (by omega)).mono ?_
  rintro e w1 ⟨o, rfl, c1, g1⟩
  have h1 := g1.size
  cases o
  · go_wp2_with fail
    refine (l1Below_any w0 _ p a len cap 101 c1 (by omega) (by omega)).mono ?_
    rintro e w2 ⟨x, rfl, x0, x1, c2, g2⟩
    obtain ⟨n, rfl⟩ := Int.eq_ofNat_of_zero_le x0
    obtain ⟨r, hr, hpr⟩ := hundredth_some (show n < 101 by omega)
    have q := fun t w => run_ok (P := Try.prog) .quo t _ _ r hr w
    go_wp2_with fail
    go_ret
    exact ⟨r, rfl, hpr, c2, grown_trans g1 g2⟩
  · go_wp2_with fail
    refine (l1Below_any w0 _ p a len cap 4 (c1.below ((Below.refl _ _).alloc (Nat.le_refl _) _)) (by omega) (by omega)).mono ?_
    rintro e w2 ⟨x, rfl, x0, x1, c2, g2⟩
    obtain ⟨n, rfl⟩ := Int.eq_ofNat_of_zero_le x0
    have gg : w.grownBy w2 (some p) := grown_trans (grown_trans g1 (grown_below ((Below.refl _ _).alloc (Nat.le_refl _) _))) g2
    have hn : n = 0 ∨ n = 1 ∨ n = 2 ∨ n = 3 := by omega
    have np : w1.heap.size ≠ p := by omega
    have q0 := keepg g2 (show (w1.alloc (.cells #[.float .f32 0, .float .f32 1065353216, .float .f32 1056964608, .float .f32 1048576000] 39)).cell? ⟨w1.heap.size, 0, none⟩ = some (.float .f32 0) by go_simp) np
    have q1 := keepg g2 (show (w1.alloc (.cells #[.float .f32 0, .float .f32 1065353216, .float .f32 1056964608, .float .f32 1048576000] 39)).cell? ⟨w1.heap.size, 1, none⟩ = some (.float .f32 1065353216) by go_simp) np
    have q2 := keepg g2 (show (w1.alloc (.cells #[.float .f32 0, .float .f32 1065353216, .float .f32 1056964608, .float .f32 1048576000] 39)).cell? ⟨w1.heap.size, 2, none⟩ = some (.float .f32 1056964608) by go_simp) np
    have q3 := keepg g2 (show (w1.alloc (.cells #[.float .f32 0, .float .f32 1065353216, .float .f32 1056964608, .float .f32 1048576000] 39)).cell? ⟨w1.heap.size, 3, none⟩ = some (.float .f32 1048576000) by go_simp) np
    clear g2 x0 x1
    obtain ⟨v, hv, cv⟩ : ∃ v, part v = true ∧ w2.cell? ⟨w1.heap.size, n, none⟩ = some (.float .f32 v) := by
      rcases hn with rfl | rfl | rfl | rfl
      · exact ⟨_, by decide +kernel, q0⟩
      · exact ⟨_, by decide +kernel, q1⟩
      · exact ⟨_, by decide +kernel, q2⟩
      · exact ⟨_, by decide +kernel, q3⟩
    have hn4 : (n : Int) < 4 := by omega
    clear q0 q1 q2 q3 hn
    have HV := hide hv
    clear hv
    go_wp2_with fail
    go_ret
    exact ⟨v, rfl, HV.out, c2, gg⟩

def RetCol (w0 w : World) (p : Nat) (a : Option Addr) (len cap : Nat) (e : Ending) (w' : World) : Prop :=
  ∃ r g b : Nat, e = .returned (.agg #[.float .f32 r, .float .f32 g, .float .f32 b]) ∧ isCol r g b = true ∧ CurAt w0 w' p a len cap ∧ w.grownBy w' (some p)

set_option maxHeartbeats 1000000 in
theorem l2Draw_any (w0 w : World) (p : Nat) (a : Option Addr) (len cap : Nat) (c : CurAt w0 w p a len cap) :
    Calls Try.prog 52 #[.pointer (some ⟨p, 0, none⟩)] w (RetCol w0 w p a len cap) := by
  have hp : p < w.heap.size := by
    obtain ⟨H, hh⟩ := c.h
    exact World.block_lt_of_cell? w _ hh
  go_enter Try.func52, Try.ntmps52
  go_wp2_with fail
  have cA := c.below ((Below.refl w.heap.size w).alloc (Nat.le_refl _) (.cells #[.float .f32 0, .float .f32 0, .float .f32 0] 41))
  have gA : w.grownBy (w.alloc (.cells #[.float .f32 0, .float .f32 0, .float .f32 0] 41)) (some p) := grown_below ((Below.refl _ _).alloc (Nat.le_refl _) _)
  have c0 : (w.alloc (.cells #[.float .f32 0, .float .f32 0, .float .f32 0] 41)).cell? ⟨w.heap.size, 0, none⟩ = some (.float .f32 0) := by go_simp
  have c1 : (w.alloc (.cells #[.float .f32 0, .float .f32 0, .float .f32 0] 41)).cell? ⟨w.heap.size, 1, none⟩ = some (.float .f32 0) := by go_simp
  have c2 : (w.alloc (.cells #[.float .f32 0, .float .f32 0, .float .f32 0] 41)).cell? ⟨w.heap.size, 2, none⟩ = some (.float .f32 0) := by go_simp
  have cf : ∀ j, (w.alloc (.cells #[.float .f32 0, .float .f32 0, .float .f32 0] 41)).frozen? ⟨w.heap.size, j, none⟩ = false := fun j => by go_simp
  have zA : w.heap.size < (w.alloc (.cells #[.float .f32 0, .float .f32 0, .float .f32 0] 41)).heap.size := by simp
  generalize w.alloc (.cells #[.float .f32 0, .float .f32 0, .float .f32 0] 41) = wA at *
  have np : w.heap.size ≠ p := by omega
  refine (l2One_any w0 _ p a len cap cA).mono ?_
  rintro e w1 ⟨r, rfl, hr, d1, g1⟩
  have HR := hide hr
  clear hr
  go_wp2_with fail
  refine (l2One_any w0 _ p a len cap d1).mono ?_
  rintro e w2 ⟨g, rfl, hg, d2, g2⟩
  have HG := hide hg
  clear hg
  go_wp2_with fail
  refine (l2One_any w0 _ p a len cap d2).mono ?_
  rintro e w3 ⟨b, rfl, hb, d3, g3⟩
  have HB := hide hb
  clear hb
  have g123 := grown_trans g1 (grown_trans g2 g3)
  have c0 := keepg g123 c0 np
  have c1 := keepg g123 c1 np
  have c2 := keepg g123 c2 np
  have cf := fun j => keepgf g123 (cf j) zA np
  have gg := grown_trans gA g123
  clear g1 g2 g3 g123 d1 d2
  go_wp2_with fail
  exact bodyPost_ret (v := .agg #[.float .f32 r, .float .f32 g, .float .f32 b]) (by simp [results, Try.results52, go_sem, c0, c1, c2]) rfl ⟨r, g, b, rfl, by unfold isCol; rw [HR.out, HG.out, HB.out]; rfl, ((d3.set hp).set hp).set hp, grown_setNew (grown_setNew (grown_setNew gg (Nat.le_refl _)) (Nat.le_refl _)) (Nat.le_refl _)⟩

theorem frzB {w W : World} {b : Nat} (h : Below w.heap.size w W) (hb : b < w.heap.size) (hf : ∀ j, w.frozen? ⟨b, j, none⟩ = false) (j : Nat) : W.frozen? ⟨b, j, none⟩ = false :=
  (h.frozen (p := ⟨b, j, none⟩) hb).trans (hf j)

theorem cur_newC (w X : World) (p : Nat) (a : Option Addr) (len cap : Nat) (H : Int) (hc : IsCode w a len) (hx : Below w.heap.size w X) (hp : X.heap.size = p) :
    CurAt w (X.alloc (.cells #[.slice a len cap, .int .i64 0, .int .i64 H] 96)) p a len cap := by
  subst hp
  exact ⟨hc, hx.alloc hx.size _, hx.size, by go_simp, ⟨0, Nat.zero_le _, by go_simp⟩, ⟨H, by go_simp⟩, fun j => by go_simp⟩

theorem isCode_belowC {w X : World} {a : Option Addr} {len : Nat} (hc : IsCode w a len) (hx : Below w.heap.size w X) : IsCode X a len := by
  refine ⟨hc.1, hc.2.imp id fun ⟨b, off, ha, h⟩ => ⟨b, off, ha, fun i hi => ?_⟩⟩
  obtain ⟨n, h1, h2⟩ := h i hi
  exact ⟨n, keepc hx h1, h2⟩

/-- Two colours and a share. -/
def RetCols (w : World) (e : Ending) (w' : World) : Prop :=
  ∃ r g b r' g' b' k : Nat, e = .returned (.tuple #[.agg #[.float .f32 r, .float .f32 g, .float .f32 b], .agg #[.float .f32 r', .float .f32 g', .float .f32 b'], .float .f32 k]) ∧ isCol r g b = true ∧ isCol r' g' b' = true ∧ part k = true ∧ Below w.heap.size w w'

set_option maxHeartbeats 2000000 in
theorem drawColours_any (w : World) (a : Option Addr) (len cap : Nat) (hc : IsCode w a len) :
    Calls Try.prog 20 #[.slice a len cap] w (RetCols w) := by
  have HC := hide hc
  clear hc
  go_enter Try.func20, Try.ntmps20
  go_wp2_with fail
  have a0 : ((w.alloc (.cells #[.float .f32 0, .float .f32 0, .float .f32 0] 41)).alloc (.cells #[.float .f32 0, .float .f32 0, .float .f32 0] 41)).cell? ⟨w.heap.size, 0, none⟩ = some (.float .f32 0) := by go_simp
  have a1 : ((w.alloc (.cells #[.float .f32 0, .float .f32 0, .float .f32 0] 41)).alloc (.cells #[.float .f32 0, .float .f32 0, .float .f32 0] 41)).cell? ⟨w.heap.size, 1, none⟩ = some (.float .f32 0) := by go_simp
  have a2 : ((w.alloc (.cells #[.float .f32 0, .float .f32 0, .float .f32 0] 41)).alloc (.cells #[.float .f32 0, .float .f32 0, .float .f32 0] 41)).cell? ⟨w.heap.size, 2, none⟩ = some (.float .f32 0) := by go_simp
  have b0 : ((w.alloc (.cells #[.float .f32 0, .float .f32 0, .float .f32 0] 41)).alloc (.cells #[.float .f32 0, .float .f32 0, .float .f32 0] 41)).cell? ⟨w.heap.size + 1, 0, none⟩ = some (.float .f32 0) := by go_simp
  have b1 : ((w.alloc (.cells #[.float .f32 0, .float .f32 0, .float .f32 0] 41)).alloc (.cells #[.float .f32 0, .float .f32 0, .float .f32 0] 41)).cell? ⟨w.heap.size + 1, 1, none⟩ = some (.float .f32 0) := by go_simp
  have b2 : ((w.alloc (.cells #[.float .f32 0, .float .f32 0, .float .f32 0] 41)).alloc (.cells #[.float .f32 0, .float .f32 0, .float .f32 0] 41)).cell? ⟨w.heap.size + 1, 2, none⟩ = some (.float .f32 0) := by go_simp
  have af : ∀ j, ((w.alloc (.cells #[.float .f32 0, .float .f32 0, .float .f32 0] 41)).alloc (.cells #[.float .f32 0, .float .f32 0, .float .f32 0] 41)).frozen? ⟨w.heap.size, j, none⟩ = false := fun j => by go_simp
  have bf : ∀ j, ((w.alloc (.cells #[.float .f32 0, .float .f32 0, .float .f32 0] 41)).alloc (.cells #[.float .f32 0, .float .f32 0, .float .f32 0] 41)).frozen? ⟨w.heap.size + 1, j, none⟩ = false := fun j => by go_simp
  have bel : Below w.heap.size w ((w.alloc (.cells #[.float .f32 0, .float .f32 0, .float .f32 0] 41)).alloc (.cells #[.float .f32 0, .float .f32 0, .float .f32 0] 41)) := ((Below.refl _ _).alloc (Nat.le_refl _) _).alloc (by simp) _
  have z1 : w.heap.size + 1 < ((w.alloc (.cells #[.float .f32 0, .float .f32 0, .float .f32 0] 41)).alloc (.cells #[.float .f32 0, .float .f32 0, .float .f32 0] 41)).heap.size := by simp
  generalize ((w.alloc (.cells #[.float .f32 0, .float .f32 0, .float .f32 0] 41)).alloc (.cells #[.float .f32 0, .float .f32 0, .float .f32 0] 41)) = wA at *
  refine (l1New_any a len cap _ (isCode_belowC HC.out bel)).mono ?_
  rintro e w1 ⟨rfl, H, rfl⟩
  have c1 := cur_newC w wA wA.heap.size a len cap H HC.out bel rfl
  have nb : Below wA.heap.size wA (wA.alloc (.cells #[.slice a len cap, .int .i64 0, .int .i64 H] 96)) := (Below.refl _ _).alloc (Nat.le_refl _) _
  have a0 := keepc nb a0
  have a1 := keepc nb a1
  have a2 := keepc nb a2
  have b0 := keepc nb b0
  have b1 := keepc nb b1
  have b2 := keepc nb b2
  have af := frzB nb (by omega) af
  have bf := frzB nb z1 bf
  have z2 := nb.size
  generalize wA.alloc (.cells #[.slice a len cap, .int .i64 0, .int .i64 H] 96) = wB at *
  clear nb
  go_wp2_with fail
  refine (l2Draw_any w _ _ a len cap c1).mono ?_
  rintro e w2 ⟨r, g, b, rfl, hv, c2, g2⟩
  have HV := hide hv
  clear hv
  go_wp2_with fail
  refine (l2Draw_any w _ _ a len cap c2).mono ?_
  rintro e w3 ⟨r', g', b', rfl, hv', c3, g3⟩
  have HV' := hide hv'
  clear hv'
  go_wp2_with fail
  refine (l2One_any w _ _ a len cap c3).mono ?_
  rintro e w4 ⟨k, rfl, hk, c4, g4⟩
  have HK := hide hk
  clear hk
  have gg := grown_trans g2 (grown_trans g3 g4)
  have n0 : w.heap.size ≠ wA.heap.size := by omega
  have n1 : w.heap.size + 1 ≠ wA.heap.size := by omega
  have a0 := keepg gg a0 n0
  have a1 := keepg gg a1 n0
  have a2 := keepg gg a2 n0
  have b0 := keepg gg b0 n1
  have b1 := keepg gg b1 n1
  have b2 := keepg gg b2 n1
  have af := fun j => keepgf gg (af j) (by show w.heap.size < _; omega) n0
  have bf := fun j => keepgf gg (bf j) (by show w.heap.size + 1 < _; omega) n1
  have bel4 := c4.bel
  clear gg g2 g3 g4 c1 c2 c3
  have k0 : w.heap.size ≤ w.heap.size := Nat.le_refl _
  have k1 : w.heap.size ≤ w.heap.size + 1 := by omega
  go_wp2_with fail
  exact bodyPost_ret (v := .tuple #[.agg #[.float .f32 r, .float .f32 g, .float .f32 b], .agg #[.float .f32 r', .float .f32 g', .float .f32 b'], .float .f32 k]) (by simp [results, Try.results20, go_sem, a0, a1, a2, b0, b1, b2]) rfl ⟨r, g, b, r', g', b', k, rfl, HV.out, HV'.out, HK.out, ((((((bel4.setCell k0 _).setCell k0 _).setCell k0 _).setCell k1 _).setCell k1 _).setCell k1 _)⟩

end Go.Proofs.Ytgafdkaiiajieaa
