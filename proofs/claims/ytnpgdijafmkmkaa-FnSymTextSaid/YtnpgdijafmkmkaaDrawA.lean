/- What l1Int, l1Str, l1Odd and l1Sym draw: some number, some text, some symmetry, whatever the code. Condition: the cursor reads its code. -/
import Derived.Test.YtnpgdijafmkmkaaDraw
import Derived.Test.YtnpgdijafmkmkaaFmt
namespace Go.Proofs.Ytnpgdijafmkmkaa
open Go.RowKit

def RetInt (w0 w : World) (p : Nat) (a : Option Addr) (len cap : Nat) (e : Ending) (w' : World) : Prop :=
  ∃ x : Int, e = .returned (.int .i64 x) ∧ CurAt w0 w' p a len cap ∧ w.grownBy w' (some p)

set_option maxHeartbeats 1000000 in
theorem l1Int_any (w0 w : World) (p : Nat) (a : Option Addr) (len cap : Nat) (g m cp : Nat) (c : CurAt w0 w p a len cap) (hm : 0 < m) (hm2 : m ≤ 1000) (hc : ∀ j, j < m → ∃ x : Int, w.cell? ⟨g, j, none⟩ = some (.int .i64 x)) (hne : g ≠ p) :
    Calls Try.prog 65 #[.pointer (some ⟨p, 0, none⟩), .slice (some ⟨g, 0, none⟩) m cp] w (RetInt w0 w p a len cap) := by
  have HC := hide hc
  clear hc
  go_enter Try.func65, Try.ntmps65
  go_wp2_with fail
  refine (l1Below_any w0 _ p a len cap m c (by omega) (by omega)).mono ?_
  rintro e w1 ⟨x, rfl, x0, x1, c1, g1⟩
  obtain ⟨k, rfl⟩ := Int.eq_ofNat_of_zero_le x0
  obtain ⟨y, hy⟩ := HC.out k (by omega)
  have hy1 := keepg g1 hy hne
  have hk : (k : Int) < (m : Int) := x1
  go_wp2_with fail
  go_ret
  exact ⟨y, rfl, c1, g1⟩

def RetStr (w0 w : World) (p : Nat) (a : Option Addr) (len cap : Nat) (e : Ending) (w' : World) : Prop :=
  ∃ x : ByteArray, e = .returned (.string x) ∧ CurAt w0 w' p a len cap ∧ w.grownBy w' (some p)

set_option maxHeartbeats 1000000 in
theorem l1Str_any (w0 w : World) (p : Nat) (a : Option Addr) (len cap : Nat) (g m cp : Nat) (c : CurAt w0 w p a len cap) (hm : 0 < m) (hm2 : m ≤ 1000) (hc : ∀ j, j < m → ∃ x : ByteArray, w.cell? ⟨g, j, none⟩ = some (.string x)) (hne : g ≠ p) :
    Calls Try.prog 56 #[.pointer (some ⟨p, 0, none⟩), .slice (some ⟨g, 0, none⟩) m cp] w (RetStr w0 w p a len cap) := by
  have HC := hide hc
  clear hc
  go_enter Try.func56, Try.ntmps56
  go_wp2_with fail
  refine (l1Below_any w0 _ p a len cap m c (by omega) (by omega)).mono ?_
  rintro e w1 ⟨x, rfl, x0, x1, c1, g1⟩
  obtain ⟨k, rfl⟩ := Int.eq_ofNat_of_zero_le x0
  obtain ⟨y, hy⟩ := HC.out k (by omega)
  have hy1 := keepg g1 hy hne
  have hk : (k : Int) < (m : Int) := x1
  go_wp2_with fail
  go_ret
  exact ⟨y, rfl, c1, g1⟩

set_option maxRecDepth 100000 in
set_option maxHeartbeats 1000000 in
theorem l1Odd_any (w0 w : World) (p : Nat) (a : Option Addr) (len cap : Nat) (c : CurAt w0 w p a len cap) :
    Calls Try.prog 62 #[.pointer (some ⟨p, 0, none⟩)] w (RetInt w0 w p a len cap) := by
  have hp : p < w.heap.size := by
    obtain ⟨H, hh⟩ := c.h
    exact World.block_lt_of_cell? w _ hh
  go_enter Try.func62, Try.ntmps62
  go_wp2_with fail
  refine (l1Int_any w0 _ p a len cap w.heap.size 20 20 (c.below ((Below.refl _ _).alloc (Nat.le_refl _) _)) (by omega) (by omega) ?_ (by omega)).mono ?_
  · intro j hj
    match j, hj with
    | 0, _ => exact ⟨_, by go_simp; rfl⟩
    | 1, _ => exact ⟨_, by go_simp; rfl⟩
    | 2, _ => exact ⟨_, by go_simp; rfl⟩
    | 3, _ => exact ⟨_, by go_simp; rfl⟩
    | 4, _ => exact ⟨_, by go_simp; rfl⟩
    | 5, _ => exact ⟨_, by go_simp; rfl⟩
    | 6, _ => exact ⟨_, by go_simp; rfl⟩
    | 7, _ => exact ⟨_, by go_simp; rfl⟩
    | 8, _ => exact ⟨_, by go_simp; rfl⟩
    | 9, _ => exact ⟨_, by go_simp; rfl⟩
    | 10, _ => exact ⟨_, by go_simp; rfl⟩
    | 11, _ => exact ⟨_, by go_simp; rfl⟩
    | 12, _ => exact ⟨_, by go_simp; rfl⟩
    | 13, _ => exact ⟨_, by go_simp; rfl⟩
    | 14, _ => exact ⟨_, by go_simp; rfl⟩
    | 15, _ => exact ⟨_, by go_simp; rfl⟩
    | 16, _ => exact ⟨_, by go_simp; rfl⟩
    | 17, _ => exact ⟨_, by go_simp; rfl⟩
    | 18, _ => exact ⟨_, by go_simp; rfl⟩
    | 19, _ => exact ⟨_, by go_simp; rfl⟩
    | n + 20, h => exact absurd h (by omega)
  rintro e w1 ⟨x, rfl, c1, g1⟩
  go_wp2_with fail
  go_ret
  exact ⟨x, rfl, c1, grown_trans (grown_below ((Below.refl _ _).alloc (Nat.le_refl _) _)) g1⟩

def RetSym (w0 w : World) (p : Nat) (a : Option Addr) (len cap : Nat) (e : Ending) (w' : World) : Prop :=
  ∃ (t : Int) (f : Bool), e = .returned (.agg #[.int .i64 t, .bool f]) ∧ CurAt w0 w' p a len cap ∧ w.grownBy w' (some p)

set_option maxHeartbeats 1000000 in
theorem l1Sym_any (w0 w : World) (p : Nat) (a : Option Addr) (len cap : Nat) (c : CurAt w0 w p a len cap) :
    Calls Try.prog 53 #[.pointer (some ⟨p, 0, none⟩)] w (RetSym w0 w p a len cap) := by
  have hp : p < w.heap.size := by
    obtain ⟨H, hh⟩ := c.h
    exact World.block_lt_of_cell? w _ hh
  go_enter Try.func53, Try.ntmps53
  go_wp2_with fail
  refine (l1Below_any w0 _ p a len cap 4 (c.below ((Below.refl _ _).alloc (Nat.le_refl _) _)) (by omega) (by omega)).mono ?_
  rintro e w1 ⟨t, rfl, t0, t1, c1, g1⟩
  go_wp2_with fail
  refine (l1Once_any w0 _ p a len cap 2 c1 (by omega) (by omega)).mono ?_
  rintro e w2 ⟨f, rfl, c2, g2⟩
  go_wp2_with fail
  have z1 : w.heap.size < w1.heap.size := by have := g1.size; simp at this; omega
  have z2 : w.heap.size < w2.heap.size := by have := g2.size; omega
  have r0 : w2.cell? ⟨w.heap.size, 0, none⟩ = some (.int .i64 0) := keepg g2 (keepg g1 (by go_simp) (by show w.heap.size ≠ p; omega)) (by show w.heap.size ≠ p; omega)
  have r1 : w2.cell? ⟨w.heap.size, 1, none⟩ = some (.bool false) := keepg g2 (keepg g1 (by go_simp) (by show w.heap.size ≠ p; omega)) (by show w.heap.size ≠ p; omega)
  have rf : ∀ j, w2.frozen? ⟨w.heap.size, j, none⟩ = false := fun j => keepgf g2 (keepgf g1 (by go_simp) (by simp) (by show w.heap.size ≠ p; omega)) z1 (by show w.heap.size ≠ p; omega)
  have gA : w.grownBy (w2.alloc (.cells #[.int .i64 t, .bool f] 26)) (some p) := grown_trans (grown_trans (grown_trans (grown_below ((Below.refl _ _).alloc (Nat.le_refl _) _)) g1) g2) (grown_below ((Below.refl _ _).alloc (Nat.le_refl _) _))
  have r0 : (w2.alloc (.cells #[.int .i64 t, .bool f] 26)).cell? ⟨w.heap.size, 0, none⟩ = some (.int .i64 0) := keepc ((Below.refl _ _).alloc (Nat.le_refl _) _) r0
  have r1 : (w2.alloc (.cells #[.int .i64 t, .bool f] 26)).cell? ⟨w.heap.size, 1, none⟩ = some (.bool false) := keepc ((Below.refl _ _).alloc (Nat.le_refl _) _) r1
  have rf : ∀ j, (w2.alloc (.cells #[.int .i64 t, .bool f] 26)).frozen? ⟨w.heap.size, j, none⟩ = false := fun j => (((Below.refl _ _).alloc (Nat.le_refl _) _).frozen (p := ⟨w.heap.size, j, none⟩) z2).trans (rf j)
  have s0 : (w2.alloc (.cells #[.int .i64 t, .bool f] 26)).cell? ⟨w2.heap.size, 0, none⟩ = some (.int .i64 t) := by go_simp
  have s1 : (w2.alloc (.cells #[.int .i64 t, .bool f] 26)).cell? ⟨w2.heap.size, 1, none⟩ = some (.bool f) := by go_simp
  have sf : ∀ j, (w2.alloc (.cells #[.int .i64 t, .bool f] 26)).frozen? ⟨w2.heap.size, j, none⟩ = false := fun j => by go_simp
  have c3 := c2.below ((Below.refl w2.heap.size w2).alloc (Nat.le_refl _) (.cells #[.int .i64 t, .bool f] 26))
  have zA : w2.heap.size < (w2.alloc (.cells #[.int .i64 t, .bool f] 26)).heap.size := by simp
  generalize w2.alloc (.cells #[.int .i64 t, .bool f] 26) = wA at *
  refine (l1Once_any w0 _ p a len cap 14 c3 (by omega) (by omega)).mono ?_
  rintro e w4 ⟨o, rfl, c4, g4⟩
  have np : w.heap.size ≠ p := by omega
  have nq : w2.heap.size ≠ p := by omega
  have nr : ¬ w2.heap.size = w.heap.size := by omega
  have r0 := keepg g4 r0 np
  have r1 := keepg g4 r1 np
  have s0 := keepg g4 s0 nq
  have s1 := keepg g4 s1 nq
  have rf := fun j => keepgf g4 (rf j) (by show w.heap.size < _; omega) np
  have sf := fun j => keepgf g4 (sf j) zA nq
  have gB := grown_trans gA g4
  have h4 := g4.size
  cases o
  · go_wp2_with fail
    exact bodyPost_ret (v := .agg #[.int .i64 t, .bool f]) (by simp [results, Try.results53, go_sem, r0, r1]) rfl ⟨t, f, rfl, (c4.set hp).set hp, grown_setNew (grown_setNew gB (Nat.le_refl _)) (Nat.le_refl _)⟩
  · go_wp2_with fail
    refine (l1Odd_any w0 _ p a len cap c4).mono ?_
    rintro e w5 ⟨x, rfl, c5, g5⟩
    have r0 := keepg g5 r0 np
    have r1 := keepg g5 r1 np
    have s0 := keepg g5 s0 nq
    have s1 := keepg g5 s1 nq
    have rf := fun j => keepgf g5 (rf j) (by show w.heap.size < _; omega) np
    have sf := fun j => keepgf g5 (sf j) (by show w2.heap.size < _; omega) nq
    go_wp2_with fail
    exact bodyPost_ret (v := .agg #[.int .i64 x, .bool f]) (by simp [results, Try.results53, go_sem, r0, r1]) rfl ⟨x, f, rfl, ((c5.set (by omega)).set hp).set hp, grown_setNew (grown_setNew (grown_setNew (grown_trans gB g5) (by omega)) (Nat.le_refl _)) (Nat.le_refl _)⟩

/-- Some symmetry, drawn of a code. -/
def RetSomeSym (w : World) (e : Ending) (w' : World) : Prop := ∃ (t : Int) (f : Bool), e = .returned (.agg #[.int .i64 t, .bool f]) ∧ Below w.heap.size w w'

theorem cur_new (w X : World) (p : Nat) (a : Option Addr) (len cap : Nat) (H : Int) (hc : IsCode w a len) (hx : Below w.heap.size w X) (hp : X.heap.size = p) :
    CurAt w (X.alloc (.cells #[.slice a len cap, .int .i64 0, .int .i64 H] 73)) p a len cap := by
  subst hp
  exact ⟨hc, hx.alloc hx.size _, hx.size, by go_simp, ⟨0, Nat.zero_le _, by go_simp⟩, ⟨H, by go_simp⟩, fun j => by go_simp⟩

theorem isCode_below {w X : World} {a : Option Addr} {len : Nat} (hc : IsCode w a len) (hx : Below w.heap.size w X) : IsCode X a len := by
  refine ⟨hc.1, hc.2.imp id fun ⟨b, off, ha, h⟩ => ⟨b, off, ha, fun i hi => ?_⟩⟩
  obtain ⟨n, h1, h2⟩ := h i hi
  exact ⟨n, keepc hx h1, h2⟩

set_option maxHeartbeats 1000000 in
theorem drawFormatSym_any (w : World) (a : Option Addr) (len cap : Nat) (hc : IsCode w a len) :
    Calls Try.prog 37 #[.slice a len cap] w (RetSomeSym w) := by
  have HC := hide hc
  clear hc
  go_enter Try.func37, Try.ntmps37
  go_wp2_with fail
  have bA : Below w.heap.size w (w.alloc (.cells #[.int .i64 0, .bool false] 26)) := (Below.refl _ _).alloc (Nat.le_refl _) _
  refine (l1New_any a len cap _ (isCode_below HC.out bA)).mono ?_
  rintro e w1 ⟨rfl, H, rfl⟩
  go_wp2_with fail
  have c1 := cur_new w _ (w.heap.size + 1) a len cap H HC.out bA (by simp)
  refine (l1Sym_any w _ _ a len cap c1).mono ?_
  rintro e w2 ⟨t, f, rfl, c2, g2⟩
  have r0 : w2.cell? ⟨w.heap.size, 0, none⟩ = some (.int .i64 0) := keepg g2 (by go_simp) (by simp)
  have r1 : w2.cell? ⟨w.heap.size, 1, none⟩ = some (.bool false) := keepg g2 (by go_simp) (by simp)
  have rf : ∀ j, w2.frozen? ⟨w.heap.size, j, none⟩ = false := fun j => keepgf g2 (by go_simp) (by simp; omega) (by simp)
  have bel := c2.bel
  go_wp2_with fail
  exact bodyPost_ret (v := .agg #[.int .i64 t, .bool f]) (by simp [results, Try.results37, go_sem, r0, r1]) rfl ⟨t, f, rfl, (by repeat (first | exact Below.refl _ _ | assumption | refine Below.drew ?_ | refine Below.setCell ?_ (by first | (dsimp only; omega) | (simp; omega) | simp) _ | refine Below.alloc ?_ (by first | omega | (simp; omega) | simp) _))⟩

/-- Some text, drawn of a code. -/
def RetSomeStr (w : World) (e : Ending) (w' : World) : Prop := ∃ s : ByteArray, e = .returned (.string s) ∧ Below w.heap.size w w'

set_option maxRecDepth 100000 in
set_option maxHeartbeats 1000000 in
theorem drawParseSym_any (w : World) (a : Option Addr) (len cap : Nat) (hc : IsCode w a len) :
    Calls Try.prog 38 #[.slice a len cap] w (RetSomeStr w) := by
  have HC := hide hc
  clear hc
  go_enter Try.func38, Try.ntmps38
  go_wp2_with fail
  refine (l1New_any a len cap _ HC.out).mono ?_
  rintro e w1 ⟨rfl, H, rfl⟩
  have c1 := cur_new w w w.heap.size a len cap H HC.out (Below.refl _ _) rfl
  go_wp2_with fail
  refine (l1Once_any w _ _ a len cap 3 c1 (by omega) (by omega)).mono ?_
  rintro e w2 ⟨o, rfl, c2, g2⟩
  have hp2 : w.heap.size < w2.heap.size := by have := g2.size; simp at this; omega
  cases o
  · go_wp2_with fail
    refine (l1Sym_any w _ _ a len cap c2).mono ?_
    rintro e w3 ⟨t, f, rfl, c3, g3⟩
    go_wp2_with fail
    refine (sFormatSym_any _ _ _).mono ?_
    rintro e w4 ⟨rfl, hb4⟩
    go_wp2_with fail
    go_ret
    exact ⟨_, rfl, c3.bel.trans (hb4.mono c3.bel.size)⟩
  · go_wp2_with fail
    refine (l1Str_any w _ _ a len cap w2.heap.size 9 9 (c2.below ((Below.refl _ _).alloc (Nat.le_refl _) _)) (by omega) (by omega) ?_ (by omega)).mono ?_
    · intro j hj
      match j, hj with
      | 0, _ => exact ⟨_, by go_simp; rfl⟩
      | 1, _ => exact ⟨_, by go_simp; rfl⟩
      | 2, _ => exact ⟨_, by go_simp; rfl⟩
      | 3, _ => exact ⟨_, by go_simp; rfl⟩
      | 4, _ => exact ⟨_, by go_simp; rfl⟩
      | 5, _ => exact ⟨_, by go_simp; rfl⟩
      | 6, _ => exact ⟨_, by go_simp; rfl⟩
      | 7, _ => exact ⟨_, by go_simp; rfl⟩
      | 8, _ => exact ⟨_, by go_simp; rfl⟩
      | n + 9, h => exact absurd h (by omega)
    rintro e w3 ⟨s, rfl, c3, g3⟩
    go_wp2_with fail
    go_ret
    exact ⟨s, rfl, c3.bel⟩

end Go.Proofs.Ytnpgdijafmkmkaa
