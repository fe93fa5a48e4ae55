/- What the reference draws of a code as a kind and a point. Condition: the code is a slice of bytes that can be read. -/
import Derived.Test.YtgafdkaiiajieaaFineP
import Derived.Test.YtgafdkaiiajieaaDrawC
namespace Go.Proofs.Ytgafdkaiiajieaa
open Go.RowKit
open Fl

/-- A number from lo to hi, of a draw. -/
def RetSome (w0 w : World) (p : Nat) (a : Option Addr) (len cap : Nat) (lo hi : Int) (e : Ending) (w' : World) : Prop :=
  ∃ x : Int, e = .returned (.int .i64 x) ∧ lo ≤ x ∧ x ≤ hi ∧ CurAt w0 w' p a len cap ∧ w.grownBy w' (some p)

set_option maxHeartbeats 1000000 in
theorem l1Some_any (w0 w : World) (p : Nat) (a : Option Addr) (len cap : Nat) (lo hi : Int) (c : CurAt w0 w p a len cap) (h1 : -100000 ≤ lo) (h2 : lo ≤ hi) (h3 : hi ≤ 100000) :
    Calls Try.prog 86 #[.pointer (some ⟨p, 0, none⟩), .int .i64 lo, .int .i64 hi] w (RetSome w0 w p a len cap lo hi) := by
  go_enter Try.func86, Try.ntmps86
  go_wp2_with fail
  refine (l1Below_any w0 _ p a len cap (hi - lo + 1) c (by omega) (by omega)).mono ?_
  rintro e w1 ⟨x, rfl, x0, x1, c1, g1⟩
  go_wp2_with fail
  go_ret
  exact ⟨lo + x, rfl, by omega, by omega, c1, g1⟩

/-- A number that the reference draws for points. -/
def RetFine (w0 w : World) (p : Nat) (a : Option Addr) (len cap : Nat) (e : Ending) (w' : World) : Prop :=
  ∃ r : Nat, e = .returned (.float .f32 r) ∧ (rch r = true ∧ r < 4294967296) ∧ (rch (Op.negFloat .f32 r) = true ∧ Op.negFloat .f32 r < 4294967296) ∧ CurAt w0 w' p a len cap ∧ w.grownBy w' (some p)

set_option maxHeartbeats 1000000 in
theorem l1Fine_any (w0 w : World) (p : Nat) (a : Option Addr) (len cap : Nat) (c : CurAt w0 w p a len cap) :
    Calls Try.prog 73 #[.pointer (some ⟨p, 0, none⟩)] w (RetFine w0 w p a len cap) := by
  have hp : p < w.heap.size := by
    obtain ⟨H, hh⟩ := c.h
    exact World.block_lt_of_cell? w _ hh
  go_enter Try.func73, Try.ntmps73
  go_wp2_with fail
  refine (l1Some_any w0 _ p a len cap (-640) 640 c (by omega) (by omega) (by omega)).mono ?_
  rintro e w1 ⟨x, rfl, x0, x1, c1, g1⟩
  have h1 := g1.size
  obtain ⟨n, hn⟩ : ∃ n : Nat, x = (n : Int) - 640 := ⟨(x + 640).toNat, by omega⟩
  subst hn
  have hn : n < 1281 := by omega
  clear x0 x1
  go_wp2_with fail
  refine (l1Below_any w0 _ p a len cap 6 (c1.below ((Below.refl _ _).alloc (Nat.le_refl _) _)) (by omega) (by omega)).mono ?_
  rintro e w2 ⟨x, rfl, x0, x1, c2, g2⟩
  obtain ⟨j, rfl⟩ := Int.eq_ofNat_of_zero_le x0
  have gg : w.grownBy w2 (some p) := grown_trans (grown_trans g1 (grown_below ((Below.refl _ _).alloc (Nat.le_refl _) _))) g2
  have np : w1.heap.size ≠ p := by omega
  have hj : j = 0 ∨ j = 1 ∨ j = 2 ∨ j = 3 ∨ j = 4 ∨ j = 5 := by omega
  obtain ⟨d, hd, cd⟩ : ∃ d, (d = 1065353216 ∨ d = 1073741824 ∨ d = 1098907648 ∨ d = 1115684864 ∨ d = 1120403456 ∨ d = 1077936128) ∧ w2.cell? ⟨w1.heap.size, j, none⟩ = some (.float .f32 d) := by
    rcases hj with rfl | rfl | rfl | rfl | rfl | rfl
    · exact ⟨1065353216, by simp, keepg g2 (by go_simp) np⟩
    · exact ⟨1073741824, by simp, keepg g2 (by go_simp) np⟩
    · exact ⟨1098907648, by simp, keepg g2 (by go_simp) np⟩
    · exact ⟨1115684864, by simp, keepg g2 (by go_simp) np⟩
    · exact ⟨1120403456, by simp, keepg g2 (by go_simp) np⟩
    · exact ⟨1077936128, by simp, keepg g2 (by go_simp) np⟩
  obtain ⟨r, hr, hr1, hr2⟩ := fine_some hd hn
  have q := fun t w => run_ok (P := Try.prog) .quo t _ _ r hr w
  have HR := hide (And.intro hr1 hr2)
  have hj6 : j < 6 := by omega
  clear hd hr hr1 hr2 hj g2 x0 x1
  go_wp2_with fail
  go_ret
  exact ⟨r, rfl, HR.out.1, HR.out.2, c2, gg⟩

/-- A point of a draw. -/
def RetPt (w0 w : World) (p : Nat) (a : Option Addr) (len cap : Nat) (e : Ending) (w' : World) : Prop :=
  ∃ x y : Nat, e = .returned (.complex .f32 x y) ∧ Pt x y ∧ CurAt w0 w' p a len cap ∧ w.grownBy w' (some p)

theorem rch_zero : rch 0 = true := rch_of fin_zero (by rw [val_zero]; exact Nat.zero_le _)

set_option maxHeartbeats 1000000 in
theorem l1Point_any (w0 w : World) (p : Nat) (a : Option Addr) (len cap : Nat) (c : CurAt w0 w p a len cap) :
    Calls Try.prog 42 #[.pointer (some ⟨p, 0, none⟩)] w (RetPt w0 w p a len cap) := by
  go_enter Try.func42, Try.ntmps42
  go_wp2_with fail
  refine (l1Fine_any w0 _ p a len cap c).mono ?_
  rintro e w1 ⟨r, rfl, hr, hn, c1, g1⟩
  have HR := hide hr
  have HN := hide hn
  clear hr hn
  obtain ⟨rn, hrn⟩ : ∃ rn, Op.negFloat .f32 r = rn := ⟨_, rfl⟩
  have hng : ∀ w, (Op.unary .neg (.float .f32 r)).run Try.prog w = .ok (.float .f32 rn) w := fun w => by rw [← hrn]; rfl
  rw [hrn] at HN
  clear hrn
  go_wp2_with fail
  refine (l1Below_any w0 _ p a len cap 7 c1 (by omega) (by omega)).mono ?_
  rintro e w2 ⟨x, rfl, x0, x1, c2, g2⟩
  have gg := grown_trans g1 g2
  clear g1 g2 c1
  have hx : x = 0 ∨ x = 1 ∨ x = 2 ∨ x = 3 ∨ (x == 0) = false ∧ (x == 1) = false ∧ (x == 2) = false ∧ (x == 3) = false := by
    simp only [beq_eq_false_iff_ne]
    omega
  rcases hx with rfl | rfl | rfl | rfl | ⟨e0, e1, e2, e3⟩
  · go_wp2_with fail
    go_ret
    exact ⟨r, 0, rfl, ⟨HR.out.1, rch_zero, HR.out.2, by omega⟩, c2, gg⟩
  · go_wp2_with fail
    go_ret
    exact ⟨0, r, rfl, ⟨rch_zero, HR.out.1, by omega, HR.out.2⟩, c2, gg⟩
  · go_wp2_with fail
    go_ret
    exact ⟨r, r, rfl, ⟨HR.out.1, HR.out.1, HR.out.2, HR.out.2⟩, c2, gg⟩
  · go_wp2_with fail
    go_ret
    exact ⟨r, rn, rfl, ⟨HR.out.1, HN.out.1, HR.out.2, HN.out.2⟩, c2, gg⟩
  · go_wp2_with fail
    refine (l1Fine_any w0 _ p a len cap c2).mono ?_
    rintro e w3 ⟨s, rfl, hs, _, c3, g3⟩
    have HS := hide hs
    clear hs
    go_wp2_with fail
    go_ret
    exact ⟨r, s, rfl, ⟨HR.out.1, HS.out.1, HR.out.2, HS.out.2⟩, c3, grown_trans gg g3⟩

/-- A kind of mirrors and a point. -/
def RetPlace (w : World) (e : Ending) (w' : World) : Prop :=
  ∃ (kind : Int) (x y : Nat), e = .returned (.tuple #[.int .i64 kind, .complex .f32 x y]) ∧ 0 ≤ kind ∧ kind ≤ 3 ∧ Pt x y ∧ Below w.heap.size w w'

set_option maxHeartbeats 1000000 in
theorem drawPlace_any (w : World) (a : Option Addr) (len cap : Nat) (hc : IsCode w a len) :
    Calls Try.prog 12 #[.slice a len cap] w (RetPlace w) := by
  have HC := hide hc
  clear hc
  go_enter Try.func12, Try.ntmps12
  go_wp2_with fail
  refine (l1New_any a len cap _ HC.out).mono ?_
  rintro e w1 ⟨rfl, H, rfl⟩
  have c1 := cur_newC w w w.heap.size a len cap H HC.out (Below.refl _ _) rfl
  generalize w.alloc (.cells #[.slice a len cap, .int .i64 0, .int .i64 H] 96) = w1 at c1 ⊢
  go_wp2_with fail
  refine (l1Below_any w _ _ a len cap 4 c1 (by omega) (by omega)).mono ?_
  rintro e w2 ⟨kind, rfl, k0, k1, c2, g2⟩
  clear c1 g2
  go_wp2_with fail
  refine (l1Point_any w _ _ a len cap c2).mono ?_
  rintro e w3 ⟨x, y, rfl, hpt, c3, g3⟩
  have HP := hide hpt
  clear c2 g3 hpt
  go_wp2_with fail
  go_ret2
  exact ⟨kind, x, y, rfl, k0, by omega, HP.out, c3.bel⟩

end Go.Proofs.Ytgafdkaiiajieaa
