/- What the reference draws of a code for ParseColour: some string. Condition: the code is a slice of bytes that can be read. -/
import Derived.Test.YtenpbnojabhlkaaDrawC
import Derived.Test.YtenpbnojabhlkaaFmtS
namespace Go.Proofs.Ytenpbnojabhlkaa
open Go.RowKit
open Fl

def RetStrC (w0 w : World) (p : Nat) (a : Option Addr) (len cap : Nat) (e : Ending) (w' : World) : Prop :=
  ∃ s : ByteArray, e = .returned (.string s) ∧ CurAt w0 w' p a len cap ∧ w.grownBy w' (some p)

set_option maxHeartbeats 1000000 in
theorem l1Str_nine (w0 w : World) (p : Nat) (a : Option Addr) (len cap : Nat) (c : CurAt w0 w p a len cap) (q : Nat) (hq : ∀ j, j < 9 → ∃ s, w.cell? ⟨q, j, none⟩ = some (.string s)) (hne : q ≠ p) :
    Calls Try.prog 55 #[.pointer (some ⟨p, 0, none⟩), .slice (some ⟨q, 0, none⟩) 9 9] w (RetStrC w0 w p a len cap) := by
  have HQ := hide hq
  clear hq
  go_enter Try.func55, Try.ntmps55
  go_wp2_with fail
  refine (l1Below_any w0 _ p a len cap 9 c (by omega) (by omega)).mono ?_
  rintro e w1 ⟨x, rfl, x0, x1, c1, g1⟩
  obtain ⟨n, rfl⟩ := Int.eq_ofNat_of_zero_le x0
  have hn : n < 9 := by omega
  obtain ⟨s, hs⟩ := HQ.out n hn
  have hs := keepg g1 hs hne
  go_wp2_with fail
  go_ret
  exact ⟨s, rfl, c1, g1⟩

/-- Some string. -/
def RetStr (w : World) (e : Ending) (w' : World) : Prop := ∃ s : ByteArray, e = .returned (.string s) ∧ Below w.heap.size w w'

set_option maxHeartbeats 2000000 in
theorem drawParse_any (w : World) (a : Option Addr) (len cap : Nat) (hc : IsCode w a len) :
    Calls Try.prog 31 #[.slice a len cap] w (RetStr w) := by
  have HC := hide hc
  clear hc
  go_enter Try.func31, Try.ntmps31
  go_wp2_with fail
  refine (l1New_any a len cap _ HC.out).mono ?_
  rintro e w1 ⟨rfl, H, rfl⟩
  have c1 := cur_newC w w w.heap.size a len cap H HC.out (Below.refl _ _) rfl
  generalize w.alloc (.cells #[.slice a len cap, .int .i64 0, .int .i64 H] 67) = wB at c1 ⊢
  go_wp2_with fail
  refine (l1Once_any w _ _ a len cap 4 c1 (by omega) (by omega)).mono ?_
  rintro e w2 ⟨o, rfl, c2, g2⟩
  clear c1 g2
  have hp : w.heap.size < w2.heap.size := by
    obtain ⟨H, hh⟩ := c2.h
    exact World.block_lt_of_cell? w2 _ hh
  cases o
  · go_wp2_with fail
    refine (l1Below_any w _ _ a len cap 16 c2 (by omega) (by omega)).mono ?_
    rintro e w3 ⟨x, rfl, x0, x1, c3, g3⟩
    obtain ⟨n, rfl⟩ := Int.eq_ofNat_of_zero_le x0
    clear c2 g3 x0
    go_wp2_with fail
    refine (l2Digit_any n _ (by omega)).mono ?_
    rintro e w' ⟨rfl, rfl⟩
    clear x1
    go_wp2_with fail
    refine (l1Below_any w _ _ a len cap 16 c3 (by omega) (by omega)).mono ?_
    rintro e w4 ⟨y, rfl, y0, y1, c4, g4⟩
    obtain ⟨m, rfl⟩ := Int.eq_ofNat_of_zero_le y0
    clear c3 g4 y0
    go_wp2_with fail
    refine (l2Digit_any m _ (by omega)).mono ?_
    rintro e w' ⟨rfl, rfl⟩
    clear y1
    go_wp2_with fail
    refine (l1Below_any w _ _ a len cap 16 c4 (by omega) (by omega)).mono ?_
    rintro e w5 ⟨z, rfl, z0, z1, c5, g5⟩
    obtain ⟨k, rfl⟩ := Int.eq_ofNat_of_zero_le z0
    clear c4 g5 z0
    go_wp2_with fail
    refine (l2Digit_any k _ (by omega)).mono ?_
    rintro e w' ⟨rfl, rfl⟩
    clear z1
    go_wp2_with fail
    go_ret
    exact ⟨_, rfl, c5.bel⟩
  · go_wp2_with fail
    refine (l1Str_nine w _ _ a len cap (c2.below ((Below.refl _ _).alloc (Nat.le_refl _) _)) w2.heap.size (fun j hj => ?_) (by omega)).mono ?_
    · match j, hj with
      | 0, _ => exact ⟨_, by go_simp; first | done | rfl⟩
      | 1, _ => exact ⟨_, by go_simp; first | done | rfl⟩
      | 2, _ => exact ⟨_, by go_simp; first | done | rfl⟩
      | 3, _ => exact ⟨_, by go_simp; first | done | rfl⟩
      | 4, _ => exact ⟨_, by go_simp; first | done | rfl⟩
      | 5, _ => exact ⟨_, by go_simp; first | done | rfl⟩
      | 6, _ => exact ⟨_, by go_simp; first | done | rfl⟩
      | 7, _ => exact ⟨_, by go_simp; first | done | rfl⟩
      | 8, _ => exact ⟨_, by go_simp; first | done | rfl⟩
    rintro e w3 ⟨s, rfl, c3, g3⟩
    go_wp2_with fail
    go_ret
    exact ⟨_, rfl, c3.bel⟩

end Go.Proofs.Ytenpbnojabhlkaa
