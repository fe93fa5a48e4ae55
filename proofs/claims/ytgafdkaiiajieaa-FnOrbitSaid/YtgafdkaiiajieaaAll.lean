/- What the reference's list of all symmetries is: the eight in order, in new memory. For all worlds. -/
import Derived.Test.YtgafdkaiiajieaaRows2
namespace Go.Proofs.Ytgafdkaiiajieaa
open Go.RowKit

theorem Try.infoSym : (Try.prog.info? 28).map (fun i => (i.zero, i.size, i.bytes)) = some (some (.agg #[.int .i64 0, .bool false]), 2, 16) := by kernel_rfl

theorem allRow {wr : World} {B E : Nat} {v : Value} {k : Nat} {n : Nat} (h : wr.ownsRow B E 2 v n (symCells (allSyms k) ++ [.int .i64 ((k : Int) % 4), .bool (decide ((4 : Int) ≤ (k : Int)))])) (hn : n = k + 1) :
    wr.ownsRow B E 2 v (k + 1) (symCells (allSyms (k + 1))) := by
  subst hn
  rw [allSyms_succ, symCells_append]
  have e : decide ((4 : Int) ≤ (k : Int)) = decide (4 ≤ k) := by rw [Bool.eq_iff_iff]; simp; omega
  rw [e] at h
  simpa [symCells] using h

set_option maxRecDepth 100000 in
set_option maxHeartbeats 1000000 in
theorem l1All_any (w : World) : Calls Try.prog 61 #[] w (RetSyms w (allSyms 8)) := by
  obtain ⟨i0, hi, hz0, hz1, hz2⟩ := infoParts Try.infoSym
  go_enter Try.func61, Try.ntmps61
  go_wp2
  go_loopw [1, 2] (fun v i wr => ∃ k : Nat, k ≤ 8 ∧ i = .int .i64 k ∧ wr.ownsRow w.heap.size 28 2 v k (symCells (allSyms k)) ∧ Below w.heap.size w wr) (fun _ i _ => 8 - (intOf i).toNat)
  case atStart => exact ⟨0, Nat.zero_le _, rfl, World.ownsRow_lit w #[] 0 (Nat.le_refl _) (by unfold maxLen; omega) rfl, (Below.refl _ _).alloc (Nat.le_refl _) _⟩
  case round =>
    obtain ⟨k, hk, rfl, hown, hbel⟩ := hrel
    by_cases hlt : k < 8
    · go_wp2_with (at_builtin; refine wpList_append_own _ rfl _ _ 33 rfl w.heap.size 28 i0 (.agg #[.int .i64 0, .bool false]) 2 16 Try.underlying33 hi hz0 hz1 hz2 rfl (by decide) _ _ _ rfl (hown.alloc _) ⟨wr.heap.size, 0, none⟩ 1 1 [.int .i64 ((k : Int) % 4), .bool (decide ((4 : Int) ≤ (k : Int)))] rfl rfl ?c1 ?c2 ?c3 ?c4 ?c5 ?_)
      case c1 =>
        intro j u hj
        match j, hj with
        | 0, hj => simp at hj; subst hj; simp [Addr.add]
        | 1, hj => simp at hj; subst hj; simp [Addr.add]
      case c2 => intro u hu; simp at hu; rcases hu with rfl | rfl <;> rfl
      case c3 => unfold maxLen; omega
      case c4 => omega
      case c5 => have := hbel.size; simp; omega
      intro v' w1 hown' hgrow _
      have hbel' : Below w.heap.size w w1 := (hbel.alloc hbel.size _).grown hgrow (by have := hbel.size; simp; omega) (fun q hq => (hown.lt q hq).1)
      have hrow := allRow hown' rfl
      clear hown' hgrow hown
      go_wp2
      go_roundw
      case rel => exact ⟨k + 1, by omega, by go_num, hrow, hbel'⟩
      case measure => simp [intOf]; omega
    · obtain rfl : k = 8 := by omega
      go_wp2
      go_ret
      exact ⟨_, rfl, hown, hbel⟩

end Go.Proofs.Ytgafdkaiiajieaa
