/- Plain: the numbers that the reference draws for points: n / d with n from -640 to 640 and d one of six, and their negatives: finite, from -4096 to 4096. No condition. -/
import Derived.Test.YtgafdkaiiajieaaActP
namespace Go.Proofs.Ytgafdkaiiajieaa
open Go.RowKit
open Fl

def rchB (r : Nat) : Bool := rch r && decide (r < 4294967296)

def fineB (d n : Nat) : Bool := match floatBits .quo .f32 (floatOfInt .f32 ((n : Int) - 640)) d with
  | some r => rchB r && rchB (Op.negFloat .f32 r)
  | none => false

theorem fine1 : ∀ n, n < 1281 → fineB 1065353216 n = true := by decide +kernel

theorem fine2 : ∀ n, n < 1281 → fineB 1073741824 n = true := by decide +kernel

theorem fine16 : ∀ n, n < 1281 → fineB 1098907648 n = true := by decide +kernel

theorem fine64 : ∀ n, n < 1281 → fineB 1115684864 n = true := by decide +kernel

theorem fine100 : ∀ n, n < 1281 → fineB 1120403456 n = true := by decide +kernel

theorem fine3 : ∀ n, n < 1281 → fineB 1077936128 n = true := by decide +kernel

theorem fine_some {d n : Nat} (hd : d = 1065353216 ∨ d = 1073741824 ∨ d = 1098907648 ∨ d = 1115684864 ∨ d = 1120403456 ∨ d = 1077936128) (hn : n < 1281) :
    ∃ r, floatBits .quo .f32 (floatOfInt .f32 ((n : Int) - 640)) d = some r ∧ (rch r = true ∧ r < 4294967296) ∧ (rch (Op.negFloat .f32 r) = true ∧ Op.negFloat .f32 r < 4294967296) := by
  have h : fineB d n = true := by
    rcases hd with rfl | rfl | rfl | rfl | rfl | rfl
    · exact fine1 n hn
    · exact fine2 n hn
    · exact fine16 n hn
    · exact fine64 n hn
    · exact fine100 n hn
    · exact fine3 n hn
  unfold fineB at h
  split at h
  · rename_i r hr
    unfold rchB at h
    simp only [Bool.and_eq_true, decide_eq_true_eq] at h
    exact ⟨r, hr, h.1, h.2⟩
  · cases h

end Go.Proofs.Ytgafdkaiiajieaa
