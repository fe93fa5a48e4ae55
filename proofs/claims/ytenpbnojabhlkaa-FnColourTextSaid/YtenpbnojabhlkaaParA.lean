/- What the program's ParseColour computes, for all strings: what the reference's does. -/
import Derived.Test.YtenpbnojabhlkaaParI
namespace Go.Proofs.Ytenpbnojabhlkaa
open Go.RowKit
open Fl

theorem quoI {n : Int} (h0 : 0 ≤ n) (h : n < 16) (t : TypeId) (w : World) : (binOp .quo t (.float .f32 (floatOfInt .f32 n)) (.float .f32 1097859072)).run Try.prog w = .ok (.float .f32 (q15 n.toNat)) w := by
  obtain ⟨k, rfl⟩ := Int.eq_ofNat_of_zero_le h0
  exact quo15 (by omega) t w

theorem hv_lt (c : UInt8) : hv c < 16 := by rcases hv_spec c with h | ⟨_, h, _⟩ <;> omega

theorem three_k {s : ByteArray} {a b c : UInt8} (hl : s.data.toList = [a, b, c]) (k : Nat) (hk : k < 3) :
    ∃ (bt : Int) (W : Nat), (∀ w, (Instr.index 9 (.string s) (.int .i64 (k : Int))).run Try.prog w = .ok (.int .u8 bt) w) ∧ (∀ w, Calls Try.prog 42 #[.string hexS, .int .u8 bt] w fun e w' => e = .returned (.int .i64 (hv ([a, b, c].getD k 0))) ∧ w = w') ∧ (0 ≤ hv ([a, b, c].getD k 0) → ∀ t w, (binOp .quo t (.float .f32 (floatOfInt .f32 (hv ([a, b, c].getD k 0)))) (.float .f32 1097859072)).run Try.prog w = .ok (.float .f32 W) w) ∧ flV [q15 (hv a).toNat, q15 (hv b).toNat, q15 (hv c).toNat] (k + 1) = flV [q15 (hv a).toNat, q15 (hv b).toNat, q15 (hv c).toNat] k ++ [.float .f32 W] := by
  match k, hk with
  | 0, _ => exact ⟨a.toNat, q15 (hv a).toNat, fun w => idx_str s w hl (k := 0) (by simp), fun w => idxHex a w, fun h => quoI h (hv_lt a), rfl⟩
  | 1, _ => exact ⟨b.toNat, q15 (hv b).toNat, fun w => idx_str s w hl (k := 1) (by simp), fun w => idxHex b w, fun h => quoI h (hv_lt b), rfl⟩
  | 2, _ => exact ⟨c.toNat, q15 (hv c).toNat, fun w => idx_str s w hl (k := 2) (by simp), fun w => idxHex c w, fun h => quoI h (hv_lt c), rfl⟩

set_option maxHeartbeats 1000000 in
theorem par_size (s : ByteArray) (l : List UInt8) (w : World) (HP : Hid (parR l = (false, 0, 0, 0))) (hs : ¬ s.size = 3) : Calls Try.prog 20 #[.string s] w (RetPar l w) := by
  have hs2 : ((s.size : Int) == 3) = false := by simp; omega
  go_enter Try.func20, Try.ntmps20
  go_wp2
  exact bodyPost_ret (v := .tuple #[.agg #[.float .f32 0, .float .f32 0, .float .f32 0], .bool false]) (by simp [results, Try.results20, go_sem]) rfl (retPar_of HP.out rfl (by repeat (first | exact Below.refl _ _ | assumption | refine Below.drew ?_ | refine Below.setCell ?_ (by first | (dsimp only; omega) | (simp; omega) | simp) _ | refine Below.alloc ?_ (by first | omega | (simp; omega) | simp) _)))

theorem parseColour_any (s : ByteArray) (w : World) : Calls Try.prog 20 #[.string s] w (RetPar s.data.toList w) := by
  by_cases h3 : s.data.toList.length = 3
  · obtain ⟨a, b, c, hl⟩ := list3 h3
    have hs : s.size = 3 := by rw [size_of hl]; rfl
    have hk := three_k hl
    rw [hl]
    refine par_three s _ w hs (fun k => hv ([a, b, c].getD k 0)) _ _ _ hk ?_ ?_
    · intro k hk hn
      refine parR_neg fun ⟨ha, hb, hc⟩ => ?_
      match k, hk with
      | 0, _ => have hn : hv a < 0 := hn; omega
      | 1, _ => have hn : hv b < 0 := hn; omega
      | 2, _ => have hn : hv c < 0 := hn; omega
    · intro h
      have ha : 0 ≤ hv a := h 0 (by omega)
      have hb : 0 ≤ hv b := h 1 (by omega)
      have hc : 0 ≤ hv c := h 2 (by omega)
      exact parR_hx (by omega) (by omega) (by omega)
  · exact par_size s _ w (parR_size h3) (by rw [size_of rfl]; exact h3)

theorem parR_parts (l : List UInt8) : part (parR l).2.1 = true ∧ part (parR l).2.2.1 = true ∧ part (parR l).2.2.2 = true := by
  by_cases h3 : l.length = 3
  · obtain ⟨a, b, c, rfl⟩ := list3 h3
    by_cases hp : 0 ≤ hv a ∧ 0 ≤ hv b ∧ 0 ≤ hv c
    · have h := parR_hx (a := a) (b := b) (c := c) (x := (hv a).toNat) (y := (hv b).toNat) (z := (hv c).toNat) (by omega) (by omega) (by omega)
      rw [h]
      exact ⟨(q15_all _ (by have := hv_lt a; omega)).2.1, (q15_all _ (by have := hv_lt b; omega)).2.1, (q15_all _ (by have := hv_lt c; omega)).2.1⟩
    · rw [parR_neg hp]
      exact ⟨part_zero, part_zero, part_zero⟩
  · rw [parR_size h3]
    exact ⟨part_zero, part_zero, part_zero⟩

end Go.Proofs.Ytenpbnojabhlkaa
