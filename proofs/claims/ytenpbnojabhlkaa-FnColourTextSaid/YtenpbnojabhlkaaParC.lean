/- What ParseColour computes, the program's and the reference's. For all strings and worlds. -/
import Derived.Test.YtenpbnojabhlkaaParP
import Derived.Test.YtenpbnojabhlkaaFmtS
import Derived.Test.YtenpbnojabhlkaaIdx
import Derived.RegionTactic
import Derived.StillTailTactics
namespace Go.Proofs.Ytenpbnojabhlkaa
open Go.RowKit
open Fl

theorem idxHex (c : UInt8) (w : World) :
    Calls Try.prog 42 #[.string hexS, .int .u8 (c.toNat : Int)] w fun e w' => e = .returned (.int .i64 (hv c)) ∧ w = w' := by
  have h := indexByte_any hexS (c.toNat : Int) w
  have e : ((c.toNat : Int)).toNat.toUInt8 = c := by simp
  rw [e] at h
  exact h

theorem idx_str (s : ByteArray) (w : World) {l : List UInt8} (h : s.data.toList = l) {k : Nat} (hk : k < l.length) : (Instr.index 9 (.string s) (.int .i64 (k : Int))).run Try.prog w = .ok (.int .u8 ((l[k]).toNat : Int)) w := by
  subst h
  rw [run_index_string w 9 s .i64 k Try.underlying9]
  have hs : s.size = s.data.toList.length := Array.length_toList.symm
  rw [dif_pos (by omega)]
  congr 3

theorem size_of {s : ByteArray} {l : List UInt8} (h : s.data.toList = l) : s.size = l.length := by subst h; exact Array.length_toList.symm

set_option maxHeartbeats 1000000 in
theorem l2Value_any (c : UInt8) (w : World) :
    Calls Try.prog 41 #[.int .u8 (c.toNat : Int)] w fun e w' => e = .returned (.int .i64 (hv c)) ∧ w = w' := by
  go_enter Try.func41, Try.ntmps41
  go_wp2
  go_loop [3] (fun i => ∃ k : Nat, k ≤ 16 ∧ i = .int .i64 k ∧ Hid (∀ j, j < k → hx j ≠ c)) (fun i => 16 - (intOf i).toNat)
  case atStart => exact ⟨0, Nat.zero_le _, rfl, fun j hj => by omega⟩
  case round =>
    obtain ⟨k, hk, rfl, hno⟩ := hrel
    by_cases hlt : k < 16
    · have hi : ∀ w, (Instr.index 9 (.string ⟨#[hx k]⟩) (.int .i64 0)).run Try.prog w = .ok (.int .u8 ((hx k).toNat : Int)) w := fun w => idx_str ⟨#[hx k]⟩ w (l := [hx k]) rfl (k := 0) (by simp)
      by_cases he : hx k = c
      · have HV : Hid (hv c = (k : Int)) := by rw [← he]; exact hv_hx k hlt
        have hb : (((hx k).toNat : Int) == (c.toNat : Int)) = true := by rw [he]; simp
        clear he
        go_wp2_with (go_at_call 39; refine (l2Digit_any _ _ (by omega)).mono ?_; rintro e w' ⟨rfl, rfl⟩)
        go_ret
        exact ⟨by rw [HV.out]; rfl, rfl⟩
      · have hb : (((hx k).toNat : Int) == (c.toNat : Int)) = false := by
          simp only [beq_eq_false_iff_ne]
          intro e
          exact he (UInt8.toNat_inj.1 (by omega))
        have HE := hide he
        clear he
        go_wp2_with (go_at_call 39; refine (l2Digit_any _ _ (by omega)).mono ?_; rintro e w' ⟨rfl, rfl⟩)
        go_round
        case rel =>
          refine ⟨k + 1, by omega, by go_num, fun j hj => ?_⟩
          by_cases e : j = k
          · subst e; exact HE.out
          · exact hno.out j (by omega)
        case measure => simp [intOf]; omega
    · obtain rfl : k = 16 := by omega
      have HV := hide (hv_no hno.out)
      go_wp2
      go_ret
      exact ⟨by rw [HV.out]; rfl, rfl⟩

/-- The result of reading a colour. -/
def RetPar (l : List UInt8) (w : World) (e : Ending) (w' : World) : Prop :=
  e = .returned (.tuple #[.agg #[.float .f32 (parR l).2.1, .float .f32 (parR l).2.2.1, .float .f32 (parR l).2.2.2], .bool (parR l).1]) ∧ Below w.heap.size w w'

theorem retPar_of {l : List UInt8} {w w' : World} {e : Ending} {ok : Bool} {r g b : Nat} (h : parR l = (ok, r, g, b)) (he : e = .returned (.tuple #[.agg #[.float .f32 r, .float .f32 g, .float .f32 b], .bool ok])) (hb : Below w.heap.size w w') : RetPar l w e w' := by
  unfold RetPar
  rw [h]
  exact ⟨he, hb⟩

theorem quo15 {k : Nat} (h : k < 16) (t : TypeId) (w : World) : (binOp .quo t (.float .f32 (floatOfInt .f32 k)) (.float .f32 1097859072)).run Try.prog w = .ok (.float .f32 (q15 k)) w :=
  run_ok (P := Try.prog) .quo t _ _ _ (q15_all k h).1 w

/-- A string of three bytes, as the walk reads it. -/
structure Three (s : ByteArray) (a b c : UInt8) : Prop where
  size : s.size = 3
  i0 : ∀ w, (Instr.index 9 (.string s) (.int .i64 0)).run Try.prog w = .ok (.int .u8 (a.toNat : Int)) w
  i1 : ∀ w, (Instr.index 9 (.string s) (.int .i64 1)).run Try.prog w = .ok (.int .u8 (b.toNat : Int)) w
  i2 : ∀ w, (Instr.index 9 (.string s) (.int .i64 2)).run Try.prog w = .ok (.int .u8 (c.toNat : Int)) w

theorem three_of {s : ByteArray} {a b c : UInt8} (hl : s.data.toList = [a, b, c]) : Three s a b c :=
  ⟨by rw [size_of hl]; rfl, fun w => idx_str s w hl (k := 0) (by simp), fun w => idx_str s w hl (k := 1) (by simp), fun w => idx_str s w hl (k := 2) (by simp)⟩

set_option maxHeartbeats 1000000 in
theorem sPar_size (s : ByteArray) (l : List UInt8) (w : World) (HP : Hid (parR l = (false, 0, 0, 0))) (hs : ¬ s.size = 3) : Calls Try.prog 19 #[.string s] w (RetPar l w) := by
  have hs2 : ((s.size : Int) == 3) = false := by simp; omega
  go_enter Try.func19, Try.ntmps19
  go_wp2
  exact bodyPost_ret (v := .tuple #[.agg #[.float .f32 0, .float .f32 0, .float .f32 0], .bool false]) (by simp [results, Try.results19, go_sem]) rfl (retPar_of HP.out rfl (by repeat (first | exact Below.refl _ _ | assumption | refine Below.drew ?_ | refine Below.setCell ?_ (by first | (dsimp only; omega) | (simp; omega) | simp) _ | refine Below.alloc ?_ (by first | omega | (simp; omega) | simp) _)))

set_option maxHeartbeats 1000000 in
theorem sPar_neg (s : ByteArray) (l : List UInt8) (a b c : UInt8) (w : World) (HP : Hid (parR l = (false, 0, 0, 0))) (h3 : Three s a b c) (x y z : Int)
    (V1 : Hid (∀ w, Calls Try.prog 41 #[.int .u8 (a.toNat : Int)] w fun e w' => e = .returned (.int .i64 x) ∧ w = w')) (V2 : Hid (∀ w, Calls Try.prog 41 #[.int .u8 (b.toNat : Int)] w fun e w' => e = .returned (.int .i64 y) ∧ w = w')) (V3 : Hid (∀ w, Calls Try.prog 41 #[.int .u8 (c.toNat : Int)] w fun e w' => e = .returned (.int .i64 z) ∧ w = w'))
    (h : x < 0 ∨ y < 0 ∨ z < 0) : Calls Try.prog 19 #[.string s] w (RetPar l w) := by
  obtain ⟨hs, i0, i1, i2⟩ := h3
  by_cases hx : x < 0
  · clear h
    go_enter Try.func19, Try.ntmps19
    go_wp2_with (go_at_call 41; (first | (with_reducible refine (V1.out _).mono ?_) | (with_reducible refine (V2.out _).mono ?_) | (with_reducible refine (V3.out _).mono ?_)); rintro e w' ⟨rfl, rfl⟩)
    exact bodyPost_ret (v := .tuple #[.agg #[.float .f32 0, .float .f32 0, .float .f32 0], .bool false]) (by simp [results, Try.results19, go_sem]) rfl (retPar_of HP.out rfl (by repeat (first | exact Below.refl _ _ | assumption | refine Below.drew ?_ | refine Below.setCell ?_ (by first | (dsimp only; omega) | (simp; omega) | simp) _ | refine Below.alloc ?_ (by first | omega | (simp; omega) | simp) _)))
  by_cases hy : y < 0
  · clear h
    go_enter Try.func19, Try.ntmps19
    go_wp2_with (go_at_call 41; (first | (with_reducible refine (V1.out _).mono ?_) | (with_reducible refine (V2.out _).mono ?_) | (with_reducible refine (V3.out _).mono ?_)); rintro e w' ⟨rfl, rfl⟩)
    exact bodyPost_ret (v := .tuple #[.agg #[.float .f32 0, .float .f32 0, .float .f32 0], .bool false]) (by simp [results, Try.results19, go_sem]) rfl (retPar_of HP.out rfl (by repeat (first | exact Below.refl _ _ | assumption | refine Below.drew ?_ | refine Below.setCell ?_ (by first | (dsimp only; omega) | (simp; omega) | simp) _ | refine Below.alloc ?_ (by first | omega | (simp; omega) | simp) _)))
  · have hz : z < 0 := by omega
    clear h
    go_enter Try.func19, Try.ntmps19
    go_wp2_with (go_at_call 41; (first | (with_reducible refine (V1.out _).mono ?_) | (with_reducible refine (V2.out _).mono ?_) | (with_reducible refine (V3.out _).mono ?_)); rintro e w' ⟨rfl, rfl⟩)
    exact bodyPost_ret (v := .tuple #[.agg #[.float .f32 0, .float .f32 0, .float .f32 0], .bool false]) (by simp [results, Try.results19, go_sem]) rfl (retPar_of HP.out rfl (by repeat (first | exact Below.refl _ _ | assumption | refine Below.drew ?_ | refine Below.setCell ?_ (by first | (dsimp only; omega) | (simp; omega) | simp) _ | refine Below.alloc ?_ (by first | omega | (simp; omega) | simp) _)))

set_option maxHeartbeats 2000000 in
theorem sPar_yes (s : ByteArray) (l : List UInt8) (a b c : UInt8) (w : World) (h3 : Three s a b c) (x y z : Nat) (X Y Z : Nat) (HP : Hid (parR l = (true, X, Y, Z)))
    (V1 : Hid (∀ w, Calls Try.prog 41 #[.int .u8 (a.toNat : Int)] w fun e w' => e = .returned (.int .i64 x) ∧ w = w')) (V2 : Hid (∀ w, Calls Try.prog 41 #[.int .u8 (b.toNat : Int)] w fun e w' => e = .returned (.int .i64 y) ∧ w = w')) (V3 : Hid (∀ w, Calls Try.prog 41 #[.int .u8 (c.toNat : Int)] w fun e w' => e = .returned (.int .i64 z) ∧ w = w'))
    (qx : ∀ t w, (binOp .quo t (.float .f32 (floatOfInt .f32 x)) (.float .f32 1097859072)).run Try.prog w = .ok (.float .f32 X) w) (qy : ∀ t w, (binOp .quo t (.float .f32 (floatOfInt .f32 y)) (.float .f32 1097859072)).run Try.prog w = .ok (.float .f32 Y) w) (qz : ∀ t w, (binOp .quo t (.float .f32 (floatOfInt .f32 z)) (.float .f32 1097859072)).run Try.prog w = .ok (.float .f32 Z) w) :
    Calls Try.prog 19 #[.string s] w (RetPar l w) := by
  obtain ⟨hs, i0, i1, i2⟩ := h3
  go_enter Try.func19, Try.ntmps19
  go_wp2_with (go_at_call 41; (first | (with_reducible refine (V1.out _).mono ?_) | (with_reducible refine (V2.out _).mono ?_) | (with_reducible refine (V3.out _).mono ?_)); rintro e w' ⟨rfl, rfl⟩)
  have cf : ∀ j, (w.alloc (.cells #[.float .f32 0, .float .f32 0, .float .f32 0] 26)).frozen? ⟨w.heap.size, j, none⟩ = false := fun j => by go_simp
  have c0 : (w.alloc (.cells #[.float .f32 0, .float .f32 0, .float .f32 0] 26)).cell? ⟨w.heap.size, 0, none⟩ = some (.float .f32 0) := by go_simp
  have c1 : (w.alloc (.cells #[.float .f32 0, .float .f32 0, .float .f32 0] 26)).cell? ⟨w.heap.size, 1, none⟩ = some (.float .f32 0) := by go_simp
  have c2 : (w.alloc (.cells #[.float .f32 0, .float .f32 0, .float .f32 0] 26)).cell? ⟨w.heap.size, 2, none⟩ = some (.float .f32 0) := by go_simp
  have bel : Below w.heap.size w (w.alloc (.cells #[.float .f32 0, .float .f32 0, .float .f32 0] 26)) := (by repeat (first | exact Below.refl _ _ | assumption | refine Below.drew ?_ | refine Below.setCell ?_ (by first | (dsimp only; omega) | (simp; omega) | simp) _ | refine Below.alloc ?_ (by first | omega | (simp; omega) | simp) _))
  generalize w.alloc (.cells #[.float .f32 0, .float .f32 0, .float .f32 0] 26) = wA at c0 c1 c2 cf bel ⊢
  have hswA := bel.size
  have kr : w.heap.size ≤ w.heap.size := Nat.le_refl _
  refine wp_region_still_tail 16 (by kernel_rfl) (by kernel_rfl) ?_
  simp only [List.take_succ_cons, List.take_zero, List.drop_succ_cons, List.drop_zero]
  repeat still_step
  still_call ((V1.out _).mono fun _ _ h => ⟨h.1, h.2.symm⟩)
  repeat still_step
  still_call ((V2.out _).mono fun _ _ h => ⟨h.1, h.2.symm⟩)
  repeat still_step
  still_call ((V3.out _).mono fun _ _ h => ⟨h.1, h.2.symm⟩)
  repeat still_step
  refine wpStill_nil ?_
  change wpList _ _ _ _ _ wA.drew
  go_wp2_with fail
  exact bodyPost_ret (v := .tuple #[.agg #[.float .f32 X, .float .f32 Y, .float .f32 Z], .bool true]) (by simp [results, Try.results19, go_sem, c0, c1, c2]) rfl (retPar_of HP.out rfl (by repeat (first | exact Below.refl _ _ | assumption | refine Below.drew ?_ | refine Below.setCell ?_ (by first | (dsimp only; omega) | (simp; omega) | simp) _ | refine Below.alloc ?_ (by first | omega | (simp; omega) | simp) _)))

theorem sParseColour_any (s : ByteArray) (w : World) : Calls Try.prog 19 #[.string s] w (RetPar s.data.toList w) := by
  by_cases h3 : s.data.toList.length = 3
  · obtain ⟨a, b, c, hl⟩ := list3 h3
    have h3 := three_of hl
    rw [hl]
    by_cases hp : 0 ≤ hv a ∧ 0 ≤ hv b ∧ 0 ≤ hv c
    · obtain ⟨ha, hb, hc⟩ := hp
      obtain ⟨x, hx⟩ := Int.eq_ofNat_of_zero_le ha
      obtain ⟨y, hy⟩ := Int.eq_ofNat_of_zero_le hb
      obtain ⟨z, hz⟩ := Int.eq_ofNat_of_zero_le hc
      have bx : x < 16 := by rcases hv_spec a with h | ⟨_, h, _⟩ <;> omega
      have by' : y < 16 := by rcases hv_spec b with h | ⟨_, h, _⟩ <;> omega
      have bz : z < 16 := by rcases hv_spec c with h | ⟨_, h, _⟩ <;> omega
      exact sPar_yes s _ a b c w h3 x y z _ _ _ (parR_hx hx hy hz) (fun w => hx ▸ l2Value_any a w) (fun w => hy ▸ l2Value_any b w) (fun w => hz ▸ l2Value_any c w) (fun t w => quo15 bx t w) (fun t w => quo15 by' t w) (fun t w => quo15 bz t w)
    · exact sPar_neg s _ a b c w (parR_neg hp) h3 _ _ _ (fun w => l2Value_any a w) (fun w => l2Value_any b w) (fun w => l2Value_any c w) (by omega)
  · exact sPar_size s _ w (parR_size h3) (by rw [size_of rfl]; exact h3)

end Go.Proofs.Ytenpbnojabhlkaa
