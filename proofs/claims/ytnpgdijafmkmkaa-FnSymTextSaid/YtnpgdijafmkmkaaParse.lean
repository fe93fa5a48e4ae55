/- What the program's and the reference's ParseSym compute: the first of the eight symmetries whose text is s. For all texts and worlds. -/
import Derived.Test.YtnpgdijafmkmkaaOf
import Derived.Test.YtnpgdijafmkmkaaOfI
import Derived.Test.YtnpgdijafmkmkaaFmt
import Derived.Test.YtnpgdijafmkmkaaEqS
namespace Go.Proofs.Ytnpgdijafmkmkaa
open Go.RowKit

def isText (s : ByteArray) (g : Int × Bool) : Bool := fmtSym g.1 g.2 == s.toList

/-- The symmetry that is written as s. -/
def parseSym (s : ByteArray) : Option (Int × Bool) := (allSyms 8).find? (isText s)
def parT (s : ByteArray) : Int := ((parseSym s).map (·.1)).getD 0
def parF (s : ByteArray) : Bool := ((parseSym s).map (·.2)).getD false
def parOk (s : ByteArray) : Bool := (parseSym s).isSome

theorem parse_yes {s : ByteArray} {k : Nat} (hk : k < 8) (hno : ∀ j, j < k → isText s ((j : Int) % 4, decide (4 ≤ j)) = false) (hy : isText s ((k : Int) % 4, decide (4 ≤ k)) = true) :
    parT s = (k : Int) % 4 ∧ parF s = decide (4 ≤ k) ∧ parOk s = true := by
  have h : parseSym s = some ((k : Int) % 4, decide (4 ≤ k)) := by
    unfold parseSym
    rw [List.find?_eq_some_iff_getElem]
    refine ⟨hy, k, by simpa [allSyms] using hk, by simp [allSyms], fun j hj => ?_⟩
    have := hno j hj
    simp [allSyms, this]
  unfold parT parF parOk
  rw [h]
  exact ⟨rfl, rfl, rfl⟩

theorem parse_no {s : ByteArray} (hno : ∀ j : Nat, j < 8 → isText s ((j : Int) % 4, decide (4 ≤ j)) = false) : parT s = 0 ∧ parF s = false ∧ parOk s = false := by
  have h : parseSym s = none := by
    unfold parseSym
    rw [List.find?_eq_none]
    intro x hx
    obtain ⟨j, hj, rfl⟩ := List.mem_map.1 hx
    have := hno j (List.mem_range.1 hj)
    simp [this]
  unfold parT parF parOk
  rw [h]
  exact ⟨rfl, rfl, rfl⟩

set_option maxHeartbeats 1000000 in
theorem sParse_any (s : ByteArray) (w : World) :
    Calls Try.prog 25 #[.string s] w fun e w' => e = .returned (.tuple #[.agg #[.int .i64 (parT s), .bool (parF s)], .bool (parOk s)]) ∧ Below w.heap.size w w' := by
  go_enter Try.func25, Try.ntmps25
  go_wp2_with fail
  refine (l1All_any _).mono ?_
  rintro e w1 ⟨va, rfl, hrow, hb1⟩
  rw [allSyms_length] at hrow
  obtain ⟨g, cap, rfl, hg1, hg2⟩ := hrow.form (by decide)
  have h16 : Hid (∀ j, j < 16 → w1.cell? ⟨g, j, none⟩ = (symCells (allSyms 8))[j]?) := fun j hj => hrow.cellAt j hj
  have hr0 : w1.cell? ⟨w.heap.size, 0, none⟩ = some (.int .i64 0) := keepc hb1 (by go_simp)
  have hr1 : w1.cell? ⟨w.heap.size, 1, none⟩ = some (.bool false) := keepc hb1 (by go_simp)
  have hf0 : ∀ j, w1.frozen? ⟨w.heap.size, j, none⟩ = false := fun j => (hb1.frozen (p := ⟨w.heap.size, j, none⟩) (by simp)).trans (by go_simp)
  have hlt1 := World.block_lt_of_cell? w1 _ hr0
  have bw1 : Below w.heap.size w w1 := belowOf ((Below.refl _ _).alloc (Nat.le_refl _) _) hb1
  clear hrow
  go_wp2_with fail
  go_loopw [8] (fun i wr => ∃ k : Nat, k ≤ 8 ∧ i = .int .i64 k ∧ Hid (∀ j : Nat, j < k → isText s ((j : Int) % 4, decide (4 ≤ j)) = false) ∧ Below w1.heap.size w1 wr) (fun i _ => 8 - (intOf i).toNat)
  case atStart => exact ⟨0, Nat.zero_le _, rfl, fun j hj => by omega, Below.refl _ _⟩
  case round =>
    obtain ⟨k, hk, rfl, hno, hbel⟩ := hrel
    have r0 := keepc hbel hr0
    have r1 := keepc hbel hr1
    have f0 := fun j => (hbel.frozen (p := ⟨w.heap.size, j, none⟩) hlt1).trans (hf0 j)
    have hs1 := hbel.size
    by_cases hlt : k < 8
    · have c0 : wr.cell? ⟨g, k * 2, none⟩ = some (.int .i64 ((k : Int) % 4)) := keepc hbel ((h16.out _ (by omega)).trans (allSyms_at k hlt).1)
      have c1 : wr.cell? ⟨g, k * 2 + 1, none⟩ = some (.bool (decide (4 ≤ k))) := keepc hbel ((h16.out _ (by omega)).trans (allSyms_at k hlt).2)
      cases ht : isText s ((k : Int) % 4, decide (4 ≤ k))
      · have hb : (fmtSym ((k : Int) % 4) (decide (4 ≤ k)) == s.toList) = false := ht
        have HT := hide ht
        clear ht
        go_wp2_with fail
        refine (sFormatSym_any _ _ _).mono ?_
        rintro e w2 ⟨rfl, hb2⟩
        have hz2 : wr.heap.size < w2.heap.size := by have := hb2.size; simp at this; omega
        obtain ⟨hc2, hf2⟩ := bcell hb2
        have hbel2 : Below w1.heap.size w1 w2 := hbel.trans ((((Below.refl wr.heap.size wr).alloc (Nat.le_refl _) _).trans (hb2.mono (by simp))).mono hs1)
        go_wp2_with fail
        go_roundw
        case rel =>
          refine ⟨k + 1, by omega, by go_num, fun j hj => ?_, hbel2⟩
          by_cases e : j = k
          · subst e; exact HT.out
          · exact hno.out j (by omega)
        case measure => simp [intOf]; omega
      · have hb : (fmtSym ((k : Int) % 4) (decide (4 ≤ k)) == s.toList) = true := ht
        have HP := hide (parse_yes hlt hno.out ht)
        clear ht
        go_wp2_with fail
        refine (sFormatSym_any _ _ _).mono ?_
        rintro e w2 ⟨rfl, hb2⟩
        have hz2 : wr.heap.size < w2.heap.size := by have := hb2.size; simp at this; omega
        have hk2 : Below wr.heap.size wr w2 := ((Below.refl wr.heap.size wr).alloc (Nat.le_refl _) _).trans (hb2.mono (by simp))
        have r0 := keepc hk2 r0
        have r1 := keepc hk2 r1
        have f0 := fun j => (hk2.frozen (p := ⟨w.heap.size, j, none⟩) (by show w.heap.size < _; omega)).trans (f0 j)
        have bw2 : Below w.heap.size w w2 := (bw1.trans (hbel.mono bw1.size)).trans (hk2.mono (by have := bw1.size; omega))
        have d0 : w2.cell? ⟨wr.heap.size, 0, none⟩ = some (.int .i64 ((k : Int) % 4)) := keepc hb2 (by go_simp)
        have d1 : w2.cell? ⟨wr.heap.size, 1, none⟩ = some (.bool (decide (4 ≤ k))) := keepc hb2 (by go_simp)
        have ne : ¬ wr.heap.size = w.heap.size := by omega
        go_wp2_with fail
        exact bodyPost_ret (v := .tuple #[.agg #[.int .i64 ((k : Int) % 4), .bool (decide (4 ≤ k))], .bool true]) (by simp [results, Try.results25, go_sem, r0, r1]) rfl ⟨by rw [HP.out.1, HP.out.2.1, HP.out.2.2], (by repeat (first | exact Below.refl _ _ | assumption | refine Below.drew ?_ | refine Below.setCell ?_ (by first | (dsimp only; omega) | (simp; omega) | simp) _ | refine Below.alloc ?_ (by first | omega | (simp; omega) | simp) _))⟩
    · obtain rfl : k = 8 := by omega
      have HP := hide (parse_no hno.out)
      have bwr : Below w.heap.size w wr := bw1.trans (hbel.mono bw1.size)
      go_wp2_with fail
      exact bodyPost_ret (v := .tuple #[.agg #[.int .i64 0, .bool false], .bool false]) (by simp [results, Try.results25, go_sem, r0, r1]) rfl ⟨by rw [HP.out.1, HP.out.2.1, HP.out.2.2], (by repeat (first | exact Below.refl _ _ | assumption | refine Below.drew ?_ | refine Below.setCell ?_ (by first | (dsimp only; omega) | (simp; omega) | simp) _ | refine Below.alloc ?_ (by first | omega | (simp; omega) | simp) _))⟩

theorem symsOf_three (w : World) : Calls Try.prog 28 #[.int .i64 3] w (RetSyms w (allSyms 8)) := by
  have h := symsOf_any 3 w
  rw [show symsOf 3 = allSyms 8 by decide] at h
  exact h

set_option maxHeartbeats 1000000 in
theorem parse_any (s : ByteArray) (w : World) :
    Calls Try.prog 26 #[.string s] w fun e w' => e = .returned (.tuple #[.agg #[.int .i64 (parT s), .bool (parF s)], .bool (parOk s)]) ∧ Below w.heap.size w w' := by
  go_enter Try.func26, Try.ntmps26
  go_wp2_with fail
  refine (symsOf_three _).mono ?_
  rintro e w1 ⟨va, rfl, hrow, hb1⟩
  rw [allSyms_length] at hrow
  obtain ⟨g, cap, rfl, hg1, hg2⟩ := hrow.form (by decide)
  have h16 : Hid (∀ j, j < 16 → w1.cell? ⟨g, j, none⟩ = (symCells (allSyms 8))[j]?) := fun j hj => hrow.cellAt j hj
  have hr0 : w1.cell? ⟨w.heap.size, 0, none⟩ = some (.int .i64 0) := keepc hb1 (by go_simp)
  have hr1 : w1.cell? ⟨w.heap.size, 1, none⟩ = some (.bool false) := keepc hb1 (by go_simp)
  have hf0 : ∀ j, w1.frozen? ⟨w.heap.size, j, none⟩ = false := fun j => (hb1.frozen (p := ⟨w.heap.size, j, none⟩) (by simp)).trans (by go_simp)
  have hlt1 := World.block_lt_of_cell? w1 _ hr0
  have bw1 : Below w.heap.size w w1 := belowOf ((Below.refl _ _).alloc (Nat.le_refl _) _) hb1
  clear hrow
  go_wp2_with fail
  go_loopw [8] (fun i wr => ∃ k : Nat, k ≤ 8 ∧ i = .int .i64 k ∧ Hid (∀ j : Nat, j < k → isText s ((j : Int) % 4, decide (4 ≤ j)) = false) ∧ Below w1.heap.size w1 wr) (fun i _ => 8 - (intOf i).toNat)
  case atStart => exact ⟨0, Nat.zero_le _, rfl, fun j hj => by omega, Below.refl _ _⟩
  case round =>
    obtain ⟨k, hk, rfl, hno, hbel⟩ := hrel
    have r0 := keepc hbel hr0
    have r1 := keepc hbel hr1
    have f0 := fun j => (hbel.frozen (p := ⟨w.heap.size, j, none⟩) hlt1).trans (hf0 j)
    have hs1 := hbel.size
    by_cases hlt : k < 8
    · have c0 : wr.cell? ⟨g, k * 2, none⟩ = some (.int .i64 ((k : Int) % 4)) := keepc hbel ((h16.out _ (by omega)).trans (allSyms_at k hlt).1)
      have c1 : wr.cell? ⟨g, k * 2 + 1, none⟩ = some (.bool (decide (4 ≤ k))) := keepc hbel ((h16.out _ (by omega)).trans (allSyms_at k hlt).2)
      cases ht : isText s ((k : Int) % 4, decide (4 ≤ k))
      · have hb : (fmtSym ((k : Int) % 4) (decide (4 ≤ k)) == s.toList) = false := ht
        have HT := hide ht
        clear ht
        go_wp2_with fail
        refine (formatSym_any _ _ _).mono ?_
        rintro e w2 ⟨rfl, hb2⟩
        have hz2 : wr.heap.size < w2.heap.size := by have := hb2.size; simp at this; omega
        obtain ⟨hc2, hf2⟩ := bcell hb2
        have hbel2 : Below w1.heap.size w1 w2 := hbel.trans ((((Below.refl wr.heap.size wr).alloc (Nat.le_refl _) _).trans (hb2.mono (by simp))).mono hs1)
        go_wp2_with fail
        go_roundw
        case rel =>
          refine ⟨k + 1, by omega, by go_num, fun j hj => ?_, hbel2⟩
          by_cases e : j = k
          · subst e; exact HT.out
          · exact hno.out j (by omega)
        case measure => simp [intOf]; omega
      · have hb : (fmtSym ((k : Int) % 4) (decide (4 ≤ k)) == s.toList) = true := ht
        have HP := hide (parse_yes hlt hno.out ht)
        clear ht
        go_wp2_with fail
        refine (formatSym_any _ _ _).mono ?_
        rintro e w2 ⟨rfl, hb2⟩
        have hz2 : wr.heap.size < w2.heap.size := by have := hb2.size; simp at this; omega
        have hk2 : Below wr.heap.size wr w2 := ((Below.refl wr.heap.size wr).alloc (Nat.le_refl _) _).trans (hb2.mono (by simp))
        have r0 := keepc hk2 r0
        have r1 := keepc hk2 r1
        have f0 := fun j => (hk2.frozen (p := ⟨w.heap.size, j, none⟩) (by show w.heap.size < _; omega)).trans (f0 j)
        have bw2 : Below w.heap.size w w2 := (bw1.trans (hbel.mono bw1.size)).trans (hk2.mono (by have := bw1.size; omega))
        have d0 : w2.cell? ⟨wr.heap.size, 0, none⟩ = some (.int .i64 ((k : Int) % 4)) := keepc hb2 (by go_simp)
        have d1 : w2.cell? ⟨wr.heap.size, 1, none⟩ = some (.bool (decide (4 ≤ k))) := keepc hb2 (by go_simp)
        have ne : ¬ wr.heap.size = w.heap.size := by omega
        go_wp2_with fail
        exact bodyPost_ret (v := .tuple #[.agg #[.int .i64 ((k : Int) % 4), .bool (decide (4 ≤ k))], .bool true]) (by simp [results, Try.results26, go_sem, r0, r1]) rfl ⟨by rw [HP.out.1, HP.out.2.1, HP.out.2.2], (by repeat (first | exact Below.refl _ _ | assumption | refine Below.drew ?_ | refine Below.setCell ?_ (by first | (dsimp only; omega) | (simp; omega) | simp) _ | refine Below.alloc ?_ (by first | omega | (simp; omega) | simp) _))⟩
    · obtain rfl : k = 8 := by omega
      have HP := hide (parse_no hno.out)
      have bwr : Below w.heap.size w wr := bw1.trans (hbel.mono bw1.size)
      go_wp2_with fail
      exact bodyPost_ret (v := .tuple #[.agg #[.int .i64 0, .bool false], .bool false]) (by simp [results, Try.results26, go_sem, r0, r1]) rfl ⟨by rw [HP.out.1, HP.out.2.1, HP.out.2.2], (by repeat (first | exact Below.refl _ _ | assumption | refine Below.drew ?_ | refine Below.setCell ?_ (by first | (dsimp only; omega) | (simp; omega) | simp) _ | refine Below.alloc ?_ (by first | omega | (simp; omega) | simp) _))⟩

end Go.Proofs.Ytnpgdijafmkmkaa
