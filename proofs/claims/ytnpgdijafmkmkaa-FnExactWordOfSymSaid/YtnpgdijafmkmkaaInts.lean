/- What the laws' functions on slices of integers compute: toIntS copies a slice, eqIntS says of two slices that read as one list that they are the same. Condition: the slices read as a list; toIntS: of at most 1048576 elements. -/
import Derived.Test.YtnpgdijafmkmkaaWordR
import Derived.OwnWalk
import Derived.Deep.RegionHeld3
namespace Go.Proofs.Ytnpgdijafmkmkaa
open Go.RowKit

theorem Try.infoInt : (Try.prog.info? 3).map (fun i => (i.zero, i.size, i.bytes)) = some (some (.int .i64 0), 1, 8) := by kernel_rfl

/-- A slice of integers in new memory. -/
def RetInts (w : World) (l : List Int) (e : Ending) (w' : World) : Prop :=
  ∃ v, e = .returned v ∧ w'.ownsRow w.heap.size 3 1 v l.length (l.map (Value.int .i64)) ∧ Below w.heap.size w w'

/-- The first k elements, then zeros. -/
def fillL (l : List Int) (k : Nat) : List Value := (l.take k).map (Value.int .i64) ++ List.replicate (l.length - k) (.int .i64 0)

theorem fill_zero (l : List Int) : fillL l 0 = List.replicate l.length (.int .i64 0) := by simp [fillL]
theorem fill_all (l : List Int) : fillL l l.length = l.map (Value.int .i64) := by simp [fillL]
theorem fill_length (l : List Int) (k : Nat) (h : k ≤ l.length) : (fillL l k).length = l.length := by simp [fillL]; omega

theorem fill_set {l : List Int} {k : Nat} (h : k < l.length) : (fillL l k).set k (.int .i64 (l.getD k 0)) = fillL l (k + 1) := by
  unfold fillL
  have hlen : ((l.take k).map (Value.int .i64)).length = k := by simp; omega
  rw [show l.length - k = (l.length - (k + 1)) + 1 by omega, List.replicate_succ, List.set_append_right _ _ (by omega), hlen, Nat.sub_self, List.set_cons_zero,
    List.take_succ_eq_append_getElem h, List.map_append, List.append_assoc]
  simp [List.getD, List.getElem?_eq_getElem h]

theorem toInt_nil (a : Option Addr) (cap : Nat) (w : World) : Calls Try.prog 33 #[.slice a 0 cap] w (RetInts w []) := by
  obtain ⟨i0, hi, hz0, hz1, hz2⟩ := infoParts Try.infoInt
  go_enter Try.func33, Try.ntmps33
  go_wp2_with (at_make; refine wpList_make_full _ rfl _ _ 42 rfl w.heap.size 3 i0 (.int .i64 0) 1 Try.underlying42 hi hz0 hz1 .i64 .i64 _ _ 0 rfl rfl rfl rfl (by omega) (by unfold maxLen; omega) (Nat.le_refl _) ?_)
  intro w1 hown hgrow
  have bel : Below w.heap.size w w1 := (Below.refl _ _).grown hgrow (Nat.le_refl _) (fun q hq => by cases hq)
  have hown2 : w1.ownsRow w.heap.size 3 1 (.slice (some ⟨w.heap.size, 0, none⟩) 0 0) 0 [] := by simpa [madeCells] using hown
  clear hown hgrow
  go_wp2
  go_loop [4] (fun i => i = .int .i64 0) (fun _ => 0)
  case atStart => rfl
  case round =>
    subst hrel
    go_wp2
    go_ret
    exact ⟨_, rfl, hown2, bel⟩

set_option maxHeartbeats 1000000 in
theorem toInt_some (b off n cap : Nat) (l : List Int) (w : World) (hl : l.length = n) (hn : n ≤ cap) (hn2 : n ≤ 1048576) (hpos : 0 < n) (hc : ∀ j, j < n → w.cell? ⟨b, off + j, none⟩ = some (.int .i64 (l.getD j 0))) :
    Calls Try.prog 33 #[.slice (some ⟨b, off, none⟩) n cap] w (RetInts w l) := by
  obtain ⟨i0, hi, hz0, hz1, hz2⟩ := infoParts Try.infoInt
  have HL := hide hl
  have HC := hide hc
  clear hl hc
  go_enter Try.func33, Try.ntmps33
  go_wp2_with (at_make; refine wpList_make_full _ rfl _ _ 42 rfl w.heap.size 3 i0 (.int .i64 0) 1 Try.underlying42 hi hz0 hz1 .i64 .i64 _ _ n rfl rfl rfl rfl (by rw [hz2]; omega) (by unfold maxLen; omega) (Nat.le_refl _) ?_)
  intro w1 hown hgrow
  have bel : Below w.heap.size w w1 := (Below.refl _ _).grown hgrow (Nat.le_refl _) (fun q hq => by cases hq)
  have hown2 : w1.ownsRow w.heap.size 3 1 (.slice (some ⟨w.heap.size, 0, none⟩) n n) n (fillL l 0) := by
    rw [toList_madeCells_one] at hown
    rw [fill_zero, HL.out]
    exact hown
  clear hown hgrow
  go_wp2_with fail
  go_loopw [4] (fun i wr => ∃ k : Nat, k ≤ n ∧ i = .int .i64 k ∧ wr.ownsRow w.heap.size 3 1 (.slice (some ⟨w.heap.size, 0, none⟩) n n) n (fillL l k) ∧ Below w.heap.size w wr) (fun i _ => n - (intOf i).toNat)
  case atStart => exact ⟨0, Nat.zero_le _, rfl, hown2, bel⟩
  case round =>
    clear hown2 bel
    obtain ⟨k, hk, rfl, hown, hbel⟩ := hrel
    by_cases hlt : k < n
    · have c0 := keepc hbel (HC.out k hlt)
      have d0 := hown.cellAt k (by omega)
      have hfl : k < (fillL l k).length := by rw [fill_length l k (by rw [HL.out]; omega), HL.out]; exact hlt
      rw [List.getElem?_eq_getElem hfl] at d0
      have f0 := hown.frozenAt k
      obtain ⟨hs, hg⟩ := hown.stored k (.int .i64 (l.getD k 0))
      rw [fill_set (by rw [HL.out]; exact hlt)] at hs
      have hb2 := hbel.grown hg hbel.size (fun q hq => by cases hq; exact Nat.le_refl _)
      generalize (fillL l k)[k] = u at d0
      generalize l.getD k 0 = z at c0 hs hg hb2
      have HS := hide hs
      clear hown hg hs
      go_wp2_with fail
      go_roundw
      case rel => exact ⟨k + 1, by omega, by go_num, HS.out, hb2⟩
      case measure => simp [intOf]; omega
    · obtain rfl : k = n := by omega
      go_wp2_with fail
      go_ret
      have hfin : wr.ownsRow w.heap.size 3 1 (.slice (some ⟨w.heap.size, 0, none⟩) k k) l.length (l.map (Value.int .i64)) := by
        have e := fill_all l
        rw [HL.out] at e ⊢
        rw [← e]
        exact hown
      exact ⟨_, rfl, hfin, hbel⟩

/-- toIntS copies. -/
theorem toInt_any (a : Option Addr) (n cap : Nat) (l : List Int) (w : World) (h : ReadsI w a n cap l) (hn : n ≤ 1048576) : Calls Try.prog 33 #[.slice a n cap] w (RetInts w l) := by
  obtain ⟨h1, h2, h3⟩ := h
  by_cases h0 : n = 0
  · subst h0
    rw [List.eq_nil_of_length_eq_zero h1]
    exact toInt_nil a cap w
  · rcases h3 with h3 | ⟨b, off, rfl, hc, hm, hcell⟩
    · exact absurd h3 h0
    · exact toInt_some b off n cap l w h1 hc hn (by omega) hcell

theorem eqI_nil (a b : Option Addr) (ca cb : Nat) (w : World) : Calls Try.prog 35 #[.slice a 0 ca, .slice b 0 cb] w fun e w' => e = .returned (.bool true) ∧ Below w.heap.size w w' := by
  go_enter Try.func35, Try.ntmps35
  go_wp2
  go_loop [5] (fun i => i = .int .i64 0) (fun _ => 0)
  case atStart => rfl
  case round =>
    subst hrel
    go_wp2
    go_ret
    exact ⟨rfl, Below.refl _ _⟩

set_option maxHeartbeats 1000000 in
theorem eqI_some (ba oa bb ob n ca cb : Nat) (l : List Int) (w : World) (hca : n ≤ ca) (hcb : n ≤ cb) (hm : n ≤ 9223372036854775807)
    (ha : ∀ j, j < n → w.cell? ⟨ba, oa + j, none⟩ = some (.int .i64 (l.getD j 0))) (hb : ∀ j, j < n → w.cell? ⟨bb, ob + j, none⟩ = some (.int .i64 (l.getD j 0))) :
    Calls Try.prog 35 #[.slice (some ⟨ba, oa, none⟩) n ca, .slice (some ⟨bb, ob, none⟩) n cb] w fun e w' => e = .returned (.bool true) ∧ Below w.heap.size w w' := by
  have HA := hide ha
  have HB := hide hb
  clear ha hb
  go_enter Try.func35, Try.ntmps35
  go_wp2_with fail
  go_loopw [5] (fun i wr => ∃ k : Nat, k ≤ n ∧ i = .int .i64 k ∧ Below w.heap.size w wr) (fun i _ => n - (intOf i).toNat)
  case atStart => exact ⟨0, Nat.zero_le _, rfl, Below.refl _ _⟩
  case round =>
    obtain ⟨k, hk, rfl, hbel⟩ := hrel
    by_cases hlt : k < n
    · have a0 := keepc hbel (HA.out k hlt)
      have b0 := keepc hbel (HB.out k hlt)
      generalize l.getD k 0 = z at a0 b0
      go_wp2_with fail
      go_region_held3 (fun w' => w'.cell? ⟨ba, oa + k, none⟩ = some (.int .i64 z) ∧ w'.cell? ⟨bb, ob + k, none⟩ = some (.int .i64 z))
        (exact ⟨keepc (by repeat (first | exact Below.refl _ _ | assumption | refine Below.drew ?_ | refine Below.setCell ?_ (by first | (dsimp only; omega) | (simp; omega) | simp) _ | refine Below.alloc ?_ (by first | omega | (simp; omega) | simp) _)) a0, keepc (by repeat (first | exact Below.refl _ _ | assumption | refine Below.drew ?_ | refine Below.setCell ?_ (by first | (dsimp only; omega) | (simp; omega) | simp) _ | refine Below.alloc ?_ (by first | omega | (simp; omega) | simp) _)) b0⟩) (fail)
      go_wp2_with fail
      go_roundw
      case rel => exact ⟨k + 1, by omega, by go_num, hbel.drew⟩
      case measure => simp [intOf]; omega
    · obtain rfl : k = n := by omega
      go_wp2_with fail
      go_ret
      exact ⟨rfl, hbel⟩

/-- Two slices that read as one list are the same for eqIntS. -/
theorem eqI_any (a b : Option Addr) (n ca cb : Nat) (l : List Int) (w : World) (ha : ReadsI w a n ca l) (hb : ReadsI w b n cb l) :
    Calls Try.prog 35 #[.slice a n ca, .slice b n cb] w fun e w' => e = .returned (.bool true) ∧ Below w.heap.size w w' := by
  obtain ⟨h1, h2, h3⟩ := ha
  obtain ⟨_, _, k3⟩ := hb
  unfold maxLen at h2
  rcases h3 with rfl | ⟨ba, oa, rfl, hn, hm, hc⟩
  · exact eqI_nil a b ca cb w
  · rcases k3 with rfl | ⟨bb, ob, rfl, kn, km, kc⟩
    · exact eqI_nil _ _ ca cb w
    · exact eqI_some ba oa bb ob n ca cb l w hn kn (by omega) hc kc

end Go.Proofs.Ytnpgdijafmkmkaa
