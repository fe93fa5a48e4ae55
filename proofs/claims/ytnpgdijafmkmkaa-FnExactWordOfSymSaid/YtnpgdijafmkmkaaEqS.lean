/- What the laws' eqSymS, markSymS and heldSymS compute on slices of symmetries in new memory. Condition: the slices' cells are known. -/
import Derived.Test.YtnpgdijafmkmkaaRows2
import Derived.Test.YtnpgdijafmkmkaaSym
import Derived.Deep.RegionHeld3
import Derived.Deep.CutRange
namespace Go.Proofs.Ytnpgdijafmkmkaa
open Go.RowKit

/-- A slice that reads as the list l of symmetries. -/
def ReadsS (w : World) (a : Option Addr) (n cap : Nat) (l : List (Int × Bool)) : Prop :=
  l.length = n ∧ (n = 0 ∨ ∃ g, a = some ⟨g, 0, none⟩ ∧ n ≤ cap ∧ cap ≤ maxLen ∧ ∀ j, j < n * 2 → w.cell? ⟨g, j, none⟩ = (symCells l)[j]?)

theorem readsS_of_own {w : World} {base : Nat} {v : Value} {l : List (Int × Bool)} (h : w.ownsRow base 26 2 v l.length (symCells l)) : ∃ a cap, v = .slice a l.length cap ∧ ReadsS w a l.length cap l := by
  rcases h.2 with ⟨rfl, h0⟩ | ⟨g, cap, cur, rfl, hb, hg, hn, hm, _, _⟩
  · exact ⟨none, 0, by rw [h0], rfl, .inl h0⟩
  · exact ⟨_, cap, rfl, rfl, .inr ⟨g, rfl, hn, hm, fun j hj => h.cellAt j hj⟩⟩

theorem ReadsS.below {w W : World} {a : Option Addr} {n cap : Nat} {l : List (Int × Bool)} (h : ReadsS w a n cap l) (hb : Below w.heap.size w W) : ReadsS W a n cap l := by
  obtain ⟨h1, h2⟩ := h
  refine ⟨h1, ?_⟩
  rcases h2 with h2 | ⟨g, rfl, hn, hm, hc⟩
  · exact .inl h2
  · refine .inr ⟨g, rfl, hn, hm, fun j hj => ?_⟩
    have e := hc j hj
    have hl : j < (symCells l).length := by rw [symCells_length]; omega
    rw [List.getElem?_eq_getElem hl] at e ⊢
    exact keepc hb e

theorem ReadsS.at {w : World} {g n : Nat} {l : List (Int × Bool)} (h : ∀ j, j < n * 2 → w.cell? ⟨g, j, none⟩ = (symCells l)[j]?) (hl : l.length = n) (k : Nat) (hk : k < n) :
    w.cell? ⟨g, k * 2, none⟩ = some (.int .i64 (l[k]'(by omega)).1) ∧ w.cell? ⟨g, k * 2 + 1, none⟩ = some (.bool (l[k]'(by omega)).2) := by
  have := symCells_at l k (by omega)
  exact ⟨(h _ (by omega)).trans this.1, (h _ (by omega)).trans this.2⟩

theorem eqS_nil (a b : Option Addr) (ca cb : Nat) (w : World) : Calls Try.prog 29 #[.slice a 0 ca, .slice b 0 cb] w fun e w' => e = .returned (.bool true) ∧ Below w.heap.size w w' := by
  go_enter Try.func29, Try.ntmps29
  go_wp2
  go_loop [5] (fun i => i = .int .i64 0) (fun _ => 0)
  case atStart => rfl
  case round =>
    subst hrel
    go_wp2
    go_ret
    exact ⟨rfl, Below.refl _ _⟩

set_option maxHeartbeats 1000000 in
theorem eqS_some (ga gb n ca cb : Nat) (l : List (Int × Bool)) (w : World) (hl : l.length = n) (hca : n ≤ ca) (hcb : n ≤ cb) (hm : ca ≤ maxLen)
    (ha : ∀ j, j < n * 2 → w.cell? ⟨ga, j, none⟩ = (symCells l)[j]?) (hb : ∀ j, j < n * 2 → w.cell? ⟨gb, j, none⟩ = (symCells l)[j]?) :
    Calls Try.prog 29 #[.slice (some ⟨ga, 0, none⟩) n ca, .slice (some ⟨gb, 0, none⟩) n cb] w fun e w' => e = .returned (.bool true) ∧ Below w.heap.size w w' := by
  unfold maxLen at hm
  have hall : ∀ k, k < n → ∃ T F, w.cell? ⟨ga, k * 2, none⟩ = some (.int .i64 T) ∧ w.cell? ⟨ga, k * 2 + 1, none⟩ = some (.bool F) ∧ w.cell? ⟨gb, k * 2, none⟩ = some (.int .i64 T) ∧ w.cell? ⟨gb, k * 2 + 1, none⟩ = some (.bool F) := fun k hk =>
    ⟨_, _, (ReadsS.at ha hl k hk).1, (ReadsS.at ha hl k hk).2, (ReadsS.at hb hl k hk).1, (ReadsS.at hb hl k hk).2⟩
  have hat := hide hall
  clear hall ha hb hl
  go_enter Try.func29, Try.ntmps29
  go_wp2
  go_loopw [5] (fun i wr => ∃ k : Nat, k ≤ n ∧ i = .int .i64 k ∧ Below w.heap.size w wr) (fun i _ => n - (intOf i).toNat)
  case atStart => exact ⟨0, Nat.zero_le _, rfl, Below.refl _ _⟩
  case round =>
    obtain ⟨k, hk, rfl, hbel⟩ := hrel
    by_cases hlt : k < n
    · obtain ⟨T, F, a0, a1, b0, b1⟩ := hat.out k hlt
      have a0 := keepc hbel a0
      have a1 := keepc hbel a1
      have b0 := keepc hbel b0
      have b1 := keepc hbel b1
      go_wp2_with fail
      go_region_held3 (fun w' => w'.cell? ⟨ga, k * 2, none⟩ = some (.int .i64 T) ∧ w'.cell? ⟨ga, k * 2 + 1, none⟩ = some (.bool F) ∧ w'.cell? ⟨gb, k * 2, none⟩ = some (.int .i64 T) ∧ w'.cell? ⟨gb, k * 2 + 1, none⟩ = some (.bool F))
        (exact ⟨keepc (by repeat (first | exact Below.refl _ _ | assumption | refine Below.drew ?_ | refine Below.setCell ?_ (by first | (dsimp only; omega) | (simp; omega) | simp) _ | refine Below.alloc ?_ (by first | omega | (simp; omega) | simp) _)) a0, keepc (by repeat (first | exact Below.refl _ _ | assumption | refine Below.drew ?_ | refine Below.setCell ?_ (by first | (dsimp only; omega) | (simp; omega) | simp) _ | refine Below.alloc ?_ (by first | omega | (simp; omega) | simp) _)) a1, keepc (by repeat (first | exact Below.refl _ _ | assumption | refine Below.drew ?_ | refine Below.setCell ?_ (by first | (dsimp only; omega) | (simp; omega) | simp) _ | refine Below.alloc ?_ (by first | omega | (simp; omega) | simp) _)) b0, keepc (by repeat (first | exact Below.refl _ _ | assumption | refine Below.drew ?_ | refine Below.setCell ?_ (by first | (dsimp only; omega) | (simp; omega) | simp) _ | refine Below.alloc ?_ (by first | omega | (simp; omega) | simp) _)) b1⟩)
        (first | (go_at_call 22; refine (eqSym_any _ _ _ _ _).mono ?_; rintro e w' ⟨rfl, rfl⟩))
      go_wp2
      go_roundw
      case rel => exact ⟨k + 1, by omega, by go_num, hbel.trans ((((Below.refl wr.heap.size wr).alloc (Nat.le_refl _) _).alloc (by simp) _).drew.mono hbel.size)⟩
      case measure => simp [intOf]; omega
    · obtain rfl : k = n := by omega
      go_wp2
      go_ret
      exact ⟨rfl, hbel⟩

/-- Two slices that read as one list are the same for eqSymS. -/
theorem eqS_any (a b : Option Addr) (n ca cb : Nat) (l : List (Int × Bool)) (w : World) (ha : ReadsS w a n ca l) (hb : ReadsS w b n cb l) :
    Calls Try.prog 29 #[.slice a n ca, .slice b n cb] w fun e w' => e = .returned (.bool true) ∧ Below w.heap.size w w' := by
  obtain ⟨hl, ha⟩ := ha
  obtain ⟨_, hb⟩ := hb
  rcases ha with rfl | ⟨ga, rfl, h1, h2, h3⟩
  · exact eqS_nil a b ca cb w
  · rcases hb with rfl | ⟨gb, rfl, k1, k2, k3⟩
    · exact eqS_nil _ _ ca cb w
    · exact eqS_some ga gb n ca cb l w hl h1 k1 h2 h3 k3

/-- The marks: cell j of a slice of symmetries that was marked from 1 on. -/
def mark (j : Nat) : Value := if j % 2 = 0 then .int .i64 (1 + j) else .bool ((1 + (j : Int)) % 3 == 0)

structure Marked (w : World) (g n c : Nat) (wr : World) : Prop where
  grow : w.grownBy wr (some g)
  size : wr.heap.size = w.heap.size
  new : ∀ j, j < c → wr.cell? ⟨g, j, none⟩ = some (mark j)
  old : ∀ j, c ≤ j → j < n * 2 → ∃ v, wr.cell? ⟨g, j, none⟩ = some v
  free : ∀ j, j < n * 2 → wr.frozen? ⟨g, j, none⟩ = false

theorem Marked.step {w : World} {g n c : Nat} {wr : World} (h : Marked w g n c wr) (hc : c < n * 2) : Marked w g n (c + 1) (wr.setCell ⟨g, c, none⟩ (mark c)) := by
  obtain ⟨v, hv⟩ := h.old c (Nat.le_refl _) hc
  refine ⟨⟨h.grow.os, h.grow.tape, h.grow.output, (by simpa [World.setCell] using h.grow.size), fun k hk hne => ?_⟩, (by simpa [World.setCell] using h.size), fun j hj => ?_, fun j hj hn => ?_, fun j hj => ?_⟩
  · rw [Below.heap_setCell _ _ _ _ (by intro e; exact hne (by rw [e]))]
    exact h.grow.block k hk hne
  · by_cases e : j = c
    · subst e
      exact World.cell?_setCell_same _ _ _ hv
    · exact (World.cell?_setCell_other _ ⟨g, c, none⟩ ⟨g, j, none⟩ _ (by first | (simp; done) | (simp; omega))).trans (h.new j (by omega))
  · obtain ⟨u, hu⟩ := h.old j (by omega) hn
    exact ⟨u, (World.cell?_setCell_other _ ⟨g, c, none⟩ ⟨g, j, none⟩ _ (by first | (simp; done) | (simp; omega))).trans hu⟩
  · have := h.free j hj
    go_simp

theorem Marked.start {w : World} {g n : Nat} (hc : ∀ j, j < n * 2 → ∃ v, w.cell? ⟨g, j, none⟩ = some v) (hf : ∀ j, j < n * 2 → w.frozen? ⟨g, j, none⟩ = false) : Marked w g n 0 w :=
  ⟨⟨rfl, rfl, rfl, Nat.le_refl _, fun _ _ _ => rfl⟩, rfl, fun _ h => by omega, fun j _ h => hc j h, hf⟩

theorem mark_even (c : Nat) : mark (c * 2) = .int .i64 (1 + ((c * 2 : Nat) : Int)) := by simp [mark]
theorem mark_odd (c : Nat) : mark (c * 2 + 1) = .bool ((1 + ((c * 2 + 1 : Nat) : Int)) % 3 == 0) := by
  simp [mark]

set_option maxHeartbeats 1000000 in
theorem markS_some (g n cap : Nat) (w : World) (hn : n ≤ 8) (hcap : n ≤ cap) (hc : ∀ j, j < n * 2 → ∃ v, w.cell? ⟨g, j, none⟩ = some v) (hf : ∀ j, j < n * 2 → w.frozen? ⟨g, j, none⟩ = false) :
    Calls Try.prog 30 #[.slice (some ⟨g, 0, none⟩) n cap, .int .i64 1] w fun e w' => e = .returned (.int .i64 (1 + 2 * n)) ∧ Marked w g n (n * 2) w' := by
  have h0 := Marked.start hc hf
  clear hc hf
  go_enter Try.func30, Try.ntmps30
  go_wp2
  go_loopw [1, 5] (fun q i wr => ∃ (k : Nat) (K : Int), k ≤ n ∧ i = .int .i64 k ∧ q = .int .i64 K ∧ Hid (K = 1 + 2 * k) ∧ 1 ≤ K ∧ K ≤ 17 ∧ Marked w g n (k * 2) wr) (fun _ i _ => n - (intOf i).toNat)
  case atStart => exact ⟨0, 1, Nat.zero_le _, rfl, rfl, rfl, by omega, by omega, h0⟩
  case round =>
    clear h0
    obtain ⟨k, K, hk, rfl, rfl, HK, hK0, hK1, hm⟩ := hrel
    by_cases hlt : k < n
    · obtain ⟨v0, c0⟩ := hm.old (k * 2) (Nat.le_refl _) (by omega)
      obtain ⟨v1, c1⟩ := hm.old (k * 2 + 1) (by omega) (by omega)
      have f0 := hm.free (k * 2) (by omega)
      have f1 := hm.free (k * 2 + 1) (by omega)
      have hs : Marked w g n (k * 2 + 1 + 1) ((wr.setCell ⟨g, k * 2, none⟩ (.int .i64 K)).setCell ⟨g, k * 2 + 1, none⟩ (.bool ((K + 1) % 3 == 0))) := by
        have h1 := (hm.step (by omega)).step (by omega)
        have e0 : mark (k * 2) = .int .i64 K := by rw [mark_even]; congr 1; have := HK.out; omega
        have e1 : mark (k * 2 + 1) = .bool ((K + 1) % 3 == 0) := by
          rw [mark_odd]
          have := HK.out
          rw [show (1 + ((k * 2 + 1 : Nat) : Int)) = K + 1 by omega]
        rw [e0, e1] at h1
        exact h1
      go_wp2
      go_roundw
      case rel => exact ⟨k + 1, K + 1 + 1, by omega, by go_num, rfl, by have := HK.out; show K + 1 + 1 = 1 + 2 * ((k + 1 : Nat) : Int); omega, by omega, by have := HK.out; omega, by rw [show (k + 1) * 2 = k * 2 + 1 + 1 by omega]; exact hs⟩
      case measure => simp [intOf]; omega
    · obtain rfl : k = n := by omega
      go_wp2
      go_ret
      exact ⟨by have := HK.out; subst this; rfl, hm⟩

theorem markS_nil (a : Option Addr) (cap : Nat) (w : World) : Calls Try.prog 30 #[.slice a 0 cap, .int .i64 1] w fun e w' => e = .returned (.int .i64 1) ∧ w = w' := by
  go_enter Try.func30, Try.ntmps30
  go_wp2
  go_loop [1, 5] (fun q i => q = .int .i64 1 ∧ i = .int .i64 0) (fun _ _ => 0)
  case atStart => exact ⟨rfl, rfl⟩
  case round =>
    obtain ⟨rfl, rfl⟩ := hrel
    go_wp2
    go_ret
    exact ⟨rfl, rfl⟩

theorem heldS_nil (a : Option Addr) (cap : Nat) (w : World) : Calls Try.prog 31 #[.slice a 0 cap, .int .i64 1] w fun e w' => e = .returned (.int .i64 1) ∧ w = w' := by
  go_enter Try.func31, Try.ntmps31
  go_wp2
  go_loop [1, 5] (fun q i => q = .int .i64 1 ∧ i = .int .i64 0) (fun _ _ => 0)
  case atStart => exact ⟨rfl, rfl⟩
  case round =>
    obtain ⟨rfl, rfl⟩ := hrel
    go_wp2
    go_ret
    exact ⟨rfl, rfl⟩

set_option maxHeartbeats 1000000 in
theorem heldS_some (g n cap : Nat) (w : World) (hn : n ≤ 8) (hcap : n ≤ cap) (hc : ∀ j, j < n * 2 → w.cell? ⟨g, j, none⟩ = some (mark j)) :
    Calls Try.prog 31 #[.slice (some ⟨g, 0, none⟩) n cap, .int .i64 1] w fun e w' => e = .returned (.int .i64 (1 + 2 * n)) ∧ w = w' := by
  have hm := hide hc
  clear hc
  go_enter Try.func31, Try.ntmps31
  go_wp2
  go_loop [1, 5] (fun q i => ∃ (k : Nat) (K : Int), k ≤ n ∧ i = .int .i64 k ∧ q = .int .i64 K ∧ Hid (K = 1 + 2 * k) ∧ 1 ≤ K ∧ K ≤ 17) (fun _ i => n - (intOf i).toNat)
  case atStart => exact ⟨0, 1, Nat.zero_le _, rfl, rfl, rfl, by omega, by omega⟩
  case round =>
    obtain ⟨k, K, hk, rfl, rfl, HK, hK0, hK1⟩ := hrel
    by_cases hlt : k < n
    · have c0 : w.cell? ⟨g, k * 2, none⟩ = some (.int .i64 K) := by
        rw [hm.out _ (by omega), mark_even]
        have := HK.out
        rw [show (1 + ((k * 2 : Nat) : Int)) = K by omega]
      have c1 : w.cell? ⟨g, k * 2 + 1, none⟩ = some (.bool ((K + 1) % 3 == 0)) := by
        rw [hm.out _ (by omega), mark_odd]
        have := HK.out
        rw [show (1 + ((k * 2 + 1 : Nat) : Int)) = K + 1 by omega]
      go_wp2
      go_round
      case rel => exact ⟨k + 1, K + 1 + 1, by omega, by go_num, rfl, by have := HK.out; show K + 1 + 1 = 1 + 2 * ((k + 1 : Nat) : Int); omega, by omega, by have := HK.out; omega⟩
      case measure => simp [intOf]; omega
    · obtain rfl : k = n := by omega
      go_wp2
      go_ret
      exact ⟨by have := HK.out; subst this; rfl, rfl⟩

end Go.Proofs.Ytnpgdijafmkmkaa
