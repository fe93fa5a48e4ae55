/- What the laws' markIntS and heldIntS compute on slices of integers in new memory. Condition: at most 8 elements, the cells are known. -/
import Derived.Test.YtnpgdijafmkmkaaInts
import Derived.Deep.CutRange
namespace Go.Proofs.Ytnpgdijafmkmkaa
open Go.RowKit

/-- The marks: cell j of a slice of integers that was marked from 1 on. -/
def markI (j : Nat) : Value := .int .i64 (1 + (j : Int))

structure MarkedI (w : World) (g n c : Nat) (wr : World) : Prop where
  grow : w.grownBy wr (some g)
  size : wr.heap.size = w.heap.size
  new : ∀ j, j < c → wr.cell? ⟨g, j, none⟩ = some (markI j)
  old : ∀ j, c ≤ j → j < n → ∃ v, wr.cell? ⟨g, j, none⟩ = some v
  free : ∀ j, j < n → wr.frozen? ⟨g, j, none⟩ = false

theorem MarkedI.step {w : World} {g n c : Nat} {wr : World} (h : MarkedI w g n c wr) (hc : c < n) : MarkedI w g n (c + 1) (wr.setCell ⟨g, c, none⟩ (markI c)) := by
  obtain ⟨v, hv⟩ := h.old c (Nat.le_refl _) hc
  refine ⟨⟨h.grow.os, h.grow.tape, h.grow.output, (by simpa [World.setCell] using h.grow.size), fun k hk hne => ?_⟩, (by simpa [World.setCell] using h.size), fun j hj => ?_, fun j hj hn => ?_, fun j hj => ?_⟩
  · rw [Below.heap_setCell _ _ _ _ (by intro e; exact hne (by rw [e]))]
    exact h.grow.block k hk hne
  · by_cases e : j = c
    · subst e
      exact World.cell?_setCell_same _ _ _ hv
    · exact (World.cell?_setCell_other _ ⟨g, c, none⟩ ⟨g, j, none⟩ _ (by first | (simp; done) | (simp; omega))).trans (h.new j (by omega))
  · obtain ⟨u, hu⟩ := h.old j (by omega) hn
    exact ⟨u, (World.cell?_setCell_other _ ⟨g, c, none⟩ ⟨g, j, none⟩ _ (by first | (simp; done) | (simp; omega))).trans hu⟩
  · have := h.free j hj
    go_simp

theorem MarkedI.start {w : World} {g n : Nat} (hc : ∀ j, j < n → ∃ v, w.cell? ⟨g, j, none⟩ = some v) (hf : ∀ j, j < n → w.frozen? ⟨g, j, none⟩ = false) : MarkedI w g n 0 w :=
  ⟨⟨rfl, rfl, rfl, Nat.le_refl _, fun _ _ _ => rfl⟩, rfl, fun _ h => by omega, fun j _ h => hc j h, hf⟩

theorem ReadsI.markedI {w W : World} {g m c : Nat} {a : Option Addr} {n cap : Nat} {l : List Int} (h : ReadsI w a n cap l) (hm : MarkedI w g m c W) (hne : ∀ x, a = some x → x.block ≠ g) : ReadsI W a n cap l := by
  obtain ⟨h1, h2, h3⟩ := h
  refine ⟨h1, h2, ?_⟩
  rcases h3 with h3 | ⟨b, off, rfl, hn, hcap, hc⟩
  · exact .inl h3
  · refine .inr ⟨b, off, rfl, hn, hcap, fun j hj => ?_⟩
    have e := hc j hj
    have hb := World.block_lt_of_cell? w _ e
    rw [← e]
    exact World.cell?_of_block (hm.grow.block b hb (by have := hne _ rfl; simpa using this))

theorem MarkedI.belowAt {w0 w W : World} {g n c : Nat} (h : MarkedI w g n c W) (hb : Below w0.heap.size w0 w) (hg : w0.heap.size ≤ g) : Below w0.heap.size w0 W :=
  hb.trans ⟨h.grow.os, h.grow.tape, h.grow.output, h.grow.size, fun k hk => h.grow.block k (by have := hb.size; omega) (by simp; omega)⟩

set_option maxHeartbeats 1000000 in
theorem markI_some (g n cap : Nat) (w : World) (hn : n ≤ 8) (hcap : n ≤ cap) (hc : ∀ j, j < n → ∃ v, w.cell? ⟨g, j, none⟩ = some v) (hf : ∀ j, j < n → w.frozen? ⟨g, j, none⟩ = false) :
    Calls Try.prog 43 #[.slice (some ⟨g, 0, none⟩) n cap, .int .i64 1] w fun e w' => e = .returned (.int .i64 (1 + n)) ∧ MarkedI w g n n w' := by
  have h0 := MarkedI.start hc hf
  clear hc hf
  go_enter Try.func43, Try.ntmps43
  go_wp2
  go_loopw [1, 5] (fun q i wr => ∃ (k : Nat) (K : Int), k ≤ n ∧ i = .int .i64 k ∧ q = .int .i64 K ∧ Hid (K = 1 + k) ∧ 1 ≤ K ∧ K ≤ 9 ∧ MarkedI w g n k wr) (fun _ i _ => n - (intOf i).toNat)
  case atStart => exact ⟨0, 1, Nat.zero_le _, rfl, rfl, rfl, by omega, by omega, h0⟩
  case round =>
    clear h0
    obtain ⟨k, K, hk, rfl, rfl, HK, hK0, hK1, hm⟩ := hrel
    by_cases hlt : k < n
    · obtain ⟨v0, c0⟩ := hm.old k (Nat.le_refl _) hlt
      have f0 := hm.free k hlt
      have hs : MarkedI w g n (k + 1) (wr.setCell ⟨g, k, none⟩ (.int .i64 K)) := by
        have h1 := hm.step hlt
        have e0 : markI k = .int .i64 K := by unfold markI; rw [HK.out]
        rw [e0] at h1
        exact h1
      go_wp2
      go_roundw
      case rel => exact ⟨k + 1, K + 1, by omega, by go_num, rfl, by have := HK.out; show K + 1 = 1 + ((k + 1 : Nat) : Int); omega, by omega, by have := HK.out; omega, hs⟩
      case measure => simp [intOf]; omega
    · obtain rfl : k = n := by omega
      go_wp2
      go_ret
      exact ⟨by have := HK.out; subst this; rfl, hm⟩

theorem markI_nil (a : Option Addr) (cap : Nat) (w : World) : Calls Try.prog 43 #[.slice a 0 cap, .int .i64 1] w fun e w' => e = .returned (.int .i64 1) ∧ w = w' := by
  go_enter Try.func43, Try.ntmps43
  go_wp2
  go_loop [1, 5] (fun q i => q = .int .i64 1 ∧ i = .int .i64 0) (fun _ _ => 0)
  case atStart => exact ⟨rfl, rfl⟩
  case round =>
    obtain ⟨rfl, rfl⟩ := hrel
    go_wp2
    go_ret
    exact ⟨rfl, rfl⟩

theorem heldI_nil (a : Option Addr) (cap : Nat) (w : World) : Calls Try.prog 44 #[.slice a 0 cap, .int .i64 1] w fun e w' => e = .returned (.int .i64 1) ∧ w = w' := by
  go_enter Try.func44, Try.ntmps44
  go_wp2
  go_loop [1, 5] (fun q i => q = .int .i64 1 ∧ i = .int .i64 0) (fun _ _ => 0)
  case atStart => exact ⟨rfl, rfl⟩
  case round =>
    obtain ⟨rfl, rfl⟩ := hrel
    go_wp2
    go_ret
    exact ⟨rfl, rfl⟩

set_option maxHeartbeats 1000000 in
theorem heldI_some (g n cap : Nat) (w : World) (hn : n ≤ 8) (hcap : n ≤ cap) (hc : ∀ j, j < n → w.cell? ⟨g, j, none⟩ = some (markI j)) :
    Calls Try.prog 44 #[.slice (some ⟨g, 0, none⟩) n cap, .int .i64 1] w fun e w' => e = .returned (.int .i64 (1 + n)) ∧ w = w' := by
  have hm := hide hc
  clear hc
  go_enter Try.func44, Try.ntmps44
  go_wp2
  go_loop [1, 5] (fun q i => ∃ (k : Nat) (K : Int), k ≤ n ∧ i = .int .i64 k ∧ q = .int .i64 K ∧ Hid (K = 1 + k) ∧ 1 ≤ K ∧ K ≤ 9) (fun _ i => n - (intOf i).toNat)
  case atStart => exact ⟨0, 1, Nat.zero_le _, rfl, rfl, rfl, by omega, by omega⟩
  case round =>
    obtain ⟨k, K, hk, rfl, rfl, HK, hK0, hK1⟩ := hrel
    by_cases hlt : k < n
    · have c0 : w.cell? ⟨g, k, none⟩ = some (.int .i64 K) := by
        rw [hm.out _ (by omega)]
        unfold markI
        rw [HK.out]
      go_wp2
      go_round
      case rel => exact ⟨k + 1, K + 1, by omega, by go_num, rfl, by have := HK.out; show K + 1 = 1 + ((k + 1 : Nat) : Int); omega, by omega, by have := HK.out; omega⟩
      case measure => simp [intOf]; omega
    · obtain rfl : k = n := by omega
      go_wp2
      go_ret
      exact ⟨by have := HK.out; subst this; rfl, rfl⟩

end Go.Proofs.Ytnpgdijafmkmkaa
