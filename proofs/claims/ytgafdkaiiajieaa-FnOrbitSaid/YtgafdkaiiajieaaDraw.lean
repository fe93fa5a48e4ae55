/- What the reference's cursor over a draw gives: l1New, l1Byte, l1Below, l1Once: a number in its range, whatever the code. Condition: the code is a slice of bytes that can be read. -/
import Derived.Test.YtgafdkaiiajieaaFrame
import Derived.Deep.RegionHeld3
import Derived.Deep.CutRange
namespace Go.Proofs.Ytgafdkaiiajieaa
open Go.RowKit

/-- A plain reading of the code: the bytes' cells. -/
def IsCode (w : World) (a : Option Addr) (len : Nat) : Prop :=
  len ≤ 9223372036854775807 ∧ (len = 0 ∨ ∃ b off, a = some ⟨b, off, none⟩ ∧ ∀ i, i < len → ∃ n : Int, w.cell? ⟨b, off + i, none⟩ = some (.int .u8 n) ∧ 0 ≤ n ∧ n ≤ 255)

theorem isCode_of_row {w : World} {a : Option Addr} {len cap : Nat} {zs : List Int} (h : IsRow .u8 w a len cap zs) : IsCode w a len := by
  rcases h with ⟨_, rfl, _, _⟩ | ⟨x, rfl, hl, hm, hz, hc, hw⟩
  · exact ⟨by omega, .inl rfl⟩
  · refine ⟨by unfold maxLen at hm; omega, ?_⟩
    by_cases h0 : len = 0
    · exact .inl h0
    · right
      have hx : ∃ b off, x = ⟨b, off, none⟩ := by
        have h1 := hc 0 (by omega)
        obtain ⟨b, off, spot⟩ := x
        have hspot : spot = none := by simpa [Addr.add] using World.cell?_spot h1
        subst hspot
        exact ⟨b, off, rfl⟩
      obtain ⟨b, off, rfl⟩ := hx
      refine ⟨b, off, rfl, fun i hi => ?_⟩
      have h1 := hc i (by omega)
      have hi' : i < zs.length := by omega
      have h2 := hw (zs[i]) (List.getElem_mem _)
      rw [show zs.getD i 0 = zs[i] by simp [List.getD, List.getElem?_eq_getElem hi']] at h1
      have h3 : 0 ≤ zs[i] ∧ zs[i] ≤ 255 := by
        simp [Lit.wf, IntKind.min, IntKind.max, IntKind.signed, IntKind.bits] at h2
        exact h2
      refine ⟨zs[i], ?_, h3⟩
      rcases Nat.eq_zero_or_pos i with rfl | hp
      · simpa [Addr.add] using h1
      · simpa [Addr.add, Nat.ne_of_gt hp] using h1

set_option maxRecDepth 100000 in
set_option maxHeartbeats 1000000 in
theorem l1New_any (a : Option Addr) (len cap : Nat) (w : World) (hc : IsCode w a len) :
    Calls Try.prog 40 #[.slice a len cap] w fun e w' => e = .returned (.pointer (some ⟨w.heap.size, 0, none⟩)) ∧ ∃ H : Int, w.alloc (.cells #[.slice a len cap, .int .i64 0, .int .i64 H] 96) = w' := by
  obtain ⟨hm, hc⟩ := hc
  have HC := hide hc
  clear hc
  go_enter Try.func40, Try.ntmps40
  go_wp2
  go_loop [3, 4] (fun h i => ∃ (k : Nat) (H : Int), k ≤ len ∧ i = .int .i64 k ∧ h = .int .i64 H) (fun _ i => len - (intOf i).toNat)
  case atStart => exact ⟨0, _, Nat.zero_le _, rfl, rfl⟩
  case round =>
    obtain ⟨k, H, hk, rfl, rfl⟩ := hrel
    by_cases hlt : k < len
    · by_cases h4 : k < 4000
      · obtain ⟨b, off, rfl, hb⟩ : ∃ b off, a = some ⟨b, off, none⟩ ∧ ∀ i, i < len → ∃ n : Int, w.cell? ⟨b, off + i, none⟩ = some (.int .u8 n) ∧ 0 ≤ n ∧ n ≤ 255 := by
          rcases HC.out with h0 | h0
          · omega
          · exact h0
        obtain ⟨n, c0, n0, n1⟩ := hb k hlt
        clear hb
        go_wp2_with fail
        go_round
        case rel => exact ⟨k + 1, _, by omega, by go_num, rfl⟩
        case measure => simp [intOf]; omega
      · go_wp2_with fail
        go_ret
        exact ⟨rfl, H, rfl⟩
    · go_wp2_with fail
      go_ret
      exact ⟨rfl, H, rfl⟩

/-- The cursor at block p, made behind w0: it reads the code, has a place, and a mix. -/
structure CurAt (w0 w : World) (p : Nat) (a : Option Addr) (len cap : Nat) : Prop where
  code : IsCode w0 a len
  bel : Below w0.heap.size w0 w
  lo : w0.heap.size ≤ p
  b : w.cell? ⟨p, 0, none⟩ = some (.slice a len cap)
  i : ∃ k : Nat, k ≤ len ∧ w.cell? ⟨p, 1, none⟩ = some (.int .i64 k)
  h : ∃ H : Int, w.cell? ⟨p, 2, none⟩ = some (.int .i64 H)
  free : ∀ j, w.frozen? ⟨p, j, none⟩ = false

theorem CurAt.below {w0 w W : World} {p : Nat} {a : Option Addr} {len cap : Nat} (c : CurAt w0 w p a len cap) (h : Below w.heap.size w W) : CurAt w0 W p a len cap := by
  obtain ⟨k, hk, hi⟩ := c.i
  obtain ⟨H, hh⟩ := c.h
  have hp := World.block_lt_of_cell? w _ hh
  exact ⟨c.code, c.bel.trans (h.mono c.bel.size), c.lo, keepc h c.b, ⟨k, hk, keepc h hi⟩, ⟨H, keepc h hh⟩, fun j => (h.frozen (p := ⟨p, j, none⟩) hp).trans (c.free j)⟩

theorem and255 (X : Int) : 0 ≤ bits BinOp.and IntKind.i64 X 255 ∧ bits BinOp.and IntKind.i64 X 255 ≤ 255 := by
  have h255 : (BitVec.ofInt 64 255).toNat = 2 ^ 8 - 1 := by decide
  have key : (BitVec.ofInt 64 X &&& BitVec.ofInt 64 255).toNat = (X % ((2 ^ 64 : Nat) : Int)).toNat % 2 ^ 8 := by
    rw [BitVec.toNat_and, BitVec.toNat_ofInt, h255, Nat.and_two_pow_sub_one_eq_mod]
  have e : bits BinOp.and IntKind.i64 X 255 = X % 256 := by
    show IntKind.i64.wrap ((BitVec.ofInt 64 X &&& BitVec.ofInt 64 255).toNat : Nat) = X % 256
    rw [key, IntKind.wrap_i64]
    omega
  rw [e]
  omega

theorem grown_refl (w : World) (r : Option Nat) : w.grownBy w r := ⟨rfl, rfl, rfl, Nat.le_refl _, fun _ _ _ => rfl⟩
theorem grown_drew {w W : World} {r : Option Nat} (h : w.grownBy W r) : w.grownBy W.drew r := ⟨h.os, h.tape, h.output, h.size, h.block⟩
theorem grown_set {w W : World} {p j : Nat} {v : Value} (h : w.grownBy W (some p)) : w.grownBy (W.setCell ⟨p, j, none⟩ v) (some p) :=
  ⟨h.os, h.tape, h.output, by simpa [World.setCell] using h.size, fun k hk hne => by
    rw [Below.heap_setCell _ _ _ _ (by intro e; exact hne (by rw [e]))]
    exact h.block k hk hne⟩
theorem grown_trans {a b c : World} {r : Option Nat} (h : a.grownBy b r) (k : b.grownBy c r) : a.grownBy c r :=
  ⟨k.os.trans h.os, k.tape.trans h.tape, k.output.trans h.output, Nat.le_trans h.size k.size, fun i hi hne => (k.block i (Nat.lt_of_lt_of_le hi h.size) hne).trans (h.block i hi hne)⟩
theorem grown_below {a b : World} {r : Option Nat} (h : Below a.heap.size a b) : a.grownBy b r :=
  ⟨h.os, h.tape, h.output, h.size, fun i hi _ => h.block i hi⟩
theorem below_grown {w0 a b : World} {p : Nat} (h : Below w0.heap.size w0 a) (k : a.grownBy b (some p)) (hp : w0.heap.size ≤ p) : Below w0.heap.size w0 b :=
  h.grown k h.size (fun q hq => by cases hq; exact hp)

/-- One byte of a draw. -/
def RetByte (w0 w : World) (p : Nat) (a : Option Addr) (len cap : Nat) (e : Ending) (w' : World) : Prop :=
  ∃ x : Int, e = .returned (.int .i64 x) ∧ 0 ≤ x ∧ x ≤ 255 ∧ CurAt w0 w' p a len cap ∧ w.grownBy w' (some p)

set_option maxRecDepth 100000 in
set_option maxHeartbeats 1000000 in
theorem l1Byte_any (w0 w : World) (p : Nat) (a : Option Addr) (len cap : Nat) (c : CurAt w0 w p a len cap) :
    Calls Try.prog 72 #[.pointer (some ⟨p, 0, none⟩)] w (RetByte w0 w p a len cap) := by
  obtain ⟨k, hk, c1⟩ := c.i
  obtain ⟨H, c2⟩ := c.h
  have c0 := c.b
  have f := c.free
  obtain ⟨hm, hcode⟩ := c.code
  have HC := hide hcode
  clear hcode
  go_enter Try.func72, Try.ntmps72
  go_wp2_with fail
  generalize wrap64 (wrap64 (H * 6364136223846793005) + 1442695040888963407) = H2
  have d0 : (w.setCell ⟨p, 2, none⟩ (.int .i64 H2)).cell? ⟨p, 0, none⟩ = some (.slice a len cap) := (World.cell?_setCell_other _ ⟨p, 2, none⟩ ⟨p, 0, none⟩ _ (by simp)).trans c0
  have d1 : (w.setCell ⟨p, 2, none⟩ (.int .i64 H2)).cell? ⟨p, 1, none⟩ = some (.int .i64 k) := (World.cell?_setCell_other _ ⟨p, 2, none⟩ ⟨p, 1, none⟩ _ (by simp)).trans c1
  have d2 : (w.setCell ⟨p, 2, none⟩ (.int .i64 H2)).cell? ⟨p, 2, none⟩ = some (.int .i64 H2) := World.cell?_setCell_same _ _ _ c2
  have fd : ∀ j, (w.setCell ⟨p, 2, none⟩ (.int .i64 H2)).frozen? ⟨p, j, none⟩ = false := fun j => by have := f j; go_simp
  have g1 : w.grownBy (w.setCell ⟨p, 2, none⟩ (.int .i64 H2)) (some p) := grown_set (grown_refl _ _)
  generalize w.setCell ⟨p, 2, none⟩ (.int .i64 H2) = wA at d0 d1 d2 fd g1 ⊢
  clear c0 c1 c2 f
  go_region_held3 (fun w' => w'.cell? ⟨p, 2, none⟩ = some (.int .i64 H2)) (exact d2) (fail)
  generalize hx : bits BinOp.and IntKind.i64 (bits BinOp.xor IntKind.i64 (H2 / 34359738368) (H2 / 35184372088832)) 255 = x0
  obtain ⟨x00, x01⟩ : 0 ≤ x0 ∧ x0 ≤ 255 := by rw [← hx]; exact and255 _
  clear hx
  have g2 := grown_drew g1
  go_wp2_with fail
  by_cases hlt : k < len
  · have hlt' : (k : Int) < (len : Int) := by omega
    obtain ⟨b, off, rfl, hb⟩ : ∃ b off, a = some ⟨b, off, none⟩ ∧ ∀ i, i < len → ∃ n : Int, w0.cell? ⟨b, off + i, none⟩ = some (.int .u8 n) ∧ 0 ≤ n ∧ n ≤ 255 := by
      rcases HC.out with h0 | h0
      · omega
      · exact h0
    obtain ⟨n, n2, n0, n1⟩ := hb k hlt
    have n3 := keepc (below_grown c.bel g1 c.lo) n2
    clear hb
    go_region_held3 (fun w' => w'.cell? ⟨p, 0, none⟩ = some (.slice (some ⟨b, off, none⟩) len cap) ∧ w'.cell? ⟨p, 1, none⟩ = some (.int .i64 k)) (exact ⟨d0, d1⟩) (fail)
    go_wp2_with fail
    go_region_held3 (fun w' => w'.cell? ⟨p, 0, none⟩ = some (.slice (some ⟨b, off, none⟩) len cap) ∧ w'.cell? ⟨p, 1, none⟩ = some (.int .i64 k) ∧ w'.cell? ⟨b, off + k, none⟩ = some (.int .u8 n)) (exact ⟨d0, d1, n3⟩) (fail)
    generalize hx : bits BinOp.and IntKind.i64 (IntKind.i64.wrap (x0 + IntKind.i64.wrap n)) 255 = x1
    obtain ⟨x10, x11⟩ : 0 ≤ x1 ∧ x1 ≤ 255 := by rw [← hx]; exact and255 _
    clear hx
    have hk1 : (k : Int) + 1 ≤ 9223372036854775807 := by omega
    have fd1 := fd 1
    go_wp2_with fail
    go_ret
    have g5 := grown_set (p := p) (j := 1) (v := .int .i64 ((k : Int) + 1)) (grown_drew (grown_drew g2))
    refine ⟨x1, rfl, x10, x11, ⟨c.code, below_grown c.bel g5 c.lo, c.lo, ?_, ⟨k + 1, by omega, ?_⟩, ⟨H2, ?_⟩, fun j => ?_⟩, g5⟩
    · exact (World.cell?_setCell_other _ ⟨p, 1, none⟩ ⟨p, 0, none⟩ _ (by simp)).trans d0
    · exact World.cell?_setCell_same _ _ _ d1
    · exact (World.cell?_setCell_other _ ⟨p, 1, none⟩ ⟨p, 2, none⟩ _ (by simp)).trans d2
    · have := fd j
      go_simp
  · have hlt' : ¬ (k : Int) < (len : Int) := by omega
    go_region_held3 (fun w' => w'.cell? ⟨p, 0, none⟩ = some (.slice a len cap) ∧ w'.cell? ⟨p, 1, none⟩ = some (.int .i64 k)) (exact ⟨d0, d1⟩) (fail)
    go_wp2_with fail
    go_ret
    exact ⟨x0, rfl, x00, x01, ⟨c.code, below_grown c.bel (grown_drew g2) c.lo, c.lo, d0, ⟨k, hk, d1⟩, ⟨H2, d2⟩, fd⟩, grown_drew g2⟩

/-- A number from 0 to n - 1, of a draw. -/
def RetBelow (w0 w : World) (p : Nat) (a : Option Addr) (len cap : Nat) (n : Int) (e : Ending) (w' : World) : Prop :=
  ∃ x : Int, e = .returned (.int .i64 x) ∧ 0 ≤ x ∧ x < n ∧ CurAt w0 w' p a len cap ∧ w.grownBy w' (some p)

set_option maxHeartbeats 1000000 in
theorem l1Below_any (w0 w : World) (p : Nat) (a : Option Addr) (len cap : Nat) (n : Int) (c : CurAt w0 w p a len cap) (hn : 0 < n) (hn2 : n ≤ 1000000) :
    Calls Try.prog 41 #[.pointer (some ⟨p, 0, none⟩), .int .i64 n] w (RetBelow w0 w p a len cap n) := by
  by_cases h256 : n ≤ 256
  · go_enter Try.func41, Try.ntmps41
    go_wp2_with fail
    refine (l1Byte_any w0 _ p a len cap c).mono ?_
    rintro e w1 ⟨x, rfl, x0, x1, c1, g1⟩
    have hr0 : 0 ≤ x % n := Int.emod_nonneg _ (by omega)
    have hr1 : x % n < n := Int.emod_lt_of_pos _ hn
    have hnz : (n == 0) = false := by simp; omega
    go_wp2_with fail
    go_ret
    exact ⟨x % n, rfl, hr0, hr1, c1, g1⟩
  · have hnz : (n == 0) = false := by simp; omega
    go_enter Try.func41, Try.ntmps41
    go_wp2_with fail
    refine (l1Byte_any w0 _ p a len cap c).mono ?_
    rintro e w1 ⟨x, rfl, x0, x1, c1, g1⟩
    go_wp2_with fail
    refine (l1Byte_any w0 _ p a len cap c1).mono ?_
    rintro e w2 ⟨y, rfl, y0, y1, c2, g2⟩
    go_wp2_with fail
    refine (l1Byte_any w0 _ p a len cap c2).mono ?_
    rintro e w3 ⟨z, rfl, z0, z1, c3, g3⟩
    have hr0 : 0 ≤ (x * 65536 + y * 256 + z) % n := Int.emod_nonneg _ (by omega)
    have hr1 : (x * 65536 + y * 256 + z) % n < n := Int.emod_lt_of_pos _ hn
    go_wp2_with fail
    go_ret
    exact ⟨(x * 65536 + y * 256 + z) % n, rfl, hr0, hr1, c3, grown_trans g1 (grown_trans g2 g3)⟩

/-- A yes or no of a draw. -/
def RetOnce (w0 w : World) (p : Nat) (a : Option Addr) (len cap : Nat) (e : Ending) (w' : World) : Prop :=
  ∃ x : Bool, e = .returned (.bool x) ∧ CurAt w0 w' p a len cap ∧ w.grownBy w' (some p)

set_option maxHeartbeats 1000000 in
theorem l1Once_any (w0 w : World) (p : Nat) (a : Option Addr) (len cap : Nat) (n : Int) (c : CurAt w0 w p a len cap) (hn : 0 < n) (hn2 : n ≤ 1000000) :
    Calls Try.prog 80 #[.pointer (some ⟨p, 0, none⟩), .int .i64 n] w (RetOnce w0 w p a len cap) := by
  go_enter Try.func80, Try.ntmps80
  go_wp2_with fail
  refine (l1Below_any w0 _ p a len cap n c hn hn2).mono ?_
  rintro e w1 ⟨x, rfl, x0, x1, c1, g1⟩
  go_wp2_with fail
  go_ret
  exact ⟨x == 0, rfl, c1, g1⟩

/-- A cell outside the cursor's block stays. -/
theorem keepg {w W : World} {p : Nat} {q : Addr} {v : Value} (g : w.grownBy W (some p)) (h : w.cell? q = some v) (hne : q.block ≠ p) : W.cell? q = some v :=
  g.cell h (by simpa using hne)

theorem keepgf {w W : World} {p : Nat} {q : Addr} (g : w.grownBy W (some p)) (h : w.frozen? q = false) (hlt : q.block < w.heap.size) (hne : q.block ≠ p) : W.frozen? q = false :=
  (World.frozen?_of_block (g.block q.block hlt (by simpa using hne))).trans h

theorem grown_setNew {w W : World} {r : Option Nat} {q j : Nat} {v : Value} (h : w.grownBy W r) (hq : w.heap.size ≤ q) : w.grownBy (W.setCell ⟨q, j, none⟩ v) r :=
  ⟨h.os, h.tape, h.output, by simpa [World.setCell] using h.size, fun k hk hne => by
    rw [Below.heap_setCell _ _ _ _ (by show k ≠ q; omega)]
    exact h.block k hk hne⟩

theorem CurAt.set {w0 w : World} {p : Nat} {a : Option Addr} {len cap : Nat} {q j : Nat} {v : Value} (c : CurAt w0 w p a len cap) (hq : p < q) : CurAt w0 (w.setCell ⟨q, j, none⟩ v) p a len cap := by
  obtain ⟨k, hk, hi⟩ := c.i
  obtain ⟨H, hh⟩ := c.h
  have hlo := c.lo
  refine ⟨c.code, c.bel.setCell (by show _ ≤ q; omega) _, c.lo, (World.cell?_setCell_other _ _ _ _ (by intro e; cases e; omega)).trans c.b, ⟨k, hk, (World.cell?_setCell_other _ _ _ _ (by intro e; cases e; omega)).trans hi⟩,
    ⟨H, (World.cell?_setCell_other _ _ _ _ (by intro e; cases e; omega)).trans hh⟩, fun j => ?_⟩
  have := c.free j
  go_simp

end Go.Proofs.Ytgafdkaiiajieaa
