/- Plain: a slice that reads as a list of integers; what holds at a round's head of a loop over the letters of a word. No condition. -/
import Derived.Test.YtnpgdijafmkmkaaWord
import Derived.Test.YtnpgdijafmkmkaaFrame
namespace Go.Proofs.Ytnpgdijafmkmkaa
open Go.RowKit

/-- A slice that reads as the list l of integers. -/
def ReadsI (w : World) (a : Option Addr) (n cap : Nat) (l : List Int) : Prop :=
  l.length = n ∧ n ≤ maxLen ∧ (n = 0 ∨ ∃ b off, a = some ⟨b, off, none⟩ ∧ n ≤ cap ∧ cap ≤ maxLen ∧ ∀ j, j < n → w.cell? ⟨b, off + j, none⟩ = some (.int .i64 (l.getD j 0)))

theorem ReadsI.below {w W : World} {a : Option Addr} {n cap : Nat} {l : List Int} (h : ReadsI w a n cap l) (hb : Below w.heap.size w W) : ReadsI W a n cap l := by
  obtain ⟨h1, h2, h3⟩ := h
  refine ⟨h1, h2, ?_⟩
  rcases h3 with h3 | ⟨b, off, rfl, hn, hm, hc⟩
  · exact .inl h3
  · exact .inr ⟨b, off, rfl, hn, hm, fun j hj => keepc hb (hc j hj)⟩

theorem readsI_of_own {w : World} {base : Nat} {v : Value} {l : List Int} (h : w.ownsRow base 3 1 v l.length (l.map (Value.int .i64))) : ∃ a cap, v = .slice a l.length cap ∧ ReadsI w a l.length cap l := by
  rcases h.2 with ⟨rfl, h0⟩ | ⟨g, cap, cur, rfl, hb, hg, hn, hm, _, _⟩
  · exact ⟨none, 0, by rw [h0], rfl, by rw [h0]; exact Nat.zero_le _, .inl h0⟩
  · refine ⟨_, cap, rfl, rfl, Nat.le_trans hn hm, .inr ⟨g, 0, rfl, hn, hm, fun j hj => ?_⟩⟩
    have e := h.cellAt j (by omega)
    rw [Nat.zero_add, e]
    simp [List.getElem?_eq_getElem hj, List.getD]

theorem readsI_of_row {w : World} {a : Option Addr} {len cap : Nat} {zs : List Int} (h : IsRow .i64 w a len cap zs) : ReadsI w a len cap (zs.take len) := by
  rcases h with ⟨_, rfl, _, rfl⟩ | ⟨x, rfl, hl, hm, hz, hc, hw⟩
  · exact ⟨rfl, Nat.zero_le _, .inl rfl⟩
  · refine ⟨by simp; omega, Nat.le_trans hl hm, ?_⟩
    by_cases h0 : len = 0
    · exact .inl h0
    · right
      have hx : ∃ b off, x = ⟨b, off, none⟩ := by
        have h1 := hc 0 (by omega)
        obtain ⟨b, off, spot⟩ := x
        have hspot : spot = none := by simpa [Addr.add] using World.cell?_spot h1
        subst hspot
        exact ⟨b, off, rfl⟩
      obtain ⟨b, off, rfl⟩ := hx
      refine ⟨b, off, rfl, hl, hm, fun i hi => ?_⟩
      have h1 := hc i (by omega)
      have e : (zs.take len).getD i 0 = zs.getD i 0 := by simp [List.getD, hi]
      rw [e]
      rcases Nat.eq_zero_or_pos i with rfl | hp
      · simpa [Addr.add] using h1
      · simpa [Addr.add, Nat.ne_of_gt hp] using h1

/-- The cell of element k, the slice's own form given. -/
theorem ReadsI.at {w : World} {a : Option Addr} {n cap : Nat} {l : List Int} (h : ReadsI w a n cap l) {k : Nat} (hk : k < n) : ∃ b off, a = some ⟨b, off, none⟩ ∧ w.cell? ⟨b, off + k, none⟩ = some (.int .i64 (l.getD k 0)) := by
  rcases h.2.2 with h3 | ⟨b, off, ha, hn, hm, hc⟩
  · omega
  · exact ⟨b, off, ha, hc k hk⟩

/-- What holds at a round's head: b is the result's block, q the symmetry's. -/
structure WInv (w : World) (kind : Int) (l : List Int) (b q : Nat) (k : Nat) (t : Int) (f : Bool) (wr : World) : Prop where
  g0 : wr.cell? ⟨q, 0, none⟩ = some (.int .i64 t)
  g1 : wr.cell? ⟨q, 1, none⟩ = some (.bool f)
  r0 : wr.cell? ⟨b, 0, none⟩ = some (.int .i64 0)
  r1 : wr.cell? ⟨b, 1, none⟩ = some (.bool false)
  gf : ∀ j, wr.frozen? ⟨q, j, none⟩ = false
  rf : ∀ j, wr.frozen? ⟨b, j, none⟩ = false
  val : wordFrom kind (0, false) l = wordFrom kind (t, f) (l.drop k)
  ok : win t 0 3 = true
  bel : Below w.heap.size w wr

theorem WInv.below {w : World} {kind : Int} {l : List Int} {b q k : Nat} {t : Int} {f : Bool} {wr W : World} (h : WInv w kind l b q k t f wr) (hb : Below wr.heap.size wr W) : WInv w kind l b q k t f W :=
  ⟨keepc hb h.g0, keepc hb h.g1, keepc hb h.r0, keepc hb h.r1, fun j => (hb.frozen (p := ⟨q, j, none⟩) (show q < _ from World.block_lt_of_cell? wr _ h.g0)).trans (h.gf j), fun j => (hb.frozen (p := ⟨b, j, none⟩) (show b < _ from World.block_lt_of_cell? wr _ h.r0)).trans (h.rf j), h.val, h.ok, h.bel.trans (hb.mono h.bel.size)⟩

/-- A letter more: the symmetry's block is written. -/
theorem WInv.step {w : World} {kind : Int} {l : List Int} {b q k : Nat} {t : Int} {f : Bool} {wr : World} (h : WInv w kind l b q k t f wr) (hne : b ≠ q) (hq : w.heap.size ≤ q) {t' : Int} {f' : Bool} (hv : wordFrom kind (t, f) (l.drop k) = wordFrom kind (t', f') (l.drop (k + 1))) (ho : win t' 0 3 = true) :
    WInv w kind l b q (k + 1) t' f' ((wr.setCell ⟨q, 0, none⟩ (.int .i64 t')).setCell ⟨q, 1, none⟩ (.bool f')) := by
  have h1 : (wr.setCell ⟨q, 0, none⟩ (.int .i64 t')).cell? ⟨q, 1, none⟩ = some (.bool f) := (World.cell?_setCell_other _ ⟨q, 0, none⟩ ⟨q, 1, none⟩ _ (by simp)).trans h.g1
  refine ⟨(World.cell?_setCell_other _ ⟨q, 1, none⟩ ⟨q, 0, none⟩ _ (by simp)).trans (World.cell?_setCell_same _ _ _ h.g0), World.cell?_setCell_same _ _ _ h1,
    (World.cell?_setCell_other _ ⟨q, 1, none⟩ ⟨b, 0, none⟩ _ (by intro e; cases e)).trans ((World.cell?_setCell_other _ ⟨q, 0, none⟩ ⟨b, 0, none⟩ _ (by intro e; cases e; exact hne rfl)).trans h.r0),
    (World.cell?_setCell_other _ ⟨q, 1, none⟩ ⟨b, 1, none⟩ _ (by intro e; cases e; exact hne rfl)).trans ((World.cell?_setCell_other _ ⟨q, 0, none⟩ ⟨b, 1, none⟩ _ (by intro e; cases e)).trans h.r1),
    fun j => ?_, fun j => ?_, h.val.trans hv, ho, (h.bel.setCell hq _).setCell hq _⟩
  · have := h.gf j; go_simp
  · have := h.rf j; go_simp

theorem win_th (t t' : Int) (f' : Bool) : win (thT t t' f') 0 3 = true := by
  unfold thT
  cases h : (win t 0 3 && win t' 0 3)
  · simp [win]
  · cases f'
    · rw [win_iff]; simp; omega
    · rw [win_iff]; simp; omega

theorem mir_win {kind k : Int} {s : Int × Bool} (h : mir kind k = some s) : win s.1 0 3 = true := by
  rcases mir_cases kind k with ⟨_, _, e⟩ | ⟨_, _, e⟩ | ⟨_, _, e⟩ | ⟨_, _, e⟩ | ⟨_, _, e⟩ | ⟨e, _⟩ <;> rw [e] at h <;> cases h <;> decide

/-- What l1Word hands back: the symmetry, and whether it is one. -/
def l1W (kind : Int) (l : List Int) : (Int × Bool) × Bool := match wordFrom kind (0, false) l with
  | none => ((0, false), false)
  | some g => (g, decide (l.length ≤ 24) && win kind 0 3)

theorem l1W_none {kind : Int} {l : List Int} (h : wordFrom kind (0, false) l = none) : l1W kind l = ((0, false), false) := by unfold l1W; rw [h]
theorem l1W_some {kind : Int} {l : List Int} {g : Int × Bool} (h : wordFrom kind (0, false) l = some g) : l1W kind l = (g, decide (l.length ≤ 24) && win kind 0 3) := by unfold l1W; rw [h]

/-- The symmetry of a word, out of what l1Word says. -/
theorem wordSym_l1W (kind : Int) (l : List Int) : wordSym kind l = if (l1W kind l).2 then some (l1W kind l).1 else none := by
  unfold wordSym l1W
  cases h : wordFrom kind (0, false) l with
  | none => simp
  | some g =>
    simp only
    rw [Bool.and_comm]

end Go.Proofs.Ytnpgdijafmkmkaa
