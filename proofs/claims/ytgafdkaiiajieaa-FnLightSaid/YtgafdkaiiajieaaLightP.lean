/- Plain: a slice that reads as shards, from whatever place; light behind shards as a fold. Condition where one is named: valid shards and colours. -/
import Derived.Test.YtgafdkaiiajieaaMixP
import Derived.Test.YtgafdkaiiajieaaGlassE
import Derived.Test.YtgafdkaiiajieaaSidesP
namespace Go.Proofs.Ytgafdkaiiajieaa
open Go.RowKit
open Fl

/-- A slice that reads as a list of shards, from place o of its block on. -/
def ReadsO (w : World) (a : Option Addr) (n cap : Nat) (l : List Shd) : Prop :=
  l.length = n ∧ n ≤ maxLen ∧ (n = 0 ∨ ∃ g o, a = some ⟨g, o, none⟩ ∧ n ≤ cap ∧ cap ≤ maxLen ∧ ∀ j, j < n * 7 → w.cell? ⟨g, o + j, none⟩ = (shsCells l)[j]?)

theorem ReadsO.below {w W : World} {a : Option Addr} {n cap : Nat} {l : List Shd} (h : ReadsO w a n cap l) (hb : Below w.heap.size w W) : ReadsO W a n cap l := by
  obtain ⟨h1, h2, h3⟩ := h
  refine ⟨h1, h2, ?_⟩
  rcases h3 with h3 | ⟨g, o, rfl, hn, hm, hc⟩
  · exact .inl h3
  · refine .inr ⟨g, o, rfl, hn, hm, fun j hj => ?_⟩
    have e := hc j hj
    have hl : j < (shsCells l).length := by rw [shsCells_length]; omega
    rw [List.getElem?_eq_getElem hl] at e ⊢
    exact keepc hb e

theorem readsO_of {w : World} {a : Option Addr} {n cap : Nat} {l : List Shd} (h : ReadsSh w a n cap l) (hn : n ≤ maxLen) : ReadsO w a n cap l := by
  obtain ⟨h1, h2⟩ := h
  refine ⟨h1, hn, ?_⟩
  rcases h2 with h2 | ⟨g, ha, hn, hm, hc⟩
  · exact .inl h2
  · exact .inr ⟨g, 0, ha, hn, hm, fun j hj => by rw [Nat.zero_add]; exact hc j hj⟩

theorem readsO_nil (w : World) (a : Option Addr) (cap : Nat) : ReadsO w a 0 cap [] := ⟨rfl, Nat.zero_le _, .inl rfl⟩

/-- The cells of shard k. -/
structure ShAtO (w : World) (g o k : Nat) (s : Shd) : Prop where
  c0 : w.cell? ⟨g, o + k * 7, none⟩ = some (.complex .f32 s.ax s.ay)
  c1 : w.cell? ⟨g, o + k * 7 + 1, none⟩ = some (.complex .f32 s.bx s.b_y)
  c2 : w.cell? ⟨g, o + k * 7 + 2, none⟩ = some (.complex .f32 s.cx s.cy)
  c3 : w.cell? ⟨g, o + k * 7 + 3, none⟩ = some (.float .f32 s.r)
  c4 : w.cell? ⟨g, o + k * 7 + 4, none⟩ = some (.float .f32 s.g)
  c5 : w.cell? ⟨g, o + k * 7 + 5, none⟩ = some (.float .f32 s.b)
  c6 : w.cell? ⟨g, o + k * 7 + 6, none⟩ = some (.float .f32 s.k)

theorem ReadsO.at {w : World} {a : Option Addr} {n cap : Nat} {l : List Shd} (h : ReadsO w a n cap l) {k : Nat} (hk : k < n) : ∃ g o s, a = some ⟨g, o, none⟩ ∧ s ∈ l ∧ ShAtO w g o k s ∧ l[k]? = some s := by
  obtain ⟨h1, _, h2⟩ := h
  rcases h2 with h2 | ⟨g, o, ha, hn, hm, hc⟩
  · omega
  · have hkl : k < l.length := by omega
    have key : ∀ j, j < 7 → w.cell? ⟨g, o + k * 7 + j, none⟩ = (shCells l[k])[j]? := fun j hj => by
      rw [Nat.add_assoc]
      exact (hc _ (by omega)).trans (shsCells_at l k hkl j hj)
    exact ⟨g, o, l[k], ha, List.getElem_mem _, ⟨key 0 (by omega), key 1 (by omega), key 2 (by omega), key 3 (by omega), key 4 (by omega), key 5 (by omega), key 6 (by omega)⟩, List.getElem?_eq_getElem hkl⟩

theorem shsCells_take (l : List Shd) (m j : Nat) (h : j < m * 7) : (shsCells (l.take m))[j]? = (shsCells l)[j]? := by
  induction l generalizing m j with
  | nil => simp [shsCells]
  | cons s l ih =>
    cases m with
    | zero => omega
    | succ m =>
      have e : shsCells (s :: l) = shCells s ++ shsCells l := by simp [shsCells]
      have e2 : shsCells (s :: l.take m) = shCells s ++ shsCells (l.take m) := by simp [shsCells]
      have hl : (shCells s).length = 7 := rfl
      rw [List.take_succ_cons, e, e2]
      by_cases hj : j < 7
      · rw [List.getElem?_append_left (by omega), List.getElem?_append_left (by omega)]
      · rw [List.getElem?_append_right (by omega), List.getElem?_append_right (by omega), hl, ih m (j - 7) (by omega)]

theorem shsCells_drop (l : List Shd) (m j : Nat) : (shsCells (l.drop m))[j]? = (shsCells l)[m * 7 + j]? := by
  induction l generalizing m with
  | nil => simp [shsCells]
  | cons s l ih =>
    cases m with
    | zero => simp
    | succ m =>
      have e : shsCells (s :: l) = shCells s ++ shsCells l := by simp [shsCells]
      have hl : (shCells s).length = 7 := rfl
      rw [List.drop_succ_cons, ih, e, List.getElem?_append_right (by omega), hl]
      congr 1
      omega

/-- The head and the rest of a slice. -/
theorem ReadsO.head {w : World} {a : Option Addr} {n cap : Nat} {l : List Shd} (h : ReadsO w a n cap l) {m : Nat} (hm : m ≤ n) : ReadsO w a m cap (l.take m) := by
  obtain ⟨h1, h2, h3⟩ := h
  refine ⟨by simp; omega, by omega, ?_⟩
  rcases h3 with h3 | ⟨g, o, ha, hn, hx, hc⟩
  · exact .inl (by omega)
  · refine .inr ⟨g, o, ha, by omega, hx, fun j hj => ?_⟩
    rw [hc j (by omega), shsCells_take l m j hj]

theorem ReadsO.rest {w : World} {g o n cap : Nat} {l : List Shd} (h : ReadsO w (some ⟨g, o, none⟩) n cap l) {m : Nat} (hm : m ≤ n) (hx : n ≤ cap) (hcap : cap ≤ maxLen) : ReadsO w (some ⟨g, o + m * 7, none⟩) (n - m) (cap - m) (l.drop m) := by
  obtain ⟨h1, h2, h3⟩ := h
  refine ⟨by simp; omega, by omega, ?_⟩
  rcases h3 with h3 | ⟨g', o', ha, hn, hx, hc⟩
  · exact .inl (by omega)
  · cases ha
    refine .inr ⟨g, o + m * 7, rfl, by omega, by omega, fun j hj => ?_⟩
    rw [shsCells_drop, Nat.add_assoc]
    exact hc _ (by omega)

/-- Light behind one shard, part by part. -/
def shine1 (k t x : Nat) : Nat := mixF k (timesF x t) x

structure Col where
  r : Nat
  g : Nat
  b : Nat

def shine (px py : Nat) (c : Col) (s : Shd) : Col := if liesW s px py then ⟨shine1 s.k s.r c.r, shine1 s.k s.g c.g, shine1 s.k s.b c.b⟩ else c

theorem shine1_part {k t x : Nat} (hk : part k = true) (ht : part t = true) (hx : part x = true) : part (shine1 k t x) = true := mix_part (part_times hx ht) hx hk

theorem isColMk {r g b : Nat} (h1 : part r = true) (h2 : part g = true) (h3 : part b = true) : isCol r g b = true := by
  unfold isCol; rw [h1, h2, h3]; rfl

theorem shine_col {px py : Nat} {c : Col} {s : Shd} (hc : isCol c.r c.g c.b = true) (hs : ShOk s) : isCol (shine px py c s).r (shine px py c s).g (shine px py c s).b = true := by
  unfold shine
  split
  · obtain ⟨a1, a2, a3⟩ := isCol_parts hc
    obtain ⟨b1, b2, b3⟩ := isCol_parts hs.col
    exact isColMk (shine1_part hs.clear b1 a1) (shine1_part hs.clear b2 a2) (shine1_part hs.clear b3 a3)
  · exact hc

/-- Light behind a list of shards. -/
def glow (px py : Nat) (l : List Shd) (c : Col) : Col := l.foldl (shine px py) c

theorem glow_col {px py : Nat} {l : List Shd} {c : Col} (hc : isCol c.r c.g c.b = true) (hs : ∀ s ∈ l, ShOk s) : isCol (glow px py l c).r (glow px py l c).g (glow px py l c).b = true := by
  induction l generalizing c with
  | nil => exact hc
  | cons s l ih => exact ih (c := shine px py c s) (shine_col hc (hs s (by simp))) (fun t ht => hs t (by simp [ht]))

theorem glow_snoc (px py : Nat) (l : List Shd) (c : Col) (s : Shd) : glow px py (l ++ [s]) c = shine px py (glow px py l c) s := by
  unfold glow; rw [List.foldl_append]; rfl

theorem glow_parts (px py : Nat) (l : List Shd) (c : Col) (m : Nat) : glow px py (l.drop m) (glow px py (l.take m) c) = glow px py l c := by
  unfold glow; rw [← List.foldl_append, List.take_append_drop]

theorem glow_few (px py : Nat) (l : List Shd) (c : Col) : glow px py (l.filter fun s => liesW s px py) c = glow px py l c := by
  unfold glow
  induction l generalizing c with
  | nil => rfl
  | cons s l ih =>
    by_cases h : liesW s px py = true
    · rw [List.filter_cons, if_pos h, List.foldl_cons, List.foldl_cons, ih]
    · rw [List.filter_cons, if_neg h, List.foldl_cons, ih]
      have e : shine px py c s = c := by unfold shine; rw [if_neg h]
      rw [e]

theorem filterY {r g b r' g' b' : Nat} (h : isCol r g b = true) (h' : isCol r' g' b' = true) (w : World) :
    Calls Try.prog 21 #[.agg #[.float .f32 r, .float .f32 g, .float .f32 b], .agg #[.float .f32 r', .float .f32 g', .float .f32 b']] w fun e w' => e = .returned (.agg #[.float .f32 (timesF r r'), .float .f32 (timesF g g'), .float .f32 (timesF b b')]) ∧ Below w.heap.size w w' := by
  have q := filter_any r g b r' g' b' w
  rw [h, h'] at q
  exact q

theorem mixY {r g b r' g' b' k : Nat} (h : isCol r g b = true) (h' : isCol r' g' b' = true) (hk : part k = true) (w : World) :
    Calls Try.prog 22 #[.agg #[.float .f32 r, .float .f32 g, .float .f32 b], .agg #[.float .f32 r', .float .f32 g', .float .f32 b'], .float .f32 k] w fun e w' => e = .returned (.agg #[.float .f32 (mixF k r r'), .float .f32 (mixF k g g'), .float .f32 (mixF k b b')]) ∧ Below w.heap.size w w' := by
  have q := mix_any r g b r' g' b' k w
  rw [h, h', hk] at q
  exact q

theorem isColourY {r g b : Nat} (h : isCol r g b = true) (w : World) :
    Calls Try.prog 23 #[.agg #[.float .f32 r, .float .f32 g, .float .f32 b]] w fun e w' => e = .returned (.bool true) ∧ Below w.heap.size w w' := by
  have q := isColour_any r g b w
  rw [h] at q
  exact q.mono fun _ _ ⟨he, hw⟩ => ⟨he, by rw [← hw]; exact (Below.refl _ _).alloc (Nat.le_refl _) _⟩

end Go.Proofs.Ytgafdkaiiajieaa
