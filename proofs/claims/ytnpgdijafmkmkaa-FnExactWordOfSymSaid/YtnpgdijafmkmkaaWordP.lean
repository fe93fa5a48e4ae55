/- Plain facts on words of mirrors: the symmetry of a word, letter by letter. No condition. -/
import Derived.Test.YtnpgdijafmkmkaaThen
namespace Go.Proofs.Ytnpgdijafmkmkaa
open Go.RowKit

/-- The mirrors of a kind. -/
def mirs (kind : Int) : List (Int × Bool) := if kind = 1 then [(0, true)] else if kind = 2 then [(0, true), (2, true)] else if kind = 3 then [(0, true), (1, true)] else []

/-- One symmetry, and then another one. -/
def thS (g h : Int × Bool) : Int × Bool := (thT g.1 h.1 h.2, thF g.1 g.2 h.1 h.2)

/-- The mirror of a letter. -/
def mir (kind k : Int) : Option (Int × Bool) := if 0 ≤ k then (mirs kind)[k.toNat]? else none

/-- The symmetry of a word, behind a symmetry. -/
def wordFrom (kind : Int) : (Int × Bool) → List Int → Option (Int × Bool)
  | g, [] => some g
  | g, k :: l => match mir kind k with
    | none => none
    | some h => wordFrom kind (thS g h) l

/-- The symmetry of a word; none: it is no word of mirrors of this kind. -/
def wordSym (kind : Int) (l : List Int) : Option (Int × Bool) := if win kind 0 3 && decide (l.length ≤ 24) then wordFrom kind (0, false) l else none

def wT (kind : Int) (l : List Int) : Int := ((wordSym kind l).map (·.1)).getD 0
def wF (kind : Int) (l : List Int) : Bool := ((wordSym kind l).map (·.2)).getD false
def wOk (kind : Int) (l : List Int) : Bool := (wordSym kind l).isSome

theorem word_no {kind : Int} {l : List Int} (h : wordSym kind l = none) : wT kind l = 0 ∧ wF kind l = false ∧ wOk kind l = false := by
  unfold wT wF wOk
  rw [h]
  exact ⟨rfl, rfl, rfl⟩

theorem word_yes {kind : Int} {l : List Int} {t : Int} {f : Bool} (h : wordSym kind l = some (t, f)) : wT kind l = t ∧ wF kind l = f ∧ wOk kind l = true := by
  unfold wT wF wOk
  rw [h]
  exact ⟨rfl, rfl, rfl⟩

theorem wordFrom_none {kind k : Int} {g : Int × Bool} {l : List Int} (h : mir kind k = none) : wordFrom kind g (k :: l) = none := by
  unfold wordFrom; rw [h]

theorem wordFrom_some {kind k : Int} {g s : Int × Bool} {l : List Int} (h : mir kind k = some s) : wordFrom kind g (k :: l) = wordFrom kind (thS g s) l := by
  rw [wordFrom, h]

theorem drop_at {l : List Int} {k : Nat} (h : k < l.length) : l.drop k = l.getD k 0 :: l.drop (k + 1) := by
  rw [List.drop_eq_getElem_cons h, show l.getD k 0 = l[k] by simp [List.getD, List.getElem?_eq_getElem h]]

/-- The letters of a kind and their mirrors, case by case. -/
theorem mir_cases (kind k : Int) :
    (kind = 1 ∧ k = 0 ∧ mir kind k = some (0, true)) ∨ (kind = 2 ∧ k = 0 ∧ mir kind k = some (0, true)) ∨ (kind = 2 ∧ k = 1 ∧ mir kind k = some (2, true)) ∨
    (kind = 3 ∧ k = 0 ∧ mir kind k = some (0, true)) ∨ (kind = 3 ∧ k = 1 ∧ mir kind k = some (1, true)) ∨
    (mir kind k = none ∧ ¬ (0 ≤ k ∧ k < (mirs kind).length)) := by
  unfold mir mirs
  by_cases h1 : kind = 1
  · subst h1
    by_cases hk : k = 0
    · subst hk; simp
    · right; right; right; right; right
      by_cases h0 : 0 ≤ k
      · have : ∃ m : Nat, k.toNat = m + 1 := ⟨k.toNat - 1, by omega⟩
        obtain ⟨m, hm⟩ := this
        simp [h0, hm]; omega
      · simp [h0]
  by_cases h2 : kind = 2
  · subst h2
    by_cases hk : k = 0
    · subst hk; simp
    by_cases hk1 : k = 1
    · subst hk1; simp
    · right; right; right; right; right
      by_cases h0 : 0 ≤ k
      · have : ∃ m : Nat, k.toNat = m + 2 := ⟨k.toNat - 2, by omega⟩
        obtain ⟨m, hm⟩ := this
        simp [h0, hm]; omega
      · simp [h0]
  by_cases h3 : kind = 3
  · subst h3
    by_cases hk : k = 0
    · subst hk; simp
    by_cases hk1 : k = 1
    · subst hk1; simp
    · right; right; right; right; right
      by_cases h0 : 0 ≤ k
      · have : ∃ m : Nat, k.toNat = m + 2 := ⟨k.toNat - 2, by omega⟩
        obtain ⟨m, hm⟩ := this
        simp [h0, hm]; omega
      · simp [h0]
  · right; right; right; right; right
    simp [h1, h2, h3]

end Go.Proofs.Ytnpgdijafmkmkaa
