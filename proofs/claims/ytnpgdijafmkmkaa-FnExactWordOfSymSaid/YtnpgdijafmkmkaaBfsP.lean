/- Plain: words of mirrors level by level, the first one with a symmetry; rows of rows in memory. No condition. -/
import Derived.Test.YtnpgdijafmkmkaaWordI
import Derived.Test.YtnpgdijafmkmkaaInts
import Derived.Test.YtnpgdijafmkmkaaDrawW
import Derived.Test.YtnpgdijafmkmkaaClosP
namespace Go.Proofs.Ytnpgdijafmkmkaa
open Go.RowKit

/-- A word, and one letter more. -/
def ext (m : Nat) (u : List Int) : List (List Int) := (List.range m).map fun k : Nat => u ++ [(k : Int)]
/-- The words of d letters. -/
def lev (m : Nat) : Nat → List (List Int)
  | 0 => [[]]
  | d + 1 => (lev m d).flatMap (ext m)
/-- The words of fewer than d letters, in order. -/
def lows (m : Nat) : Nat → List (List Int)
  | 0 => []
  | d + 1 => lows m d ++ lev m d

/-- Whether a word has a symmetry, for the program. -/
def mt (kind t : Int) (f : Bool) (u : List Int) : Bool := wT kind u == t && wF kind u == f

/-- The program's answer. -/
def ansI (kind t : Int) (f : Bool) : Option (List Int) := (lows (mirs kind).length 5).find? (mt kind t f)

theorem ext_len {m : Nat} {u x : List Int} (h : x ∈ ext m u) : x.length = u.length + 1 := by
  unfold ext at h
  obtain ⟨k, _, rfl⟩ := List.mem_map.1 h
  simp

theorem lev_len {m : Nat} : ∀ (d : Nat) {u : List Int}, u ∈ lev m d → u.length = d
  | 0, u, h => by simp [lev] at h; subst h; rfl
  | d + 1, u, h => by
    obtain ⟨x, hx, hu⟩ := List.mem_flatMap.1 (show u ∈ (lev m d).flatMap (ext m) from h)
    rw [ext_len hu, lev_len d hx]

theorem lev_size (m : Nat) (hm : m ≤ 2) : ∀ d, d ≤ 5 → (lev m d).length ≤ 32 := by
  intro d hd
  have h3 : m = 0 ∨ m = 1 ∨ m = 2 := by omega
  have h6 : d = 0 ∨ d = 1 ∨ d = 2 ∨ d = 3 ∨ d = 4 ∨ d = 5 := by omega
  rcases h3 with rfl | rfl | rfl <;> rcases h6 with rfl | rfl | rfl | rfl | rfl | rfl <;> decide

theorem lows_tail {m : Nat} : ∀ (d e : Nat), ∃ r, lows m (d + e) = lows m d ++ r
  | d, 0 => ⟨[], by simp⟩
  | d, e + 1 => by
    obtain ⟨r, hr⟩ := lows_tail (m := m) d e
    exact ⟨r ++ lev m (d + e), by show lows m (d + e) ++ lev m (d + e) = _; rw [hr, List.append_assoc]⟩

/-- The answer is found where nothing before has the symmetry. -/
theorem ans_at {m d i : Nat} {p : List Int → Bool} {u : List Int} (hd : d ≤ 4) (h1 : (lows m d).find? p = none) (h2 : ((lev m d).take i).find? p = none) (hu : (lev m d)[i]? = some u) (hp : p u = true) : (lows m 5).find? p = some u := by
  obtain ⟨r, hr⟩ := lows_tail (m := m) (d + 1) (4 - d)
  rw [show d + 1 + (4 - d) = 5 by omega] at hr
  obtain ⟨hi, rfl⟩ := List.getElem?_eq_some_iff.1 hu
  have e : lows m (d + 1) = lows m d ++ ((lev m d).take i ++ (lev m d)[i] :: (lev m d).drop (i + 1)) := by
    show lows m d ++ lev m d = _
    rw [← List.drop_eq_getElem_cons hi, List.take_append_drop]
  rw [hr, e, List.find?_append, List.find?_append, h1, Option.none_or, List.find?_append, h2, Option.none_or, List.find?_cons, hp]
  rfl

/-- For a symmetry of mirrors there is an answer. -/
def findB (kind : Int) : Bool := (symsOf kind).all fun s => ((lows (mirs kind).length 5).find? (mt kind s.1 s.2)).isSome
theorem find0 : findB 0 = true := by decide +kernel
theorem find1 : findB 1 = true := by decide +kernel
theorem find2 : findB 2 = true := by decide +kernel
theorem find3 : findB 3 = true := by decide +kernel

theorem hasB_kind {kind t : Int} {f : Bool} (h : hasB (symsOf kind) t f = true) : 0 ≤ kind ∧ kind ≤ 3 := by
  unfold symsOf at h
  by_cases hw : win kind 0 3 = true
  · exact win_iff.1 hw
  · rw [if_neg hw] at h
    simp [hasB] at h

theorem ans_some {kind t : Int} {f : Bool} (h : hasB (symsOf kind) t f = true) : ∃ u, ansI kind t f = some u := by
  obtain ⟨h0, h3⟩ := hasB_kind h
  have hm := mem_of_has h
  have key : findB kind = true := by
    have : kind = 0 ∨ kind = 1 ∨ kind = 2 ∨ kind = 3 := by omega
    rcases this with rfl | rfl | rfl | rfl
    · exact find0
    · exact find1
    · exact find2
    · exact find3
  have := List.all_eq_true.1 key _ hm
  exact Option.isSome_iff_exists.1 this

theorem lev_nil {m d : Nat} (h : lev m d = []) : ∀ e, lev m (d + e) = []
  | 0 => h
  | e + 1 => by show (lev m (d + e)).flatMap (ext m) = []; rw [lev_nil h e]; rfl

theorem lows_nil {m d : Nat} (h : lev m d = []) : ∀ e, lows m (d + e) = lows m d
  | 0 => rfl
  | e + 1 => by show lows m (d + e) ++ lev m (d + e) = _; rw [lows_nil h e, lev_nil h e, List.append_nil]

/-- There is a word at a level at which none has been found. -/
theorem lev_pos {m d : Nat} {p : List Int → Bool} {u : List Int} (hd : d ≤ 4) (h : (lows m 5).find? p = some u) (h1 : (lows m d).find? p = none) : 0 < (lev m d).length := by
  rcases Nat.eq_zero_or_pos (lev m d).length with h0 | h0
  · have e := lows_nil (List.eq_nil_of_length_eq_zero h0) (5 - d)
    rw [show d + (5 - d) = 5 by omega] at e
    rw [e, h1] at h
    cases h
  · exact h0

theorem lev_next {m d : Nat} {p : List Int → Bool} {u : List Int} (hd : d ≤ 4) (h : (lows m 5).find? p = some u) (h1 : (lows m d).find? p = none) (h2 : (lev m d).find? p = none) : d + 1 ≤ 4 ∧ (lows m (d + 1)).find? p = none := by
  have e : (lows m (d + 1)).find? p = none := by
    show (lows m d ++ lev m d).find? p = none
    rw [List.find?_append, h1, h2]; rfl
  refine ⟨?_, e⟩
  rcases (show d = 4 ∨ d + 1 ≤ 4 by omega) with h4 | h4
  · subst h4
    rw [e] at h
    cases h
  · exact h4

theorem find_snoc {p : List Int → Bool} {ws : List (List Int)} {k : Nat} {u : List Int} (h : (ws.take k).find? p = none) (hu : ws[k]? = some u) (hp : p u = false) : (ws.take (k + 1)).find? p = none := by
  rw [List.take_add_one, hu, List.find?_append, h]
  simp [hp]

theorem ext_next {m k : Nat} {ws : List (List Int)} {u : List Int} (hu : ws[k]? = some u) : ((ws.take k).flatMap (ext m)) ++ ext m u = (ws.take (k + 1)).flatMap (ext m) := by
  rw [List.take_add_one, hu, List.flatMap_append]
  simp

/-- A word with its first q letters more. -/
def extq (q : Nat) (u : List Int) : List (List Int) := (List.range q).map fun k : Nat => u ++ [(k : Int)]
theorem extq_succ (q : Nat) (u : List Int) : extq (q + 1) u = extq q u ++ [u ++ [(q : Int)]] := by
  unfold extq; rw [List.range_succ, List.map_append]; rfl

theorem flat_len (m : Nat) : ∀ ws : List (List Int), (ws.flatMap (ext m)).length = ws.length * m
  | [] => by simp
  | u :: ws => by
    rw [List.flatMap_cons, List.length_append, flat_len m ws, List.length_cons, Nat.succ_mul]
    unfold ext
    rw [List.length_map, List.length_range]
    omega

theorem part_len {m q : Nat} {ws : List (List Int)} {u : List Int} (k : Nat) (hm : m ≤ 2) (hN : ws.length ≤ 32) (hq : q ≤ m) : (((ws.take k).flatMap (ext m)) ++ extq q u).length ≤ 70 := by
  rw [List.length_append, flat_len]
  unfold extq
  rw [List.length_map, List.length_range, List.length_take]
  have h1 : min k ws.length ≤ 32 := Nat.le_trans (Nat.min_le_right ..) hN
  have h2 : min k ws.length * m ≤ 32 * 2 := Nat.mul_le_mul h1 hm
  omega

end Go.Proofs.Ytnpgdijafmkmkaa
