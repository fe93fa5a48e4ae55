/- Plain: words level by level, as the reference has them; its answer is the program's. No condition. -/
import Derived.Test.YtnpgdijafmkmkaaBfsP
namespace Go.Proofs.Ytnpgdijafmkmkaa
open Go.RowKit

def extS (kind : Int) (u : List Int) : List (List Int) := if (l1W kind u).2 then extq 2 u else []
def levS (kind : Int) : Nat → List (List Int)
  | 0 => [[]]
  | d + 1 => (levS kind d).flatMap (extS kind)
def lowsS (kind : Int) : Nat → List (List Int)
  | 0 => []
  | d + 1 => lowsS kind d ++ levS kind d
def mtS (kind t : Int) (f : Bool) (u : List Int) : Bool := (l1W kind u).2 && ((l1W kind u).1.1 == t && (l1W kind u).1.2 == f)
/-- The reference's answer. -/
def ansS (kind t : Int) (f : Bool) : Option (List Int) := (lowsS kind 5).find? (mtS kind t f)

theorem extS_len {kind : Int} {u x : List Int} (h : x ∈ extS kind u) : x.length = u.length + 1 := by
  unfold extS at h
  split at h
  · unfold extq at h
    obtain ⟨k, _, rfl⟩ := List.mem_map.1 h
    simp
  · cases h

theorem levS_len {kind : Int} : ∀ (d : Nat) {u : List Int}, u ∈ levS kind d → u.length = d
  | 0, u, h => by simp [levS] at h; subst h; rfl
  | d + 1, u, h => by
    obtain ⟨x, hx, hu⟩ := List.mem_flatMap.1 (show u ∈ (levS kind d).flatMap (extS kind) from h)
    rw [extS_len hu, levS_len d hx]

theorem extS_size (kind : Int) (u : List Int) : (extS kind u).length ≤ 2 := by
  unfold extS
  split
  · simp [extq]
  · exact Nat.zero_le _

theorem flatS_len (kind : Int) : ∀ ws : List (List Int), (ws.flatMap (extS kind)).length ≤ ws.length * 2
  | [] => by simp
  | u :: ws => by
    rw [List.flatMap_cons, List.length_append, List.length_cons, Nat.succ_mul]
    have := flatS_len kind ws
    have := extS_size kind u
    omega

theorem levS_size (kind : Int) : ∀ d, (levS kind d).length ≤ 2 ^ d
  | 0 => Nat.le_refl _
  | d + 1 => by
    have h1 := flatS_len kind (levS kind d)
    have h2 := levS_size kind d
    show ((levS kind d).flatMap (extS kind)).length ≤ 2 ^ (d + 1)
    rw [Nat.pow_succ]
    omega

theorem lowsS_tail {kind : Int} : ∀ (d e : Nat), ∃ r, lowsS kind (d + e) = lowsS kind d ++ r
  | d, 0 => ⟨[], by simp⟩
  | d, e + 1 => by
    obtain ⟨r, hr⟩ := lowsS_tail (kind := kind) d e
    exact ⟨r ++ levS kind (d + e), by show lowsS kind (d + e) ++ levS kind (d + e) = _; rw [hr, List.append_assoc]⟩

theorem ansS_at {kind : Int} {d i : Nat} {p : List Int → Bool} {u : List Int} (hd : d ≤ 4) (h1 : (lowsS kind d).find? p = none) (h2 : ((levS kind d).take i).find? p = none) (hu : (levS kind d)[i]? = some u) (hp : p u = true) : (lowsS kind 5).find? p = some u := by
  obtain ⟨r, hr⟩ := lowsS_tail (kind := kind) (d + 1) (4 - d)
  rw [show d + 1 + (4 - d) = 5 by omega] at hr
  obtain ⟨hi, rfl⟩ := List.getElem?_eq_some_iff.1 hu
  have e : lowsS kind (d + 1) = lowsS kind d ++ ((levS kind d).take i ++ (levS kind d)[i] :: (levS kind d).drop (i + 1)) := by
    show lowsS kind d ++ levS kind d = _
    rw [← List.drop_eq_getElem_cons hi, List.take_append_drop]
  rw [hr, e, List.find?_append, List.find?_append, h1, Option.none_or, List.find?_append, h2, Option.none_or, List.find?_cons, hp]
  rfl

theorem lowS_next {kind : Int} {d : Nat} {p : List Int → Bool} (h1 : (lowsS kind d).find? p = none) (h2 : (levS kind d).find? p = none) : (lowsS kind (d + 1)).find? p = none := by
  show (lowsS kind d ++ levS kind d).find? p = none
  rw [List.find?_append, h1, h2]; rfl

theorem extS_next {kind : Int} {k : Nat} {ws : List (List Int)} {u : List Int} (hu : ws[k]? = some u) : ((ws.take k).flatMap (extS kind)) ++ extS kind u = (ws.take (k + 1)).flatMap (extS kind) := by
  rw [List.take_add_one, hu, List.flatMap_append]
  simp

theorem partS_len {kind : Int} {q : Nat} {ws : List (List Int)} {u : List Int} (k : Nat) (hN : ws.length ≤ 32) (hq : q ≤ 2) : (((ws.take k).flatMap (extS kind)) ++ extq q u).length ≤ 70 := by
  have h0 := flatS_len kind (ws.take k)
  rw [List.length_append]
  unfold extq
  rw [List.length_map, List.length_range]
  rw [List.length_take] at h0
  have h1 : min k ws.length ≤ 32 := Nat.le_trans (Nat.min_le_right ..) hN
  omega

/-- Both answers, for the kinds and symmetries that there are. -/
def sameB (k t : Nat) (f : Bool) : Bool := decide (ansS (k : Int) (t : Int) f = if hasB (symsOf (k : Int)) (t : Int) f then ansI (k : Int) (t : Int) f else none)
theorem same_all : ∀ k, k < 4 → ∀ t, t < 4 → ∀ f : Bool, sameB k t f = true := by decide +kernel

theorem wordFrom_win {kind : Int} : ∀ (u : List Int) (g s : Int × Bool), win g.1 0 3 = true → wordFrom kind g u = some s → win s.1 0 3 = true
  | [], g, s, hg, h => by cases h; exact hg
  | x :: u, g, s, hg, h => by
    cases hm : mir kind x with
    | none => rw [wordFrom_none hm] at h; cases h
    | some r =>
      rw [wordFrom_some hm] at h
      exact wordFrom_win u (thS g r) s (win_th g.1 r.1 r.2) h

theorem l1W_ok {kind : Int} {u : List Int} (h : (l1W kind u).2 = true) : win kind 0 3 = true ∧ win (l1W kind u).1.1 0 3 = true := by
  cases hw : wordFrom kind (0, false) u with
  | none => rw [l1W_none hw] at h; cases h
  | some g =>
    rw [l1W_some hw] at h ⊢
    simp only [Bool.and_eq_true] at h
    exact ⟨h.2, wordFrom_win u (0, false) g (by decide) hw⟩

theorem ansS_none {kind t : Int} {f : Bool} (h : win kind 0 3 = false ∨ win t 0 3 = false) : ansS kind t f = none := by
  unfold ansS
  rw [List.find?_eq_none]
  intro u _ hp
  unfold mtS at hp
  simp only [Bool.and_eq_true, beq_iff_eq] at hp
  obtain ⟨h1, h2, _⟩ := hp
  obtain ⟨w1, w2⟩ := l1W_ok h1
  rw [h2] at w2
  rcases h with h | h
  · rw [h] at w1; cases w1
  · rw [h] at w2; cases w2

theorem hasB_win {kind t : Int} {f : Bool} (h : hasB (symsOf kind) t f = true) : win kind 0 3 = true ∧ win t 0 3 = true := by
  obtain ⟨k0, k3⟩ := hasB_kind h
  have hk := win_true k0 k3
  refine ⟨hk, ?_⟩
  have hm := mem_of_has h
  unfold symsOf at hm
  rw [if_pos hk] at hm
  have h8 := (List.mem_filter.1 hm).1
  revert h8
  generalize hp : (t, f) = p
  intro h8
  have key : ∀ p ∈ allSyms 8, win p.1 0 3 = true := by decide
  have := key p h8
  rw [← hp] at this
  exact this

/-- The reference's answer is the program's. -/
theorem ans_same (kind t : Int) (f : Bool) : ansS kind t f = if hasB (symsOf kind) t f then ansI kind t f else none := by
  by_cases hk : win kind 0 3 = true
  · by_cases ht : win t 0 3 = true
    · obtain ⟨k0, k3⟩ := win_iff.1 hk
      obtain ⟨t0, t3⟩ := win_iff.1 ht
      obtain ⟨k, rfl⟩ := Int.eq_ofNat_of_zero_le k0
      obtain ⟨n, rfl⟩ := Int.eq_ofNat_of_zero_le t0
      have := same_all k (by omega) n (by omega) f
      exact of_decide_eq_true this
    · rw [ansS_none (.inr (by simpa using ht))]
      cases hh : hasB (symsOf kind) t f
      · rfl
      · exact absurd (hasB_win hh).2 ht
  · rw [ansS_none (.inl (by simpa using hk))]
    cases hh : hasB (symsOf kind) t f
    · rfl
    · exact absurd (hasB_win hh).1 hk

end Go.Proofs.Ytnpgdijafmkmkaa
