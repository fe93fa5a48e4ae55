/- Plain: folding a point into the wedge of a kind of mirrors. Condition: a kind from 0 to 3. -/
import Derived.Test.YtgafdkaiiajieaaActP
import Derived.Test.YtgafdkaiiajieaaRows2
namespace Go.Proofs.Ytgafdkaiiajieaa
open Go.RowKit
open Fl

def abI (v : Int) : Int := if v < 0 then -v else v

/-- The fold of a point. -/
def foldI (kind : Int) (p : Int × Int) : Int × Int :=
  if kind = 0 then p else if kind = 1 then (p.1, abI p.2) else if kind = 2 then (abI p.1, abI p.2)
  else if abI p.2 ≤ abI p.1 then (abI p.1, abI p.2) else (abI p.2, abI p.1)

/-- Whether a point lies in the wedge. -/
def wedgeI (kind : Int) (p : Int × Int) : Bool :=
  if kind = 0 then true else if kind = 1 then decide (0 ≤ p.2) else if kind = 2 then decide (0 ≤ p.1) && decide (0 ≤ p.2)
  else decide (0 ≤ p.2) && decide (p.2 ≤ p.1)

theorem kind_four {kind : Int} (h0 : 0 ≤ kind) (h3 : kind ≤ 3) : kind = 0 ∨ kind = 1 ∨ kind = 2 ∨ kind = 3 := by omega

theorem wedge_fold {kind : Int} (h0 : 0 ≤ kind) (h3 : kind ≤ 3) (p : Int × Int) : wedgeI kind p = true ↔ foldI kind p = p := by
  obtain ⟨a, b⟩ := p
  rcases kind_four h0 h3 with rfl | rfl | rfl | rfl
  · simp [wedgeI, foldI]
  · simp [wedgeI, foldI, abI]; omega
  · simp [wedgeI, foldI, abI]; omega
  · have e : foldI 3 (a, b) = if abI b ≤ abI a then (abI a, abI b) else (abI b, abI a) := by simp [foldI]
    have e2 : wedgeI 3 (a, b) = (decide (0 ≤ b) && decide (b ≤ a)) := by simp [wedgeI]
    have ha : abI a = a ∧ 0 ≤ a ∨ abI a = -a ∧ a < 0 := by unfold abI; split <;> omega
    have hb : abI b = b ∧ 0 ≤ b ∨ abI b = -b ∧ b < 0 := by unfold abI; split <;> omega
    rw [e, e2]
    simp only [Bool.and_eq_true, decide_eq_true_eq]
    split <;> simp only [Prod.mk.injEq] <;> omega

theorem syms0 : symsOf 0 = [(0, false)] := by decide +kernel
theorem syms1 : symsOf 1 = [(0, false), (0, true)] := by decide +kernel
theorem syms2 : symsOf 2 = [(0, false), (2, false), (0, true), (2, true)] := by decide +kernel
theorem syms3 : symsOf 3 = [(0, false), (1, false), (2, false), (3, false), (0, true), (1, true), (2, true), (3, true)] := by decide +kernel

theorem act0f (a b : Int) : actI 0 false (a, b) = (a, b) := rfl
theorem act1f (a b : Int) : actI 1 false (a, b) = (-b, a) := rfl
theorem act2f (a b : Int) : actI 2 false (a, b) = (-a, -b) := rfl
theorem act3f (a b : Int) : actI 3 false (a, b) = (b, -a) := by show (- -b, -a) = _; rw [Int.neg_neg]
theorem act0t (a b : Int) : actI 0 true (a, b) = (a, -b) := rfl
theorem act1t (a b : Int) : actI 1 true (a, b) = (b, a) := by show (- -b, a) = _; rw [Int.neg_neg]
theorem act2t (a b : Int) : actI 2 true (a, b) = (-a, b) := by show (-a, - -b) = _; rw [Int.neg_neg]
theorem act3t (a b : Int) : actI 3 true (a, b) = (-b, -a) := by show (- - -b, -a) = _; rw [Int.neg_neg]

theorem fold_act {kind : Int} (h0 : 0 ≤ kind) (h3 : kind ≤ 3) {t : Int} {f : Bool} (hg : (t, f) ∈ symsOf kind) (p : Int × Int) : foldI kind (actI t f p) = foldI kind p := by
  obtain ⟨a, b⟩ := p
  rcases kind_four h0 h3 with rfl | rfl | rfl | rfl
  · rw [syms0] at hg
    simp only [List.mem_cons, List.not_mem_nil, or_false, Prod.mk.injEq] at hg
    obtain ⟨rfl, rfl⟩ := hg
    rw [act0f]
  · rw [syms1] at hg
    simp only [List.mem_cons, List.not_mem_nil, or_false, Prod.mk.injEq] at hg
    rcases hg with ⟨rfl, rfl⟩ | ⟨rfl, rfl⟩
    · rw [act0f]
    · rw [act0t]; simp [foldI, abI]; omega
  · rw [syms2] at hg
    simp only [List.mem_cons, List.not_mem_nil, or_false, Prod.mk.injEq] at hg
    rcases hg with ⟨rfl, rfl⟩ | ⟨rfl, rfl⟩ | ⟨rfl, rfl⟩ | ⟨rfl, rfl⟩
    · rw [act0f]
    · rw [act2f]; simp [foldI, abI]; omega
    · rw [act0t]; simp [foldI, abI]; omega
    · rw [act2t]; simp [foldI, abI]; omega
  · have na : abI (-a) = abI a := by unfold abI; split <;> split <;> omega
    have nb : abI (-b) = abI b := by unfold abI; split <;> split <;> omega
    have key : ∀ u v : Int, foldI 3 (u, v) = if abI v ≤ abI u then (abI u, abI v) else (abI v, abI u) := fun u v => by simp [foldI]
    have sw : (if abI b ≤ abI a then (abI a, abI b) else (abI b, abI a)) = (if abI a ≤ abI b then (abI b, abI a) else (abI a, abI b)) := by
      split <;> split <;> simp only [Prod.mk.injEq] <;> omega
    rw [syms3] at hg
    simp only [List.mem_cons, List.not_mem_nil, or_false, Prod.mk.injEq] at hg
    rcases hg with ⟨rfl, rfl⟩ | ⟨rfl, rfl⟩ | ⟨rfl, rfl⟩ | ⟨rfl, rfl⟩ | ⟨rfl, rfl⟩ | ⟨rfl, rfl⟩ | ⟨rfl, rfl⟩ | ⟨rfl, rfl⟩
    · rw [act0f]
    · rw [act1f, key, key, nb, sw]
    · rw [act2f, key, key, na, nb]
    · rw [act3f, key, key, na, sw]
    · rw [act0t, key, key, nb]
    · rw [act1t, key, key, sw]
    · rw [act2t, key, key, na]
    · rw [act3t, key, key, na, nb, sw]

theorem wedge_some {kind : Int} (h0 : 0 ≤ kind) (h3 : kind ≤ 3) (p : Int × Int) : ∃ t f, (t, f) ∈ symsOf kind ∧ wedgeI kind (actI t f p) = true := by
  obtain ⟨a, b⟩ := p
  rcases kind_four h0 h3 with rfl | rfl | rfl | rfl
  · exact ⟨0, false, by rw [syms0]; simp, rfl⟩
  · by_cases hb : 0 ≤ b
    · exact ⟨0, false, by rw [syms1]; simp, by rw [act0f]; simp [wedgeI]; omega⟩
    · exact ⟨0, true, by rw [syms1]; simp, by rw [act0t]; simp [wedgeI]; omega⟩
  · by_cases hb : 0 ≤ b <;> by_cases ha : 0 ≤ a
    · exact ⟨0, false, by rw [syms2]; simp, by rw [act0f]; simp [wedgeI]; omega⟩
    · exact ⟨2, true, by rw [syms2]; simp, by rw [act2t]; simp [wedgeI]; omega⟩
    · exact ⟨0, true, by rw [syms2]; simp, by rw [act0t]; simp [wedgeI]; omega⟩
    · exact ⟨2, false, by rw [syms2]; simp, by rw [act2f]; simp [wedgeI]; omega⟩
  · have key : ∀ u v : Int, 0 ≤ v → v ≤ u → wedgeI 3 (u, v) = true := fun u v h1 h2 => by simp [wedgeI, h1, h2]
    have hm : ∀ s, s ∈ [((0 : Int), false), (1, false), (2, false), (3, false), (0, true), (1, true), (2, true), (3, true)] → s ∈ symsOf 3 := fun s h => by rw [syms3]; exact h
    by_cases hb : 0 ≤ b <;> by_cases ha : 0 ≤ a
    · by_cases h : b ≤ a
      · exact ⟨0, false, hm _ (by simp), by rw [act0f]; exact key _ _ (by omega) (by omega)⟩
      · exact ⟨1, true, hm _ (by simp), by rw [act1t]; exact key _ _ (by omega) (by omega)⟩
    · by_cases h : b ≤ -a
      · exact ⟨2, true, hm _ (by simp), by rw [act2t]; exact key _ _ (by omega) (by omega)⟩
      · exact ⟨3, false, hm _ (by simp), by rw [act3f]; exact key _ _ (by omega) (by omega)⟩
    · by_cases h : -b ≤ a
      · exact ⟨0, true, hm _ (by simp), by rw [act0t]; exact key _ _ (by omega) (by omega)⟩
      · exact ⟨1, false, hm _ (by simp), by rw [act1f]; exact key _ _ (by omega) (by omega)⟩
    · by_cases h : -b ≤ -a
      · exact ⟨2, false, hm _ (by simp), by rw [act2f]; exact key _ _ (by omega) (by omega)⟩
      · exact ⟨3, true, hm _ (by simp), by rw [act3t]; exact key _ _ (by omega) (by omega)⟩

end Go.Proofs.Ytgafdkaiiajieaa
