/- What the functions on words of mirrors compute: l1Mirror, letters. For all kinds and letters. -/
import Derived.Test.YtnpgdijafmkmkaaWordP
import Derived.Test.YtnpgdijafmkmkaaRows2
namespace Go.Proofs.Ytnpgdijafmkmkaa
open Go.RowKit

def mirT (kind k : Int) : Int := ((mir kind k).map (·.1)).getD 0
def mirF (kind k : Int) : Bool := ((mir kind k).map (·.2)).getD false
def mirOk (kind k : Int) : Bool := (mir kind k).isSome

theorem mir_yes {kind k : Int} {s : Int × Bool} (h : mir kind k = some s) : mirT kind k = s.1 ∧ mirF kind k = s.2 ∧ mirOk kind k = true := by
  unfold mirT mirF mirOk; rw [h]; exact ⟨rfl, rfl, rfl⟩
theorem mir_no {kind k : Int} (h : mir kind k = none) : mirT kind k = 0 ∧ mirF kind k = false ∧ mirOk kind k = false := by
  unfold mirT mirF mirOk; rw [h]; exact ⟨rfl, rfl, rfl⟩

theorem mirs_0 : mirs 0 = [] := by decide
theorem mirs_1 : mirs 1 = [(0, true)] := by decide
theorem mirs_2 : mirs 2 = [(0, true), (2, true)] := by decide
theorem mirs_3 : mirs 3 = [(0, true), (1, true)] := by decide
theorem mirs_no {kind : Int} (h : win kind 1 3 = false) : mirs kind = [] := by
  have : ¬ (1 ≤ kind ∧ kind ≤ 3) := fun e => by rw [win_iff.2 e] at h; cases h
  unfold mirs
  rw [if_neg (by omega), if_neg (by omega), if_neg (by omega)]

set_option maxHeartbeats 1000000 in
theorem l1Mirror_any (kind k : Int) (w : World) :
    Calls Try.prog 61 #[.int .i64 kind, .int .i64 k] w fun e w' => e = .returned (.tuple #[.agg #[.int .i64 (mirT kind k), .bool (mirF kind k)], .bool (mirOk kind k)]) ∧ Below w.heap.size w w' := by
  rcases mir_cases kind k with ⟨rfl, rfl, h⟩ | ⟨rfl, rfl, h⟩ | ⟨rfl, rfl, h⟩ | ⟨rfl, rfl, h⟩ | ⟨rfl, rfl, h⟩ | ⟨h, hno⟩
  · have H := hide (mir_yes h)
    clear h
    go_enter Try.func61, Try.ntmps61
    go_wp2_with (go_at_call 45; refine (l1In_any _ _ _ _).mono ?_; rintro e w' ⟨rfl, rfl⟩)
    exact bodyPost_ret (v := .tuple #[.agg #[.int .i64 0, .bool true], .bool true]) (by simp [results, Try.results61, go_sem]) rfl ⟨by rw [H.out.1, H.out.2.1, H.out.2.2], (by repeat (first | exact Below.refl _ _ | assumption | refine Below.drew ?_ | refine Below.setCell ?_ (by first | (dsimp only; omega) | (simp; omega) | simp) _ | refine Below.alloc ?_ (by first | omega | (simp; omega) | simp) _))⟩
  · have H := hide (mir_yes h)
    clear h
    go_enter Try.func61, Try.ntmps61
    go_wp2_with (go_at_call 45; refine (l1In_any _ _ _ _).mono ?_; rintro e w' ⟨rfl, rfl⟩)
    exact bodyPost_ret (v := .tuple #[.agg #[.int .i64 0, .bool true], .bool true]) (by simp [results, Try.results61, go_sem]) rfl ⟨by rw [H.out.1, H.out.2.1, H.out.2.2], (by repeat (first | exact Below.refl _ _ | assumption | refine Below.drew ?_ | refine Below.setCell ?_ (by first | (dsimp only; omega) | (simp; omega) | simp) _ | refine Below.alloc ?_ (by first | omega | (simp; omega) | simp) _))⟩
  · have H := hide (mir_yes h)
    clear h
    go_enter Try.func61, Try.ntmps61
    go_wp2_with (go_at_call 45; refine (l1In_any _ _ _ _).mono ?_; rintro e w' ⟨rfl, rfl⟩)
    exact bodyPost_ret (v := .tuple #[.agg #[.int .i64 2, .bool true], .bool true]) (by simp [results, Try.results61, go_sem]) rfl ⟨by rw [H.out.1, H.out.2.1, H.out.2.2], (by repeat (first | exact Below.refl _ _ | assumption | refine Below.drew ?_ | refine Below.setCell ?_ (by first | (dsimp only; omega) | (simp; omega) | simp) _ | refine Below.alloc ?_ (by first | omega | (simp; omega) | simp) _))⟩
  · have H := hide (mir_yes h)
    clear h
    go_enter Try.func61, Try.ntmps61
    go_wp2_with (go_at_call 45; refine (l1In_any _ _ _ _).mono ?_; rintro e w' ⟨rfl, rfl⟩)
    exact bodyPost_ret (v := .tuple #[.agg #[.int .i64 0, .bool true], .bool true]) (by simp [results, Try.results61, go_sem]) rfl ⟨by rw [H.out.1, H.out.2.1, H.out.2.2], (by repeat (first | exact Below.refl _ _ | assumption | refine Below.drew ?_ | refine Below.setCell ?_ (by first | (dsimp only; omega) | (simp; omega) | simp) _ | refine Below.alloc ?_ (by first | omega | (simp; omega) | simp) _))⟩
  · have H := hide (mir_yes h)
    clear h
    go_enter Try.func61, Try.ntmps61
    go_wp2_with (go_at_call 45; refine (l1In_any _ _ _ _).mono ?_; rintro e w' ⟨rfl, rfl⟩)
    exact bodyPost_ret (v := .tuple #[.agg #[.int .i64 1, .bool true], .bool true]) (by simp [results, Try.results61, go_sem]) rfl ⟨by rw [H.out.1, H.out.2.1, H.out.2.2], (by repeat (first | exact Below.refl _ _ | assumption | refine Below.drew ?_ | refine Below.setCell ?_ (by first | (dsimp only; omega) | (simp; omega) | simp) _ | refine Below.alloc ?_ (by first | omega | (simp; omega) | simp) _))⟩
  · have H := hide (mir_no h)
    clear h
    by_cases k0 : k = 0
    · subst k0
      have hw : win kind 1 3 = false := by
        cases hw : win kind 1 3
        · rfl
        · exfalso
          have := win_iff.1 hw
          rcases (show kind = 1 ∨ kind = 2 ∨ kind = 3 by omega) with rfl | rfl | rfl <;> exact hno (by decide)
      clear hno
      go_enter Try.func61, Try.ntmps61
      go_wp2_with (go_at_call 45; refine (l1In_any _ _ _ _).mono ?_; rintro e w' ⟨rfl, rfl⟩)
      exact bodyPost_ret (v := .tuple #[.agg #[.int .i64 0, .bool false], .bool false]) (by simp [results, Try.results61, go_sem]) rfl ⟨by rw [H.out.1, H.out.2.1, H.out.2.2], (by repeat (first | exact Below.refl _ _ | assumption | refine Below.drew ?_ | refine Below.setCell ?_ (by first | (dsimp only; omega) | (simp; omega) | simp) _ | refine Below.alloc ?_ (by first | omega | (simp; omega) | simp) _))⟩
    · have e0 : (k == 0) = false := by simpa using k0
      by_cases k1 : k = 1
      · subst k1
        have e2 : (kind == 2) = false := by
          by_cases e : kind = 2
          · subst e; exact absurd (by decide) hno
          · simpa using e
        have e3 : (kind == 3) = false := by
          by_cases e : kind = 3
          · subst e; exact absurd (by decide) hno
          · simpa using e
        clear hno k0
        go_enter Try.func61, Try.ntmps61
        go_wp2_with (go_at_call 45; refine (l1In_any _ _ _ _).mono ?_; rintro e w' ⟨rfl, rfl⟩)
        exact bodyPost_ret (v := .tuple #[.agg #[.int .i64 0, .bool false], .bool false]) (by simp [results, Try.results61, go_sem]) rfl ⟨by rw [H.out.1, H.out.2.1, H.out.2.2], (by repeat (first | exact Below.refl _ _ | assumption | refine Below.drew ?_ | refine Below.setCell ?_ (by first | (dsimp only; omega) | (simp; omega) | simp) _ | refine Below.alloc ?_ (by first | omega | (simp; omega) | simp) _))⟩
      · have e1 : (k == 1) = false := by simpa using k1
        clear hno k0 k1
        go_enter Try.func61, Try.ntmps61
        go_wp2_with (go_at_call 45; refine (l1In_any _ _ _ _).mono ?_; rintro e w' ⟨rfl, rfl⟩)
        exact bodyPost_ret (v := .tuple #[.agg #[.int .i64 0, .bool false], .bool false]) (by simp [results, Try.results61, go_sem]) rfl ⟨by rw [H.out.1, H.out.2.1, H.out.2.2], (by repeat (first | exact Below.refl _ _ | assumption | refine Below.drew ?_ | refine Below.setCell ?_ (by first | (dsimp only; omega) | (simp; omega) | simp) _ | refine Below.alloc ?_ (by first | omega | (simp; omega) | simp) _))⟩

/-- The mirrors of a kind, in new memory. -/
def RetMirs (w : World) (kind : Int) (e : Ending) (w' : World) : Prop :=
  ∃ v, e = .returned v ∧ w'.ownsRow w.heap.size 26 2 v (mirs kind).length (symCells (mirs kind)) ∧ Below w.heap.size w w'

set_option maxHeartbeats 1000000 in
theorem letters_any (kind : Int) (w : World) : Calls Try.prog 52 #[.int .i64 kind] w (RetMirs w kind) := by
  by_cases k1 : kind = 1
  · subst k1
    go_enter Try.func52, Try.ntmps52
    go_wp2
    go_ret
    exact ⟨_, rfl, by rw [mirs_1]; exact World.ownsRow_lit w #[.int .i64 0, .bool true] 1 (Nat.le_refl _) (by unfold maxLen; omega) rfl, (by repeat (first | exact Below.refl _ _ | assumption | refine Below.drew ?_ | refine Below.alloc ?_ (by first | omega | (simp; omega) | simp) _))⟩
  by_cases k2 : kind = 2
  · subst k2
    go_enter Try.func52, Try.ntmps52
    go_wp2
    go_ret
    exact ⟨_, rfl, by rw [mirs_2]; exact World.ownsRow_lit w #[.int .i64 0, .bool true, .int .i64 2, .bool true] 2 (Nat.le_refl _) (by unfold maxLen; omega) rfl, (by repeat (first | exact Below.refl _ _ | assumption | refine Below.drew ?_ | refine Below.alloc ?_ (by first | omega | (simp; omega) | simp) _))⟩
  by_cases k3 : kind = 3
  · subst k3
    go_enter Try.func52, Try.ntmps52
    go_wp2
    go_ret
    exact ⟨_, rfl, by rw [mirs_3]; exact World.ownsRow_lit w #[.int .i64 0, .bool true, .int .i64 1, .bool true] 2 (Nat.le_refl _) (by unfold maxLen; omega) rfl, (by repeat (first | exact Below.refl _ _ | assumption | refine Below.drew ?_ | refine Below.alloc ?_ (by first | omega | (simp; omega) | simp) _))⟩
  have hm : mirs kind = [] := by unfold mirs; rw [if_neg k1, if_neg k2, if_neg k3]
  have HM := hide hm
  clear hm
  have e1 : (kind == 1) = false := by simpa using k1
  have e2 : (kind == 2) = false := by simpa using k2
  have e3 : (kind == 3) = false := by simpa using k3
  go_enter Try.func52, Try.ntmps52
  go_wp2
  go_ret
  exact ⟨_, rfl, by rw [HM.out]; exact World.ownsRow_nil _ _ _ _, Below.refl _ _⟩

end Go.Proofs.Ytnpgdijafmkmkaa
