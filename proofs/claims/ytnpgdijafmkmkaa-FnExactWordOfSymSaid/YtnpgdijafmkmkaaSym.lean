/- What the program's and the reference's functions on one symmetry compute: within, IsSym, toSym, eqSym. Each contract holds for all arguments and worlds. -/
import Derived.Test.YtnpgdijafmkmkaaBase
namespace Go.Proofs.Ytnpgdijafmkmkaa
open Go.RowKit

set_option maxHeartbeats 400000 in
theorem within_any (n lo hi : Int) (w : World) :
    Calls Try.prog 46 #[.int .i64 n, .int .i64 lo, .int .i64 hi] w fun e w' => e = .returned (.bool (win n lo hi)) ∧ w = w' := by
  by_cases h1 : lo ≤ n <;> by_cases h2 : n ≤ hi
  all_goals
    have H : Hid (win n lo hi = (decide (lo ≤ n) && decide (n ≤ hi))) := rfl
    go_enter Try.func46, Try.ntmps46
    go_wp2
    go_ret
    exact ⟨by rw [H.out]; simp [*], rfl⟩

set_option maxHeartbeats 400000 in
theorem l1In_any (n lo hi : Int) (w : World) :
    Calls Try.prog 45 #[.int .i64 n, .int .i64 lo, .int .i64 hi] w fun e w' => e = .returned (.bool (win n lo hi)) ∧ w = w' := by
  by_cases h1 : lo ≤ n <;> by_cases h2 : n ≤ hi
  all_goals
    have H : Hid (win n lo hi = (decide (lo ≤ n) && decide (n ≤ hi))) := rfl
    go_enter Try.func45, Try.ntmps45
    go_wp2
    go_ret
    exact ⟨by rw [H.out]; simp [*], rfl⟩

set_option maxHeartbeats 400000 in
theorem isSym_any (t : Int) (f : Bool) (w : World) :
    Calls Try.prog 17 #[.agg #[.int .i64 t, .bool f]] w fun e w' => e = .returned (.bool (win t 0 3)) ∧ w.alloc (.cells #[.int .i64 t, .bool f] 26) = w' := by
  go_enter Try.func17, Try.ntmps17
  go_wp2_with (go_at_call 46; refine (within_any _ _ _ _).mono ?_; rintro e w' ⟨rfl, rfl⟩)
  go_ret
  exact ⟨rfl, rfl⟩

set_option maxHeartbeats 400000 in
theorem sIsSym_any (t : Int) (f : Bool) (w : World) :
    Calls Try.prog 15 #[.agg #[.int .i64 t, .bool f]] w fun e w' => e = .returned (.bool (win t 0 3)) ∧ w.alloc (.cells #[.int .i64 t, .bool f] 26) = w' := by
  go_enter Try.func15, Try.ntmps15
  go_wp2_with (go_at_call 45; refine (l1In_any _ _ _ _).mono ?_; rintro e w' ⟨rfl, rfl⟩)
  go_ret
  exact ⟨rfl, rfl⟩

set_option maxHeartbeats 400000 in
theorem toSym_any (t : Int) (f : Bool) (w : World) :
    Calls Try.prog 16 #[.agg #[.int .i64 t, .bool f]] w fun e w' => e = .returned (.agg #[.int .i64 t, .bool f]) ∧ ((w.alloc (.cells #[.int .i64 t, .bool f] 24)).alloc (.cells #[.int .i64 t, .bool f] 26)).alloc (.cells #[.int .i64 t, .bool f] 26) = w' := by
  go_enter Try.func16, Try.ntmps16
  go_wp2
  exact bodyPost_ret (v := .agg #[.int .i64 t, .bool f]) (by simp [results, Try.results16, go_sem]) rfl ⟨rfl, rfl⟩

set_option maxHeartbeats 400000 in
theorem eqSym_any (t t' : Int) (f f' : Bool) (w : World) :
    Calls Try.prog 22 #[.agg #[.int .i64 t, .bool f], .agg #[.int .i64 t', .bool f']] w fun e w' => e = .returned (.bool (t == t' && f == f')) ∧ (w.alloc (.cells #[.int .i64 t, .bool f] 26)).alloc (.cells #[.int .i64 t', .bool f'] 26) = w' := by
  by_cases h1 : t = t'
  · subst h1
    cases f <;> cases f'
    all_goals
      go_enter Try.func22, Try.ntmps22
      go_wp2
      go_ret
      exact ⟨by simp, rfl⟩
  · have h2 : (t == t') = false := by simpa using h1
    go_enter Try.func22, Try.ntmps22
    go_wp2
    go_ret
    exact ⟨by simp [h1], rfl⟩

end Go.Proofs.Ytnpgdijafmkmkaa
