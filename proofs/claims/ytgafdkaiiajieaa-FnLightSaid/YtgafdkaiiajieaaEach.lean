/- What the program's eachPart computes with the functions that it is handed: products, differences, distances. Condition: the function's own contract at the three pairs of parts. -/
import Derived.Test.YtgafdkaiiajieaaPartP
import Derived.Test.YtgafdkaiiajieaaCol
import Derived.Deep.RegionHeld3
namespace Go.Proofs.Ytgafdkaiiajieaa
open Go.RowKit
open Fl

set_option maxHeartbeats 1000000 in
theorem eachPart_times (r g b r' g' b' : Nat) (w : World)
    (h1 : ∀ w, Calls Try.prog 55 #[.float .f32 r, .float .f32 r'] w fun e w' => e = .returned (.float .f32 (timesF r r')) ∧ w = w')
    (h2 : ∀ w, Calls Try.prog 55 #[.float .f32 g, .float .f32 g'] w fun e w' => e = .returned (.float .f32 (timesF g g')) ∧ w = w')
    (h3 : ∀ w, Calls Try.prog 55 #[.float .f32 b, .float .f32 b'] w fun e w' => e = .returned (.float .f32 (timesF b b')) ∧ w = w') :
    Calls Try.prog 54 #[.agg #[.float .f32 r, .float .f32 g, .float .f32 b], .agg #[.float .f32 r', .float .f32 g', .float .f32 b'], .func (.func 55) #[] #[]] w fun e w' => e = .returned (.agg #[.float .f32 (timesF r r'), .float .f32 (timesF g g'), .float .f32 (timesF b b')]) ∧ (((w.alloc (.cells #[.float .f32 r, .float .f32 g, .float .f32 b] 41)).alloc (.cells #[.float .f32 r', .float .f32 g', .float .f32 b'] 41)).alloc (.cells #[.float .f32 (timesF r r'), .float .f32 (timesF g g'), .float .f32 (timesF b b')] 41)).drew = w' := by
  have H1 := hide h1
  have H2 := hide h2
  have H3 := hide h3
  clear h1 h2 h3
  go_enter Try.func54, Try.ntmps54
  go_wp2_with fail
  go_region_held3 (fun w' => w'.cell? ⟨w.heap.size, 0, none⟩ = some (.float .f32 r) ∧ w'.cell? ⟨w.heap.size, 1, none⟩ = some (.float .f32 g) ∧ w'.cell? ⟨w.heap.size, 2, none⟩ = some (.float .f32 b) ∧ w'.cell? ⟨w.heap.size + 1, 0, none⟩ = some (.float .f32 r') ∧ w'.cell? ⟨w.heap.size + 1, 1, none⟩ = some (.float .f32 g') ∧ w'.cell? ⟨w.heap.size + 1, 2, none⟩ = some (.float .f32 b'))
    (refine ⟨?_, ?_, ?_, ?_, ?_, ?_⟩ <;> (go_simp; done))
    (first | (go_at_call 55; (first | (with_reducible refine (H1.out _).mono ?_) | (with_reducible refine (H2.out _).mono ?_) | (with_reducible refine (H3.out _).mono ?_)); rintro e w' ⟨rfl, rfl⟩))
  go_wp2_with fail
  exact bodyPost_ret (v := .agg #[.float .f32 (timesF r r'), .float .f32 (timesF g g'), .float .f32 (timesF b b')]) (by simp [results, Try.results54, go_sem]) rfl ⟨rfl, rfl⟩


set_option maxHeartbeats 1000000 in
theorem eachPart_diff (r g b r' g' b' : Nat) (w : World)
    (h1 : ∀ w, Calls Try.prog 45 #[.float .f32 r, .float .f32 r'] w fun e w' => e = .returned (.float .f32 (diffF r r')) ∧ w = w')
    (h2 : ∀ w, Calls Try.prog 45 #[.float .f32 g, .float .f32 g'] w fun e w' => e = .returned (.float .f32 (diffF g g')) ∧ w = w')
    (h3 : ∀ w, Calls Try.prog 45 #[.float .f32 b, .float .f32 b'] w fun e w' => e = .returned (.float .f32 (diffF b b')) ∧ w = w') :
    Calls Try.prog 54 #[.agg #[.float .f32 r, .float .f32 g, .float .f32 b], .agg #[.float .f32 r', .float .f32 g', .float .f32 b'], .func (.func 45) #[] #[]] w fun e w' => e = .returned (.agg #[.float .f32 (diffF r r'), .float .f32 (diffF g g'), .float .f32 (diffF b b')]) ∧ (((w.alloc (.cells #[.float .f32 r, .float .f32 g, .float .f32 b] 41)).alloc (.cells #[.float .f32 r', .float .f32 g', .float .f32 b'] 41)).alloc (.cells #[.float .f32 (diffF r r'), .float .f32 (diffF g g'), .float .f32 (diffF b b')] 41)).drew = w' := by
  have H1 := hide h1
  have H2 := hide h2
  have H3 := hide h3
  clear h1 h2 h3
  go_enter Try.func54, Try.ntmps54
  go_wp2_with fail
  go_region_held3 (fun w' => w'.cell? ⟨w.heap.size, 0, none⟩ = some (.float .f32 r) ∧ w'.cell? ⟨w.heap.size, 1, none⟩ = some (.float .f32 g) ∧ w'.cell? ⟨w.heap.size, 2, none⟩ = some (.float .f32 b) ∧ w'.cell? ⟨w.heap.size + 1, 0, none⟩ = some (.float .f32 r') ∧ w'.cell? ⟨w.heap.size + 1, 1, none⟩ = some (.float .f32 g') ∧ w'.cell? ⟨w.heap.size + 1, 2, none⟩ = some (.float .f32 b'))
    (refine ⟨?_, ?_, ?_, ?_, ?_, ?_⟩ <;> (go_simp; done))
    (first | (go_at_call 45; (first | (with_reducible refine (H1.out _).mono ?_) | (with_reducible refine (H2.out _).mono ?_) | (with_reducible refine (H3.out _).mono ?_)); rintro e w' ⟨rfl, rfl⟩))
  go_wp2_with fail
  exact bodyPost_ret (v := .agg #[.float .f32 (diffF r r'), .float .f32 (diffF g g'), .float .f32 (diffF b b')]) (by simp [results, Try.results54, go_sem]) rfl ⟨rfl, rfl⟩


end Go.Proofs.Ytgafdkaiiajieaa
