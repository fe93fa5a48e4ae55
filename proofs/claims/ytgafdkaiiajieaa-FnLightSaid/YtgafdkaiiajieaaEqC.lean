/- '==' of two colours, as the model has it. No condition. -/
import Derived.Test.YtgafdkaiiajieaaPart
namespace Go.Proofs.Ytgafdkaiiajieaa
open Go.RowKit
open Fl

theorem eqFloatIn (d : Nat) (a b : Nat) (w : World) : (Op.equalIn (d + 1) 39 (.float .f32 a) (.float .f32 b)).run Try.prog w = .ok (FloatKind.f32.format.order a b == some .eq) w := by
  simp [Op.equalIn, run_underlying Try.underlying39]
  rfl

/-- '==' of two colours. -/
def eqC (r g b r' g' b' : Nat) : Bool := FloatKind.f32.format.order r r' == some .eq && FloatKind.f32.format.order g g' == some .eq && FloatKind.f32.format.order b b' == some .eq

@[go_sem high] theorem eqColOp (r g b r' g' b' : Nat) (w : World) : (Op.equalIn 10000 41 (.agg #[.float .f32 r, .float .f32 g, .float .f32 b]) (.agg #[.float .f32 r', .float .f32 g', .float .f32 b'])).run Try.prog w = .ok (eqC r g b r' g' b') w := by
  unfold eqC
  have u3 := Try.underlying39
  have a3 := Try.isAgg39
  have z3 := Try.sizeOf39
  have hS : Try.prog.underlying 41 = some (.struct (Try.prog.fieldsOf 41)) := by kernel_rfl
  rw [show (10000 : Nat) = 9999 + 1 from rfl, run_equalIn_agg w 9999 41 _ _ hS (by kernel_rfl)]
  simp only [Program.fieldsOf, Try.underlying41]
  have q := eqFloatIn 9998
  go_simp
  by_cases h1 : FloatKind.f32.format.order r r' = some .eq <;> by_cases h2 : FloatKind.f32.format.order g g' = some .eq <;> by_cases h3 : FloatKind.f32.format.order b b' = some .eq <;> simp [h1, h2, h3]

theorem eqC_of {r g b r' g' b' : Nat} (h1 : fin r) (h2 : fin g) (h3 : fin b) (k1 : fin r') (k2 : fin g') (k3 : fin b') (e1 : val r = val r') (e2 : val g = val g') (e3 : val b = val b') : eqC r g b r' g' b' = true := by
  have key : ∀ {x y : Nat}, fin x → fin y → val x = val y → (FloatKind.f32.format.order x y == some .eq) = true := fun {x y} hx hy e => by
    show (S.order x y == some .eq) = true
    rw [order_fin hx hy, e]
    simp [compare, compareOfLessAndEq]
  unfold eqC
  rw [key h1 k1 e1, key h2 k2 e2, key h3 k3 e3]
  rfl

end Go.Proofs.Ytgafdkaiiajieaa
