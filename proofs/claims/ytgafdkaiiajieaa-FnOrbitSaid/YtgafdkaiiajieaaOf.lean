/- What the reference's SymsOf computes: the symmetries of mirrors of a kind, in order, in new memory. For all kinds and worlds. -/
import Derived.Test.YtgafdkaiiajieaaAll
import Derived.Test.YtgafdkaiiajieaaSym
import Derived.Deep.AppendLies
namespace Go.Proofs.Ytgafdkaiiajieaa
open Go.RowKit

@[go_sem] theorem eqSymOp (a c : Int) (b d : Bool) (w : World) : (Op.equalIn 10000 28 (.agg #[.int .i64 a, .bool b]) (.agg #[.int .i64 c, .bool d])).run Try.prog w = .ok (a == c && b == d) w := by
  have u3 := Try.underlying3
  have u4 := Try.underlying4
  have a3 := Try.isAgg3
  have a4 := Try.isAgg4
  have z3 := Try.sizeOf3
  have z4 := Try.sizeOf4
  have hS : Try.prog.underlying 28 = some (.struct (Try.prog.fieldsOf 28)) := by kernel_rfl
  rw [show (10000 : Nat) = 9999 + 1 from rfl, run_equalIn_agg w 9999 28 _ _ hS (by kernel_rfl)]
  simp only [Program.fieldsOf, Try.underlying28]
  go_simp
  by_cases h1 : a = c <;> cases b <;> cases d <;> simp [h1]

end Go.Proofs.Ytgafdkaiiajieaa
