/- '==' of two symmetries, as the model has it. No condition. -/
import Derived.Test.YtgafdkaiiajieaaOf
namespace Go.Proofs.Ytgafdkaiiajieaa
open Go.RowKit

/-- '==' of two symmetries. -/
def eqS2 (a : Int) (b : Bool) (c : Int) (d : Bool) : Bool := a == c && b == d

@[go_sem high] theorem eqSymOp2 (a c : Int) (b d : Bool) (w : World) : (Op.equalIn 10000 28 (.agg #[.int .i64 a, .bool b]) (.agg #[.int .i64 c, .bool d])).run Try.prog w = .ok (eqS2 a b c d) w := eqSymOp a c b d w

end Go.Proofs.Ytgafdkaiiajieaa
