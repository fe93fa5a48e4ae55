/-
  No cell of these rows narrows 'for every input' (looked for: loops, veiled, ifaces, maps, wideKeys, modest, calm, conditions, laid).
  DERIVED. THE GIVEN ROWS OF THIS SEAT. 8 by the template 'for every input the law returns true; each argument reads behind the call as it read before'; 0 by the template 'total and deterministic' (their statements: YtgafdkaiiajieaaTotals.lean).
  GIVEN WITH THE SEED: the statements are not yours to turn. If you find one false, say at which input.
  Laid BY PROGRAM, IN A SANDBOX (cutbox-rows.mjs): the forced cells as the released guide's own fill.sh prints them over the translation d4fb5814bdf1731e… (all of the seat's roots in one cut). By AI agents, Wed Nov 11 2026. No macro, syntax, notation, axiom, sorry.
-/
import Derived.Test.YtgafdkaiiajieaaChecked
import GoSem.Claim
import GoSem.ClaimJoined
import GoSem.ClaimMapViews
import Derived.JoinedTies
import Derived.KernelRfl
namespace Go.Proofs.Ytgafdkaiiajieaa
/- THE CELL 'sum', in the pinned program and in every row, IS THE sha256 OF THE DUMP (.gsa) THAT YtgafdkaiiajieaaProg.lean LOADS. Nothing in Lean hashes anything: it is a label: what it is worth is what the hold of that sum in a sandbox is worth. -/
noncomputable def Try.pinned : Pinned := { name := "ytgafdkaiiajieaa", sum := "d4fb5814bdf1731e50916ff6afd38b187bfb812638cad58dbb97213e6c6fed23", checked := Try.checked }
namespace Rows
def none {H : Type} : Left H := { results := [], args := [] }

/-- 'laws.FnFold': WHATEVER THE INPUT: true; the input reads as it did. -/
def fnFoldSpec : ChangeSpec := { name := "fnFold", fn := fun _ => fun
  | [d] => { results := [.lit (.bool true)], args := [d] }
  | _ => none }
def fnFoldRow : OpenClaim := { program := "ytgafdkaiiajieaa", sum := "d4fb5814bdf1731e50916ff6afd38b187bfb812638cad58dbb97213e6c6fed23", func := "loop.example/g03020/laws.FnFold", spec := "fnFold", unfollowed := true, recurses := true, apart := false }
def FnFoldSaid : Prop := fnFoldRow.holds Try.pinned (OpenSpec.ofChange fnFoldSpec)

/-- ITS FALSE NEIGHBOUR: 'it returns false'. Refute it at one input. -/
def fnFoldWrong : ChangeSpec := { name := "fnFold", fn := fun _ => fun
  | [d] => { results := [.lit (.bool false)], args := [d] }
  | _ => none }
def FnFoldWrongFalsely : Prop := fnFoldRow.holds Try.pinned (OpenSpec.ofChange fnFoldWrong)

/-- 'laws.FnOrbit': WHATEVER THE INPUT: true; the input reads as it did. -/
def fnOrbitSpec : ChangeSpec := { name := "fnOrbit", fn := fun _ => fun
  | [d] => { results := [.lit (.bool true)], args := [d] }
  | _ => none }
def fnOrbitRow : OpenClaim := { program := "ytgafdkaiiajieaa", sum := "d4fb5814bdf1731e50916ff6afd38b187bfb812638cad58dbb97213e6c6fed23", func := "loop.example/g03020/laws.FnOrbit", spec := "fnOrbit", unfollowed := true, recurses := true, apart := false }
def FnOrbitSaid : Prop := fnOrbitRow.holds Try.pinned (OpenSpec.ofChange fnOrbitSpec)

/-- ITS FALSE NEIGHBOUR: 'it returns false'. Refute it at one input. -/
def fnOrbitWrong : ChangeSpec := { name := "fnOrbit", fn := fun _ => fun
  | [d] => { results := [.lit (.bool false)], args := [d] }
  | _ => none }
def FnOrbitWrongFalsely : Prop := fnOrbitRow.holds Try.pinned (OpenSpec.ofChange fnOrbitWrong)

/-- 'laws.FnMixed': WHATEVER THE INPUT: true; the input reads as it did. -/
def fnMixedSpec : ChangeSpec := { name := "fnMixed", fn := fun _ => fun
  | [d] => { results := [.lit (.bool true)], args := [d] }
  | _ => none }
def fnMixedRow : OpenClaim := { program := "ytgafdkaiiajieaa", sum := "d4fb5814bdf1731e50916ff6afd38b187bfb812638cad58dbb97213e6c6fed23", func := "loop.example/g03020/laws.FnMixed", spec := "fnMixed", unfollowed := true, recurses := true, apart := false }
def FnMixedSaid : Prop := fnMixedRow.holds Try.pinned (OpenSpec.ofChange fnMixedSpec)

/-- ITS FALSE NEIGHBOUR: 'it returns false'. Refute it at one input. -/
def fnMixedWrong : ChangeSpec := { name := "fnMixed", fn := fun _ => fun
  | [d] => { results := [.lit (.bool false)], args := [d] }
  | _ => none }
def FnMixedWrongFalsely : Prop := fnMixedRow.holds Try.pinned (OpenSpec.ofChange fnMixedWrong)

/-- 'laws.FnProducts': WHATEVER THE INPUT: true; the input reads as it did. -/
def fnProductsSpec : ChangeSpec := { name := "fnProducts", fn := fun _ => fun
  | [d] => { results := [.lit (.bool true)], args := [d] }
  | _ => none }
def fnProductsRow : OpenClaim := { program := "ytgafdkaiiajieaa", sum := "d4fb5814bdf1731e50916ff6afd38b187bfb812638cad58dbb97213e6c6fed23", func := "loop.example/g03020/laws.FnProducts", spec := "fnProducts", apart := false }
def FnProductsSaid : Prop := fnProductsRow.holds Try.pinned (OpenSpec.ofChange fnProductsSpec)

/-- ITS FALSE NEIGHBOUR: 'it returns false'. Refute it at one input. -/
def fnProductsWrong : ChangeSpec := { name := "fnProducts", fn := fun _ => fun
  | [d] => { results := [.lit (.bool false)], args := [d] }
  | _ => none }
def FnProductsWrongFalsely : Prop := fnProductsRow.holds Try.pinned (OpenSpec.ofChange fnProductsWrong)

/-- 'laws.FnMovedShard': WHATEVER THE INPUT: true; the input reads as it did. -/
def fnMovedShardSpec : ChangeSpec := { name := "fnMovedShard", fn := fun _ => fun
  | [d] => { results := [.lit (.bool true)], args := [d] }
  | _ => none }
def fnMovedShardRow : OpenClaim := { program := "ytgafdkaiiajieaa", sum := "d4fb5814bdf1731e50916ff6afd38b187bfb812638cad58dbb97213e6c6fed23", func := "loop.example/g03020/laws.FnMovedShard", spec := "fnMovedShard", apart := false }
def FnMovedShardSaid : Prop := fnMovedShardRow.holds Try.pinned (OpenSpec.ofChange fnMovedShardSpec)

/-- ITS FALSE NEIGHBOUR: 'it returns false'. Refute it at one input. -/
def fnMovedShardWrong : ChangeSpec := { name := "fnMovedShard", fn := fun _ => fun
  | [d] => { results := [.lit (.bool false)], args := [d] }
  | _ => none }
def FnMovedShardWrongFalsely : Prop := fnMovedShardRow.holds Try.pinned (OpenSpec.ofChange fnMovedShardWrong)

/-- 'laws.FnSides': WHATEVER THE INPUT: true; the input reads as it did. -/
def fnSidesSpec : ChangeSpec := { name := "fnSides", fn := fun _ => fun
  | [d] => { results := [.lit (.bool true)], args := [d] }
  | _ => none }
def fnSidesRow : OpenClaim := { program := "ytgafdkaiiajieaa", sum := "d4fb5814bdf1731e50916ff6afd38b187bfb812638cad58dbb97213e6c6fed23", func := "loop.example/g03020/laws.FnSides", spec := "fnSides", apart := false }
def FnSidesSaid : Prop := fnSidesRow.holds Try.pinned (OpenSpec.ofChange fnSidesSpec)

/-- ITS FALSE NEIGHBOUR: 'it returns false'. Refute it at one input. -/
def fnSidesWrong : ChangeSpec := { name := "fnSides", fn := fun _ => fun
  | [d] => { results := [.lit (.bool false)], args := [d] }
  | _ => none }
def FnSidesWrongFalsely : Prop := fnSidesRow.holds Try.pinned (OpenSpec.ofChange fnSidesWrong)

/-- 'laws.FnCorners': WHATEVER THE INPUT: true; the input reads as it did. -/
def fnCornersSpec : ChangeSpec := { name := "fnCorners", fn := fun _ => fun
  | [d] => { results := [.lit (.bool true)], args := [d] }
  | _ => none }
def fnCornersRow : OpenClaim := { program := "ytgafdkaiiajieaa", sum := "d4fb5814bdf1731e50916ff6afd38b187bfb812638cad58dbb97213e6c6fed23", func := "loop.example/g03020/laws.FnCorners", spec := "fnCorners", apart := false }
def FnCornersSaid : Prop := fnCornersRow.holds Try.pinned (OpenSpec.ofChange fnCornersSpec)

/-- ITS FALSE NEIGHBOUR: 'it returns false'. Refute it at one input. -/
def fnCornersWrong : ChangeSpec := { name := "fnCorners", fn := fun _ => fun
  | [d] => { results := [.lit (.bool false)], args := [d] }
  | _ => none }
def FnCornersWrongFalsely : Prop := fnCornersRow.holds Try.pinned (OpenSpec.ofChange fnCornersWrong)

/-- 'laws.FnLight': WHATEVER THE INPUT: true; the input reads as it did. -/
def fnLightSpec : ChangeSpec := { name := "fnLight", fn := fun _ => fun
  | [d] => { results := [.lit (.bool true)], args := [d] }
  | _ => none }
def fnLightRow : OpenClaim := { program := "ytgafdkaiiajieaa", sum := "d4fb5814bdf1731e50916ff6afd38b187bfb812638cad58dbb97213e6c6fed23", func := "loop.example/g03020/laws.FnLight", spec := "fnLight", unfollowed := true, recurses := true, apart := false }
def FnLightSaid : Prop := fnLightRow.holds Try.pinned (OpenSpec.ofChange fnLightSpec)

/-- ITS FALSE NEIGHBOUR: 'it returns false'. Refute it at one input. -/
def fnLightWrong : ChangeSpec := { name := "fnLight", fn := fun _ => fun
  | [d] => { results := [.lit (.bool false)], args := [d] }
  | _ => none }
def FnLightWrongFalsely : Prop := fnLightRow.holds Try.pinned (OpenSpec.ofChange fnLightWrong)

/- THE SECOND FORM. 'bulk': how many values and letters a reading holds, each counted each time it is reached (what is shared counts as often as it is met; a slice's spare places count too). A statement '..UptoSaid' is the law's where the arguments, and the package variables that the reading takes, are together of bulk at most 1048576: NARROWER than '..Said'. Prove '..Said' where nothing that the law and all that it calls make is longer than what came in: it says more and counts as full. Else prove '..UptoSaid'. A law counts once. -/
mutual
def uptoBulk {H : Type} : DataW H → Nat
  | .lit (.string bytes) => bytes.length + 1
  | .lit _ => 1
  | .nil => 1
  | .ptr d => uptoBulk d + 1
  | .slice elems spare => uptoBulkAll elems + uptoBulkAll spare + 1
  | .agg parts => uptoBulkAll parts + 1
  | .iface _ d => uptoBulk d + 1
  | .map entries => uptoBulkEntries entries + 1
  | .held _ => 1
def uptoBulkAll {H : Type} : List (DataW H) → Nat
  | [] => 0
  | d :: r => uptoBulk d + uptoBulkAll r
def uptoBulkEntries {H : Type} : List (Lit × DataW H) → Nat
  | [] => 0
  | x :: r => uptoBulkEntry x + uptoBulkEntries r
def uptoBulkEntry {H : Type} : Lit × DataW H → Nat
  | (.string bytes, d) => bytes.length + uptoBulk d + 1
  | (_, d) => uptoBulk d + 1
 end
def uptoSmall : (H : Type) → List (DataW H) → Bool := fun _ ds => decide (uptoBulkAll ds ≤ 1048576)
def OpenSpec.upto (s : _root_.Go.ChangeSpec) : _root_.Go.OpenSpec := { _root_.Go.OpenSpec.ofChange s with cond := some uptoSmall }

/-- 'laws.FnFold', WHERE WHAT IT READS IS OF BULK AT MOST 1048576: true; the input reads as it did. -/
def fnFoldUptoRow : OpenClaim := { program := "ytgafdkaiiajieaa", sum := "d4fb5814bdf1731e50916ff6afd38b187bfb812638cad58dbb97213e6c6fed23", func := "loop.example/g03020/laws.FnFold", spec := "fnFold", unfollowed := true, recurses := true, apart := false, narrowed := true }
def FnFoldUptoSaid : Prop := fnFoldUptoRow.holds Try.pinned (OpenSpec.upto fnFoldSpec)

/-- 'laws.FnOrbit', WHERE WHAT IT READS IS OF BULK AT MOST 1048576: true; the input reads as it did. -/
def fnOrbitUptoRow : OpenClaim := { program := "ytgafdkaiiajieaa", sum := "d4fb5814bdf1731e50916ff6afd38b187bfb812638cad58dbb97213e6c6fed23", func := "loop.example/g03020/laws.FnOrbit", spec := "fnOrbit", unfollowed := true, recurses := true, apart := false, narrowed := true }
def FnOrbitUptoSaid : Prop := fnOrbitUptoRow.holds Try.pinned (OpenSpec.upto fnOrbitSpec)

/-- 'laws.FnMixed', WHERE WHAT IT READS IS OF BULK AT MOST 1048576: true; the input reads as it did. -/
def fnMixedUptoRow : OpenClaim := { program := "ytgafdkaiiajieaa", sum := "d4fb5814bdf1731e50916ff6afd38b187bfb812638cad58dbb97213e6c6fed23", func := "loop.example/g03020/laws.FnMixed", spec := "fnMixed", unfollowed := true, recurses := true, apart := false, narrowed := true }
def FnMixedUptoSaid : Prop := fnMixedUptoRow.holds Try.pinned (OpenSpec.upto fnMixedSpec)

/-- 'laws.FnProducts', WHERE WHAT IT READS IS OF BULK AT MOST 1048576: true; the input reads as it did. -/
def fnProductsUptoRow : OpenClaim := { program := "ytgafdkaiiajieaa", sum := "d4fb5814bdf1731e50916ff6afd38b187bfb812638cad58dbb97213e6c6fed23", func := "loop.example/g03020/laws.FnProducts", spec := "fnProducts", apart := false, narrowed := true }
def FnProductsUptoSaid : Prop := fnProductsUptoRow.holds Try.pinned (OpenSpec.upto fnProductsSpec)

/-- 'laws.FnMovedShard', WHERE WHAT IT READS IS OF BULK AT MOST 1048576: true; the input reads as it did. -/
def fnMovedShardUptoRow : OpenClaim := { program := "ytgafdkaiiajieaa", sum := "d4fb5814bdf1731e50916ff6afd38b187bfb812638cad58dbb97213e6c6fed23", func := "loop.example/g03020/laws.FnMovedShard", spec := "fnMovedShard", apart := false, narrowed := true }
def FnMovedShardUptoSaid : Prop := fnMovedShardUptoRow.holds Try.pinned (OpenSpec.upto fnMovedShardSpec)

/-- 'laws.FnSides', WHERE WHAT IT READS IS OF BULK AT MOST 1048576: true; the input reads as it did. -/
def fnSidesUptoRow : OpenClaim := { program := "ytgafdkaiiajieaa", sum := "d4fb5814bdf1731e50916ff6afd38b187bfb812638cad58dbb97213e6c6fed23", func := "loop.example/g03020/laws.FnSides", spec := "fnSides", apart := false, narrowed := true }
def FnSidesUptoSaid : Prop := fnSidesUptoRow.holds Try.pinned (OpenSpec.upto fnSidesSpec)

/-- 'laws.FnCorners', WHERE WHAT IT READS IS OF BULK AT MOST 1048576: true; the input reads as it did. -/
def fnCornersUptoRow : OpenClaim := { program := "ytgafdkaiiajieaa", sum := "d4fb5814bdf1731e50916ff6afd38b187bfb812638cad58dbb97213e6c6fed23", func := "loop.example/g03020/laws.FnCorners", spec := "fnCorners", apart := false, narrowed := true }
def FnCornersUptoSaid : Prop := fnCornersUptoRow.holds Try.pinned (OpenSpec.upto fnCornersSpec)

/-- 'laws.FnLight', WHERE WHAT IT READS IS OF BULK AT MOST 1048576: true; the input reads as it did. -/
def fnLightUptoRow : OpenClaim := { program := "ytgafdkaiiajieaa", sum := "d4fb5814bdf1731e50916ff6afd38b187bfb812638cad58dbb97213e6c6fed23", func := "loop.example/g03020/laws.FnLight", spec := "fnLight", unfollowed := true, recurses := true, apart := false, narrowed := true }
def FnLightUptoSaid : Prop := fnLightUptoRow.holds Try.pinned (OpenSpec.upto fnLightSpec)

end Rows
end Go.Proofs.Ytgafdkaiiajieaa
