/-
  No cell of these rows narrows 'for every input' (looked for: loops, veiled, ifaces, maps, wideKeys, modest, calm, conditions, laid).
  DERIVED. THE GIVEN ROWS OF THIS SEAT. 12 by the template 'for every input the law returns true; each argument reads behind the call as it read before'; 0 by the template 'total and deterministic' (their statements: YtnpgdijafmkmkaaTotals.lean).
  GIVEN WITH THE SEED: the statements are not yours to turn. If you find one false, say at which input.
  Laid BY PROGRAM, IN A SANDBOX (cutbox-rows.mjs): the forced cells as the released guide's own fill.sh prints them over the translation 04bf2b03170780dc… (all of the seat's roots in one cut). By AI agents, Wed Nov 11 2026. No macro, syntax, notation, axiom, sorry.
-/
import Derived.Test.YtnpgdijafmkmkaaChecked
import GoSem.Claim
import GoSem.ClaimJoined
import GoSem.ClaimMapViews
import Derived.JoinedTies
import Derived.KernelRfl
namespace Go.Proofs.Ytnpgdijafmkmkaa
/- THE CELL 'sum', in the pinned program and in every row, IS THE sha256 OF THE DUMP (.gsa) THAT YtnpgdijafmkmkaaProg.lean LOADS. Nothing in Lean hashes anything: it is a label: what it is worth is what the hold of that sum in a sandbox is worth. -/
noncomputable def Try.pinned : Pinned := { name := "ytnpgdijafmkmkaa", sum := "04bf2b03170780dc044f27799541130a3017841104666e3e05c794ec421c56b5", checked := Try.checked }
namespace Rows
def none {H : Type} : Left H := { results := [], args := [] }

/-- 'laws.FnExactConstants': WHATEVER THE INPUT: true; the input reads as it did. -/
def fnExactConstantsSpec : ChangeSpec := { name := "fnExactConstants", fn := fun _ => fun
  | [] => { results := [.lit (.bool true)], args := [] }
  | _ => none }
def fnExactConstantsRow : OpenClaim := { program := "ytnpgdijafmkmkaa", sum := "04bf2b03170780dc044f27799541130a3017841104666e3e05c794ec421c56b5", func := "loop.example/g03020/laws.FnExactConstants", spec := "fnExactConstants", apart := false }
def FnExactConstantsSaid : Prop := fnExactConstantsRow.holds Try.pinned (OpenSpec.ofChange fnExactConstantsSpec)

/-- ITS FALSE NEIGHBOUR: 'it returns false'. Refute it at one input. -/
def fnExactConstantsWrong : ChangeSpec := { name := "fnExactConstants", fn := fun _ => fun
  | [] => { results := [.lit (.bool false)], args := [] }
  | _ => none }
def FnExactConstantsWrongFalsely : Prop := fnExactConstantsRow.holds Try.pinned (OpenSpec.ofChange fnExactConstantsWrong)

/-- 'laws.FnExactIsSym': WHATEVER THE INPUT: true; the input reads as it did. -/
def fnExactIsSymSpec : ChangeSpec := { name := "fnExactIsSym", fn := fun _ => fun
  | [d] => { results := [.lit (.bool true)], args := [d] }
  | _ => none }
def fnExactIsSymRow : OpenClaim := { program := "ytnpgdijafmkmkaa", sum := "04bf2b03170780dc044f27799541130a3017841104666e3e05c794ec421c56b5", func := "loop.example/g03020/laws.FnExactIsSym", spec := "fnExactIsSym", apart := false }
def FnExactIsSymSaid : Prop := fnExactIsSymRow.holds Try.pinned (OpenSpec.ofChange fnExactIsSymSpec)

/-- ITS FALSE NEIGHBOUR: 'it returns false'. Refute it at one input. -/
def fnExactIsSymWrong : ChangeSpec := { name := "fnExactIsSym", fn := fun _ => fun
  | [d] => { results := [.lit (.bool false)], args := [d] }
  | _ => none }
def FnExactIsSymWrongFalsely : Prop := fnExactIsSymRow.holds Try.pinned (OpenSpec.ofChange fnExactIsSymWrong)

/-- 'laws.FnExactFormatSym': WHATEVER THE INPUT: true; the input reads as it did. -/
def fnExactFormatSymSpec : ChangeSpec := { name := "fnExactFormatSym", fn := fun _ => fun
  | [d] => { results := [.lit (.bool true)], args := [d] }
  | _ => none }
def fnExactFormatSymRow : OpenClaim := { program := "ytnpgdijafmkmkaa", sum := "04bf2b03170780dc044f27799541130a3017841104666e3e05c794ec421c56b5", func := "loop.example/g03020/laws.FnExactFormatSym", spec := "fnExactFormatSym", apart := false }
def FnExactFormatSymSaid : Prop := fnExactFormatSymRow.holds Try.pinned (OpenSpec.ofChange fnExactFormatSymSpec)

/-- ITS FALSE NEIGHBOUR: 'it returns false'. Refute it at one input. -/
def fnExactFormatSymWrong : ChangeSpec := { name := "fnExactFormatSym", fn := fun _ => fun
  | [d] => { results := [.lit (.bool false)], args := [d] }
  | _ => none }
def FnExactFormatSymWrongFalsely : Prop := fnExactFormatSymRow.holds Try.pinned (OpenSpec.ofChange fnExactFormatSymWrong)

/-- 'laws.FnExactBackSym': WHATEVER THE INPUT: true; the input reads as it did. -/
def fnExactBackSymSpec : ChangeSpec := { name := "fnExactBackSym", fn := fun _ => fun
  | [d] => { results := [.lit (.bool true)], args := [d] }
  | _ => none }
def fnExactBackSymRow : OpenClaim := { program := "ytnpgdijafmkmkaa", sum := "04bf2b03170780dc044f27799541130a3017841104666e3e05c794ec421c56b5", func := "loop.example/g03020/laws.FnExactBackSym", spec := "fnExactBackSym", apart := false }
def FnExactBackSymSaid : Prop := fnExactBackSymRow.holds Try.pinned (OpenSpec.ofChange fnExactBackSymSpec)

/-- ITS FALSE NEIGHBOUR: 'it returns false'. Refute it at one input. -/
def fnExactBackSymWrong : ChangeSpec := { name := "fnExactBackSym", fn := fun _ => fun
  | [d] => { results := [.lit (.bool false)], args := [d] }
  | _ => none }
def FnExactBackSymWrongFalsely : Prop := fnExactBackSymRow.holds Try.pinned (OpenSpec.ofChange fnExactBackSymWrong)

/-- 'laws.FnExactThenSym': WHATEVER THE INPUT: true; the input reads as it did. -/
def fnExactThenSymSpec : ChangeSpec := { name := "fnExactThenSym", fn := fun _ => fun
  | [d1, d2] => { results := [.lit (.bool true)], args := [d1, d2] }
  | _ => none }
def fnExactThenSymRow : OpenClaim := { program := "ytnpgdijafmkmkaa", sum := "04bf2b03170780dc044f27799541130a3017841104666e3e05c794ec421c56b5", func := "loop.example/g03020/laws.FnExactThenSym", spec := "fnExactThenSym", apart := false }
def FnExactThenSymSaid : Prop := fnExactThenSymRow.holds Try.pinned (OpenSpec.ofChange fnExactThenSymSpec)

/-- ITS FALSE NEIGHBOUR: 'it returns false'. Refute it at one input. -/
def fnExactThenSymWrong : ChangeSpec := { name := "fnExactThenSym", fn := fun _ => fun
  | [d1, d2] => { results := [.lit (.bool false)], args := [d1, d2] }
  | _ => none }
def FnExactThenSymWrongFalsely : Prop := fnExactThenSymRow.holds Try.pinned (OpenSpec.ofChange fnExactThenSymWrong)

/-- 'laws.FnExactParseSym': WHATEVER THE INPUT: true; the input reads as it did. -/
def fnExactParseSymSpec : ChangeSpec := { name := "fnExactParseSym", fn := fun _ => fun
  | [d] => { results := [.lit (.bool true)], args := [d] }
  | _ => none }
def fnExactParseSymRow : OpenClaim := { program := "ytnpgdijafmkmkaa", sum := "04bf2b03170780dc044f27799541130a3017841104666e3e05c794ec421c56b5", func := "loop.example/g03020/laws.FnExactParseSym", spec := "fnExactParseSym", apart := false }
def FnExactParseSymSaid : Prop := fnExactParseSymRow.holds Try.pinned (OpenSpec.ofChange fnExactParseSymSpec)

/-- ITS FALSE NEIGHBOUR: 'it returns false'. Refute it at one input. -/
def fnExactParseSymWrong : ChangeSpec := { name := "fnExactParseSym", fn := fun _ => fun
  | [d] => { results := [.lit (.bool false)], args := [d] }
  | _ => none }
def FnExactParseSymWrongFalsely : Prop := fnExactParseSymRow.holds Try.pinned (OpenSpec.ofChange fnExactParseSymWrong)

/-- 'laws.FnExactSymsOf': WHATEVER THE INPUT: true; the input reads as it did. -/
def fnExactSymsOfSpec : ChangeSpec := { name := "fnExactSymsOf", fn := fun _ => fun
  | [d] => { results := [.lit (.bool true)], args := [d] }
  | _ => none }
def fnExactSymsOfRow : OpenClaim := { program := "ytnpgdijafmkmkaa", sum := "04bf2b03170780dc044f27799541130a3017841104666e3e05c794ec421c56b5", func := "loop.example/g03020/laws.FnExactSymsOf", spec := "fnExactSymsOf", apart := false }
def FnExactSymsOfSaid : Prop := fnExactSymsOfRow.holds Try.pinned (OpenSpec.ofChange fnExactSymsOfSpec)

/-- ITS FALSE NEIGHBOUR: 'it returns false'. Refute it at one input. -/
def fnExactSymsOfWrong : ChangeSpec := { name := "fnExactSymsOf", fn := fun _ => fun
  | [d] => { results := [.lit (.bool false)], args := [d] }
  | _ => none }
def FnExactSymsOfWrongFalsely : Prop := fnExactSymsOfRow.holds Try.pinned (OpenSpec.ofChange fnExactSymsOfWrong)

/-- 'laws.FnExactSymOfWord': WHATEVER THE INPUT: true; the input reads as it did. -/
def fnExactSymOfWordSpec : ChangeSpec := { name := "fnExactSymOfWord", fn := fun _ => fun
  | [d1, d2] => { results := [.lit (.bool true)], args := [d1, d2] }
  | _ => none }
def fnExactSymOfWordRow : OpenClaim := { program := "ytnpgdijafmkmkaa", sum := "04bf2b03170780dc044f27799541130a3017841104666e3e05c794ec421c56b5", func := "loop.example/g03020/laws.FnExactSymOfWord", spec := "fnExactSymOfWord", apart := false }
def FnExactSymOfWordSaid : Prop := fnExactSymOfWordRow.holds Try.pinned (OpenSpec.ofChange fnExactSymOfWordSpec)

/-- ITS FALSE NEIGHBOUR: 'it returns false'. Refute it at one input. -/
def fnExactSymOfWordWrong : ChangeSpec := { name := "fnExactSymOfWord", fn := fun _ => fun
  | [d1, d2] => { results := [.lit (.bool false)], args := [d1, d2] }
  | _ => none }
def FnExactSymOfWordWrongFalsely : Prop := fnExactSymOfWordRow.holds Try.pinned (OpenSpec.ofChange fnExactSymOfWordWrong)

/-- 'laws.FnSymText': WHATEVER THE INPUT: true; the input reads as it did. -/
def fnSymTextSpec : ChangeSpec := { name := "fnSymText", fn := fun _ => fun
  | [d] => { results := [.lit (.bool true)], args := [d] }
  | _ => none }
def fnSymTextRow : OpenClaim := { program := "ytnpgdijafmkmkaa", sum := "04bf2b03170780dc044f27799541130a3017841104666e3e05c794ec421c56b5", func := "loop.example/g03020/laws.FnSymText", spec := "fnSymText", apart := false }
def FnSymTextSaid : Prop := fnSymTextRow.holds Try.pinned (OpenSpec.ofChange fnSymTextSpec)

/-- ITS FALSE NEIGHBOUR: 'it returns false'. Refute it at one input. -/
def fnSymTextWrong : ChangeSpec := { name := "fnSymText", fn := fun _ => fun
  | [d] => { results := [.lit (.bool false)], args := [d] }
  | _ => none }
def FnSymTextWrongFalsely : Prop := fnSymTextRow.holds Try.pinned (OpenSpec.ofChange fnSymTextWrong)

/-- 'laws.FnClosed': WHATEVER THE INPUT: true; the input reads as it did. -/
def fnClosedSpec : ChangeSpec := { name := "fnClosed", fn := fun _ => fun
  | [d] => { results := [.lit (.bool true)], args := [d] }
  | _ => none }
def fnClosedRow : OpenClaim := { program := "ytnpgdijafmkmkaa", sum := "04bf2b03170780dc044f27799541130a3017841104666e3e05c794ec421c56b5", func := "loop.example/g03020/laws.FnClosed", spec := "fnClosed", apart := false }
def FnClosedSaid : Prop := fnClosedRow.holds Try.pinned (OpenSpec.ofChange fnClosedSpec)

/-- ITS FALSE NEIGHBOUR: 'it returns false'. Refute it at one input. -/
def fnClosedWrong : ChangeSpec := { name := "fnClosed", fn := fun _ => fun
  | [d] => { results := [.lit (.bool false)], args := [d] }
  | _ => none }
def FnClosedWrongFalsely : Prop := fnClosedRow.holds Try.pinned (OpenSpec.ofChange fnClosedWrong)

/-- 'laws.FnWords': WHATEVER THE INPUT: true; the input reads as it did. -/
def fnWordsSpec : ChangeSpec := { name := "fnWords", fn := fun _ => fun
  | [d] => { results := [.lit (.bool true)], args := [d] }
  | _ => none }
def fnWordsRow : OpenClaim := { program := "ytnpgdijafmkmkaa", sum := "04bf2b03170780dc044f27799541130a3017841104666e3e05c794ec421c56b5", func := "loop.example/g03020/laws.FnWords", spec := "fnWords", apart := false }
def FnWordsSaid : Prop := fnWordsRow.holds Try.pinned (OpenSpec.ofChange fnWordsSpec)

/-- ITS FALSE NEIGHBOUR: 'it returns false'. Refute it at one input. -/
def fnWordsWrong : ChangeSpec := { name := "fnWords", fn := fun _ => fun
  | [d] => { results := [.lit (.bool false)], args := [d] }
  | _ => none }
def FnWordsWrongFalsely : Prop := fnWordsRow.holds Try.pinned (OpenSpec.ofChange fnWordsWrong)

/-- 'laws.FnExactWordOfSym': WHATEVER THE INPUT: true; the input reads as it did. -/
def fnExactWordOfSymSpec : ChangeSpec := { name := "fnExactWordOfSym", fn := fun _ => fun
  | [d1, d2] => { results := [.lit (.bool true)], args := [d1, d2] }
  | _ => none }
def fnExactWordOfSymRow : OpenClaim := { program := "ytnpgdijafmkmkaa", sum := "04bf2b03170780dc044f27799541130a3017841104666e3e05c794ec421c56b5", func := "loop.example/g03020/laws.FnExactWordOfSym", spec := "fnExactWordOfSym", apart := false }
def FnExactWordOfSymSaid : Prop := fnExactWordOfSymRow.holds Try.pinned (OpenSpec.ofChange fnExactWordOfSymSpec)

/-- ITS FALSE NEIGHBOUR: 'it returns false'. Refute it at one input. -/
def fnExactWordOfSymWrong : ChangeSpec := { name := "fnExactWordOfSym", fn := fun _ => fun
  | [d1, d2] => { results := [.lit (.bool false)], args := [d1, d2] }
  | _ => none }
def FnExactWordOfSymWrongFalsely : Prop := fnExactWordOfSymRow.holds Try.pinned (OpenSpec.ofChange fnExactWordOfSymWrong)

/- THE SECOND FORM. 'bulk': how many values and letters a reading holds, each counted each time it is reached (what is shared counts as often as it is met; a slice's spare places count too). A statement '..UptoSaid' is the law's where the arguments, and the package variables that the reading takes, are together of bulk at most 1048576: NARROWER than '..Said'. Prove '..Said' where nothing that the law and all that it calls make is longer than what came in: it says more and counts as full. Else prove '..UptoSaid'. A law counts once. -/
mutual
def uptoBulk {H : Type} : DataW H → Nat
  | .lit (.string bytes) => bytes.length + 1
  | .lit _ => 1
  | .nil => 1
  | .ptr d => uptoBulk d + 1
  | .slice elems spare => uptoBulkAll elems + uptoBulkAll spare + 1
  | .agg parts => uptoBulkAll parts + 1
  | .iface _ d => uptoBulk d + 1
  | .map entries => uptoBulkEntries entries + 1
  | .held _ => 1
def uptoBulkAll {H : Type} : List (DataW H) → Nat
  | [] => 0
  | d :: r => uptoBulk d + uptoBulkAll r
def uptoBulkEntries {H : Type} : List (Lit × DataW H) → Nat
  | [] => 0
  | x :: r => uptoBulkEntry x + uptoBulkEntries r
def uptoBulkEntry {H : Type} : Lit × DataW H → Nat
  | (.string bytes, d) => bytes.length + uptoBulk d + 1
  | (_, d) => uptoBulk d + 1
 end
def uptoSmall : (H : Type) → List (DataW H) → Bool := fun _ ds => decide (uptoBulkAll ds ≤ 1048576)
def OpenSpec.upto (s : _root_.Go.ChangeSpec) : _root_.Go.OpenSpec := { _root_.Go.OpenSpec.ofChange s with cond := some uptoSmall }

/-- 'laws.FnExactConstants', WHERE WHAT IT READS IS OF BULK AT MOST 1048576: true; the input reads as it did. -/
def fnExactConstantsUptoRow : OpenClaim := { program := "ytnpgdijafmkmkaa", sum := "04bf2b03170780dc044f27799541130a3017841104666e3e05c794ec421c56b5", func := "loop.example/g03020/laws.FnExactConstants", spec := "fnExactConstants", apart := false, narrowed := true }
def FnExactConstantsUptoSaid : Prop := fnExactConstantsUptoRow.holds Try.pinned (OpenSpec.upto fnExactConstantsSpec)

/-- 'laws.FnExactIsSym', WHERE WHAT IT READS IS OF BULK AT MOST 1048576: true; the input reads as it did. -/
def fnExactIsSymUptoRow : OpenClaim := { program := "ytnpgdijafmkmkaa", sum := "04bf2b03170780dc044f27799541130a3017841104666e3e05c794ec421c56b5", func := "loop.example/g03020/laws.FnExactIsSym", spec := "fnExactIsSym", apart := false, narrowed := true }
def FnExactIsSymUptoSaid : Prop := fnExactIsSymUptoRow.holds Try.pinned (OpenSpec.upto fnExactIsSymSpec)

/-- 'laws.FnExactFormatSym', WHERE WHAT IT READS IS OF BULK AT MOST 1048576: true; the input reads as it did. -/
def fnExactFormatSymUptoRow : OpenClaim := { program := "ytnpgdijafmkmkaa", sum := "04bf2b03170780dc044f27799541130a3017841104666e3e05c794ec421c56b5", func := "loop.example/g03020/laws.FnExactFormatSym", spec := "fnExactFormatSym", apart := false, narrowed := true }
def FnExactFormatSymUptoSaid : Prop := fnExactFormatSymUptoRow.holds Try.pinned (OpenSpec.upto fnExactFormatSymSpec)

/-- 'laws.FnExactBackSym', WHERE WHAT IT READS IS OF BULK AT MOST 1048576: true; the input reads as it did. -/
def fnExactBackSymUptoRow : OpenClaim := { program := "ytnpgdijafmkmkaa", sum := "04bf2b03170780dc044f27799541130a3017841104666e3e05c794ec421c56b5", func := "loop.example/g03020/laws.FnExactBackSym", spec := "fnExactBackSym", apart := false, narrowed := true }
def FnExactBackSymUptoSaid : Prop := fnExactBackSymUptoRow.holds Try.pinned (OpenSpec.upto fnExactBackSymSpec)

/-- 'laws.FnExactThenSym', WHERE WHAT IT READS IS OF BULK AT MOST 1048576: true; the input reads as it did. -/
def fnExactThenSymUptoRow : OpenClaim := { program := "ytnpgdijafmkmkaa", sum := "04bf2b03170780dc044f27799541130a3017841104666e3e05c794ec421c56b5", func := "loop.example/g03020/laws.FnExactThenSym", spec := "fnExactThenSym", apart := false, narrowed := true }
def FnExactThenSymUptoSaid : Prop := fnExactThenSymUptoRow.holds Try.pinned (OpenSpec.upto fnExactThenSymSpec)

/-- 'laws.FnExactParseSym', WHERE WHAT IT READS IS OF BULK AT MOST 1048576: true; the input reads as it did. -/
def fnExactParseSymUptoRow : OpenClaim := { program := "ytnpgdijafmkmkaa", sum := "04bf2b03170780dc044f27799541130a3017841104666e3e05c794ec421c56b5", func := "loop.example/g03020/laws.FnExactParseSym", spec := "fnExactParseSym", apart := false, narrowed := true }
def FnExactParseSymUptoSaid : Prop := fnExactParseSymUptoRow.holds Try.pinned (OpenSpec.upto fnExactParseSymSpec)

/-- 'laws.FnExactSymsOf', WHERE WHAT IT READS IS OF BULK AT MOST 1048576: true; the input reads as it did. -/
def fnExactSymsOfUptoRow : OpenClaim := { program := "ytnpgdijafmkmkaa", sum := "04bf2b03170780dc044f27799541130a3017841104666e3e05c794ec421c56b5", func := "loop.example/g03020/laws.FnExactSymsOf", spec := "fnExactSymsOf", apart := false, narrowed := true }
def FnExactSymsOfUptoSaid : Prop := fnExactSymsOfUptoRow.holds Try.pinned (OpenSpec.upto fnExactSymsOfSpec)

/-- 'laws.FnExactSymOfWord', WHERE WHAT IT READS IS OF BULK AT MOST 1048576: true; the input reads as it did. -/
def fnExactSymOfWordUptoRow : OpenClaim := { program := "ytnpgdijafmkmkaa", sum := "04bf2b03170780dc044f27799541130a3017841104666e3e05c794ec421c56b5", func := "loop.example/g03020/laws.FnExactSymOfWord", spec := "fnExactSymOfWord", apart := false, narrowed := true }
def FnExactSymOfWordUptoSaid : Prop := fnExactSymOfWordUptoRow.holds Try.pinned (OpenSpec.upto fnExactSymOfWordSpec)

/-- 'laws.FnSymText', WHERE WHAT IT READS IS OF BULK AT MOST 1048576: true; the input reads as it did. -/
def fnSymTextUptoRow : OpenClaim := { program := "ytnpgdijafmkmkaa", sum := "04bf2b03170780dc044f27799541130a3017841104666e3e05c794ec421c56b5", func := "loop.example/g03020/laws.FnSymText", spec := "fnSymText", apart := false, narrowed := true }
def FnSymTextUptoSaid : Prop := fnSymTextUptoRow.holds Try.pinned (OpenSpec.upto fnSymTextSpec)

/-- 'laws.FnClosed', WHERE WHAT IT READS IS OF BULK AT MOST 1048576: true; the input reads as it did. -/
def fnClosedUptoRow : OpenClaim := { program := "ytnpgdijafmkmkaa", sum := "04bf2b03170780dc044f27799541130a3017841104666e3e05c794ec421c56b5", func := "loop.example/g03020/laws.FnClosed", spec := "fnClosed", apart := false, narrowed := true }
def FnClosedUptoSaid : Prop := fnClosedUptoRow.holds Try.pinned (OpenSpec.upto fnClosedSpec)

/-- 'laws.FnWords', WHERE WHAT IT READS IS OF BULK AT MOST 1048576: true; the input reads as it did. -/
def fnWordsUptoRow : OpenClaim := { program := "ytnpgdijafmkmkaa", sum := "04bf2b03170780dc044f27799541130a3017841104666e3e05c794ec421c56b5", func := "loop.example/g03020/laws.FnWords", spec := "fnWords", apart := false, narrowed := true }
def FnWordsUptoSaid : Prop := fnWordsUptoRow.holds Try.pinned (OpenSpec.upto fnWordsSpec)

/-- 'laws.FnExactWordOfSym', WHERE WHAT IT READS IS OF BULK AT MOST 1048576: true; the input reads as it did. -/
def fnExactWordOfSymUptoRow : OpenClaim := { program := "ytnpgdijafmkmkaa", sum := "04bf2b03170780dc044f27799541130a3017841104666e3e05c794ec421c56b5", func := "loop.example/g03020/laws.FnExactWordOfSym", spec := "fnExactWordOfSym", apart := false, narrowed := true }
def FnExactWordOfSymUptoSaid : Prop := fnExactWordOfSymUptoRow.holds Try.pinned (OpenSpec.upto fnExactWordOfSymSpec)

end Rows
end Go.Proofs.Ytnpgdijafmkmkaa
