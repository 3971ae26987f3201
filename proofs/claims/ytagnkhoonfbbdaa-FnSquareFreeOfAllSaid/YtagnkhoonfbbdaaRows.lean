/-
  No cell of these rows narrows 'for every input' (looked for: loops, veiled, ifaces, maps, wideKeys, modest, calm, conditions, laid).
  DERIVED. THE GIVEN ROWS OF THIS SEAT. 12 by the template 'for every input the law returns true; each argument reads behind the call as it read before'; 0 by the template 'total and deterministic' (their statements: YtagnkhoonfbbdaaTotals.lean).
  GIVEN WITH THE SEED: the statements are not yours to turn. If you find one false, say at which input.
  Laid BY PROGRAM, IN A SANDBOX (cutbox-rows.mjs): the forced cells as the released guide's own fill.sh prints them over the translation 8bc9ba5fb08faa65… (all of the seat's roots in one cut). By AI agents, Wed Nov 11 2026. No macro, syntax, notation, axiom, sorry.
-/
import Derived.Test.YtagnkhoonfbbdaaChecked
import GoSem.Claim
import GoSem.ClaimJoined
import GoSem.ClaimMapViews
import Derived.JoinedTies
import Derived.KernelRfl
namespace Go.Proofs.Ytagnkhoonfbbdaa
/- THE CELL 'sum', in the pinned program and in every row, IS THE sha256 OF THE DUMP (.gsa) THAT YtagnkhoonfbbdaaProg.lean LOADS. Nothing in Lean hashes anything: it is a label: what it is worth is what the hold of that sum in a sandbox is worth. -/
noncomputable def Try.pinned : Pinned := { name := "ytagnkhoonfbbdaa", sum := "8bc9ba5fb08faa65e1288284df431e80367e12c8c158847eb6b1614d05767e43", checked := Try.checked }
namespace Rows
def none {H : Type} : Left H := { results := [], args := [] }

/-- 'laws.FnExactSumOfSigns': WHATEVER THE INPUT: true; the input reads as it did. -/
def fnExactSumOfSignsSpec : ChangeSpec := { name := "fnExactSumOfSigns", fn := fun _ => fun
  | [d] => { results := [.lit (.bool true)], args := [d] }
  | _ => none }
def fnExactSumOfSignsRow : OpenClaim := { program := "ytagnkhoonfbbdaa", sum := "8bc9ba5fb08faa65e1288284df431e80367e12c8c158847eb6b1614d05767e43", func := "loop.example/g01235/laws.FnExactSumOfSigns", spec := "fnExactSumOfSigns", apart := false }
def FnExactSumOfSignsSaid : Prop := fnExactSumOfSignsRow.holds Try.pinned (OpenSpec.ofChange fnExactSumOfSignsSpec)

/-- ITS FALSE NEIGHBOUR: 'it returns false'. Refute it at one input. -/
def fnExactSumOfSignsWrong : ChangeSpec := { name := "fnExactSumOfSigns", fn := fun _ => fun
  | [d] => { results := [.lit (.bool false)], args := [d] }
  | _ => none }
def FnExactSumOfSignsWrongFalsely : Prop := fnExactSumOfSignsRow.holds Try.pinned (OpenSpec.ofChange fnExactSumOfSignsWrong)

/-- 'laws.FnExactCountSquareFree': WHATEVER THE INPUT: true; the input reads as it did. -/
def fnExactCountSquareFreeSpec : ChangeSpec := { name := "fnExactCountSquareFree", fn := fun _ => fun
  | [d] => { results := [.lit (.bool true)], args := [d] }
  | _ => none }
def fnExactCountSquareFreeRow : OpenClaim := { program := "ytagnkhoonfbbdaa", sum := "8bc9ba5fb08faa65e1288284df431e80367e12c8c158847eb6b1614d05767e43", func := "loop.example/g01235/laws.FnExactCountSquareFree", spec := "fnExactCountSquareFree", apart := false }
def FnExactCountSquareFreeSaid : Prop := fnExactCountSquareFreeRow.holds Try.pinned (OpenSpec.ofChange fnExactCountSquareFreeSpec)

/-- ITS FALSE NEIGHBOUR: 'it returns false'. Refute it at one input. -/
def fnExactCountSquareFreeWrong : ChangeSpec := { name := "fnExactCountSquareFree", fn := fun _ => fun
  | [d] => { results := [.lit (.bool false)], args := [d] }
  | _ => none }
def FnExactCountSquareFreeWrongFalsely : Prop := fnExactCountSquareFreeRow.holds Try.pinned (OpenSpec.ofChange fnExactCountSquareFreeWrong)

/-- 'laws.FnExactIsSpread': WHATEVER THE INPUT: true; the input reads as it did. -/
def fnExactIsSpreadSpec : ChangeSpec := { name := "fnExactIsSpread", fn := fun _ => fun
  | [d] => { results := [.lit (.bool true)], args := [d] }
  | _ => none }
def fnExactIsSpreadRow : OpenClaim := { program := "ytagnkhoonfbbdaa", sum := "8bc9ba5fb08faa65e1288284df431e80367e12c8c158847eb6b1614d05767e43", func := "loop.example/g01235/laws.FnExactIsSpread", spec := "fnExactIsSpread", unfollowed := true, recurses := true, apart := false }
def FnExactIsSpreadSaid : Prop := fnExactIsSpreadRow.holds Try.pinned (OpenSpec.ofChange fnExactIsSpreadSpec)

/-- ITS FALSE NEIGHBOUR: 'it returns false'. Refute it at one input. -/
def fnExactIsSpreadWrong : ChangeSpec := { name := "fnExactIsSpread", fn := fun _ => fun
  | [d] => { results := [.lit (.bool false)], args := [d] }
  | _ => none }
def FnExactIsSpreadWrongFalsely : Prop := fnExactIsSpreadRow.holds Try.pinned (OpenSpec.ofChange fnExactIsSpreadWrong)

/-- 'laws.FnExactOverDivisors': WHATEVER THE INPUT: true; the input reads as it did. -/
def fnExactOverDivisorsSpec : ChangeSpec := { name := "fnExactOverDivisors", fn := fun _ => fun
  | [d1, d2] => { results := [.lit (.bool true)], args := [d1, d2] }
  | _ => none }
def fnExactOverDivisorsRow : OpenClaim := { program := "ytagnkhoonfbbdaa", sum := "8bc9ba5fb08faa65e1288284df431e80367e12c8c158847eb6b1614d05767e43", func := "loop.example/g01235/laws.FnExactOverDivisors", spec := "fnExactOverDivisors", unfollowed := true, recurses := true, apart := false }
def FnExactOverDivisorsSaid : Prop := fnExactOverDivisorsRow.holds Try.pinned (OpenSpec.ofChange fnExactOverDivisorsSpec)

/-- ITS FALSE NEIGHBOUR: 'it returns false'. Refute it at one input. -/
def fnExactOverDivisorsWrong : ChangeSpec := { name := "fnExactOverDivisors", fn := fun _ => fun
  | [d1, d2] => { results := [.lit (.bool false)], args := [d1, d2] }
  | _ => none }
def FnExactOverDivisorsWrongFalsely : Prop := fnExactOverDivisorsRow.holds Try.pinned (OpenSpec.ofChange fnExactOverDivisorsWrong)

/-- 'laws.FnExactCountInCircle': WHATEVER THE INPUT: true; the input reads as it did. -/
def fnExactCountInCircleSpec : ChangeSpec := { name := "fnExactCountInCircle", fn := fun _ => fun
  | [d] => { results := [.lit (.bool true)], args := [d] }
  | _ => none }
def fnExactCountInCircleRow : OpenClaim := { program := "ytagnkhoonfbbdaa", sum := "8bc9ba5fb08faa65e1288284df431e80367e12c8c158847eb6b1614d05767e43", func := "loop.example/g01235/laws.FnExactCountInCircle", spec := "fnExactCountInCircle", inPlace := ["math.sqrt"], apart := false }
def FnExactCountInCircleSaid : Prop := fnExactCountInCircleRow.holds Try.pinned (OpenSpec.ofChange fnExactCountInCircleSpec)

/-- ITS FALSE NEIGHBOUR: 'it returns false'. Refute it at one input. -/
def fnExactCountInCircleWrong : ChangeSpec := { name := "fnExactCountInCircle", fn := fun _ => fun
  | [d] => { results := [.lit (.bool false)], args := [d] }
  | _ => none }
def FnExactCountInCircleWrongFalsely : Prop := fnExactCountInCircleRow.holds Try.pinned (OpenSpec.ofChange fnExactCountInCircleWrong)

/-- 'laws.FnExactSumsOfTwoUpTo': WHATEVER THE INPUT: true; the input reads as it did. -/
def fnExactSumsOfTwoUpToSpec : ChangeSpec := { name := "fnExactSumsOfTwoUpTo", fn := fun _ => fun
  | [d] => { results := [.lit (.bool true)], args := [d] }
  | _ => none }
def fnExactSumsOfTwoUpToRow : OpenClaim := { program := "ytagnkhoonfbbdaa", sum := "8bc9ba5fb08faa65e1288284df431e80367e12c8c158847eb6b1614d05767e43", func := "loop.example/g01235/laws.FnExactSumsOfTwoUpTo", spec := "fnExactSumsOfTwoUpTo", unfollowed := true, recurses := true, apart := false }
def FnExactSumsOfTwoUpToSaid : Prop := fnExactSumsOfTwoUpToRow.holds Try.pinned (OpenSpec.ofChange fnExactSumsOfTwoUpToSpec)

/-- ITS FALSE NEIGHBOUR: 'it returns false'. Refute it at one input. -/
def fnExactSumsOfTwoUpToWrong : ChangeSpec := { name := "fnExactSumsOfTwoUpTo", fn := fun _ => fun
  | [d] => { results := [.lit (.bool false)], args := [d] }
  | _ => none }
def FnExactSumsOfTwoUpToWrongFalsely : Prop := fnExactSumsOfTwoUpToRow.holds Try.pinned (OpenSpec.ofChange fnExactSumsOfTwoUpToWrong)

/-- 'laws.FnExactSquareFreeUpTo': WHATEVER THE INPUT: true; the input reads as it did. -/
def fnExactSquareFreeUpToSpec : ChangeSpec := { name := "fnExactSquareFreeUpTo", fn := fun _ => fun
  | [d] => { results := [.lit (.bool true)], args := [d] }
  | _ => none }
def fnExactSquareFreeUpToRow : OpenClaim := { program := "ytagnkhoonfbbdaa", sum := "8bc9ba5fb08faa65e1288284df431e80367e12c8c158847eb6b1614d05767e43", func := "loop.example/g01235/laws.FnExactSquareFreeUpTo", spec := "fnExactSquareFreeUpTo", unfollowed := true, recurses := true, apart := false }
def FnExactSquareFreeUpToSaid : Prop := fnExactSquareFreeUpToRow.holds Try.pinned (OpenSpec.ofChange fnExactSquareFreeUpToSpec)

/-- ITS FALSE NEIGHBOUR: 'it returns false'. Refute it at one input. -/
def fnExactSquareFreeUpToWrong : ChangeSpec := { name := "fnExactSquareFreeUpTo", fn := fun _ => fun
  | [d] => { results := [.lit (.bool false)], args := [d] }
  | _ => none }
def FnExactSquareFreeUpToWrongFalsely : Prop := fnExactSquareFreeUpToRow.holds Try.pinned (OpenSpec.ofChange fnExactSquareFreeUpToWrong)

/-- 'laws.FnExactFourSquares': WHATEVER THE INPUT: true; the input reads as it did. -/
def fnExactFourSquaresSpec : ChangeSpec := { name := "fnExactFourSquares", fn := fun _ => fun
  | [d] => { results := [.lit (.bool true)], args := [d] }
  | _ => none }
def fnExactFourSquaresRow : OpenClaim := { program := "ytagnkhoonfbbdaa", sum := "8bc9ba5fb08faa65e1288284df431e80367e12c8c158847eb6b1614d05767e43", func := "loop.example/g01235/laws.FnExactFourSquares", spec := "fnExactFourSquares", inPlace := ["math.sqrt"], apart := false }
def FnExactFourSquaresSaid : Prop := fnExactFourSquaresRow.holds Try.pinned (OpenSpec.ofChange fnExactFourSquaresSpec)

/-- ITS FALSE NEIGHBOUR: 'it returns false'. Refute it at one input. -/
def fnExactFourSquaresWrong : ChangeSpec := { name := "fnExactFourSquares", fn := fun _ => fun
  | [d] => { results := [.lit (.bool false)], args := [d] }
  | _ => none }
def FnExactFourSquaresWrongFalsely : Prop := fnExactFourSquaresRow.holds Try.pinned (OpenSpec.ofChange fnExactFourSquaresWrong)

/-- 'laws.FnExactTwoSquares': WHATEVER THE INPUT: true; the input reads as it did. -/
def fnExactTwoSquaresSpec : ChangeSpec := { name := "fnExactTwoSquares", fn := fun _ => fun
  | [d] => { results := [.lit (.bool true)], args := [d] }
  | _ => none }
def fnExactTwoSquaresRow : OpenClaim := { program := "ytagnkhoonfbbdaa", sum := "8bc9ba5fb08faa65e1288284df431e80367e12c8c158847eb6b1614d05767e43", func := "loop.example/g01235/laws.FnExactTwoSquares", spec := "fnExactTwoSquares", inPlace := ["math.sqrt"], apart := false }
def FnExactTwoSquaresSaid : Prop := fnExactTwoSquaresRow.holds Try.pinned (OpenSpec.ofChange fnExactTwoSquaresSpec)

/-- ITS FALSE NEIGHBOUR: 'it returns false'. Refute it at one input. -/
def fnExactTwoSquaresWrong : ChangeSpec := { name := "fnExactTwoSquares", fn := fun _ => fun
  | [d] => { results := [.lit (.bool false)], args := [d] }
  | _ => none }
def FnExactTwoSquaresWrongFalsely : Prop := fnExactTwoSquaresRow.holds Try.pinned (OpenSpec.ofChange fnExactTwoSquaresWrong)

/-- 'laws.FnSquareFreeOfAll': WHATEVER THE INPUT: true; the input reads as it did. -/
def fnSquareFreeOfAllSpec : ChangeSpec := { name := "fnSquareFreeOfAll", fn := fun _ => fun
  | [d1, d2, d3] => { results := [.lit (.bool true)], args := [d1, d2, d3] }
  | _ => none }
def fnSquareFreeOfAllRow : OpenClaim := { program := "ytagnkhoonfbbdaa", sum := "8bc9ba5fb08faa65e1288284df431e80367e12c8c158847eb6b1614d05767e43", func := "loop.example/g01235/laws.FnSquareFreeOfAll", spec := "fnSquareFreeOfAll", unfollowed := true, recurses := true, apart := false }
def FnSquareFreeOfAllSaid : Prop := fnSquareFreeOfAllRow.holds Try.pinned (OpenSpec.ofChange fnSquareFreeOfAllSpec)

/-- ITS FALSE NEIGHBOUR: 'it returns false'. Refute it at one input. -/
def fnSquareFreeOfAllWrong : ChangeSpec := { name := "fnSquareFreeOfAll", fn := fun _ => fun
  | [d1, d2, d3] => { results := [.lit (.bool false)], args := [d1, d2, d3] }
  | _ => none }
def FnSquareFreeOfAllWrongFalsely : Prop := fnSquareFreeOfAllRow.holds Try.pinned (OpenSpec.ofChange fnSquareFreeOfAllWrong)

/-- 'laws.FnExactCountAsFour': WHATEVER THE INPUT: true; the input reads as it did. -/
def fnExactCountAsFourSpec : ChangeSpec := { name := "fnExactCountAsFour", fn := fun _ => fun
  | [d] => { results := [.lit (.bool true)], args := [d] }
  | _ => none }
def fnExactCountAsFourRow : OpenClaim := { program := "ytagnkhoonfbbdaa", sum := "8bc9ba5fb08faa65e1288284df431e80367e12c8c158847eb6b1614d05767e43", func := "loop.example/g01235/laws.FnExactCountAsFour", spec := "fnExactCountAsFour", recurses := true, apart := false }
def FnExactCountAsFourSaid : Prop := fnExactCountAsFourRow.holds Try.pinned (OpenSpec.ofChange fnExactCountAsFourSpec)

/-- ITS FALSE NEIGHBOUR: 'it returns false'. Refute it at one input. -/
def fnExactCountAsFourWrong : ChangeSpec := { name := "fnExactCountAsFour", fn := fun _ => fun
  | [d] => { results := [.lit (.bool false)], args := [d] }
  | _ => none }
def FnExactCountAsFourWrongFalsely : Prop := fnExactCountAsFourRow.holds Try.pinned (OpenSpec.ofChange fnExactCountAsFourWrong)

/-- 'laws.FnExactCountDivisors': WHATEVER THE INPUT: true; the input reads as it did. -/
def fnExactCountDivisorsSpec : ChangeSpec := { name := "fnExactCountDivisors", fn := fun _ => fun
  | [d] => { results := [.lit (.bool true)], args := [d] }
  | _ => none }
def fnExactCountDivisorsRow : OpenClaim := { program := "ytagnkhoonfbbdaa", sum := "8bc9ba5fb08faa65e1288284df431e80367e12c8c158847eb6b1614d05767e43", func := "loop.example/g01235/laws.FnExactCountDivisors", spec := "fnExactCountDivisors", recurses := true, apart := false }
def FnExactCountDivisorsSaid : Prop := fnExactCountDivisorsRow.holds Try.pinned (OpenSpec.ofChange fnExactCountDivisorsSpec)

/-- ITS FALSE NEIGHBOUR: 'it returns false'. Refute it at one input. -/
def fnExactCountDivisorsWrong : ChangeSpec := { name := "fnExactCountDivisors", fn := fun _ => fun
  | [d] => { results := [.lit (.bool false)], args := [d] }
  | _ => none }
def FnExactCountDivisorsWrongFalsely : Prop := fnExactCountDivisorsRow.holds Try.pinned (OpenSpec.ofChange fnExactCountDivisorsWrong)

/- THE SECOND FORM. 'bulk': how many values and letters a reading holds, each counted each time it is reached (what is shared counts as often as it is met; a slice's spare places count too). A statement '..UptoSaid' is the law's where the arguments, and the package variables that the reading takes, are together of bulk at most 1048576: NARROWER than '..Said'. Prove '..Said' where nothing that the law and all that it calls make is longer than what came in: it says more and counts as full. Else prove '..UptoSaid'. A law counts once. -/
mutual
def uptoBulk {H : Type} : DataW H → Nat
  | .lit (.string bytes) => bytes.length + 1
  | .lit _ => 1
  | .nil => 1
  | .ptr d => uptoBulk d + 1
  | .slice elems spare => uptoBulkAll elems + uptoBulkAll spare + 1
  | .agg parts => uptoBulkAll parts + 1
  | .iface _ d => uptoBulk d + 1
  | .map entries => uptoBulkEntries entries + 1
  | .held _ => 1
def uptoBulkAll {H : Type} : List (DataW H) → Nat
  | [] => 0
  | d :: r => uptoBulk d + uptoBulkAll r
def uptoBulkEntries {H : Type} : List (Lit × DataW H) → Nat
  | [] => 0
  | x :: r => uptoBulkEntry x + uptoBulkEntries r
def uptoBulkEntry {H : Type} : Lit × DataW H → Nat
  | (.string bytes, d) => bytes.length + uptoBulk d + 1
  | (_, d) => uptoBulk d + 1
 end
def uptoSmall : (H : Type) → List (DataW H) → Bool := fun _ ds => decide (uptoBulkAll ds ≤ 1048576)
def OpenSpec.upto (s : _root_.Go.ChangeSpec) : _root_.Go.OpenSpec := { _root_.Go.OpenSpec.ofChange s with cond := some uptoSmall }

/-- 'laws.FnExactSumOfSigns', WHERE WHAT IT READS IS OF BULK AT MOST 1048576: true; the input reads as it did. -/
def fnExactSumOfSignsUptoRow : OpenClaim := { program := "ytagnkhoonfbbdaa", sum := "8bc9ba5fb08faa65e1288284df431e80367e12c8c158847eb6b1614d05767e43", func := "loop.example/g01235/laws.FnExactSumOfSigns", spec := "fnExactSumOfSigns", apart := false, narrowed := true }
def FnExactSumOfSignsUptoSaid : Prop := fnExactSumOfSignsUptoRow.holds Try.pinned (OpenSpec.upto fnExactSumOfSignsSpec)

/-- 'laws.FnExactCountSquareFree', WHERE WHAT IT READS IS OF BULK AT MOST 1048576: true; the input reads as it did. -/
def fnExactCountSquareFreeUptoRow : OpenClaim := { program := "ytagnkhoonfbbdaa", sum := "8bc9ba5fb08faa65e1288284df431e80367e12c8c158847eb6b1614d05767e43", func := "loop.example/g01235/laws.FnExactCountSquareFree", spec := "fnExactCountSquareFree", apart := false, narrowed := true }
def FnExactCountSquareFreeUptoSaid : Prop := fnExactCountSquareFreeUptoRow.holds Try.pinned (OpenSpec.upto fnExactCountSquareFreeSpec)

/-- 'laws.FnExactIsSpread', WHERE WHAT IT READS IS OF BULK AT MOST 1048576: true; the input reads as it did. -/
def fnExactIsSpreadUptoRow : OpenClaim := { program := "ytagnkhoonfbbdaa", sum := "8bc9ba5fb08faa65e1288284df431e80367e12c8c158847eb6b1614d05767e43", func := "loop.example/g01235/laws.FnExactIsSpread", spec := "fnExactIsSpread", unfollowed := true, recurses := true, apart := false, narrowed := true }
def FnExactIsSpreadUptoSaid : Prop := fnExactIsSpreadUptoRow.holds Try.pinned (OpenSpec.upto fnExactIsSpreadSpec)

/-- 'laws.FnExactOverDivisors', WHERE WHAT IT READS IS OF BULK AT MOST 1048576: true; the input reads as it did. -/
def fnExactOverDivisorsUptoRow : OpenClaim := { program := "ytagnkhoonfbbdaa", sum := "8bc9ba5fb08faa65e1288284df431e80367e12c8c158847eb6b1614d05767e43", func := "loop.example/g01235/laws.FnExactOverDivisors", spec := "fnExactOverDivisors", unfollowed := true, recurses := true, apart := false, narrowed := true }
def FnExactOverDivisorsUptoSaid : Prop := fnExactOverDivisorsUptoRow.holds Try.pinned (OpenSpec.upto fnExactOverDivisorsSpec)

/-- 'laws.FnExactCountInCircle', WHERE WHAT IT READS IS OF BULK AT MOST 1048576: true; the input reads as it did. -/
def fnExactCountInCircleUptoRow : OpenClaim := { program := "ytagnkhoonfbbdaa", sum := "8bc9ba5fb08faa65e1288284df431e80367e12c8c158847eb6b1614d05767e43", func := "loop.example/g01235/laws.FnExactCountInCircle", spec := "fnExactCountInCircle", inPlace := ["math.sqrt"], apart := false, narrowed := true }
def FnExactCountInCircleUptoSaid : Prop := fnExactCountInCircleUptoRow.holds Try.pinned (OpenSpec.upto fnExactCountInCircleSpec)

/-- 'laws.FnExactSumsOfTwoUpTo', WHERE WHAT IT READS IS OF BULK AT MOST 1048576: true; the input reads as it did. -/
def fnExactSumsOfTwoUpToUptoRow : OpenClaim := { program := "ytagnkhoonfbbdaa", sum := "8bc9ba5fb08faa65e1288284df431e80367e12c8c158847eb6b1614d05767e43", func := "loop.example/g01235/laws.FnExactSumsOfTwoUpTo", spec := "fnExactSumsOfTwoUpTo", unfollowed := true, recurses := true, apart := false, narrowed := true }
def FnExactSumsOfTwoUpToUptoSaid : Prop := fnExactSumsOfTwoUpToUptoRow.holds Try.pinned (OpenSpec.upto fnExactSumsOfTwoUpToSpec)

/-- 'laws.FnExactSquareFreeUpTo', WHERE WHAT IT READS IS OF BULK AT MOST 1048576: true; the input reads as it did. -/
def fnExactSquareFreeUpToUptoRow : OpenClaim := { program := "ytagnkhoonfbbdaa", sum := "8bc9ba5fb08faa65e1288284df431e80367e12c8c158847eb6b1614d05767e43", func := "loop.example/g01235/laws.FnExactSquareFreeUpTo", spec := "fnExactSquareFreeUpTo", unfollowed := true, recurses := true, apart := false, narrowed := true }
def FnExactSquareFreeUpToUptoSaid : Prop := fnExactSquareFreeUpToUptoRow.holds Try.pinned (OpenSpec.upto fnExactSquareFreeUpToSpec)

/-- 'laws.FnExactFourSquares', WHERE WHAT IT READS IS OF BULK AT MOST 1048576: true; the input reads as it did. -/
def fnExactFourSquaresUptoRow : OpenClaim := { program := "ytagnkhoonfbbdaa", sum := "8bc9ba5fb08faa65e1288284df431e80367e12c8c158847eb6b1614d05767e43", func := "loop.example/g01235/laws.FnExactFourSquares", spec := "fnExactFourSquares", inPlace := ["math.sqrt"], apart := false, narrowed := true }
def FnExactFourSquaresUptoSaid : Prop := fnExactFourSquaresUptoRow.holds Try.pinned (OpenSpec.upto fnExactFourSquaresSpec)

/-- 'laws.FnExactTwoSquares', WHERE WHAT IT READS IS OF BULK AT MOST 1048576: true; the input reads as it did. -/
def fnExactTwoSquaresUptoRow : OpenClaim := { program := "ytagnkhoonfbbdaa", sum := "8bc9ba5fb08faa65e1288284df431e80367e12c8c158847eb6b1614d05767e43", func := "loop.example/g01235/laws.FnExactTwoSquares", spec := "fnExactTwoSquares", inPlace := ["math.sqrt"], apart := false, narrowed := true }
def FnExactTwoSquaresUptoSaid : Prop := fnExactTwoSquaresUptoRow.holds Try.pinned (OpenSpec.upto fnExactTwoSquaresSpec)

/-- 'laws.FnSquareFreeOfAll', WHERE WHAT IT READS IS OF BULK AT MOST 1048576: true; the input reads as it did. -/
def fnSquareFreeOfAllUptoRow : OpenClaim := { program := "ytagnkhoonfbbdaa", sum := "8bc9ba5fb08faa65e1288284df431e80367e12c8c158847eb6b1614d05767e43", func := "loop.example/g01235/laws.FnSquareFreeOfAll", spec := "fnSquareFreeOfAll", unfollowed := true, recurses := true, apart := false, narrowed := true }
def FnSquareFreeOfAllUptoSaid : Prop := fnSquareFreeOfAllUptoRow.holds Try.pinned (OpenSpec.upto fnSquareFreeOfAllSpec)

/-- 'laws.FnExactCountAsFour', WHERE WHAT IT READS IS OF BULK AT MOST 1048576: true; the input reads as it did. -/
def fnExactCountAsFourUptoRow : OpenClaim := { program := "ytagnkhoonfbbdaa", sum := "8bc9ba5fb08faa65e1288284df431e80367e12c8c158847eb6b1614d05767e43", func := "loop.example/g01235/laws.FnExactCountAsFour", spec := "fnExactCountAsFour", recurses := true, apart := false, narrowed := true }
def FnExactCountAsFourUptoSaid : Prop := fnExactCountAsFourUptoRow.holds Try.pinned (OpenSpec.upto fnExactCountAsFourSpec)

/-- 'laws.FnExactCountDivisors', WHERE WHAT IT READS IS OF BULK AT MOST 1048576: true; the input reads as it did. -/
def fnExactCountDivisorsUptoRow : OpenClaim := { program := "ytagnkhoonfbbdaa", sum := "8bc9ba5fb08faa65e1288284df431e80367e12c8c158847eb6b1614d05767e43", func := "loop.example/g01235/laws.FnExactCountDivisors", spec := "fnExactCountDivisors", recurses := true, apart := false, narrowed := true }
def FnExactCountDivisorsUptoSaid : Prop := fnExactCountDivisorsUptoRow.holds Try.pinned (OpenSpec.upto fnExactCountDivisorsSpec)

end Rows
end Go.Proofs.Ytagnkhoonfbbdaa
