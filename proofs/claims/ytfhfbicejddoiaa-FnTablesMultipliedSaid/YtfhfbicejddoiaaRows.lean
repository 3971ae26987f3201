/-
  No cell of these rows narrows 'for every input' (looked for: loops, veiled, ifaces, maps, wideKeys, modest, calm, conditions, laid).
  DERIVED. THE GIVEN ROWS OF THIS SEAT. 8 by the template 'for every input the law returns true; each argument reads behind the call as it read before'; 0 by the template 'total and deterministic' (their statements: YtfhfbicejddoiaaTotals.lean).
  GIVEN WITH THE SEED: the statements are not yours to turn. If you find one false, say at which input.
  Laid BY PROGRAM, IN A SANDBOX (cutbox-rows.mjs): the forced cells as the released guide's own fill.sh prints them over the translation 048a157d02109dc2… (all of the seat's roots in one cut). By AI agents, Wed Nov 11 2026. No macro, syntax, notation, axiom, sorry.
-/
import Derived.Test.YtfhfbicejddoiaaChecked
import GoSem.Claim
import GoSem.ClaimJoined
import GoSem.ClaimMapViews
import Derived.JoinedTies
import Derived.KernelRfl
namespace Go.Proofs.Ytfhfbicejddoiaa
/- THE CELL 'sum', in the pinned program and in every row, IS THE sha256 OF THE DUMP (.gsa) THAT YtfhfbicejddoiaaProg.lean LOADS. Nothing in Lean hashes anything: it is a label: what it is worth is what the hold of that sum in a sandbox is worth. -/
noncomputable def Try.pinned : Pinned := { name := "ytfhfbicejddoiaa", sum := "048a157d02109dc2c5b0ff545e16942bc10c265bec3200cbe9a22fbfa9abb7cd", checked := Try.checked }
namespace Rows
def none {H : Type} : Left H := { results := [], args := [] }

/-- 'laws.FnPatternsOpen': WHATEVER THE INPUT: true; the input reads as it did. -/
def fnPatternsOpenSpec : ChangeSpec := { name := "fnPatternsOpen", fn := fun _ => fun
  | [d1, d2] => { results := [.lit (.bool true)], args := [d1, d2] }
  | _ => none }
def fnPatternsOpenRow : OpenClaim := { program := "ytfhfbicejddoiaa", sum := "048a157d02109dc2c5b0ff545e16942bc10c265bec3200cbe9a22fbfa9abb7cd", func := "loop.example/g01235/laws.FnPatternsOpen", spec := "fnPatternsOpen", inPlace := ["slices.overlaps[int]"], unfollowed := true, recurses := true, apart := false }
def FnPatternsOpenSaid : Prop := fnPatternsOpenRow.holds Try.pinned (OpenSpec.ofChange fnPatternsOpenSpec)

/-- ITS FALSE NEIGHBOUR: 'it returns false'. Refute it at one input. -/
def fnPatternsOpenWrong : ChangeSpec := { name := "fnPatternsOpen", fn := fun _ => fun
  | [d1, d2] => { results := [.lit (.bool false)], args := [d1, d2] }
  | _ => none }
def FnPatternsOpenWrongFalsely : Prop := fnPatternsOpenRow.holds Try.pinned (OpenSpec.ofChange fnPatternsOpenWrong)

/-- 'laws.FnSquareFree': WHATEVER THE INPUT: true; the input reads as it did. -/
def fnSquareFreeSpec : ChangeSpec := { name := "fnSquareFree", fn := fun _ => fun
  | [d1, d2] => { results := [.lit (.bool true)], args := [d1, d2] }
  | _ => none }
def fnSquareFreeRow : OpenClaim := { program := "ytfhfbicejddoiaa", sum := "048a157d02109dc2c5b0ff545e16942bc10c265bec3200cbe9a22fbfa9abb7cd", func := "loop.example/g01235/laws.FnSquareFree", spec := "fnSquareFree", unfollowed := true, recurses := true, apart := false }
def FnSquareFreeSaid : Prop := fnSquareFreeRow.holds Try.pinned (OpenSpec.ofChange fnSquareFreeSpec)

/-- ITS FALSE NEIGHBOUR: 'it returns false'. Refute it at one input. -/
def fnSquareFreeWrong : ChangeSpec := { name := "fnSquareFree", fn := fun _ => fun
  | [d1, d2] => { results := [.lit (.bool false)], args := [d1, d2] }
  | _ => none }
def FnSquareFreeWrongFalsely : Prop := fnSquareFreeRow.holds Try.pinned (OpenSpec.ofChange fnSquareFreeWrong)

/-- 'laws.FnDivisorsToldOfAll': WHATEVER THE INPUT: true; the input reads as it did. -/
def fnDivisorsToldOfAllSpec : ChangeSpec := { name := "fnDivisorsToldOfAll", fn := fun _ => fun
  | [d1, d2, d3, d4] => { results := [.lit (.bool true)], args := [d1, d2, d3, d4] }
  | _ => none }
def fnDivisorsToldOfAllRow : OpenClaim := { program := "ytfhfbicejddoiaa", sum := "048a157d02109dc2c5b0ff545e16942bc10c265bec3200cbe9a22fbfa9abb7cd", func := "loop.example/g01235/laws.FnDivisorsToldOfAll", spec := "fnDivisorsToldOfAll", recurses := true, apart := false }
def FnDivisorsToldOfAllSaid : Prop := fnDivisorsToldOfAllRow.holds Try.pinned (OpenSpec.ofChange fnDivisorsToldOfAllSpec)

/-- ITS FALSE NEIGHBOUR: 'it returns false'. Refute it at one input. -/
def fnDivisorsToldOfAllWrong : ChangeSpec := { name := "fnDivisorsToldOfAll", fn := fun _ => fun
  | [d1, d2, d3, d4] => { results := [.lit (.bool false)], args := [d1, d2, d3, d4] }
  | _ => none }
def FnDivisorsToldOfAllWrongFalsely : Prop := fnDivisorsToldOfAllRow.holds Try.pinned (OpenSpec.ofChange fnDivisorsToldOfAllWrong)

/-- 'laws.FnNumbersOfKinds': WHATEVER THE INPUT: true; the input reads as it did. -/
def fnNumbersOfKindsSpec : ChangeSpec := { name := "fnNumbersOfKinds", fn := fun _ => fun
  | [d1, d2] => { results := [.lit (.bool true)], args := [d1, d2] }
  | _ => none }
def fnNumbersOfKindsRow : OpenClaim := { program := "ytfhfbicejddoiaa", sum := "048a157d02109dc2c5b0ff545e16942bc10c265bec3200cbe9a22fbfa9abb7cd", func := "loop.example/g01235/laws.FnNumbersOfKinds", spec := "fnNumbersOfKinds", unfollowed := true, recurses := true, apart := false }
def FnNumbersOfKindsSaid : Prop := fnNumbersOfKindsRow.holds Try.pinned (OpenSpec.ofChange fnNumbersOfKindsSpec)

/-- ITS FALSE NEIGHBOUR: 'it returns false'. Refute it at one input. -/
def fnNumbersOfKindsWrong : ChangeSpec := { name := "fnNumbersOfKinds", fn := fun _ => fun
  | [d1, d2] => { results := [.lit (.bool false)], args := [d1, d2] }
  | _ => none }
def FnNumbersOfKindsWrongFalsely : Prop := fnNumbersOfKindsRow.holds Try.pinned (OpenSpec.ofChange fnNumbersOfKindsWrong)

/-- 'laws.FnDivisorsTold': WHATEVER THE INPUT: true; the input reads as it did. -/
def fnDivisorsToldSpec : ChangeSpec := { name := "fnDivisorsTold", fn := fun _ => fun
  | [d1, d2] => { results := [.lit (.bool true)], args := [d1, d2] }
  | _ => none }
def fnDivisorsToldRow : OpenClaim := { program := "ytfhfbicejddoiaa", sum := "048a157d02109dc2c5b0ff545e16942bc10c265bec3200cbe9a22fbfa9abb7cd", func := "loop.example/g01235/laws.FnDivisorsTold", spec := "fnDivisorsTold", recurses := true, apart := false }
def FnDivisorsToldSaid : Prop := fnDivisorsToldRow.holds Try.pinned (OpenSpec.ofChange fnDivisorsToldSpec)

/-- ITS FALSE NEIGHBOUR: 'it returns false'. Refute it at one input. -/
def fnDivisorsToldWrong : ChangeSpec := { name := "fnDivisorsTold", fn := fun _ => fun
  | [d1, d2] => { results := [.lit (.bool false)], args := [d1, d2] }
  | _ => none }
def FnDivisorsToldWrongFalsely : Prop := fnDivisorsToldRow.holds Try.pinned (OpenSpec.ofChange fnDivisorsToldWrong)

/-- 'laws.FnTablesMultipliedOfAll': WHATEVER THE INPUT: true; the input reads as it did. -/
def fnTablesMultipliedOfAllSpec : ChangeSpec := { name := "fnTablesMultipliedOfAll", fn := fun _ => fun
  | [d1, d2, d3, d4, d5, d6] => { results := [.lit (.bool true)], args := [d1, d2, d3, d4, d5, d6] }
  | _ => none }
def fnTablesMultipliedOfAllRow : OpenClaim := { program := "ytfhfbicejddoiaa", sum := "048a157d02109dc2c5b0ff545e16942bc10c265bec3200cbe9a22fbfa9abb7cd", func := "loop.example/g01235/laws.FnTablesMultipliedOfAll", spec := "fnTablesMultipliedOfAll", unfollowed := true, recurses := true, apart := false }
def FnTablesMultipliedOfAllSaid : Prop := fnTablesMultipliedOfAllRow.holds Try.pinned (OpenSpec.ofChange fnTablesMultipliedOfAllSpec)

/-- ITS FALSE NEIGHBOUR: 'it returns false'. Refute it at one input. -/
def fnTablesMultipliedOfAllWrong : ChangeSpec := { name := "fnTablesMultipliedOfAll", fn := fun _ => fun
  | [d1, d2, d3, d4, d5, d6] => { results := [.lit (.bool false)], args := [d1, d2, d3, d4, d5, d6] }
  | _ => none }
def FnTablesMultipliedOfAllWrongFalsely : Prop := fnTablesMultipliedOfAllRow.holds Try.pinned (OpenSpec.ofChange fnTablesMultipliedOfAllWrong)

/-- 'laws.FnSumsOfSquaresOfAll': WHATEVER THE INPUT: true; the input reads as it did. -/
def fnSumsOfSquaresOfAllSpec : ChangeSpec := { name := "fnSumsOfSquaresOfAll", fn := fun _ => fun
  | [d1, d2] => { results := [.lit (.bool true)], args := [d1, d2] }
  | _ => none }
def fnSumsOfSquaresOfAllRow : OpenClaim := { program := "ytfhfbicejddoiaa", sum := "048a157d02109dc2c5b0ff545e16942bc10c265bec3200cbe9a22fbfa9abb7cd", func := "loop.example/g01235/laws.FnSumsOfSquaresOfAll", spec := "fnSumsOfSquaresOfAll", inPlace := ["math.sqrt"], unfollowed := true, recurses := true, apart := false }
def FnSumsOfSquaresOfAllSaid : Prop := fnSumsOfSquaresOfAllRow.holds Try.pinned (OpenSpec.ofChange fnSumsOfSquaresOfAllSpec)

/-- ITS FALSE NEIGHBOUR: 'it returns false'. Refute it at one input. -/
def fnSumsOfSquaresOfAllWrong : ChangeSpec := { name := "fnSumsOfSquaresOfAll", fn := fun _ => fun
  | [d1, d2] => { results := [.lit (.bool false)], args := [d1, d2] }
  | _ => none }
def FnSumsOfSquaresOfAllWrongFalsely : Prop := fnSumsOfSquaresOfAllRow.holds Try.pinned (OpenSpec.ofChange fnSumsOfSquaresOfAllWrong)

/-- 'laws.FnTablesMultiplied': WHATEVER THE INPUT: true; the input reads as it did. -/
def fnTablesMultipliedSpec : ChangeSpec := { name := "fnTablesMultiplied", fn := fun _ => fun
  | [d1, d2] => { results := [.lit (.bool true)], args := [d1, d2] }
  | _ => none }
def fnTablesMultipliedRow : OpenClaim := { program := "ytfhfbicejddoiaa", sum := "048a157d02109dc2c5b0ff545e16942bc10c265bec3200cbe9a22fbfa9abb7cd", func := "loop.example/g01235/laws.FnTablesMultiplied", spec := "fnTablesMultiplied", unfollowed := true, recurses := true, apart := false }
def FnTablesMultipliedSaid : Prop := fnTablesMultipliedRow.holds Try.pinned (OpenSpec.ofChange fnTablesMultipliedSpec)

/-- ITS FALSE NEIGHBOUR: 'it returns false'. Refute it at one input. -/
def fnTablesMultipliedWrong : ChangeSpec := { name := "fnTablesMultiplied", fn := fun _ => fun
  | [d1, d2] => { results := [.lit (.bool false)], args := [d1, d2] }
  | _ => none }
def FnTablesMultipliedWrongFalsely : Prop := fnTablesMultipliedRow.holds Try.pinned (OpenSpec.ofChange fnTablesMultipliedWrong)

/- THE SECOND FORM. 'bulk': how many values and letters a reading holds, each counted each time it is reached (what is shared counts as often as it is met; a slice's spare places count too). A statement '..UptoSaid' is the law's where the arguments, and the package variables that the reading takes, are together of bulk at most 1048576: NARROWER than '..Said'. Prove '..Said' where nothing that the law and all that it calls make is longer than what came in: it says more and counts as full. Else prove '..UptoSaid'. A law counts once. -/
mutual
def uptoBulk {H : Type} : DataW H → Nat
  | .lit (.string bytes) => bytes.length + 1
  | .lit _ => 1
  | .nil => 1
  | .ptr d => uptoBulk d + 1
  | .slice elems spare => uptoBulkAll elems + uptoBulkAll spare + 1
  | .agg parts => uptoBulkAll parts + 1
  | .iface _ d => uptoBulk d + 1
  | .map entries => uptoBulkEntries entries + 1
  | .held _ => 1
def uptoBulkAll {H : Type} : List (DataW H) → Nat
  | [] => 0
  | d :: r => uptoBulk d + uptoBulkAll r
def uptoBulkEntries {H : Type} : List (Lit × DataW H) → Nat
  | [] => 0
  | x :: r => uptoBulkEntry x + uptoBulkEntries r
def uptoBulkEntry {H : Type} : Lit × DataW H → Nat
  | (.string bytes, d) => bytes.length + uptoBulk d + 1
  | (_, d) => uptoBulk d + 1
 end
def uptoSmall : (H : Type) → List (DataW H) → Bool := fun _ ds => decide (uptoBulkAll ds ≤ 1048576)
def OpenSpec.upto (s : _root_.Go.ChangeSpec) : _root_.Go.OpenSpec := { _root_.Go.OpenSpec.ofChange s with cond := some uptoSmall }

/-- 'laws.FnPatternsOpen', WHERE WHAT IT READS IS OF BULK AT MOST 1048576: true; the input reads as it did. -/
def fnPatternsOpenUptoRow : OpenClaim := { program := "ytfhfbicejddoiaa", sum := "048a157d02109dc2c5b0ff545e16942bc10c265bec3200cbe9a22fbfa9abb7cd", func := "loop.example/g01235/laws.FnPatternsOpen", spec := "fnPatternsOpen", inPlace := ["slices.overlaps[int]"], unfollowed := true, recurses := true, apart := false, narrowed := true }
def FnPatternsOpenUptoSaid : Prop := fnPatternsOpenUptoRow.holds Try.pinned (OpenSpec.upto fnPatternsOpenSpec)

/-- 'laws.FnSquareFree', WHERE WHAT IT READS IS OF BULK AT MOST 1048576: true; the input reads as it did. -/
def fnSquareFreeUptoRow : OpenClaim := { program := "ytfhfbicejddoiaa", sum := "048a157d02109dc2c5b0ff545e16942bc10c265bec3200cbe9a22fbfa9abb7cd", func := "loop.example/g01235/laws.FnSquareFree", spec := "fnSquareFree", unfollowed := true, recurses := true, apart := false, narrowed := true }
def FnSquareFreeUptoSaid : Prop := fnSquareFreeUptoRow.holds Try.pinned (OpenSpec.upto fnSquareFreeSpec)

/-- 'laws.FnDivisorsToldOfAll', WHERE WHAT IT READS IS OF BULK AT MOST 1048576: true; the input reads as it did. -/
def fnDivisorsToldOfAllUptoRow : OpenClaim := { program := "ytfhfbicejddoiaa", sum := "048a157d02109dc2c5b0ff545e16942bc10c265bec3200cbe9a22fbfa9abb7cd", func := "loop.example/g01235/laws.FnDivisorsToldOfAll", spec := "fnDivisorsToldOfAll", recurses := true, apart := false, narrowed := true }
def FnDivisorsToldOfAllUptoSaid : Prop := fnDivisorsToldOfAllUptoRow.holds Try.pinned (OpenSpec.upto fnDivisorsToldOfAllSpec)

/-- 'laws.FnNumbersOfKinds', WHERE WHAT IT READS IS OF BULK AT MOST 1048576: true; the input reads as it did. -/
def fnNumbersOfKindsUptoRow : OpenClaim := { program := "ytfhfbicejddoiaa", sum := "048a157d02109dc2c5b0ff545e16942bc10c265bec3200cbe9a22fbfa9abb7cd", func := "loop.example/g01235/laws.FnNumbersOfKinds", spec := "fnNumbersOfKinds", unfollowed := true, recurses := true, apart := false, narrowed := true }
def FnNumbersOfKindsUptoSaid : Prop := fnNumbersOfKindsUptoRow.holds Try.pinned (OpenSpec.upto fnNumbersOfKindsSpec)

/-- 'laws.FnDivisorsTold', WHERE WHAT IT READS IS OF BULK AT MOST 1048576: true; the input reads as it did. -/
def fnDivisorsToldUptoRow : OpenClaim := { program := "ytfhfbicejddoiaa", sum := "048a157d02109dc2c5b0ff545e16942bc10c265bec3200cbe9a22fbfa9abb7cd", func := "loop.example/g01235/laws.FnDivisorsTold", spec := "fnDivisorsTold", recurses := true, apart := false, narrowed := true }
def FnDivisorsToldUptoSaid : Prop := fnDivisorsToldUptoRow.holds Try.pinned (OpenSpec.upto fnDivisorsToldSpec)

/-- 'laws.FnTablesMultipliedOfAll', WHERE WHAT IT READS IS OF BULK AT MOST 1048576: true; the input reads as it did. -/
def fnTablesMultipliedOfAllUptoRow : OpenClaim := { program := "ytfhfbicejddoiaa", sum := "048a157d02109dc2c5b0ff545e16942bc10c265bec3200cbe9a22fbfa9abb7cd", func := "loop.example/g01235/laws.FnTablesMultipliedOfAll", spec := "fnTablesMultipliedOfAll", unfollowed := true, recurses := true, apart := false, narrowed := true }
def FnTablesMultipliedOfAllUptoSaid : Prop := fnTablesMultipliedOfAllUptoRow.holds Try.pinned (OpenSpec.upto fnTablesMultipliedOfAllSpec)

/-- 'laws.FnSumsOfSquaresOfAll', WHERE WHAT IT READS IS OF BULK AT MOST 1048576: true; the input reads as it did. -/
def fnSumsOfSquaresOfAllUptoRow : OpenClaim := { program := "ytfhfbicejddoiaa", sum := "048a157d02109dc2c5b0ff545e16942bc10c265bec3200cbe9a22fbfa9abb7cd", func := "loop.example/g01235/laws.FnSumsOfSquaresOfAll", spec := "fnSumsOfSquaresOfAll", inPlace := ["math.sqrt"], unfollowed := true, recurses := true, apart := false, narrowed := true }
def FnSumsOfSquaresOfAllUptoSaid : Prop := fnSumsOfSquaresOfAllUptoRow.holds Try.pinned (OpenSpec.upto fnSumsOfSquaresOfAllSpec)

/-- 'laws.FnTablesMultiplied', WHERE WHAT IT READS IS OF BULK AT MOST 1048576: true; the input reads as it did. -/
def fnTablesMultipliedUptoRow : OpenClaim := { program := "ytfhfbicejddoiaa", sum := "048a157d02109dc2c5b0ff545e16942bc10c265bec3200cbe9a22fbfa9abb7cd", func := "loop.example/g01235/laws.FnTablesMultiplied", spec := "fnTablesMultiplied", unfollowed := true, recurses := true, apart := false, narrowed := true }
def FnTablesMultipliedUptoSaid : Prop := fnTablesMultipliedUptoRow.holds Try.pinned (OpenSpec.upto fnTablesMultipliedSpec)

end Rows
end Go.Proofs.Ytfhfbicejddoiaa
