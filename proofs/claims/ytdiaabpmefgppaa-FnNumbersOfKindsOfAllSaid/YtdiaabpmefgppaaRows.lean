/-
  No cell of these rows narrows 'for every input' (looked for: loops, veiled, ifaces, maps, wideKeys, modest, calm, conditions, laid).
  DERIVED. THE GIVEN ROWS OF THIS SEAT. 12 by the template 'for every input the law returns true; each argument reads behind the call as it read before'; 0 by the template 'total and deterministic' (their statements: YtdiaabpmefgppaaTotals.lean).
  GIVEN WITH THE SEED: the statements are not yours to turn. If you find one false, say at which input.
  Laid BY PROGRAM, IN A SANDBOX (cutbox-rows.mjs): the forced cells as the released guide's own fill.sh prints them over the translation 58f81621d5266db6… (all of the seat's roots in one cut). By AI agents, Wed Nov 11 2026. No macro, syntax, notation, axiom, sorry.
-/
import Derived.Test.YtdiaabpmefgppaaChecked
import GoSem.Claim
import GoSem.ClaimJoined
import GoSem.ClaimMapViews
import Derived.JoinedTies
import Derived.KernelRfl
namespace Go.Proofs.Ytdiaabpmefgppaa
/- THE CELL 'sum', in the pinned program and in every row, IS THE sha256 OF THE DUMP (.gsa) THAT YtdiaabpmefgppaaProg.lean LOADS. Nothing in Lean hashes anything: it is a label: what it is worth is what the hold of that sum in a sandbox is worth. -/
noncomputable def Try.pinned : Pinned := { name := "ytdiaabpmefgppaa", sum := "58f81621d5266db6b3be6874f430782b99a3504bed02f12b63dc0bfbddd1846f", checked := Try.checked }
namespace Rows
def none {H : Type} : Left H := { results := [], args := [] }

/-- 'laws.FnExactCountAsTwo': WHATEVER THE INPUT: true; the input reads as it did. -/
def fnExactCountAsTwoSpec : ChangeSpec := { name := "fnExactCountAsTwo", fn := fun _ => fun
  | [d] => { results := [.lit (.bool true)], args := [d] }
  | _ => none }
def fnExactCountAsTwoRow : OpenClaim := { program := "ytdiaabpmefgppaa", sum := "58f81621d5266db6b3be6874f430782b99a3504bed02f12b63dc0bfbddd1846f", func := "loop.example/g01235/laws.FnExactCountAsTwo", spec := "fnExactCountAsTwo", recurses := true, apart := false }
def FnExactCountAsTwoSaid : Prop := fnExactCountAsTwoRow.holds Try.pinned (OpenSpec.ofChange fnExactCountAsTwoSpec)

/-- ITS FALSE NEIGHBOUR: 'it returns false'. Refute it at one input. -/
def fnExactCountAsTwoWrong : ChangeSpec := { name := "fnExactCountAsTwo", fn := fun _ => fun
  | [d] => { results := [.lit (.bool false)], args := [d] }
  | _ => none }
def FnExactCountAsTwoWrongFalsely : Prop := fnExactCountAsTwoRow.holds Try.pinned (OpenSpec.ofChange fnExactCountAsTwoWrong)

/-- 'laws.FnExactSumDivisors': WHATEVER THE INPUT: true; the input reads as it did. -/
def fnExactSumDivisorsSpec : ChangeSpec := { name := "fnExactSumDivisors", fn := fun _ => fun
  | [d] => { results := [.lit (.bool true)], args := [d] }
  | _ => none }
def fnExactSumDivisorsRow : OpenClaim := { program := "ytdiaabpmefgppaa", sum := "58f81621d5266db6b3be6874f430782b99a3504bed02f12b63dc0bfbddd1846f", func := "loop.example/g01235/laws.FnExactSumDivisors", spec := "fnExactSumDivisors", recurses := true, apart := false }
def FnExactSumDivisorsSaid : Prop := fnExactSumDivisorsRow.holds Try.pinned (OpenSpec.ofChange fnExactSumDivisorsSpec)

/-- ITS FALSE NEIGHBOUR: 'it returns false'. Refute it at one input. -/
def fnExactSumDivisorsWrong : ChangeSpec := { name := "fnExactSumDivisors", fn := fun _ => fun
  | [d] => { results := [.lit (.bool false)], args := [d] }
  | _ => none }
def FnExactSumDivisorsWrongFalsely : Prop := fnExactSumDivisorsRow.holds Try.pinned (OpenSpec.ofChange fnExactSumDivisorsWrong)

/-- 'laws.FnExactSumStep': WHATEVER THE INPUT: true; the input reads as it did. -/
def fnExactSumStepSpec : ChangeSpec := { name := "fnExactSumStep", fn := fun _ => fun
  | [d] => { results := [.lit (.bool true)], args := [d] }
  | _ => none }
def fnExactSumStepRow : OpenClaim := { program := "ytdiaabpmefgppaa", sum := "58f81621d5266db6b3be6874f430782b99a3504bed02f12b63dc0bfbddd1846f", func := "loop.example/g01235/laws.FnExactSumStep", spec := "fnExactSumStep", recurses := true, apart := false }
def FnExactSumStepSaid : Prop := fnExactSumStepRow.holds Try.pinned (OpenSpec.ofChange fnExactSumStepSpec)

/-- ITS FALSE NEIGHBOUR: 'it returns false'. Refute it at one input. -/
def fnExactSumStepWrong : ChangeSpec := { name := "fnExactSumStep", fn := fun _ => fun
  | [d] => { results := [.lit (.bool false)], args := [d] }
  | _ => none }
def FnExactSumStepWrongFalsely : Prop := fnExactSumStepRow.holds Try.pinned (OpenSpec.ofChange fnExactSumStepWrong)

/-- 'laws.FnExactAmicableOf': WHATEVER THE INPUT: true; the input reads as it did. -/
def fnExactAmicableOfSpec : ChangeSpec := { name := "fnExactAmicableOf", fn := fun _ => fun
  | [d] => { results := [.lit (.bool true)], args := [d] }
  | _ => none }
def fnExactAmicableOfRow : OpenClaim := { program := "ytdiaabpmefgppaa", sum := "58f81621d5266db6b3be6874f430782b99a3504bed02f12b63dc0bfbddd1846f", func := "loop.example/g01235/laws.FnExactAmicableOf", spec := "fnExactAmicableOf", recurses := true, apart := false }
def FnExactAmicableOfSaid : Prop := fnExactAmicableOfRow.holds Try.pinned (OpenSpec.ofChange fnExactAmicableOfSpec)

/-- ITS FALSE NEIGHBOUR: 'it returns false'. Refute it at one input. -/
def fnExactAmicableOfWrong : ChangeSpec := { name := "fnExactAmicableOf", fn := fun _ => fun
  | [d] => { results := [.lit (.bool false)], args := [d] }
  | _ => none }
def FnExactAmicableOfWrongFalsely : Prop := fnExactAmicableOfRow.holds Try.pinned (OpenSpec.ofChange fnExactAmicableOfWrong)

/-- 'laws.FnExactDivisorsOf': WHATEVER THE INPUT: true; the input reads as it did. -/
def fnExactDivisorsOfSpec : ChangeSpec := { name := "fnExactDivisorsOf", fn := fun _ => fun
  | [d] => { results := [.lit (.bool true)], args := [d] }
  | _ => none }
def fnExactDivisorsOfRow : OpenClaim := { program := "ytdiaabpmefgppaa", sum := "58f81621d5266db6b3be6874f430782b99a3504bed02f12b63dc0bfbddd1846f", func := "loop.example/g01235/laws.FnExactDivisorsOf", spec := "fnExactDivisorsOf", recurses := true, apart := false }
def FnExactDivisorsOfSaid : Prop := fnExactDivisorsOfRow.holds Try.pinned (OpenSpec.ofChange fnExactDivisorsOfSpec)

/-- ITS FALSE NEIGHBOUR: 'it returns false'. Refute it at one input. -/
def fnExactDivisorsOfWrong : ChangeSpec := { name := "fnExactDivisorsOf", fn := fun _ => fun
  | [d] => { results := [.lit (.bool false)], args := [d] }
  | _ => none }
def FnExactDivisorsOfWrongFalsely : Prop := fnExactDivisorsOfRow.holds Try.pinned (OpenSpec.ofChange fnExactDivisorsOfWrong)

/-- 'laws.FnExactRecordsUpTo': WHATEVER THE INPUT: true; the input reads as it did. -/
def fnExactRecordsUpToSpec : ChangeSpec := { name := "fnExactRecordsUpTo", fn := fun _ => fun
  | [d] => { results := [.lit (.bool true)], args := [d] }
  | _ => none }
def fnExactRecordsUpToRow : OpenClaim := { program := "ytdiaabpmefgppaa", sum := "58f81621d5266db6b3be6874f430782b99a3504bed02f12b63dc0bfbddd1846f", func := "loop.example/g01235/laws.FnExactRecordsUpTo", spec := "fnExactRecordsUpTo", recurses := true, apart := false }
def FnExactRecordsUpToSaid : Prop := fnExactRecordsUpToRow.holds Try.pinned (OpenSpec.ofChange fnExactRecordsUpToSpec)

/-- ITS FALSE NEIGHBOUR: 'it returns false'. Refute it at one input. -/
def fnExactRecordsUpToWrong : ChangeSpec := { name := "fnExactRecordsUpTo", fn := fun _ => fun
  | [d] => { results := [.lit (.bool false)], args := [d] }
  | _ => none }
def FnExactRecordsUpToWrongFalsely : Prop := fnExactRecordsUpToRow.holds Try.pinned (OpenSpec.ofChange fnExactRecordsUpToWrong)

/-- 'laws.FnExactSumWay': WHATEVER THE INPUT: true; the input reads as it did. -/
def fnExactSumWaySpec : ChangeSpec := { name := "fnExactSumWay", fn := fun _ => fun
  | [d1, d2] => { results := [.lit (.bool true)], args := [d1, d2] }
  | _ => none }
def fnExactSumWayRow : OpenClaim := { program := "ytdiaabpmefgppaa", sum := "58f81621d5266db6b3be6874f430782b99a3504bed02f12b63dc0bfbddd1846f", func := "loop.example/g01235/laws.FnExactSumWay", spec := "fnExactSumWay", recurses := true, apart := false }
def FnExactSumWaySaid : Prop := fnExactSumWayRow.holds Try.pinned (OpenSpec.ofChange fnExactSumWaySpec)

/-- ITS FALSE NEIGHBOUR: 'it returns false'. Refute it at one input. -/
def fnExactSumWayWrong : ChangeSpec := { name := "fnExactSumWay", fn := fun _ => fun
  | [d1, d2] => { results := [.lit (.bool false)], args := [d1, d2] }
  | _ => none }
def FnExactSumWayWrongFalsely : Prop := fnExactSumWayRow.holds Try.pinned (OpenSpec.ofChange fnExactSumWayWrong)

/-- 'laws.FnExactPerfectUpTo': WHATEVER THE INPUT: true; the input reads as it did. -/
def fnExactPerfectUpToSpec : ChangeSpec := { name := "fnExactPerfectUpTo", fn := fun _ => fun
  | [d] => { results := [.lit (.bool true)], args := [d] }
  | _ => none }
def fnExactPerfectUpToRow : OpenClaim := { program := "ytdiaabpmefgppaa", sum := "58f81621d5266db6b3be6874f430782b99a3504bed02f12b63dc0bfbddd1846f", func := "loop.example/g01235/laws.FnExactPerfectUpTo", spec := "fnExactPerfectUpTo", unfollowed := true, recurses := true, apart := false }
def FnExactPerfectUpToSaid : Prop := fnExactPerfectUpToRow.holds Try.pinned (OpenSpec.ofChange fnExactPerfectUpToSpec)

/-- ITS FALSE NEIGHBOUR: 'it returns false'. Refute it at one input. -/
def fnExactPerfectUpToWrong : ChangeSpec := { name := "fnExactPerfectUpTo", fn := fun _ => fun
  | [d] => { results := [.lit (.bool false)], args := [d] }
  | _ => none }
def FnExactPerfectUpToWrongFalsely : Prop := fnExactPerfectUpToRow.holds Try.pinned (OpenSpec.ofChange fnExactPerfectUpToWrong)

/-- 'laws.FnExactUndoTable': WHATEVER THE INPUT: true; the input reads as it did. -/
def fnExactUndoTableSpec : ChangeSpec := { name := "fnExactUndoTable", fn := fun _ => fun
  | [d] => { results := [.lit (.bool true)], args := [d] }
  | _ => none }
def fnExactUndoTableRow : OpenClaim := { program := "ytdiaabpmefgppaa", sum := "58f81621d5266db6b3be6874f430782b99a3504bed02f12b63dc0bfbddd1846f", func := "loop.example/g01235/laws.FnExactUndoTable", spec := "fnExactUndoTable", unfollowed := true, recurses := true, apart := false }
def FnExactUndoTableSaid : Prop := fnExactUndoTableRow.holds Try.pinned (OpenSpec.ofChange fnExactUndoTableSpec)

/-- ITS FALSE NEIGHBOUR: 'it returns false'. Refute it at one input. -/
def fnExactUndoTableWrong : ChangeSpec := { name := "fnExactUndoTable", fn := fun _ => fun
  | [d] => { results := [.lit (.bool false)], args := [d] }
  | _ => none }
def FnExactUndoTableWrongFalsely : Prop := fnExactUndoTableRow.holds Try.pinned (OpenSpec.ofChange fnExactUndoTableWrong)

/-- 'laws.FnExactTableOf': WHATEVER THE INPUT: true; the input reads as it did. -/
def fnExactTableOfSpec : ChangeSpec := { name := "fnExactTableOf", fn := fun _ => fun
  | [d1, d2] => { results := [.lit (.bool true)], args := [d1, d2] }
  | _ => none }
def fnExactTableOfRow : OpenClaim := { program := "ytdiaabpmefgppaa", sum := "58f81621d5266db6b3be6874f430782b99a3504bed02f12b63dc0bfbddd1846f", func := "loop.example/g01235/laws.FnExactTableOf", spec := "fnExactTableOf", recurses := true, apart := false }
def FnExactTableOfSaid : Prop := fnExactTableOfRow.holds Try.pinned (OpenSpec.ofChange fnExactTableOfSpec)

/-- ITS FALSE NEIGHBOUR: 'it returns false'. Refute it at one input. -/
def fnExactTableOfWrong : ChangeSpec := { name := "fnExactTableOf", fn := fun _ => fun
  | [d1, d2] => { results := [.lit (.bool false)], args := [d1, d2] }
  | _ => none }
def FnExactTableOfWrongFalsely : Prop := fnExactTableOfRow.holds Try.pinned (OpenSpec.ofChange fnExactTableOfWrong)

/-- 'laws.FnExactSumOverDivisors': WHATEVER THE INPUT: true; the input reads as it did. -/
def fnExactSumOverDivisorsSpec : ChangeSpec := { name := "fnExactSumOverDivisors", fn := fun _ => fun
  | [d] => { results := [.lit (.bool true)], args := [d] }
  | _ => none }
def fnExactSumOverDivisorsRow : OpenClaim := { program := "ytdiaabpmefgppaa", sum := "58f81621d5266db6b3be6874f430782b99a3504bed02f12b63dc0bfbddd1846f", func := "loop.example/g01235/laws.FnExactSumOverDivisors", spec := "fnExactSumOverDivisors", unfollowed := true, recurses := true, apart := false }
def FnExactSumOverDivisorsSaid : Prop := fnExactSumOverDivisorsRow.holds Try.pinned (OpenSpec.ofChange fnExactSumOverDivisorsSpec)

/-- ITS FALSE NEIGHBOUR: 'it returns false'. Refute it at one input. -/
def fnExactSumOverDivisorsWrong : ChangeSpec := { name := "fnExactSumOverDivisors", fn := fun _ => fun
  | [d] => { results := [.lit (.bool false)], args := [d] }
  | _ => none }
def FnExactSumOverDivisorsWrongFalsely : Prop := fnExactSumOverDivisorsRow.holds Try.pinned (OpenSpec.ofChange fnExactSumOverDivisorsWrong)

/-- 'laws.FnNumbersOfKindsOfAll': WHATEVER THE INPUT: true; the input reads as it did. -/
def fnNumbersOfKindsOfAllSpec : ChangeSpec := { name := "fnNumbersOfKindsOfAll", fn := fun _ => fun
  | [d1, d2] => { results := [.lit (.bool true)], args := [d1, d2] }
  | _ => none }
def fnNumbersOfKindsOfAllRow : OpenClaim := { program := "ytdiaabpmefgppaa", sum := "58f81621d5266db6b3be6874f430782b99a3504bed02f12b63dc0bfbddd1846f", func := "loop.example/g01235/laws.FnNumbersOfKindsOfAll", spec := "fnNumbersOfKindsOfAll", unfollowed := true, recurses := true, apart := false }
def FnNumbersOfKindsOfAllSaid : Prop := fnNumbersOfKindsOfAllRow.holds Try.pinned (OpenSpec.ofChange fnNumbersOfKindsOfAllSpec)

/-- ITS FALSE NEIGHBOUR: 'it returns false'. Refute it at one input. -/
def fnNumbersOfKindsOfAllWrong : ChangeSpec := { name := "fnNumbersOfKindsOfAll", fn := fun _ => fun
  | [d1, d2] => { results := [.lit (.bool false)], args := [d1, d2] }
  | _ => none }
def FnNumbersOfKindsOfAllWrongFalsely : Prop := fnNumbersOfKindsOfAllRow.holds Try.pinned (OpenSpec.ofChange fnNumbersOfKindsOfAllWrong)

/- THE SECOND FORM. 'bulk': how many values and letters a reading holds, each counted each time it is reached (what is shared counts as often as it is met; a slice's spare places count too). A statement '..UptoSaid' is the law's where the arguments, and the package variables that the reading takes, are together of bulk at most 1048576: NARROWER than '..Said'. Prove '..Said' where nothing that the law and all that it calls make is longer than what came in: it says more and counts as full. Else prove '..UptoSaid'. A law counts once. -/
mutual
def uptoBulk {H : Type} : DataW H → Nat
  | .lit (.string bytes) => bytes.length + 1
  | .lit _ => 1
  | .nil => 1
  | .ptr d => uptoBulk d + 1
  | .slice elems spare => uptoBulkAll elems + uptoBulkAll spare + 1
  | .agg parts => uptoBulkAll parts + 1
  | .iface _ d => uptoBulk d + 1
  | .map entries => uptoBulkEntries entries + 1
  | .held _ => 1
def uptoBulkAll {H : Type} : List (DataW H) → Nat
  | [] => 0
  | d :: r => uptoBulk d + uptoBulkAll r
def uptoBulkEntries {H : Type} : List (Lit × DataW H) → Nat
  | [] => 0
  | x :: r => uptoBulkEntry x + uptoBulkEntries r
def uptoBulkEntry {H : Type} : Lit × DataW H → Nat
  | (.string bytes, d) => bytes.length + uptoBulk d + 1
  | (_, d) => uptoBulk d + 1
 end
def uptoSmall : (H : Type) → List (DataW H) → Bool := fun _ ds => decide (uptoBulkAll ds ≤ 1048576)
def OpenSpec.upto (s : _root_.Go.ChangeSpec) : _root_.Go.OpenSpec := { _root_.Go.OpenSpec.ofChange s with cond := some uptoSmall }

/-- 'laws.FnExactCountAsTwo', WHERE WHAT IT READS IS OF BULK AT MOST 1048576: true; the input reads as it did. -/
def fnExactCountAsTwoUptoRow : OpenClaim := { program := "ytdiaabpmefgppaa", sum := "58f81621d5266db6b3be6874f430782b99a3504bed02f12b63dc0bfbddd1846f", func := "loop.example/g01235/laws.FnExactCountAsTwo", spec := "fnExactCountAsTwo", recurses := true, apart := false, narrowed := true }
def FnExactCountAsTwoUptoSaid : Prop := fnExactCountAsTwoUptoRow.holds Try.pinned (OpenSpec.upto fnExactCountAsTwoSpec)

/-- 'laws.FnExactSumDivisors', WHERE WHAT IT READS IS OF BULK AT MOST 1048576: true; the input reads as it did. -/
def fnExactSumDivisorsUptoRow : OpenClaim := { program := "ytdiaabpmefgppaa", sum := "58f81621d5266db6b3be6874f430782b99a3504bed02f12b63dc0bfbddd1846f", func := "loop.example/g01235/laws.FnExactSumDivisors", spec := "fnExactSumDivisors", recurses := true, apart := false, narrowed := true }
def FnExactSumDivisorsUptoSaid : Prop := fnExactSumDivisorsUptoRow.holds Try.pinned (OpenSpec.upto fnExactSumDivisorsSpec)

/-- 'laws.FnExactSumStep', WHERE WHAT IT READS IS OF BULK AT MOST 1048576: true; the input reads as it did. -/
def fnExactSumStepUptoRow : OpenClaim := { program := "ytdiaabpmefgppaa", sum := "58f81621d5266db6b3be6874f430782b99a3504bed02f12b63dc0bfbddd1846f", func := "loop.example/g01235/laws.FnExactSumStep", spec := "fnExactSumStep", recurses := true, apart := false, narrowed := true }
def FnExactSumStepUptoSaid : Prop := fnExactSumStepUptoRow.holds Try.pinned (OpenSpec.upto fnExactSumStepSpec)

/-- 'laws.FnExactAmicableOf', WHERE WHAT IT READS IS OF BULK AT MOST 1048576: true; the input reads as it did. -/
def fnExactAmicableOfUptoRow : OpenClaim := { program := "ytdiaabpmefgppaa", sum := "58f81621d5266db6b3be6874f430782b99a3504bed02f12b63dc0bfbddd1846f", func := "loop.example/g01235/laws.FnExactAmicableOf", spec := "fnExactAmicableOf", recurses := true, apart := false, narrowed := true }
def FnExactAmicableOfUptoSaid : Prop := fnExactAmicableOfUptoRow.holds Try.pinned (OpenSpec.upto fnExactAmicableOfSpec)

/-- 'laws.FnExactDivisorsOf', WHERE WHAT IT READS IS OF BULK AT MOST 1048576: true; the input reads as it did. -/
def fnExactDivisorsOfUptoRow : OpenClaim := { program := "ytdiaabpmefgppaa", sum := "58f81621d5266db6b3be6874f430782b99a3504bed02f12b63dc0bfbddd1846f", func := "loop.example/g01235/laws.FnExactDivisorsOf", spec := "fnExactDivisorsOf", recurses := true, apart := false, narrowed := true }
def FnExactDivisorsOfUptoSaid : Prop := fnExactDivisorsOfUptoRow.holds Try.pinned (OpenSpec.upto fnExactDivisorsOfSpec)

/-- 'laws.FnExactRecordsUpTo', WHERE WHAT IT READS IS OF BULK AT MOST 1048576: true; the input reads as it did. -/
def fnExactRecordsUpToUptoRow : OpenClaim := { program := "ytdiaabpmefgppaa", sum := "58f81621d5266db6b3be6874f430782b99a3504bed02f12b63dc0bfbddd1846f", func := "loop.example/g01235/laws.FnExactRecordsUpTo", spec := "fnExactRecordsUpTo", recurses := true, apart := false, narrowed := true }
def FnExactRecordsUpToUptoSaid : Prop := fnExactRecordsUpToUptoRow.holds Try.pinned (OpenSpec.upto fnExactRecordsUpToSpec)

/-- 'laws.FnExactSumWay', WHERE WHAT IT READS IS OF BULK AT MOST 1048576: true; the input reads as it did. -/
def fnExactSumWayUptoRow : OpenClaim := { program := "ytdiaabpmefgppaa", sum := "58f81621d5266db6b3be6874f430782b99a3504bed02f12b63dc0bfbddd1846f", func := "loop.example/g01235/laws.FnExactSumWay", spec := "fnExactSumWay", recurses := true, apart := false, narrowed := true }
def FnExactSumWayUptoSaid : Prop := fnExactSumWayUptoRow.holds Try.pinned (OpenSpec.upto fnExactSumWaySpec)

/-- 'laws.FnExactPerfectUpTo', WHERE WHAT IT READS IS OF BULK AT MOST 1048576: true; the input reads as it did. -/
def fnExactPerfectUpToUptoRow : OpenClaim := { program := "ytdiaabpmefgppaa", sum := "58f81621d5266db6b3be6874f430782b99a3504bed02f12b63dc0bfbddd1846f", func := "loop.example/g01235/laws.FnExactPerfectUpTo", spec := "fnExactPerfectUpTo", unfollowed := true, recurses := true, apart := false, narrowed := true }
def FnExactPerfectUpToUptoSaid : Prop := fnExactPerfectUpToUptoRow.holds Try.pinned (OpenSpec.upto fnExactPerfectUpToSpec)

/-- 'laws.FnExactUndoTable', WHERE WHAT IT READS IS OF BULK AT MOST 1048576: true; the input reads as it did. -/
def fnExactUndoTableUptoRow : OpenClaim := { program := "ytdiaabpmefgppaa", sum := "58f81621d5266db6b3be6874f430782b99a3504bed02f12b63dc0bfbddd1846f", func := "loop.example/g01235/laws.FnExactUndoTable", spec := "fnExactUndoTable", unfollowed := true, recurses := true, apart := false, narrowed := true }
def FnExactUndoTableUptoSaid : Prop := fnExactUndoTableUptoRow.holds Try.pinned (OpenSpec.upto fnExactUndoTableSpec)

/-- 'laws.FnExactTableOf', WHERE WHAT IT READS IS OF BULK AT MOST 1048576: true; the input reads as it did. -/
def fnExactTableOfUptoRow : OpenClaim := { program := "ytdiaabpmefgppaa", sum := "58f81621d5266db6b3be6874f430782b99a3504bed02f12b63dc0bfbddd1846f", func := "loop.example/g01235/laws.FnExactTableOf", spec := "fnExactTableOf", recurses := true, apart := false, narrowed := true }
def FnExactTableOfUptoSaid : Prop := fnExactTableOfUptoRow.holds Try.pinned (OpenSpec.upto fnExactTableOfSpec)

/-- 'laws.FnExactSumOverDivisors', WHERE WHAT IT READS IS OF BULK AT MOST 1048576: true; the input reads as it did. -/
def fnExactSumOverDivisorsUptoRow : OpenClaim := { program := "ytdiaabpmefgppaa", sum := "58f81621d5266db6b3be6874f430782b99a3504bed02f12b63dc0bfbddd1846f", func := "loop.example/g01235/laws.FnExactSumOverDivisors", spec := "fnExactSumOverDivisors", unfollowed := true, recurses := true, apart := false, narrowed := true }
def FnExactSumOverDivisorsUptoSaid : Prop := fnExactSumOverDivisorsUptoRow.holds Try.pinned (OpenSpec.upto fnExactSumOverDivisorsSpec)

/-- 'laws.FnNumbersOfKindsOfAll', WHERE WHAT IT READS IS OF BULK AT MOST 1048576: true; the input reads as it did. -/
def fnNumbersOfKindsOfAllUptoRow : OpenClaim := { program := "ytdiaabpmefgppaa", sum := "58f81621d5266db6b3be6874f430782b99a3504bed02f12b63dc0bfbddd1846f", func := "loop.example/g01235/laws.FnNumbersOfKindsOfAll", spec := "fnNumbersOfKindsOfAll", unfollowed := true, recurses := true, apart := false, narrowed := true }
def FnNumbersOfKindsOfAllUptoSaid : Prop := fnNumbersOfKindsOfAllUptoRow.holds Try.pinned (OpenSpec.upto fnNumbersOfKindsOfAllSpec)

end Rows
end Go.Proofs.Ytdiaabpmefgppaa
