/-
  No cell of these rows narrows 'for every input' (looked for: loops, veiled, ifaces, maps, wideKeys, modest, calm, conditions, laid).
  DERIVED. THE GIVEN ROWS OF THIS SEAT. 2 by the template 'for every input the law returns true; each argument reads behind the call as it read before'; 0 by the template 'total and deterministic' (their statements: YtncnhgiilolomaaTotals.lean).
  GIVEN WITH THE SEED: the statements are not yours to turn. If you find one false, say at which input.
  Laid BY PROGRAM, IN A SANDBOX (cutbox-rows.mjs): the forced cells as the released guide's own fill.sh prints them over the translation b9152ee3ec0a607c… (all of the seat's roots in one cut). By AI agents, Wed Nov 11 2026. No macro, syntax, notation, axiom, sorry.
-/
import Derived.Test.YtncnhgiilolomaaChecked
import GoSem.Claim
import GoSem.ClaimJoined
import GoSem.ClaimMapViews
import Derived.JoinedTies
import Derived.KernelRfl
namespace Go.Proofs.Ytncnhgiilolomaa
/- THE CELL 'sum', in the pinned program and in every row, IS THE sha256 OF THE DUMP (.gsa) THAT YtncnhgiilolomaaProg.lean LOADS. Nothing in Lean hashes anything: it is a label: what it is worth is what the hold of that sum in a sandbox is worth. -/
noncomputable def Try.pinned : Pinned := { name := "ytncnhgiilolomaa", sum := "b9152ee3ec0a607c51b0f9584059f3b1de77f9a04fa731c29e975214025824d4", checked := Try.checked }
namespace Rows
def none {H : Type} : Left H := { results := [], args := [] }

/-- 'laws.FnExactRulesOfPattern': WHATEVER THE INPUT: true; the input reads as it did. -/
def fnExactRulesOfPatternSpec : ChangeSpec := { name := "fnExactRulesOfPattern", fn := fun _ => fun
  | [d1, d2] => { results := [.lit (.bool true)], args := [d1, d2] }
  | _ => none }
def fnExactRulesOfPatternRow : OpenClaim := { program := "ytncnhgiilolomaa", sum := "b9152ee3ec0a607c51b0f9584059f3b1de77f9a04fa731c29e975214025824d4", func := "loop.example/g01235/laws.FnExactRulesOfPattern", spec := "fnExactRulesOfPattern", unfollowed := true, recurses := true, apart := false }
def FnExactRulesOfPatternSaid : Prop := fnExactRulesOfPatternRow.holds Try.pinned (OpenSpec.ofChange fnExactRulesOfPatternSpec)

/-- ITS FALSE NEIGHBOUR: 'it returns false'. Refute it at one input. -/
def fnExactRulesOfPatternWrong : ChangeSpec := { name := "fnExactRulesOfPattern", fn := fun _ => fun
  | [d1, d2] => { results := [.lit (.bool false)], args := [d1, d2] }
  | _ => none }
def FnExactRulesOfPatternWrongFalsely : Prop := fnExactRulesOfPatternRow.holds Try.pinned (OpenSpec.ofChange fnExactRulesOfPatternWrong)

/-- 'laws.FnExactAddOffsets': WHATEVER THE INPUT: true; the input reads as it did. -/
def fnExactAddOffsetsSpec : ChangeSpec := { name := "fnExactAddOffsets", fn := fun _ => fun
  | [d1, d2] => { results := [.lit (.bool true)], args := [d1, d2] }
  | _ => none }
def fnExactAddOffsetsRow : OpenClaim := { program := "ytncnhgiilolomaa", sum := "b9152ee3ec0a607c51b0f9584059f3b1de77f9a04fa731c29e975214025824d4", func := "loop.example/g01235/laws.FnExactAddOffsets", spec := "fnExactAddOffsets", inPlace := ["slices.overlaps[int]"], recurses := true, apart := false }
def FnExactAddOffsetsSaid : Prop := fnExactAddOffsetsRow.holds Try.pinned (OpenSpec.ofChange fnExactAddOffsetsSpec)

/-- ITS FALSE NEIGHBOUR: 'it returns false'. Refute it at one input. -/
def fnExactAddOffsetsWrong : ChangeSpec := { name := "fnExactAddOffsets", fn := fun _ => fun
  | [d1, d2] => { results := [.lit (.bool false)], args := [d1, d2] }
  | _ => none }
def FnExactAddOffsetsWrongFalsely : Prop := fnExactAddOffsetsRow.holds Try.pinned (OpenSpec.ofChange fnExactAddOffsetsWrong)

/- THE SECOND FORM. 'bulk': how many values and letters a reading holds, each counted each time it is reached (what is shared counts as often as it is met; a slice's spare places count too). A statement '..UptoSaid' is the law's where the arguments, and the package variables that the reading takes, are together of bulk at most 1048576: NARROWER than '..Said'. Prove '..Said' where nothing that the law and all that it calls make is longer than what came in: it says more and counts as full. Else prove '..UptoSaid'. A law counts once. -/
mutual
def uptoBulk {H : Type} : DataW H → Nat
  | .lit (.string bytes) => bytes.length + 1
  | .lit _ => 1
  | .nil => 1
  | .ptr d => uptoBulk d + 1
  | .slice elems spare => uptoBulkAll elems + uptoBulkAll spare + 1
  | .agg parts => uptoBulkAll parts + 1
  | .iface _ d => uptoBulk d + 1
  | .map entries => uptoBulkEntries entries + 1
  | .held _ => 1
def uptoBulkAll {H : Type} : List (DataW H) → Nat
  | [] => 0
  | d :: r => uptoBulk d + uptoBulkAll r
def uptoBulkEntries {H : Type} : List (Lit × DataW H) → Nat
  | [] => 0
  | x :: r => uptoBulkEntry x + uptoBulkEntries r
def uptoBulkEntry {H : Type} : Lit × DataW H → Nat
  | (.string bytes, d) => bytes.length + uptoBulk d + 1
  | (_, d) => uptoBulk d + 1
 end
def uptoSmall : (H : Type) → List (DataW H) → Bool := fun _ ds => decide (uptoBulkAll ds ≤ 1048576)
def OpenSpec.upto (s : _root_.Go.ChangeSpec) : _root_.Go.OpenSpec := { _root_.Go.OpenSpec.ofChange s with cond := some uptoSmall }

/-- 'laws.FnExactRulesOfPattern', WHERE WHAT IT READS IS OF BULK AT MOST 1048576: true; the input reads as it did. -/
def fnExactRulesOfPatternUptoRow : OpenClaim := { program := "ytncnhgiilolomaa", sum := "b9152ee3ec0a607c51b0f9584059f3b1de77f9a04fa731c29e975214025824d4", func := "loop.example/g01235/laws.FnExactRulesOfPattern", spec := "fnExactRulesOfPattern", unfollowed := true, recurses := true, apart := false, narrowed := true }
def FnExactRulesOfPatternUptoSaid : Prop := fnExactRulesOfPatternUptoRow.holds Try.pinned (OpenSpec.upto fnExactRulesOfPatternSpec)

/-- 'laws.FnExactAddOffsets', WHERE WHAT IT READS IS OF BULK AT MOST 1048576: true; the input reads as it did. -/
def fnExactAddOffsetsUptoRow : OpenClaim := { program := "ytncnhgiilolomaa", sum := "b9152ee3ec0a607c51b0f9584059f3b1de77f9a04fa731c29e975214025824d4", func := "loop.example/g01235/laws.FnExactAddOffsets", spec := "fnExactAddOffsets", inPlace := ["slices.overlaps[int]"], recurses := true, apart := false, narrowed := true }
def FnExactAddOffsetsUptoSaid : Prop := fnExactAddOffsetsUptoRow.holds Try.pinned (OpenSpec.upto fnExactAddOffsetsSpec)

end Rows
end Go.Proofs.Ytncnhgiilolomaa
