/-
  No cell of these rows narrows 'for every input' (looked for: loops, veiled, ifaces, maps, wideKeys, modest, calm, conditions, laid).
  DERIVED. THE GIVEN ROWS OF THIS SEAT. 12 by the template 'for every input the law returns true; each argument reads behind the call as it read before'; 0 by the template 'total and deterministic' (their statements: YthmjkdkpoapchaaTotals.lean).
  GIVEN WITH THE SEED: the statements are not yours to turn. If you find one false, say at which input.
  Laid BY PROGRAM, IN A SANDBOX (cutbox-rows.mjs): the forced cells as the released guide's own fill.sh prints them over the translation 6ca6e7c672e1c7d0… (all of the seat's roots in one cut). By AI agents, Wed Nov 11 2026. No macro, syntax, notation, axiom, sorry.
-/
import Derived.Test.YthmjkdkpoapchaaChecked
import GoSem.Claim
import GoSem.ClaimJoined
import GoSem.ClaimMapViews
import Derived.JoinedTies
import Derived.KernelRfl
namespace Go.Proofs.Ythmjkdkpoapchaa
/- THE CELL 'sum', in the pinned program and in every row, IS THE sha256 OF THE DUMP (.gsa) THAT YthmjkdkpoapchaaProg.lean LOADS. Nothing in Lean hashes anything: it is a label: what it is worth is what the hold of that sum in a sandbox is worth. -/
noncomputable def Try.pinned : Pinned := { name := "ythmjkdkpoapchaa", sum := "6ca6e7c672e1c7d07b1f0583be6bef8d8df0921a45bf20dddbe58193480e472f", checked := Try.checked }
namespace Rows
def none {H : Type} : Left H := { results := [], args := [] }

/-- 'laws.FnExactIsSumOfThree': WHATEVER THE INPUT: true; the input reads as it did. -/
def fnExactIsSumOfThreeSpec : ChangeSpec := { name := "fnExactIsSumOfThree", fn := fun _ => fun
  | [d] => { results := [.lit (.bool true)], args := [d] }
  | _ => none }
def fnExactIsSumOfThreeRow : OpenClaim := { program := "ythmjkdkpoapchaa", sum := "6ca6e7c672e1c7d07b1f0583be6bef8d8df0921a45bf20dddbe58193480e472f", func := "loop.example/g01235/laws.FnExactIsSumOfThree", spec := "fnExactIsSumOfThree", apart := false }
def FnExactIsSumOfThreeSaid : Prop := fnExactIsSumOfThreeRow.holds Try.pinned (OpenSpec.ofChange fnExactIsSumOfThreeSpec)

/-- ITS FALSE NEIGHBOUR: 'it returns false'. Refute it at one input. -/
def fnExactIsSumOfThreeWrong : ChangeSpec := { name := "fnExactIsSumOfThree", fn := fun _ => fun
  | [d] => { results := [.lit (.bool false)], args := [d] }
  | _ => none }
def FnExactIsSumOfThreeWrongFalsely : Prop := fnExactIsSumOfThreeRow.holds Try.pinned (OpenSpec.ofChange fnExactIsSumOfThreeWrong)

/-- 'laws.FnExactSquarePart': WHATEVER THE INPUT: true; the input reads as it did. -/
def fnExactSquarePartSpec : ChangeSpec := { name := "fnExactSquarePart", fn := fun _ => fun
  | [d] => { results := [.lit (.bool true)], args := [d] }
  | _ => none }
def fnExactSquarePartRow : OpenClaim := { program := "ythmjkdkpoapchaa", sum := "6ca6e7c672e1c7d07b1f0583be6bef8d8df0921a45bf20dddbe58193480e472f", func := "loop.example/g01235/laws.FnExactSquarePart", spec := "fnExactSquarePart", apart := false }
def FnExactSquarePartSaid : Prop := fnExactSquarePartRow.holds Try.pinned (OpenSpec.ofChange fnExactSquarePartSpec)

/-- ITS FALSE NEIGHBOUR: 'it returns false'. Refute it at one input. -/
def fnExactSquarePartWrong : ChangeSpec := { name := "fnExactSquarePart", fn := fun _ => fun
  | [d] => { results := [.lit (.bool false)], args := [d] }
  | _ => none }
def FnExactSquarePartWrongFalsely : Prop := fnExactSquarePartRow.holds Try.pinned (OpenSpec.ofChange fnExactSquarePartWrong)

/-- 'laws.FnExactIsSquareFree': WHATEVER THE INPUT: true; the input reads as it did. -/
def fnExactIsSquareFreeSpec : ChangeSpec := { name := "fnExactIsSquareFree", fn := fun _ => fun
  | [d] => { results := [.lit (.bool true)], args := [d] }
  | _ => none }
def fnExactIsSquareFreeRow : OpenClaim := { program := "ythmjkdkpoapchaa", sum := "6ca6e7c672e1c7d07b1f0583be6bef8d8df0921a45bf20dddbe58193480e472f", func := "loop.example/g01235/laws.FnExactIsSquareFree", spec := "fnExactIsSquareFree", apart := false }
def FnExactIsSquareFreeSaid : Prop := fnExactIsSquareFreeRow.holds Try.pinned (OpenSpec.ofChange fnExactIsSquareFreeSpec)

/-- ITS FALSE NEIGHBOUR: 'it returns false'. Refute it at one input. -/
def fnExactIsSquareFreeWrong : ChangeSpec := { name := "fnExactIsSquareFree", fn := fun _ => fun
  | [d] => { results := [.lit (.bool false)], args := [d] }
  | _ => none }
def FnExactIsSquareFreeWrongFalsely : Prop := fnExactIsSquareFreeRow.holds Try.pinned (OpenSpec.ofChange fnExactIsSquareFreeWrong)

/-- 'laws.FnExactKernelOf': WHATEVER THE INPUT: true; the input reads as it did. -/
def fnExactKernelOfSpec : ChangeSpec := { name := "fnExactKernelOf", fn := fun _ => fun
  | [d] => { results := [.lit (.bool true)], args := [d] }
  | _ => none }
def fnExactKernelOfRow : OpenClaim := { program := "ythmjkdkpoapchaa", sum := "6ca6e7c672e1c7d07b1f0583be6bef8d8df0921a45bf20dddbe58193480e472f", func := "loop.example/g01235/laws.FnExactKernelOf", spec := "fnExactKernelOf", apart := false }
def FnExactKernelOfSaid : Prop := fnExactKernelOfRow.holds Try.pinned (OpenSpec.ofChange fnExactKernelOfSpec)

/-- ITS FALSE NEIGHBOUR: 'it returns false'. Refute it at one input. -/
def fnExactKernelOfWrong : ChangeSpec := { name := "fnExactKernelOf", fn := fun _ => fun
  | [d] => { results := [.lit (.bool false)], args := [d] }
  | _ => none }
def FnExactKernelOfWrongFalsely : Prop := fnExactKernelOfRow.holds Try.pinned (OpenSpec.ofChange fnExactKernelOfWrong)

/-- 'laws.FnExactIsSumOfTwo': WHATEVER THE INPUT: true; the input reads as it did. -/
def fnExactIsSumOfTwoSpec : ChangeSpec := { name := "fnExactIsSumOfTwo", fn := fun _ => fun
  | [d] => { results := [.lit (.bool true)], args := [d] }
  | _ => none }
def fnExactIsSumOfTwoRow : OpenClaim := { program := "ythmjkdkpoapchaa", sum := "6ca6e7c672e1c7d07b1f0583be6bef8d8df0921a45bf20dddbe58193480e472f", func := "loop.example/g01235/laws.FnExactIsSumOfTwo", spec := "fnExactIsSumOfTwo", unfollowed := true, recurses := true, apart := false }
def FnExactIsSumOfTwoSaid : Prop := fnExactIsSumOfTwoRow.holds Try.pinned (OpenSpec.ofChange fnExactIsSumOfTwoSpec)

/-- ITS FALSE NEIGHBOUR: 'it returns false'. Refute it at one input. -/
def fnExactIsSumOfTwoWrong : ChangeSpec := { name := "fnExactIsSumOfTwo", fn := fun _ => fun
  | [d] => { results := [.lit (.bool false)], args := [d] }
  | _ => none }
def FnExactIsSumOfTwoWrongFalsely : Prop := fnExactIsSumOfTwoRow.holds Try.pinned (OpenSpec.ofChange fnExactIsSumOfTwoWrong)

/-- 'laws.FnExactNextSquareFree': WHATEVER THE INPUT: true; the input reads as it did. -/
def fnExactNextSquareFreeSpec : ChangeSpec := { name := "fnExactNextSquareFree", fn := fun _ => fun
  | [d] => { results := [.lit (.bool true)], args := [d] }
  | _ => none }
def fnExactNextSquareFreeRow : OpenClaim := { program := "ythmjkdkpoapchaa", sum := "6ca6e7c672e1c7d07b1f0583be6bef8d8df0921a45bf20dddbe58193480e472f", func := "loop.example/g01235/laws.FnExactNextSquareFree", spec := "fnExactNextSquareFree", apart := false }
def FnExactNextSquareFreeSaid : Prop := fnExactNextSquareFreeRow.holds Try.pinned (OpenSpec.ofChange fnExactNextSquareFreeSpec)

/-- ITS FALSE NEIGHBOUR: 'it returns false'. Refute it at one input. -/
def fnExactNextSquareFreeWrong : ChangeSpec := { name := "fnExactNextSquareFree", fn := fun _ => fun
  | [d] => { results := [.lit (.bool false)], args := [d] }
  | _ => none }
def FnExactNextSquareFreeWrongFalsely : Prop := fnExactNextSquareFreeRow.holds Try.pinned (OpenSpec.ofChange fnExactNextSquareFreeWrong)

/-- 'laws.FnExactTotientOf': WHATEVER THE INPUT: true; the input reads as it did. -/
def fnExactTotientOfSpec : ChangeSpec := { name := "fnExactTotientOf", fn := fun _ => fun
  | [d] => { results := [.lit (.bool true)], args := [d] }
  | _ => none }
def fnExactTotientOfRow : OpenClaim := { program := "ythmjkdkpoapchaa", sum := "6ca6e7c672e1c7d07b1f0583be6bef8d8df0921a45bf20dddbe58193480e472f", func := "loop.example/g01235/laws.FnExactTotientOf", spec := "fnExactTotientOf", apart := false }
def FnExactTotientOfSaid : Prop := fnExactTotientOfRow.holds Try.pinned (OpenSpec.ofChange fnExactTotientOfSpec)

/-- ITS FALSE NEIGHBOUR: 'it returns false'. Refute it at one input. -/
def fnExactTotientOfWrong : ChangeSpec := { name := "fnExactTotientOf", fn := fun _ => fun
  | [d] => { results := [.lit (.bool false)], args := [d] }
  | _ => none }
def FnExactTotientOfWrongFalsely : Prop := fnExactTotientOfRow.holds Try.pinned (OpenSpec.ofChange fnExactTotientOfWrong)

/-- 'laws.FnExactSquareFreeOfRank': WHATEVER THE INPUT: true; the input reads as it did. -/
def fnExactSquareFreeOfRankSpec : ChangeSpec := { name := "fnExactSquareFreeOfRank", fn := fun _ => fun
  | [d] => { results := [.lit (.bool true)], args := [d] }
  | _ => none }
def fnExactSquareFreeOfRankRow : OpenClaim := { program := "ythmjkdkpoapchaa", sum := "6ca6e7c672e1c7d07b1f0583be6bef8d8df0921a45bf20dddbe58193480e472f", func := "loop.example/g01235/laws.FnExactSquareFreeOfRank", spec := "fnExactSquareFreeOfRank", apart := false }
def FnExactSquareFreeOfRankSaid : Prop := fnExactSquareFreeOfRankRow.holds Try.pinned (OpenSpec.ofChange fnExactSquareFreeOfRankSpec)

/-- ITS FALSE NEIGHBOUR: 'it returns false'. Refute it at one input. -/
def fnExactSquareFreeOfRankWrong : ChangeSpec := { name := "fnExactSquareFreeOfRank", fn := fun _ => fun
  | [d] => { results := [.lit (.bool false)], args := [d] }
  | _ => none }
def FnExactSquareFreeOfRankWrongFalsely : Prop := fnExactSquareFreeOfRankRow.holds Try.pinned (OpenSpec.ofChange fnExactSquareFreeOfRankWrong)

/-- 'laws.FnExactFreeSign': WHATEVER THE INPUT: true; the input reads as it did. -/
def fnExactFreeSignSpec : ChangeSpec := { name := "fnExactFreeSign", fn := fun _ => fun
  | [d] => { results := [.lit (.bool true)], args := [d] }
  | _ => none }
def fnExactFreeSignRow : OpenClaim := { program := "ythmjkdkpoapchaa", sum := "6ca6e7c672e1c7d07b1f0583be6bef8d8df0921a45bf20dddbe58193480e472f", func := "loop.example/g01235/laws.FnExactFreeSign", spec := "fnExactFreeSign", apart := false }
def FnExactFreeSignSaid : Prop := fnExactFreeSignRow.holds Try.pinned (OpenSpec.ofChange fnExactFreeSignSpec)

/-- ITS FALSE NEIGHBOUR: 'it returns false'. Refute it at one input. -/
def fnExactFreeSignWrong : ChangeSpec := { name := "fnExactFreeSign", fn := fun _ => fun
  | [d] => { results := [.lit (.bool false)], args := [d] }
  | _ => none }
def FnExactFreeSignWrongFalsely : Prop := fnExactFreeSignRow.holds Try.pinned (OpenSpec.ofChange fnExactFreeSignWrong)

/-- 'laws.FnExactCoprimePairs': WHATEVER THE INPUT: true; the input reads as it did. -/
def fnExactCoprimePairsSpec : ChangeSpec := { name := "fnExactCoprimePairs", fn := fun _ => fun
  | [d] => { results := [.lit (.bool true)], args := [d] }
  | _ => none }
def fnExactCoprimePairsRow : OpenClaim := { program := "ythmjkdkpoapchaa", sum := "6ca6e7c672e1c7d07b1f0583be6bef8d8df0921a45bf20dddbe58193480e472f", func := "loop.example/g01235/laws.FnExactCoprimePairs", spec := "fnExactCoprimePairs", apart := false }
def FnExactCoprimePairsSaid : Prop := fnExactCoprimePairsRow.holds Try.pinned (OpenSpec.ofChange fnExactCoprimePairsSpec)

/-- ITS FALSE NEIGHBOUR: 'it returns false'. Refute it at one input. -/
def fnExactCoprimePairsWrong : ChangeSpec := { name := "fnExactCoprimePairs", fn := fun _ => fun
  | [d] => { results := [.lit (.bool false)], args := [d] }
  | _ => none }
def FnExactCoprimePairsWrongFalsely : Prop := fnExactCoprimePairsRow.holds Try.pinned (OpenSpec.ofChange fnExactCoprimePairsWrong)

/-- 'laws.FnExactMoebiusOf': WHATEVER THE INPUT: true; the input reads as it did. -/
def fnExactMoebiusOfSpec : ChangeSpec := { name := "fnExactMoebiusOf", fn := fun _ => fun
  | [d] => { results := [.lit (.bool true)], args := [d] }
  | _ => none }
def fnExactMoebiusOfRow : OpenClaim := { program := "ythmjkdkpoapchaa", sum := "6ca6e7c672e1c7d07b1f0583be6bef8d8df0921a45bf20dddbe58193480e472f", func := "loop.example/g01235/laws.FnExactMoebiusOf", spec := "fnExactMoebiusOf", apart := false }
def FnExactMoebiusOfSaid : Prop := fnExactMoebiusOfRow.holds Try.pinned (OpenSpec.ofChange fnExactMoebiusOfSpec)

/-- ITS FALSE NEIGHBOUR: 'it returns false'. Refute it at one input. -/
def fnExactMoebiusOfWrong : ChangeSpec := { name := "fnExactMoebiusOf", fn := fun _ => fun
  | [d] => { results := [.lit (.bool false)], args := [d] }
  | _ => none }
def FnExactMoebiusOfWrongFalsely : Prop := fnExactMoebiusOfRow.holds Try.pinned (OpenSpec.ofChange fnExactMoebiusOfWrong)

/-- 'laws.FnExactLongestSquareful': WHATEVER THE INPUT: true; the input reads as it did. -/
def fnExactLongestSquarefulSpec : ChangeSpec := { name := "fnExactLongestSquareful", fn := fun _ => fun
  | [d] => { results := [.lit (.bool true)], args := [d] }
  | _ => none }
def fnExactLongestSquarefulRow : OpenClaim := { program := "ythmjkdkpoapchaa", sum := "6ca6e7c672e1c7d07b1f0583be6bef8d8df0921a45bf20dddbe58193480e472f", func := "loop.example/g01235/laws.FnExactLongestSquareful", spec := "fnExactLongestSquareful", apart := false }
def FnExactLongestSquarefulSaid : Prop := fnExactLongestSquarefulRow.holds Try.pinned (OpenSpec.ofChange fnExactLongestSquarefulSpec)

/-- ITS FALSE NEIGHBOUR: 'it returns false'. Refute it at one input. -/
def fnExactLongestSquarefulWrong : ChangeSpec := { name := "fnExactLongestSquareful", fn := fun _ => fun
  | [d] => { results := [.lit (.bool false)], args := [d] }
  | _ => none }
def FnExactLongestSquarefulWrongFalsely : Prop := fnExactLongestSquarefulRow.holds Try.pinned (OpenSpec.ofChange fnExactLongestSquarefulWrong)

/- THE SECOND FORM. 'bulk': how many values and letters a reading holds, each counted each time it is reached (what is shared counts as often as it is met; a slice's spare places count too). A statement '..UptoSaid' is the law's where the arguments, and the package variables that the reading takes, are together of bulk at most 1048576: NARROWER than '..Said'. Prove '..Said' where nothing that the law and all that it calls make is longer than what came in: it says more and counts as full. Else prove '..UptoSaid'. A law counts once. -/
mutual
def uptoBulk {H : Type} : DataW H → Nat
  | .lit (.string bytes) => bytes.length + 1
  | .lit _ => 1
  | .nil => 1
  | .ptr d => uptoBulk d + 1
  | .slice elems spare => uptoBulkAll elems + uptoBulkAll spare + 1
  | .agg parts => uptoBulkAll parts + 1
  | .iface _ d => uptoBulk d + 1
  | .map entries => uptoBulkEntries entries + 1
  | .held _ => 1
def uptoBulkAll {H : Type} : List (DataW H) → Nat
  | [] => 0
  | d :: r => uptoBulk d + uptoBulkAll r
def uptoBulkEntries {H : Type} : List (Lit × DataW H) → Nat
  | [] => 0
  | x :: r => uptoBulkEntry x + uptoBulkEntries r
def uptoBulkEntry {H : Type} : Lit × DataW H → Nat
  | (.string bytes, d) => bytes.length + uptoBulk d + 1
  | (_, d) => uptoBulk d + 1
 end
def uptoSmall : (H : Type) → List (DataW H) → Bool := fun _ ds => decide (uptoBulkAll ds ≤ 1048576)
def OpenSpec.upto (s : _root_.Go.ChangeSpec) : _root_.Go.OpenSpec := { _root_.Go.OpenSpec.ofChange s with cond := some uptoSmall }

/-- 'laws.FnExactIsSumOfThree', WHERE WHAT IT READS IS OF BULK AT MOST 1048576: true; the input reads as it did. -/
def fnExactIsSumOfThreeUptoRow : OpenClaim := { program := "ythmjkdkpoapchaa", sum := "6ca6e7c672e1c7d07b1f0583be6bef8d8df0921a45bf20dddbe58193480e472f", func := "loop.example/g01235/laws.FnExactIsSumOfThree", spec := "fnExactIsSumOfThree", apart := false, narrowed := true }
def FnExactIsSumOfThreeUptoSaid : Prop := fnExactIsSumOfThreeUptoRow.holds Try.pinned (OpenSpec.upto fnExactIsSumOfThreeSpec)

/-- 'laws.FnExactSquarePart', WHERE WHAT IT READS IS OF BULK AT MOST 1048576: true; the input reads as it did. -/
def fnExactSquarePartUptoRow : OpenClaim := { program := "ythmjkdkpoapchaa", sum := "6ca6e7c672e1c7d07b1f0583be6bef8d8df0921a45bf20dddbe58193480e472f", func := "loop.example/g01235/laws.FnExactSquarePart", spec := "fnExactSquarePart", apart := false, narrowed := true }
def FnExactSquarePartUptoSaid : Prop := fnExactSquarePartUptoRow.holds Try.pinned (OpenSpec.upto fnExactSquarePartSpec)

/-- 'laws.FnExactIsSquareFree', WHERE WHAT IT READS IS OF BULK AT MOST 1048576: true; the input reads as it did. -/
def fnExactIsSquareFreeUptoRow : OpenClaim := { program := "ythmjkdkpoapchaa", sum := "6ca6e7c672e1c7d07b1f0583be6bef8d8df0921a45bf20dddbe58193480e472f", func := "loop.example/g01235/laws.FnExactIsSquareFree", spec := "fnExactIsSquareFree", apart := false, narrowed := true }
def FnExactIsSquareFreeUptoSaid : Prop := fnExactIsSquareFreeUptoRow.holds Try.pinned (OpenSpec.upto fnExactIsSquareFreeSpec)

/-- 'laws.FnExactKernelOf', WHERE WHAT IT READS IS OF BULK AT MOST 1048576: true; the input reads as it did. -/
def fnExactKernelOfUptoRow : OpenClaim := { program := "ythmjkdkpoapchaa", sum := "6ca6e7c672e1c7d07b1f0583be6bef8d8df0921a45bf20dddbe58193480e472f", func := "loop.example/g01235/laws.FnExactKernelOf", spec := "fnExactKernelOf", apart := false, narrowed := true }
def FnExactKernelOfUptoSaid : Prop := fnExactKernelOfUptoRow.holds Try.pinned (OpenSpec.upto fnExactKernelOfSpec)

/-- 'laws.FnExactIsSumOfTwo', WHERE WHAT IT READS IS OF BULK AT MOST 1048576: true; the input reads as it did. -/
def fnExactIsSumOfTwoUptoRow : OpenClaim := { program := "ythmjkdkpoapchaa", sum := "6ca6e7c672e1c7d07b1f0583be6bef8d8df0921a45bf20dddbe58193480e472f", func := "loop.example/g01235/laws.FnExactIsSumOfTwo", spec := "fnExactIsSumOfTwo", unfollowed := true, recurses := true, apart := false, narrowed := true }
def FnExactIsSumOfTwoUptoSaid : Prop := fnExactIsSumOfTwoUptoRow.holds Try.pinned (OpenSpec.upto fnExactIsSumOfTwoSpec)

/-- 'laws.FnExactNextSquareFree', WHERE WHAT IT READS IS OF BULK AT MOST 1048576: true; the input reads as it did. -/
def fnExactNextSquareFreeUptoRow : OpenClaim := { program := "ythmjkdkpoapchaa", sum := "6ca6e7c672e1c7d07b1f0583be6bef8d8df0921a45bf20dddbe58193480e472f", func := "loop.example/g01235/laws.FnExactNextSquareFree", spec := "fnExactNextSquareFree", apart := false, narrowed := true }
def FnExactNextSquareFreeUptoSaid : Prop := fnExactNextSquareFreeUptoRow.holds Try.pinned (OpenSpec.upto fnExactNextSquareFreeSpec)

/-- 'laws.FnExactTotientOf', WHERE WHAT IT READS IS OF BULK AT MOST 1048576: true; the input reads as it did. -/
def fnExactTotientOfUptoRow : OpenClaim := { program := "ythmjkdkpoapchaa", sum := "6ca6e7c672e1c7d07b1f0583be6bef8d8df0921a45bf20dddbe58193480e472f", func := "loop.example/g01235/laws.FnExactTotientOf", spec := "fnExactTotientOf", apart := false, narrowed := true }
def FnExactTotientOfUptoSaid : Prop := fnExactTotientOfUptoRow.holds Try.pinned (OpenSpec.upto fnExactTotientOfSpec)

/-- 'laws.FnExactSquareFreeOfRank', WHERE WHAT IT READS IS OF BULK AT MOST 1048576: true; the input reads as it did. -/
def fnExactSquareFreeOfRankUptoRow : OpenClaim := { program := "ythmjkdkpoapchaa", sum := "6ca6e7c672e1c7d07b1f0583be6bef8d8df0921a45bf20dddbe58193480e472f", func := "loop.example/g01235/laws.FnExactSquareFreeOfRank", spec := "fnExactSquareFreeOfRank", apart := false, narrowed := true }
def FnExactSquareFreeOfRankUptoSaid : Prop := fnExactSquareFreeOfRankUptoRow.holds Try.pinned (OpenSpec.upto fnExactSquareFreeOfRankSpec)

/-- 'laws.FnExactFreeSign', WHERE WHAT IT READS IS OF BULK AT MOST 1048576: true; the input reads as it did. -/
def fnExactFreeSignUptoRow : OpenClaim := { program := "ythmjkdkpoapchaa", sum := "6ca6e7c672e1c7d07b1f0583be6bef8d8df0921a45bf20dddbe58193480e472f", func := "loop.example/g01235/laws.FnExactFreeSign", spec := "fnExactFreeSign", apart := false, narrowed := true }
def FnExactFreeSignUptoSaid : Prop := fnExactFreeSignUptoRow.holds Try.pinned (OpenSpec.upto fnExactFreeSignSpec)

/-- 'laws.FnExactCoprimePairs', WHERE WHAT IT READS IS OF BULK AT MOST 1048576: true; the input reads as it did. -/
def fnExactCoprimePairsUptoRow : OpenClaim := { program := "ythmjkdkpoapchaa", sum := "6ca6e7c672e1c7d07b1f0583be6bef8d8df0921a45bf20dddbe58193480e472f", func := "loop.example/g01235/laws.FnExactCoprimePairs", spec := "fnExactCoprimePairs", apart := false, narrowed := true }
def FnExactCoprimePairsUptoSaid : Prop := fnExactCoprimePairsUptoRow.holds Try.pinned (OpenSpec.upto fnExactCoprimePairsSpec)

/-- 'laws.FnExactMoebiusOf', WHERE WHAT IT READS IS OF BULK AT MOST 1048576: true; the input reads as it did. -/
def fnExactMoebiusOfUptoRow : OpenClaim := { program := "ythmjkdkpoapchaa", sum := "6ca6e7c672e1c7d07b1f0583be6bef8d8df0921a45bf20dddbe58193480e472f", func := "loop.example/g01235/laws.FnExactMoebiusOf", spec := "fnExactMoebiusOf", apart := false, narrowed := true }
def FnExactMoebiusOfUptoSaid : Prop := fnExactMoebiusOfUptoRow.holds Try.pinned (OpenSpec.upto fnExactMoebiusOfSpec)

/-- 'laws.FnExactLongestSquareful', WHERE WHAT IT READS IS OF BULK AT MOST 1048576: true; the input reads as it did. -/
def fnExactLongestSquarefulUptoRow : OpenClaim := { program := "ythmjkdkpoapchaa", sum := "6ca6e7c672e1c7d07b1f0583be6bef8d8df0921a45bf20dddbe58193480e472f", func := "loop.example/g01235/laws.FnExactLongestSquareful", spec := "fnExactLongestSquareful", apart := false, narrowed := true }
def FnExactLongestSquarefulUptoSaid : Prop := fnExactLongestSquarefulUptoRow.holds Try.pinned (OpenSpec.upto fnExactLongestSquarefulSpec)

end Rows
end Go.Proofs.Ythmjkdkpoapchaa
