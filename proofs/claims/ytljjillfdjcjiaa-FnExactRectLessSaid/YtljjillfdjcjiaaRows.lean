/-
  No cell of these rows narrows 'for every input' (looked for: loops, veiled, ifaces, maps, wideKeys, modest, calm, conditions, laid).
  DERIVED. THE GIVEN ROWS OF THIS SEAT. 12 by the template 'for every input the law returns true; each argument reads behind the call as it read before'; 0 by the template 'total and deterministic' (their statements: YtljjillfdjcjiaaTotals.lean).
  GIVEN WITH THE SEED: the statements are not yours to turn. If you find one false, say at which input.
  Laid BY PROGRAM, IN A SANDBOX (cutbox-rows.mjs): the forced cells as the released guide's own fill.sh prints them over the translation bbb6c8b8a09dc7f1… (all of the seat's roots in one cut). By AI agents, Wed Nov 11 2026. No macro, syntax, notation, axiom, sorry.
-/
import Derived.Test.YtljjillfdjcjiaaChecked
import GoSem.Claim
import GoSem.ClaimJoined
import GoSem.ClaimMapViews
import Derived.JoinedTies
import Derived.KernelRfl
namespace Go.Proofs.Ytljjillfdjcjiaa
/- THE CELL 'sum', in the pinned program and in every row, IS THE sha256 OF THE DUMP (.gsa) THAT YtljjillfdjcjiaaProg.lean LOADS. Nothing in Lean hashes anything: it is a label: what it is worth is what the hold of that sum in a sandbox is worth. -/
noncomputable def Try.pinned : Pinned := { name := "ytljjillfdjcjiaa", sum := "bbb6c8b8a09dc7f122b17b848d40a9ed697c2d243d0545319e49780fd83565d0", checked := Try.checked }
namespace Rows
def none {H : Type} : Left H := { results := [], args := [] }

/-- 'laws.FnExactConstants': WHATEVER THE INPUT: true; the input reads as it did. -/
def fnExactConstantsSpec : ChangeSpec := { name := "fnExactConstants", fn := fun _ => fun
  | [] => { results := [.lit (.bool true)], args := [] }
  | _ => none }
def fnExactConstantsRow : OpenClaim := { program := "ytljjillfdjcjiaa", sum := "bbb6c8b8a09dc7f122b17b848d40a9ed697c2d243d0545319e49780fd83565d0", func := "loop.example/g00890/laws.FnExactConstants", spec := "fnExactConstants", apart := false }
def FnExactConstantsSaid : Prop := fnExactConstantsRow.holds Try.pinned (OpenSpec.ofChange fnExactConstantsSpec)

/-- ITS FALSE NEIGHBOUR: 'it returns false'. Refute it at one input. -/
def fnExactConstantsWrong : ChangeSpec := { name := "fnExactConstants", fn := fun _ => fun
  | [] => { results := [.lit (.bool false)], args := [] }
  | _ => none }
def FnExactConstantsWrongFalsely : Prop := fnExactConstantsRow.holds Try.pinned (OpenSpec.ofChange fnExactConstantsWrong)

/-- 'laws.FnExactIsValidRect': WHATEVER THE INPUT: true; the input reads as it did. -/
def fnExactIsValidRectSpec : ChangeSpec := { name := "fnExactIsValidRect", fn := fun _ => fun
  | [d] => { results := [.lit (.bool true)], args := [d] }
  | _ => none }
def fnExactIsValidRectRow : OpenClaim := { program := "ytljjillfdjcjiaa", sum := "bbb6c8b8a09dc7f122b17b848d40a9ed697c2d243d0545319e49780fd83565d0", func := "loop.example/g00890/laws.FnExactIsValidRect", spec := "fnExactIsValidRect", apart := false }
def FnExactIsValidRectSaid : Prop := fnExactIsValidRectRow.holds Try.pinned (OpenSpec.ofChange fnExactIsValidRectSpec)

/-- ITS FALSE NEIGHBOUR: 'it returns false'. Refute it at one input. -/
def fnExactIsValidRectWrong : ChangeSpec := { name := "fnExactIsValidRect", fn := fun _ => fun
  | [d] => { results := [.lit (.bool false)], args := [d] }
  | _ => none }
def FnExactIsValidRectWrongFalsely : Prop := fnExactIsValidRectRow.holds Try.pinned (OpenSpec.ofChange fnExactIsValidRectWrong)

/-- 'laws.FnExactIsValidTransform': WHATEVER THE INPUT: true; the input reads as it did. -/
def fnExactIsValidTransformSpec : ChangeSpec := { name := "fnExactIsValidTransform", fn := fun _ => fun
  | [d] => { results := [.lit (.bool true)], args := [d] }
  | _ => none }
def fnExactIsValidTransformRow : OpenClaim := { program := "ytljjillfdjcjiaa", sum := "bbb6c8b8a09dc7f122b17b848d40a9ed697c2d243d0545319e49780fd83565d0", func := "loop.example/g00890/laws.FnExactIsValidTransform", spec := "fnExactIsValidTransform", apart := false }
def FnExactIsValidTransformSaid : Prop := fnExactIsValidTransformRow.holds Try.pinned (OpenSpec.ofChange fnExactIsValidTransformSpec)

/-- ITS FALSE NEIGHBOUR: 'it returns false'. Refute it at one input. -/
def fnExactIsValidTransformWrong : ChangeSpec := { name := "fnExactIsValidTransform", fn := fun _ => fun
  | [d] => { results := [.lit (.bool false)], args := [d] }
  | _ => none }
def FnExactIsValidTransformWrongFalsely : Prop := fnExactIsValidTransformRow.holds Try.pinned (OpenSpec.ofChange fnExactIsValidTransformWrong)

/-- 'laws.FnExactRectContains': WHATEVER THE INPUT: true; the input reads as it did. -/
def fnExactRectContainsSpec : ChangeSpec := { name := "fnExactRectContains", fn := fun _ => fun
  | [d1, d2, d3] => { results := [.lit (.bool true)], args := [d1, d2, d3] }
  | _ => none }
def fnExactRectContainsRow : OpenClaim := { program := "ytljjillfdjcjiaa", sum := "bbb6c8b8a09dc7f122b17b848d40a9ed697c2d243d0545319e49780fd83565d0", func := "loop.example/g00890/laws.FnExactRectContains", spec := "fnExactRectContains", apart := false }
def FnExactRectContainsSaid : Prop := fnExactRectContainsRow.holds Try.pinned (OpenSpec.ofChange fnExactRectContainsSpec)

/-- ITS FALSE NEIGHBOUR: 'it returns false'. Refute it at one input. -/
def fnExactRectContainsWrong : ChangeSpec := { name := "fnExactRectContains", fn := fun _ => fun
  | [d1, d2, d3] => { results := [.lit (.bool false)], args := [d1, d2, d3] }
  | _ => none }
def FnExactRectContainsWrongFalsely : Prop := fnExactRectContainsRow.holds Try.pinned (OpenSpec.ofChange fnExactRectContainsWrong)

/-- 'laws.FnExactRectsOverlap': WHATEVER THE INPUT: true; the input reads as it did. -/
def fnExactRectsOverlapSpec : ChangeSpec := { name := "fnExactRectsOverlap", fn := fun _ => fun
  | [d1, d2] => { results := [.lit (.bool true)], args := [d1, d2] }
  | _ => none }
def fnExactRectsOverlapRow : OpenClaim := { program := "ytljjillfdjcjiaa", sum := "bbb6c8b8a09dc7f122b17b848d40a9ed697c2d243d0545319e49780fd83565d0", func := "loop.example/g00890/laws.FnExactRectsOverlap", spec := "fnExactRectsOverlap", apart := false }
def FnExactRectsOverlapSaid : Prop := fnExactRectsOverlapRow.holds Try.pinned (OpenSpec.ofChange fnExactRectsOverlapSpec)

/-- ITS FALSE NEIGHBOUR: 'it returns false'. Refute it at one input. -/
def fnExactRectsOverlapWrong : ChangeSpec := { name := "fnExactRectsOverlap", fn := fun _ => fun
  | [d1, d2] => { results := [.lit (.bool false)], args := [d1, d2] }
  | _ => none }
def FnExactRectsOverlapWrongFalsely : Prop := fnExactRectsOverlapRow.holds Try.pinned (OpenSpec.ofChange fnExactRectsOverlapWrong)

/-- 'laws.FnExactRectArea': WHATEVER THE INPUT: true; the input reads as it did. -/
def fnExactRectAreaSpec : ChangeSpec := { name := "fnExactRectArea", fn := fun _ => fun
  | [d] => { results := [.lit (.bool true)], args := [d] }
  | _ => none }
def fnExactRectAreaRow : OpenClaim := { program := "ytljjillfdjcjiaa", sum := "bbb6c8b8a09dc7f122b17b848d40a9ed697c2d243d0545319e49780fd83565d0", func := "loop.example/g00890/laws.FnExactRectArea", spec := "fnExactRectArea", apart := false }
def FnExactRectAreaSaid : Prop := fnExactRectAreaRow.holds Try.pinned (OpenSpec.ofChange fnExactRectAreaSpec)

/-- ITS FALSE NEIGHBOUR: 'it returns false'. Refute it at one input. -/
def fnExactRectAreaWrong : ChangeSpec := { name := "fnExactRectArea", fn := fun _ => fun
  | [d] => { results := [.lit (.bool false)], args := [d] }
  | _ => none }
def FnExactRectAreaWrongFalsely : Prop := fnExactRectAreaRow.holds Try.pinned (OpenSpec.ofChange fnExactRectAreaWrong)

/-- 'laws.FnExactRectsAbut': WHATEVER THE INPUT: true; the input reads as it did. -/
def fnExactRectsAbutSpec : ChangeSpec := { name := "fnExactRectsAbut", fn := fun _ => fun
  | [d1, d2] => { results := [.lit (.bool true)], args := [d1, d2] }
  | _ => none }
def fnExactRectsAbutRow : OpenClaim := { program := "ytljjillfdjcjiaa", sum := "bbb6c8b8a09dc7f122b17b848d40a9ed697c2d243d0545319e49780fd83565d0", func := "loop.example/g00890/laws.FnExactRectsAbut", spec := "fnExactRectsAbut", apart := false }
def FnExactRectsAbutSaid : Prop := fnExactRectsAbutRow.holds Try.pinned (OpenSpec.ofChange fnExactRectsAbutSpec)

/-- ITS FALSE NEIGHBOUR: 'it returns false'. Refute it at one input. -/
def fnExactRectsAbutWrong : ChangeSpec := { name := "fnExactRectsAbut", fn := fun _ => fun
  | [d1, d2] => { results := [.lit (.bool false)], args := [d1, d2] }
  | _ => none }
def FnExactRectsAbutWrongFalsely : Prop := fnExactRectsAbutRow.holds Try.pinned (OpenSpec.ofChange fnExactRectsAbutWrong)

/-- 'laws.FnExactRectGap': WHATEVER THE INPUT: true; the input reads as it did. -/
def fnExactRectGapSpec : ChangeSpec := { name := "fnExactRectGap", fn := fun _ => fun
  | [d1, d2] => { results := [.lit (.bool true)], args := [d1, d2] }
  | _ => none }
def fnExactRectGapRow : OpenClaim := { program := "ytljjillfdjcjiaa", sum := "bbb6c8b8a09dc7f122b17b848d40a9ed697c2d243d0545319e49780fd83565d0", func := "loop.example/g00890/laws.FnExactRectGap", spec := "fnExactRectGap", apart := false }
def FnExactRectGapSaid : Prop := fnExactRectGapRow.holds Try.pinned (OpenSpec.ofChange fnExactRectGapSpec)

/-- ITS FALSE NEIGHBOUR: 'it returns false'. Refute it at one input. -/
def fnExactRectGapWrong : ChangeSpec := { name := "fnExactRectGap", fn := fun _ => fun
  | [d1, d2] => { results := [.lit (.bool false)], args := [d1, d2] }
  | _ => none }
def FnExactRectGapWrongFalsely : Prop := fnExactRectGapRow.holds Try.pinned (OpenSpec.ofChange fnExactRectGapWrong)

/-- 'laws.FnExactEdgeLength': WHATEVER THE INPUT: true; the input reads as it did. -/
def fnExactEdgeLengthSpec : ChangeSpec := { name := "fnExactEdgeLength", fn := fun _ => fun
  | [d] => { results := [.lit (.bool true)], args := [d] }
  | _ => none }
def fnExactEdgeLengthRow : OpenClaim := { program := "ytljjillfdjcjiaa", sum := "bbb6c8b8a09dc7f122b17b848d40a9ed697c2d243d0545319e49780fd83565d0", func := "loop.example/g00890/laws.FnExactEdgeLength", spec := "fnExactEdgeLength", apart := false }
def FnExactEdgeLengthSaid : Prop := fnExactEdgeLengthRow.holds Try.pinned (OpenSpec.ofChange fnExactEdgeLengthSpec)

/-- ITS FALSE NEIGHBOUR: 'it returns false'. Refute it at one input. -/
def fnExactEdgeLengthWrong : ChangeSpec := { name := "fnExactEdgeLength", fn := fun _ => fun
  | [d] => { results := [.lit (.bool false)], args := [d] }
  | _ => none }
def FnExactEdgeLengthWrongFalsely : Prop := fnExactEdgeLengthRow.holds Try.pinned (OpenSpec.ofChange fnExactEdgeLengthWrong)

/-- 'laws.FnExactComposeOrientations': WHATEVER THE INPUT: true; the input reads as it did. -/
def fnExactComposeOrientationsSpec : ChangeSpec := { name := "fnExactComposeOrientations", fn := fun _ => fun
  | [d1, d2] => { results := [.lit (.bool true)], args := [d1, d2] }
  | _ => none }
def fnExactComposeOrientationsRow : OpenClaim := { program := "ytljjillfdjcjiaa", sum := "bbb6c8b8a09dc7f122b17b848d40a9ed697c2d243d0545319e49780fd83565d0", func := "loop.example/g00890/laws.FnExactComposeOrientations", spec := "fnExactComposeOrientations", apart := false }
def FnExactComposeOrientationsSaid : Prop := fnExactComposeOrientationsRow.holds Try.pinned (OpenSpec.ofChange fnExactComposeOrientationsSpec)

/-- ITS FALSE NEIGHBOUR: 'it returns false'. Refute it at one input. -/
def fnExactComposeOrientationsWrong : ChangeSpec := { name := "fnExactComposeOrientations", fn := fun _ => fun
  | [d1, d2] => { results := [.lit (.bool false)], args := [d1, d2] }
  | _ => none }
def FnExactComposeOrientationsWrongFalsely : Prop := fnExactComposeOrientationsRow.holds Try.pinned (OpenSpec.ofChange fnExactComposeOrientationsWrong)

/-- 'laws.FnExactIntersectRects': WHATEVER THE INPUT: true; the input reads as it did. -/
def fnExactIntersectRectsSpec : ChangeSpec := { name := "fnExactIntersectRects", fn := fun _ => fun
  | [d1, d2] => { results := [.lit (.bool true)], args := [d1, d2] }
  | _ => none }
def fnExactIntersectRectsRow : OpenClaim := { program := "ytljjillfdjcjiaa", sum := "bbb6c8b8a09dc7f122b17b848d40a9ed697c2d243d0545319e49780fd83565d0", func := "loop.example/g00890/laws.FnExactIntersectRects", spec := "fnExactIntersectRects", apart := false }
def FnExactIntersectRectsSaid : Prop := fnExactIntersectRectsRow.holds Try.pinned (OpenSpec.ofChange fnExactIntersectRectsSpec)

/-- ITS FALSE NEIGHBOUR: 'it returns false'. Refute it at one input. -/
def fnExactIntersectRectsWrong : ChangeSpec := { name := "fnExactIntersectRects", fn := fun _ => fun
  | [d1, d2] => { results := [.lit (.bool false)], args := [d1, d2] }
  | _ => none }
def FnExactIntersectRectsWrongFalsely : Prop := fnExactIntersectRectsRow.holds Try.pinned (OpenSpec.ofChange fnExactIntersectRectsWrong)

/-- 'laws.FnExactRectLess': WHATEVER THE INPUT: true; the input reads as it did. -/
def fnExactRectLessSpec : ChangeSpec := { name := "fnExactRectLess", fn := fun _ => fun
  | [d1, d2] => { results := [.lit (.bool true)], args := [d1, d2] }
  | _ => none }
def fnExactRectLessRow : OpenClaim := { program := "ytljjillfdjcjiaa", sum := "bbb6c8b8a09dc7f122b17b848d40a9ed697c2d243d0545319e49780fd83565d0", func := "loop.example/g00890/laws.FnExactRectLess", spec := "fnExactRectLess", apart := false }
def FnExactRectLessSaid : Prop := fnExactRectLessRow.holds Try.pinned (OpenSpec.ofChange fnExactRectLessSpec)

/-- ITS FALSE NEIGHBOUR: 'it returns false'. Refute it at one input. -/
def fnExactRectLessWrong : ChangeSpec := { name := "fnExactRectLess", fn := fun _ => fun
  | [d1, d2] => { results := [.lit (.bool false)], args := [d1, d2] }
  | _ => none }
def FnExactRectLessWrongFalsely : Prop := fnExactRectLessRow.holds Try.pinned (OpenSpec.ofChange fnExactRectLessWrong)

/- THE SECOND FORM. 'bulk': how many values and letters a reading holds, each counted each time it is reached (what is shared counts as often as it is met; a slice's spare places count too). A statement '..UptoSaid' is the law's where the arguments, and the package variables that the reading takes, are together of bulk at most 1048576: NARROWER than '..Said'. Prove '..Said' where nothing that the law and all that it calls make is longer than what came in: it says more and counts as full. Else prove '..UptoSaid'. A law counts once. -/
mutual
def uptoBulk {H : Type} : DataW H → Nat
  | .lit (.string bytes) => bytes.length + 1
  | .lit _ => 1
  | .nil => 1
  | .ptr d => uptoBulk d + 1
  | .slice elems spare => uptoBulkAll elems + uptoBulkAll spare + 1
  | .agg parts => uptoBulkAll parts + 1
  | .iface _ d => uptoBulk d + 1
  | .map entries => uptoBulkEntries entries + 1
  | .held _ => 1
def uptoBulkAll {H : Type} : List (DataW H) → Nat
  | [] => 0
  | d :: r => uptoBulk d + uptoBulkAll r
def uptoBulkEntries {H : Type} : List (Lit × DataW H) → Nat
  | [] => 0
  | x :: r => uptoBulkEntry x + uptoBulkEntries r
def uptoBulkEntry {H : Type} : Lit × DataW H → Nat
  | (.string bytes, d) => bytes.length + uptoBulk d + 1
  | (_, d) => uptoBulk d + 1
 end
def uptoSmall : (H : Type) → List (DataW H) → Bool := fun _ ds => decide (uptoBulkAll ds ≤ 1048576)
def OpenSpec.upto (s : _root_.Go.ChangeSpec) : _root_.Go.OpenSpec := { _root_.Go.OpenSpec.ofChange s with cond := some uptoSmall }

/-- 'laws.FnExactConstants', WHERE WHAT IT READS IS OF BULK AT MOST 1048576: true; the input reads as it did. -/
def fnExactConstantsUptoRow : OpenClaim := { program := "ytljjillfdjcjiaa", sum := "bbb6c8b8a09dc7f122b17b848d40a9ed697c2d243d0545319e49780fd83565d0", func := "loop.example/g00890/laws.FnExactConstants", spec := "fnExactConstants", apart := false, narrowed := true }
def FnExactConstantsUptoSaid : Prop := fnExactConstantsUptoRow.holds Try.pinned (OpenSpec.upto fnExactConstantsSpec)

/-- 'laws.FnExactIsValidRect', WHERE WHAT IT READS IS OF BULK AT MOST 1048576: true; the input reads as it did. -/
def fnExactIsValidRectUptoRow : OpenClaim := { program := "ytljjillfdjcjiaa", sum := "bbb6c8b8a09dc7f122b17b848d40a9ed697c2d243d0545319e49780fd83565d0", func := "loop.example/g00890/laws.FnExactIsValidRect", spec := "fnExactIsValidRect", apart := false, narrowed := true }
def FnExactIsValidRectUptoSaid : Prop := fnExactIsValidRectUptoRow.holds Try.pinned (OpenSpec.upto fnExactIsValidRectSpec)

/-- 'laws.FnExactIsValidTransform', WHERE WHAT IT READS IS OF BULK AT MOST 1048576: true; the input reads as it did. -/
def fnExactIsValidTransformUptoRow : OpenClaim := { program := "ytljjillfdjcjiaa", sum := "bbb6c8b8a09dc7f122b17b848d40a9ed697c2d243d0545319e49780fd83565d0", func := "loop.example/g00890/laws.FnExactIsValidTransform", spec := "fnExactIsValidTransform", apart := false, narrowed := true }
def FnExactIsValidTransformUptoSaid : Prop := fnExactIsValidTransformUptoRow.holds Try.pinned (OpenSpec.upto fnExactIsValidTransformSpec)

/-- 'laws.FnExactRectContains', WHERE WHAT IT READS IS OF BULK AT MOST 1048576: true; the input reads as it did. -/
def fnExactRectContainsUptoRow : OpenClaim := { program := "ytljjillfdjcjiaa", sum := "bbb6c8b8a09dc7f122b17b848d40a9ed697c2d243d0545319e49780fd83565d0", func := "loop.example/g00890/laws.FnExactRectContains", spec := "fnExactRectContains", apart := false, narrowed := true }
def FnExactRectContainsUptoSaid : Prop := fnExactRectContainsUptoRow.holds Try.pinned (OpenSpec.upto fnExactRectContainsSpec)

/-- 'laws.FnExactRectsOverlap', WHERE WHAT IT READS IS OF BULK AT MOST 1048576: true; the input reads as it did. -/
def fnExactRectsOverlapUptoRow : OpenClaim := { program := "ytljjillfdjcjiaa", sum := "bbb6c8b8a09dc7f122b17b848d40a9ed697c2d243d0545319e49780fd83565d0", func := "loop.example/g00890/laws.FnExactRectsOverlap", spec := "fnExactRectsOverlap", apart := false, narrowed := true }
def FnExactRectsOverlapUptoSaid : Prop := fnExactRectsOverlapUptoRow.holds Try.pinned (OpenSpec.upto fnExactRectsOverlapSpec)

/-- 'laws.FnExactRectArea', WHERE WHAT IT READS IS OF BULK AT MOST 1048576: true; the input reads as it did. -/
def fnExactRectAreaUptoRow : OpenClaim := { program := "ytljjillfdjcjiaa", sum := "bbb6c8b8a09dc7f122b17b848d40a9ed697c2d243d0545319e49780fd83565d0", func := "loop.example/g00890/laws.FnExactRectArea", spec := "fnExactRectArea", apart := false, narrowed := true }
def FnExactRectAreaUptoSaid : Prop := fnExactRectAreaUptoRow.holds Try.pinned (OpenSpec.upto fnExactRectAreaSpec)

/-- 'laws.FnExactRectsAbut', WHERE WHAT IT READS IS OF BULK AT MOST 1048576: true; the input reads as it did. -/
def fnExactRectsAbutUptoRow : OpenClaim := { program := "ytljjillfdjcjiaa", sum := "bbb6c8b8a09dc7f122b17b848d40a9ed697c2d243d0545319e49780fd83565d0", func := "loop.example/g00890/laws.FnExactRectsAbut", spec := "fnExactRectsAbut", apart := false, narrowed := true }
def FnExactRectsAbutUptoSaid : Prop := fnExactRectsAbutUptoRow.holds Try.pinned (OpenSpec.upto fnExactRectsAbutSpec)

/-- 'laws.FnExactRectGap', WHERE WHAT IT READS IS OF BULK AT MOST 1048576: true; the input reads as it did. -/
def fnExactRectGapUptoRow : OpenClaim := { program := "ytljjillfdjcjiaa", sum := "bbb6c8b8a09dc7f122b17b848d40a9ed697c2d243d0545319e49780fd83565d0", func := "loop.example/g00890/laws.FnExactRectGap", spec := "fnExactRectGap", apart := false, narrowed := true }
def FnExactRectGapUptoSaid : Prop := fnExactRectGapUptoRow.holds Try.pinned (OpenSpec.upto fnExactRectGapSpec)

/-- 'laws.FnExactEdgeLength', WHERE WHAT IT READS IS OF BULK AT MOST 1048576: true; the input reads as it did. -/
def fnExactEdgeLengthUptoRow : OpenClaim := { program := "ytljjillfdjcjiaa", sum := "bbb6c8b8a09dc7f122b17b848d40a9ed697c2d243d0545319e49780fd83565d0", func := "loop.example/g00890/laws.FnExactEdgeLength", spec := "fnExactEdgeLength", apart := false, narrowed := true }
def FnExactEdgeLengthUptoSaid : Prop := fnExactEdgeLengthUptoRow.holds Try.pinned (OpenSpec.upto fnExactEdgeLengthSpec)

/-- 'laws.FnExactComposeOrientations', WHERE WHAT IT READS IS OF BULK AT MOST 1048576: true; the input reads as it did. -/
def fnExactComposeOrientationsUptoRow : OpenClaim := { program := "ytljjillfdjcjiaa", sum := "bbb6c8b8a09dc7f122b17b848d40a9ed697c2d243d0545319e49780fd83565d0", func := "loop.example/g00890/laws.FnExactComposeOrientations", spec := "fnExactComposeOrientations", apart := false, narrowed := true }
def FnExactComposeOrientationsUptoSaid : Prop := fnExactComposeOrientationsUptoRow.holds Try.pinned (OpenSpec.upto fnExactComposeOrientationsSpec)

/-- 'laws.FnExactIntersectRects', WHERE WHAT IT READS IS OF BULK AT MOST 1048576: true; the input reads as it did. -/
def fnExactIntersectRectsUptoRow : OpenClaim := { program := "ytljjillfdjcjiaa", sum := "bbb6c8b8a09dc7f122b17b848d40a9ed697c2d243d0545319e49780fd83565d0", func := "loop.example/g00890/laws.FnExactIntersectRects", spec := "fnExactIntersectRects", apart := false, narrowed := true }
def FnExactIntersectRectsUptoSaid : Prop := fnExactIntersectRectsUptoRow.holds Try.pinned (OpenSpec.upto fnExactIntersectRectsSpec)

/-- 'laws.FnExactRectLess', WHERE WHAT IT READS IS OF BULK AT MOST 1048576: true; the input reads as it did. -/
def fnExactRectLessUptoRow : OpenClaim := { program := "ytljjillfdjcjiaa", sum := "bbb6c8b8a09dc7f122b17b848d40a9ed697c2d243d0545319e49780fd83565d0", func := "loop.example/g00890/laws.FnExactRectLess", spec := "fnExactRectLess", apart := false, narrowed := true }
def FnExactRectLessUptoSaid : Prop := fnExactRectLessUptoRow.holds Try.pinned (OpenSpec.upto fnExactRectLessSpec)

end Rows
end Go.Proofs.Ytljjillfdjcjiaa
