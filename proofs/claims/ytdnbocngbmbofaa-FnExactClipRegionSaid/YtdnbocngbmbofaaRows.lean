/-
  No cell of these rows narrows 'for every input' (looked for: loops, veiled, ifaces, maps, wideKeys, modest, calm, conditions, laid).
  DERIVED. THE GIVEN ROWS OF THIS SEAT. 12 by the template 'for every input the law returns true; each argument reads behind the call as it read before'; 0 by the template 'total and deterministic' (their statements: YtdnbocngbmbofaaTotals.lean).
  GIVEN WITH THE SEED: the statements are not yours to turn. If you find one false, say at which input.
  Laid BY PROGRAM, IN A SANDBOX (cutbox-rows.mjs): the forced cells as the released guide's own fill.sh prints them over the translation 6f3949cf4223aea3… (all of the seat's roots in one cut). By AI agents, Wed Nov 11 2026. No macro, syntax, notation, axiom, sorry.
-/
import Derived.Test.YtdnbocngbmbofaaChecked
import GoSem.Claim
import GoSem.ClaimJoined
import GoSem.ClaimMapViews
import Derived.JoinedTies
import Derived.KernelRfl
namespace Go.Proofs.Ytdnbocngbmbofaa
/- THE CELL 'sum', in the pinned program and in every row, IS THE sha256 OF THE DUMP (.gsa) THAT YtdnbocngbmbofaaProg.lean LOADS. Nothing in Lean hashes anything: it is a label: what it is worth is what the hold of that sum in a sandbox is worth. -/
noncomputable def Try.pinned : Pinned := { name := "ytdnbocngbmbofaa", sum := "6f3949cf4223aea3916f4cb9d62eca0f614659e2ffe38c43b6dad3041c539df9", checked := Try.checked }
namespace Rows
def none {H : Type} : Left H := { results := [], args := [] }

/-- 'laws.FnExactRegionRow': WHATEVER THE INPUT: true; the input reads as it did. -/
def fnExactRegionRowSpec : ChangeSpec := { name := "fnExactRegionRow", fn := fun _ => fun
  | [d1, d2] => { results := [.lit (.bool true)], args := [d1, d2] }
  | _ => none }
def fnExactRegionRowRow : OpenClaim := { program := "ytdnbocngbmbofaa", sum := "6f3949cf4223aea3916f4cb9d62eca0f614659e2ffe38c43b6dad3041c539df9", func := "loop.example/g00890/laws.FnExactRegionRow", spec := "fnExactRegionRow", apart := false }
def FnExactRegionRowSaid : Prop := fnExactRegionRowRow.holds Try.pinned (OpenSpec.ofChange fnExactRegionRowSpec)

/-- ITS FALSE NEIGHBOUR: 'it returns false'. Refute it at one input. -/
def fnExactRegionRowWrong : ChangeSpec := { name := "fnExactRegionRow", fn := fun _ => fun
  | [d1, d2] => { results := [.lit (.bool false)], args := [d1, d2] }
  | _ => none }
def FnExactRegionRowWrongFalsely : Prop := fnExactRegionRowRow.holds Try.pinned (OpenSpec.ofChange fnExactRegionRowWrong)

/-- 'laws.FnExactClipRegion': WHATEVER THE INPUT: true; the input reads as it did. -/
def fnExactClipRegionSpec : ChangeSpec := { name := "fnExactClipRegion", fn := fun _ => fun
  | [d1, d2] => { results := [.lit (.bool true)], args := [d1, d2] }
  | _ => none }
def fnExactClipRegionRow : OpenClaim := { program := "ytdnbocngbmbofaa", sum := "6f3949cf4223aea3916f4cb9d62eca0f614659e2ffe38c43b6dad3041c539df9", func := "loop.example/g00890/laws.FnExactClipRegion", spec := "fnExactClipRegion", apart := false }
def FnExactClipRegionSaid : Prop := fnExactClipRegionRow.holds Try.pinned (OpenSpec.ofChange fnExactClipRegionSpec)

/-- ITS FALSE NEIGHBOUR: 'it returns false'. Refute it at one input. -/
def fnExactClipRegionWrong : ChangeSpec := { name := "fnExactClipRegion", fn := fun _ => fun
  | [d1, d2] => { results := [.lit (.bool false)], args := [d1, d2] }
  | _ => none }
def FnExactClipRegionWrongFalsely : Prop := fnExactClipRegionRow.holds Try.pinned (OpenSpec.ofChange fnExactClipRegionWrong)

/-- 'laws.FnExactCornerCounts': WHATEVER THE INPUT: true; the input reads as it did. -/
def fnExactCornerCountsSpec : ChangeSpec := { name := "fnExactCornerCounts", fn := fun _ => fun
  | [d] => { results := [.lit (.bool true)], args := [d] }
  | _ => none }
def fnExactCornerCountsRow : OpenClaim := { program := "ytdnbocngbmbofaa", sum := "6f3949cf4223aea3916f4cb9d62eca0f614659e2ffe38c43b6dad3041c539df9", func := "loop.example/g00890/laws.FnExactCornerCounts", spec := "fnExactCornerCounts", apart := false }
def FnExactCornerCountsSaid : Prop := fnExactCornerCountsRow.holds Try.pinned (OpenSpec.ofChange fnExactCornerCountsSpec)

/-- ITS FALSE NEIGHBOUR: 'it returns false'. Refute it at one input. -/
def fnExactCornerCountsWrong : ChangeSpec := { name := "fnExactCornerCounts", fn := fun _ => fun
  | [d] => { results := [.lit (.bool false)], args := [d] }
  | _ => none }
def FnExactCornerCountsWrongFalsely : Prop := fnExactCornerCountsRow.holds Try.pinned (OpenSpec.ofChange fnExactCornerCountsWrong)

/-- 'laws.FnExactComplement': WHATEVER THE INPUT: true; the input reads as it did. -/
def fnExactComplementSpec : ChangeSpec := { name := "fnExactComplement", fn := fun _ => fun
  | [d] => { results := [.lit (.bool true)], args := [d] }
  | _ => none }
def fnExactComplementRow : OpenClaim := { program := "ytdnbocngbmbofaa", sum := "6f3949cf4223aea3916f4cb9d62eca0f614659e2ffe38c43b6dad3041c539df9", func := "loop.example/g00890/laws.FnExactComplement", spec := "fnExactComplement", apart := false }
def FnExactComplementSaid : Prop := fnExactComplementRow.holds Try.pinned (OpenSpec.ofChange fnExactComplementSpec)

/-- ITS FALSE NEIGHBOUR: 'it returns false'. Refute it at one input. -/
def fnExactComplementWrong : ChangeSpec := { name := "fnExactComplement", fn := fun _ => fun
  | [d] => { results := [.lit (.bool false)], args := [d] }
  | _ => none }
def FnExactComplementWrongFalsely : Prop := fnExactComplementRow.holds Try.pinned (OpenSpec.ofChange fnExactComplementWrong)

/-- 'laws.FnExactGrow': WHATEVER THE INPUT: true; the input reads as it did. -/
def fnExactGrowSpec : ChangeSpec := { name := "fnExactGrow", fn := fun _ => fun
  | [d1, d2] => { results := [.lit (.bool true)], args := [d1, d2] }
  | _ => none }
def fnExactGrowRow : OpenClaim := { program := "ytdnbocngbmbofaa", sum := "6f3949cf4223aea3916f4cb9d62eca0f614659e2ffe38c43b6dad3041c539df9", func := "loop.example/g00890/laws.FnExactGrow", spec := "fnExactGrow", apart := false }
def FnExactGrowSaid : Prop := fnExactGrowRow.holds Try.pinned (OpenSpec.ofChange fnExactGrowSpec)

/-- ITS FALSE NEIGHBOUR: 'it returns false'. Refute it at one input. -/
def fnExactGrowWrong : ChangeSpec := { name := "fnExactGrow", fn := fun _ => fun
  | [d1, d2] => { results := [.lit (.bool false)], args := [d1, d2] }
  | _ => none }
def FnExactGrowWrongFalsely : Prop := fnExactGrowRow.holds Try.pinned (OpenSpec.ofChange fnExactGrowWrong)

/-- 'laws.FnExactDifference': WHATEVER THE INPUT: true; the input reads as it did. -/
def fnExactDifferenceSpec : ChangeSpec := { name := "fnExactDifference", fn := fun _ => fun
  | [d1, d2] => { results := [.lit (.bool true)], args := [d1, d2] }
  | _ => none }
def fnExactDifferenceRow : OpenClaim := { program := "ytdnbocngbmbofaa", sum := "6f3949cf4223aea3916f4cb9d62eca0f614659e2ffe38c43b6dad3041c539df9", func := "loop.example/g00890/laws.FnExactDifference", spec := "fnExactDifference", unfollowed := true, recurses := true, apart := false }
def FnExactDifferenceSaid : Prop := fnExactDifferenceRow.holds Try.pinned (OpenSpec.ofChange fnExactDifferenceSpec)

/-- ITS FALSE NEIGHBOUR: 'it returns false'. Refute it at one input. -/
def fnExactDifferenceWrong : ChangeSpec := { name := "fnExactDifference", fn := fun _ => fun
  | [d1, d2] => { results := [.lit (.bool false)], args := [d1, d2] }
  | _ => none }
def FnExactDifferenceWrongFalsely : Prop := fnExactDifferenceRow.holds Try.pinned (OpenSpec.ofChange fnExactDifferenceWrong)

/-- 'laws.FnExactIntersection': WHATEVER THE INPUT: true; the input reads as it did. -/
def fnExactIntersectionSpec : ChangeSpec := { name := "fnExactIntersection", fn := fun _ => fun
  | [d1, d2] => { results := [.lit (.bool true)], args := [d1, d2] }
  | _ => none }
def fnExactIntersectionRow : OpenClaim := { program := "ytdnbocngbmbofaa", sum := "6f3949cf4223aea3916f4cb9d62eca0f614659e2ffe38c43b6dad3041c539df9", func := "loop.example/g00890/laws.FnExactIntersection", spec := "fnExactIntersection", unfollowed := true, recurses := true, apart := false }
def FnExactIntersectionSaid : Prop := fnExactIntersectionRow.holds Try.pinned (OpenSpec.ofChange fnExactIntersectionSpec)

/-- ITS FALSE NEIGHBOUR: 'it returns false'. Refute it at one input. -/
def fnExactIntersectionWrong : ChangeSpec := { name := "fnExactIntersection", fn := fun _ => fun
  | [d1, d2] => { results := [.lit (.bool false)], args := [d1, d2] }
  | _ => none }
def FnExactIntersectionWrongFalsely : Prop := fnExactIntersectionRow.holds Try.pinned (OpenSpec.ofChange fnExactIntersectionWrong)

/-- 'laws.FnExactSymmetricDifference': WHATEVER THE INPUT: true; the input reads as it did. -/
def fnExactSymmetricDifferenceSpec : ChangeSpec := { name := "fnExactSymmetricDifference", fn := fun _ => fun
  | [d1, d2] => { results := [.lit (.bool true)], args := [d1, d2] }
  | _ => none }
def fnExactSymmetricDifferenceRow : OpenClaim := { program := "ytdnbocngbmbofaa", sum := "6f3949cf4223aea3916f4cb9d62eca0f614659e2ffe38c43b6dad3041c539df9", func := "loop.example/g00890/laws.FnExactSymmetricDifference", spec := "fnExactSymmetricDifference", unfollowed := true, recurses := true, apart := false }
def FnExactSymmetricDifferenceSaid : Prop := fnExactSymmetricDifferenceRow.holds Try.pinned (OpenSpec.ofChange fnExactSymmetricDifferenceSpec)

/-- ITS FALSE NEIGHBOUR: 'it returns false'. Refute it at one input. -/
def fnExactSymmetricDifferenceWrong : ChangeSpec := { name := "fnExactSymmetricDifference", fn := fun _ => fun
  | [d1, d2] => { results := [.lit (.bool false)], args := [d1, d2] }
  | _ => none }
def FnExactSymmetricDifferenceWrongFalsely : Prop := fnExactSymmetricDifferenceRow.holds Try.pinned (OpenSpec.ofChange fnExactSymmetricDifferenceWrong)

/-- 'laws.FnExactUnion': WHATEVER THE INPUT: true; the input reads as it did. -/
def fnExactUnionSpec : ChangeSpec := { name := "fnExactUnion", fn := fun _ => fun
  | [d1, d2] => { results := [.lit (.bool true)], args := [d1, d2] }
  | _ => none }
def fnExactUnionRow : OpenClaim := { program := "ytdnbocngbmbofaa", sum := "6f3949cf4223aea3916f4cb9d62eca0f614659e2ffe38c43b6dad3041c539df9", func := "loop.example/g00890/laws.FnExactUnion", spec := "fnExactUnion", unfollowed := true, recurses := true, apart := false }
def FnExactUnionSaid : Prop := fnExactUnionRow.holds Try.pinned (OpenSpec.ofChange fnExactUnionSpec)

/-- ITS FALSE NEIGHBOUR: 'it returns false'. Refute it at one input. -/
def fnExactUnionWrong : ChangeSpec := { name := "fnExactUnion", fn := fun _ => fun
  | [d1, d2] => { results := [.lit (.bool false)], args := [d1, d2] }
  | _ => none }
def FnExactUnionWrongFalsely : Prop := fnExactUnionRow.holds Try.pinned (OpenSpec.ofChange fnExactUnionWrong)

/-- 'laws.FnExactShrink': WHATEVER THE INPUT: true; the input reads as it did. -/
def fnExactShrinkSpec : ChangeSpec := { name := "fnExactShrink", fn := fun _ => fun
  | [d1, d2] => { results := [.lit (.bool true)], args := [d1, d2] }
  | _ => none }
def fnExactShrinkRow : OpenClaim := { program := "ytdnbocngbmbofaa", sum := "6f3949cf4223aea3916f4cb9d62eca0f614659e2ffe38c43b6dad3041c539df9", func := "loop.example/g00890/laws.FnExactShrink", spec := "fnExactShrink", apart := false }
def FnExactShrinkSaid : Prop := fnExactShrinkRow.holds Try.pinned (OpenSpec.ofChange fnExactShrinkSpec)

/-- ITS FALSE NEIGHBOUR: 'it returns false'. Refute it at one input. -/
def fnExactShrinkWrong : ChangeSpec := { name := "fnExactShrink", fn := fun _ => fun
  | [d1, d2] => { results := [.lit (.bool false)], args := [d1, d2] }
  | _ => none }
def FnExactShrinkWrongFalsely : Prop := fnExactShrinkRow.holds Try.pinned (OpenSpec.ofChange fnExactShrinkWrong)

/-- 'laws.FnExactClosing': WHATEVER THE INPUT: true; the input reads as it did. -/
def fnExactClosingSpec : ChangeSpec := { name := "fnExactClosing", fn := fun _ => fun
  | [d1, d2] => { results := [.lit (.bool true)], args := [d1, d2] }
  | _ => none }
def fnExactClosingRow : OpenClaim := { program := "ytdnbocngbmbofaa", sum := "6f3949cf4223aea3916f4cb9d62eca0f614659e2ffe38c43b6dad3041c539df9", func := "loop.example/g00890/laws.FnExactClosing", spec := "fnExactClosing", apart := false }
def FnExactClosingSaid : Prop := fnExactClosingRow.holds Try.pinned (OpenSpec.ofChange fnExactClosingSpec)

/-- ITS FALSE NEIGHBOUR: 'it returns false'. Refute it at one input. -/
def fnExactClosingWrong : ChangeSpec := { name := "fnExactClosing", fn := fun _ => fun
  | [d1, d2] => { results := [.lit (.bool false)], args := [d1, d2] }
  | _ => none }
def FnExactClosingWrongFalsely : Prop := fnExactClosingRow.holds Try.pinned (OpenSpec.ofChange fnExactClosingWrong)

/-- 'laws.FnExactOpening': WHATEVER THE INPUT: true; the input reads as it did. -/
def fnExactOpeningSpec : ChangeSpec := { name := "fnExactOpening", fn := fun _ => fun
  | [d1, d2] => { results := [.lit (.bool true)], args := [d1, d2] }
  | _ => none }
def fnExactOpeningRow : OpenClaim := { program := "ytdnbocngbmbofaa", sum := "6f3949cf4223aea3916f4cb9d62eca0f614659e2ffe38c43b6dad3041c539df9", func := "loop.example/g00890/laws.FnExactOpening", spec := "fnExactOpening", apart := false }
def FnExactOpeningSaid : Prop := fnExactOpeningRow.holds Try.pinned (OpenSpec.ofChange fnExactOpeningSpec)

/-- ITS FALSE NEIGHBOUR: 'it returns false'. Refute it at one input. -/
def fnExactOpeningWrong : ChangeSpec := { name := "fnExactOpening", fn := fun _ => fun
  | [d1, d2] => { results := [.lit (.bool false)], args := [d1, d2] }
  | _ => none }
def FnExactOpeningWrongFalsely : Prop := fnExactOpeningRow.holds Try.pinned (OpenSpec.ofChange fnExactOpeningWrong)

/- THE SECOND FORM. 'bulk': how many values and letters a reading holds, each counted each time it is reached (what is shared counts as often as it is met; a slice's spare places count too). A statement '..UptoSaid' is the law's where the arguments, and the package variables that the reading takes, are together of bulk at most 1048576: NARROWER than '..Said'. Prove '..Said' where nothing that the law and all that it calls make is longer than what came in: it says more and counts as full. Else prove '..UptoSaid'. A law counts once. -/
mutual
def uptoBulk {H : Type} : DataW H → Nat
  | .lit (.string bytes) => bytes.length + 1
  | .lit _ => 1
  | .nil => 1
  | .ptr d => uptoBulk d + 1
  | .slice elems spare => uptoBulkAll elems + uptoBulkAll spare + 1
  | .agg parts => uptoBulkAll parts + 1
  | .iface _ d => uptoBulk d + 1
  | .map entries => uptoBulkEntries entries + 1
  | .held _ => 1
def uptoBulkAll {H : Type} : List (DataW H) → Nat
  | [] => 0
  | d :: r => uptoBulk d + uptoBulkAll r
def uptoBulkEntries {H : Type} : List (Lit × DataW H) → Nat
  | [] => 0
  | x :: r => uptoBulkEntry x + uptoBulkEntries r
def uptoBulkEntry {H : Type} : Lit × DataW H → Nat
  | (.string bytes, d) => bytes.length + uptoBulk d + 1
  | (_, d) => uptoBulk d + 1
 end
def uptoSmall : (H : Type) → List (DataW H) → Bool := fun _ ds => decide (uptoBulkAll ds ≤ 1048576)
def OpenSpec.upto (s : _root_.Go.ChangeSpec) : _root_.Go.OpenSpec := { _root_.Go.OpenSpec.ofChange s with cond := some uptoSmall }

/-- 'laws.FnExactRegionRow', WHERE WHAT IT READS IS OF BULK AT MOST 1048576: true; the input reads as it did. -/
def fnExactRegionRowUptoRow : OpenClaim := { program := "ytdnbocngbmbofaa", sum := "6f3949cf4223aea3916f4cb9d62eca0f614659e2ffe38c43b6dad3041c539df9", func := "loop.example/g00890/laws.FnExactRegionRow", spec := "fnExactRegionRow", apart := false, narrowed := true }
def FnExactRegionRowUptoSaid : Prop := fnExactRegionRowUptoRow.holds Try.pinned (OpenSpec.upto fnExactRegionRowSpec)

/-- 'laws.FnExactClipRegion', WHERE WHAT IT READS IS OF BULK AT MOST 1048576: true; the input reads as it did. -/
def fnExactClipRegionUptoRow : OpenClaim := { program := "ytdnbocngbmbofaa", sum := "6f3949cf4223aea3916f4cb9d62eca0f614659e2ffe38c43b6dad3041c539df9", func := "loop.example/g00890/laws.FnExactClipRegion", spec := "fnExactClipRegion", apart := false, narrowed := true }
def FnExactClipRegionUptoSaid : Prop := fnExactClipRegionUptoRow.holds Try.pinned (OpenSpec.upto fnExactClipRegionSpec)

/-- 'laws.FnExactCornerCounts', WHERE WHAT IT READS IS OF BULK AT MOST 1048576: true; the input reads as it did. -/
def fnExactCornerCountsUptoRow : OpenClaim := { program := "ytdnbocngbmbofaa", sum := "6f3949cf4223aea3916f4cb9d62eca0f614659e2ffe38c43b6dad3041c539df9", func := "loop.example/g00890/laws.FnExactCornerCounts", spec := "fnExactCornerCounts", apart := false, narrowed := true }
def FnExactCornerCountsUptoSaid : Prop := fnExactCornerCountsUptoRow.holds Try.pinned (OpenSpec.upto fnExactCornerCountsSpec)

/-- 'laws.FnExactComplement', WHERE WHAT IT READS IS OF BULK AT MOST 1048576: true; the input reads as it did. -/
def fnExactComplementUptoRow : OpenClaim := { program := "ytdnbocngbmbofaa", sum := "6f3949cf4223aea3916f4cb9d62eca0f614659e2ffe38c43b6dad3041c539df9", func := "loop.example/g00890/laws.FnExactComplement", spec := "fnExactComplement", apart := false, narrowed := true }
def FnExactComplementUptoSaid : Prop := fnExactComplementUptoRow.holds Try.pinned (OpenSpec.upto fnExactComplementSpec)

/-- 'laws.FnExactGrow', WHERE WHAT IT READS IS OF BULK AT MOST 1048576: true; the input reads as it did. -/
def fnExactGrowUptoRow : OpenClaim := { program := "ytdnbocngbmbofaa", sum := "6f3949cf4223aea3916f4cb9d62eca0f614659e2ffe38c43b6dad3041c539df9", func := "loop.example/g00890/laws.FnExactGrow", spec := "fnExactGrow", apart := false, narrowed := true }
def FnExactGrowUptoSaid : Prop := fnExactGrowUptoRow.holds Try.pinned (OpenSpec.upto fnExactGrowSpec)

/-- 'laws.FnExactDifference', WHERE WHAT IT READS IS OF BULK AT MOST 1048576: true; the input reads as it did. -/
def fnExactDifferenceUptoRow : OpenClaim := { program := "ytdnbocngbmbofaa", sum := "6f3949cf4223aea3916f4cb9d62eca0f614659e2ffe38c43b6dad3041c539df9", func := "loop.example/g00890/laws.FnExactDifference", spec := "fnExactDifference", unfollowed := true, recurses := true, apart := false, narrowed := true }
def FnExactDifferenceUptoSaid : Prop := fnExactDifferenceUptoRow.holds Try.pinned (OpenSpec.upto fnExactDifferenceSpec)

/-- 'laws.FnExactIntersection', WHERE WHAT IT READS IS OF BULK AT MOST 1048576: true; the input reads as it did. -/
def fnExactIntersectionUptoRow : OpenClaim := { program := "ytdnbocngbmbofaa", sum := "6f3949cf4223aea3916f4cb9d62eca0f614659e2ffe38c43b6dad3041c539df9", func := "loop.example/g00890/laws.FnExactIntersection", spec := "fnExactIntersection", unfollowed := true, recurses := true, apart := false, narrowed := true }
def FnExactIntersectionUptoSaid : Prop := fnExactIntersectionUptoRow.holds Try.pinned (OpenSpec.upto fnExactIntersectionSpec)

/-- 'laws.FnExactSymmetricDifference', WHERE WHAT IT READS IS OF BULK AT MOST 1048576: true; the input reads as it did. -/
def fnExactSymmetricDifferenceUptoRow : OpenClaim := { program := "ytdnbocngbmbofaa", sum := "6f3949cf4223aea3916f4cb9d62eca0f614659e2ffe38c43b6dad3041c539df9", func := "loop.example/g00890/laws.FnExactSymmetricDifference", spec := "fnExactSymmetricDifference", unfollowed := true, recurses := true, apart := false, narrowed := true }
def FnExactSymmetricDifferenceUptoSaid : Prop := fnExactSymmetricDifferenceUptoRow.holds Try.pinned (OpenSpec.upto fnExactSymmetricDifferenceSpec)

/-- 'laws.FnExactUnion', WHERE WHAT IT READS IS OF BULK AT MOST 1048576: true; the input reads as it did. -/
def fnExactUnionUptoRow : OpenClaim := { program := "ytdnbocngbmbofaa", sum := "6f3949cf4223aea3916f4cb9d62eca0f614659e2ffe38c43b6dad3041c539df9", func := "loop.example/g00890/laws.FnExactUnion", spec := "fnExactUnion", unfollowed := true, recurses := true, apart := false, narrowed := true }
def FnExactUnionUptoSaid : Prop := fnExactUnionUptoRow.holds Try.pinned (OpenSpec.upto fnExactUnionSpec)

/-- 'laws.FnExactShrink', WHERE WHAT IT READS IS OF BULK AT MOST 1048576: true; the input reads as it did. -/
def fnExactShrinkUptoRow : OpenClaim := { program := "ytdnbocngbmbofaa", sum := "6f3949cf4223aea3916f4cb9d62eca0f614659e2ffe38c43b6dad3041c539df9", func := "loop.example/g00890/laws.FnExactShrink", spec := "fnExactShrink", apart := false, narrowed := true }
def FnExactShrinkUptoSaid : Prop := fnExactShrinkUptoRow.holds Try.pinned (OpenSpec.upto fnExactShrinkSpec)

/-- 'laws.FnExactClosing', WHERE WHAT IT READS IS OF BULK AT MOST 1048576: true; the input reads as it did. -/
def fnExactClosingUptoRow : OpenClaim := { program := "ytdnbocngbmbofaa", sum := "6f3949cf4223aea3916f4cb9d62eca0f614659e2ffe38c43b6dad3041c539df9", func := "loop.example/g00890/laws.FnExactClosing", spec := "fnExactClosing", apart := false, narrowed := true }
def FnExactClosingUptoSaid : Prop := fnExactClosingUptoRow.holds Try.pinned (OpenSpec.upto fnExactClosingSpec)

/-- 'laws.FnExactOpening', WHERE WHAT IT READS IS OF BULK AT MOST 1048576: true; the input reads as it did. -/
def fnExactOpeningUptoRow : OpenClaim := { program := "ytdnbocngbmbofaa", sum := "6f3949cf4223aea3916f4cb9d62eca0f614659e2ffe38c43b6dad3041c539df9", func := "loop.example/g00890/laws.FnExactOpening", spec := "fnExactOpening", apart := false, narrowed := true }
def FnExactOpeningUptoSaid : Prop := fnExactOpeningUptoRow.holds Try.pinned (OpenSpec.upto fnExactOpeningSpec)

end Rows
end Go.Proofs.Ytdnbocngbmbofaa
