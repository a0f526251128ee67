/-
  No cell of these rows narrows 'for every input' (looked for: loops, veiled, ifaces, maps, wideKeys, modest, calm, conditions, laid).
  DERIVED. THE GIVEN ROWS OF THIS SEAT. 8 by the template 'for every input the law returns true; each argument reads behind the call as it read before'; 0 by the template 'total and deterministic' (their statements: YthpfjhijkgmglabTotals.lean).
  GIVEN WITH THE SEED: the statements are not yours to turn. If you find one false, say at which input.
  Laid BY PROGRAM, IN A SANDBOX (cutbox-rows.mjs): the forced cells as the released guide's own fill.sh prints them over the translation be2859d31cc9d1b8… (all of the seat's roots in one cut). By AI agents, Wed Nov 11 2026. No macro, syntax, notation, axiom, sorry.
-/
import Derived.Test.YthpfjhijkgmglabChecked
import GoSem.Claim
import GoSem.ClaimJoined
import GoSem.ClaimMapViews
import Derived.JoinedTies
import Derived.KernelRfl
namespace Go.Proofs.Ythpfjhijkgmglab
/- THE CELL 'sum', in the pinned program and in every row, IS THE sha256 OF THE DUMP (.gsa) THAT YthpfjhijkgmglabProg.lean LOADS. Nothing in Lean hashes anything: it is a label: what it is worth is what the hold of that sum in a sandbox is worth. -/
noncomputable def Try.pinned : Pinned := { name := "ythpfjhijkgmglab", sum := "be2859d31cc9d1b8ed29daa43f6bdfd16ddf2710a372bd7b1015c46f1af17a9c", checked := Try.checked }
namespace Rows
def none {H : Type} : Left H := { results := [], args := [] }

/-- 'laws.FnExactIsRegion': WHATEVER THE INPUT: true; the input reads as it did. -/
def fnExactIsRegionSpec : ChangeSpec := { name := "fnExactIsRegion", fn := fun _ => fun
  | [d] => { results := [.lit (.bool true)], args := [d] }
  | _ => none }
def fnExactIsRegionRow : OpenClaim := { program := "ythpfjhijkgmglab", sum := "be2859d31cc9d1b8ed29daa43f6bdfd16ddf2710a372bd7b1015c46f1af17a9c", func := "loop.example/g00890/laws.FnExactIsRegion", spec := "fnExactIsRegion", apart := false }
def FnExactIsRegionSaid : Prop := fnExactIsRegionRow.holds Try.pinned (OpenSpec.ofChange fnExactIsRegionSpec)

/-- ITS FALSE NEIGHBOUR: 'it returns false'. Refute it at one input. -/
def fnExactIsRegionWrong : ChangeSpec := { name := "fnExactIsRegion", fn := fun _ => fun
  | [d] => { results := [.lit (.bool false)], args := [d] }
  | _ => none }
def FnExactIsRegionWrongFalsely : Prop := fnExactIsRegionRow.holds Try.pinned (OpenSpec.ofChange fnExactIsRegionWrong)

/-- 'laws.FnExactRegionOf': WHATEVER THE INPUT: true; the input reads as it did. -/
def fnExactRegionOfSpec : ChangeSpec := { name := "fnExactRegionOf", fn := fun _ => fun
  | [d] => { results := [.lit (.bool true)], args := [d] }
  | _ => none }
def fnExactRegionOfRow : OpenClaim := { program := "ythpfjhijkgmglab", sum := "be2859d31cc9d1b8ed29daa43f6bdfd16ddf2710a372bd7b1015c46f1af17a9c", func := "loop.example/g00890/laws.FnExactRegionOf", spec := "fnExactRegionOf", apart := false }
def FnExactRegionOfSaid : Prop := fnExactRegionOfRow.holds Try.pinned (OpenSpec.ofChange fnExactRegionOfSpec)

/-- ITS FALSE NEIGHBOUR: 'it returns false'. Refute it at one input. -/
def fnExactRegionOfWrong : ChangeSpec := { name := "fnExactRegionOf", fn := fun _ => fun
  | [d] => { results := [.lit (.bool false)], args := [d] }
  | _ => none }
def FnExactRegionOfWrongFalsely : Prop := fnExactRegionOfRow.holds Try.pinned (OpenSpec.ofChange fnExactRegionOfWrong)

/-- 'laws.FnExactRegionContains': WHATEVER THE INPUT: true; the input reads as it did. -/
def fnExactRegionContainsSpec : ChangeSpec := { name := "fnExactRegionContains", fn := fun _ => fun
  | [d1, d2, d3] => { results := [.lit (.bool true)], args := [d1, d2, d3] }
  | _ => none }
def fnExactRegionContainsRow : OpenClaim := { program := "ythpfjhijkgmglab", sum := "be2859d31cc9d1b8ed29daa43f6bdfd16ddf2710a372bd7b1015c46f1af17a9c", func := "loop.example/g00890/laws.FnExactRegionContains", spec := "fnExactRegionContains", unfollowed := true, recurses := true, apart := false }
def FnExactRegionContainsSaid : Prop := fnExactRegionContainsRow.holds Try.pinned (OpenSpec.ofChange fnExactRegionContainsSpec)

/-- ITS FALSE NEIGHBOUR: 'it returns false'. Refute it at one input. -/
def fnExactRegionContainsWrong : ChangeSpec := { name := "fnExactRegionContains", fn := fun _ => fun
  | [d1, d2, d3] => { results := [.lit (.bool false)], args := [d1, d2, d3] }
  | _ => none }
def FnExactRegionContainsWrongFalsely : Prop := fnExactRegionContainsRow.holds Try.pinned (OpenSpec.ofChange fnExactRegionContainsWrong)

/-- 'laws.FnExactRegionBox': WHATEVER THE INPUT: true; the input reads as it did. -/
def fnExactRegionBoxSpec : ChangeSpec := { name := "fnExactRegionBox", fn := fun _ => fun
  | [d] => { results := [.lit (.bool true)], args := [d] }
  | _ => none }
def fnExactRegionBoxRow : OpenClaim := { program := "ythpfjhijkgmglab", sum := "be2859d31cc9d1b8ed29daa43f6bdfd16ddf2710a372bd7b1015c46f1af17a9c", func := "loop.example/g00890/laws.FnExactRegionBox", spec := "fnExactRegionBox", apart := false }
def FnExactRegionBoxSaid : Prop := fnExactRegionBoxRow.holds Try.pinned (OpenSpec.ofChange fnExactRegionBoxSpec)

/-- ITS FALSE NEIGHBOUR: 'it returns false'. Refute it at one input. -/
def fnExactRegionBoxWrong : ChangeSpec := { name := "fnExactRegionBox", fn := fun _ => fun
  | [d] => { results := [.lit (.bool false)], args := [d] }
  | _ => none }
def FnExactRegionBoxWrongFalsely : Prop := fnExactRegionBoxRow.holds Try.pinned (OpenSpec.ofChange fnExactRegionBoxWrong)

/-- 'laws.FnExactRegionArea': WHATEVER THE INPUT: true; the input reads as it did. -/
def fnExactRegionAreaSpec : ChangeSpec := { name := "fnExactRegionArea", fn := fun _ => fun
  | [d] => { results := [.lit (.bool true)], args := [d] }
  | _ => none }
def fnExactRegionAreaRow : OpenClaim := { program := "ythpfjhijkgmglab", sum := "be2859d31cc9d1b8ed29daa43f6bdfd16ddf2710a372bd7b1015c46f1af17a9c", func := "loop.example/g00890/laws.FnExactRegionArea", spec := "fnExactRegionArea", apart := false }
def FnExactRegionAreaSaid : Prop := fnExactRegionAreaRow.holds Try.pinned (OpenSpec.ofChange fnExactRegionAreaSpec)

/-- ITS FALSE NEIGHBOUR: 'it returns false'. Refute it at one input. -/
def fnExactRegionAreaWrong : ChangeSpec := { name := "fnExactRegionArea", fn := fun _ => fun
  | [d] => { results := [.lit (.bool false)], args := [d] }
  | _ => none }
def FnExactRegionAreaWrongFalsely : Prop := fnExactRegionAreaRow.holds Try.pinned (OpenSpec.ofChange fnExactRegionAreaWrong)

/-- 'laws.FnExactRegionDistance': WHATEVER THE INPUT: true; the input reads as it did. -/
def fnExactRegionDistanceSpec : ChangeSpec := { name := "fnExactRegionDistance", fn := fun _ => fun
  | [d1, d2] => { results := [.lit (.bool true)], args := [d1, d2] }
  | _ => none }
def fnExactRegionDistanceRow : OpenClaim := { program := "ythpfjhijkgmglab", sum := "be2859d31cc9d1b8ed29daa43f6bdfd16ddf2710a372bd7b1015c46f1af17a9c", func := "loop.example/g00890/laws.FnExactRegionDistance", spec := "fnExactRegionDistance", apart := false }
def FnExactRegionDistanceSaid : Prop := fnExactRegionDistanceRow.holds Try.pinned (OpenSpec.ofChange fnExactRegionDistanceSpec)

/-- ITS FALSE NEIGHBOUR: 'it returns false'. Refute it at one input. -/
def fnExactRegionDistanceWrong : ChangeSpec := { name := "fnExactRegionDistance", fn := fun _ => fun
  | [d1, d2] => { results := [.lit (.bool false)], args := [d1, d2] }
  | _ => none }
def FnExactRegionDistanceWrongFalsely : Prop := fnExactRegionDistanceRow.holds Try.pinned (OpenSpec.ofChange fnExactRegionDistanceWrong)

/-- 'laws.FnExactOverlaps': WHATEVER THE INPUT: true; the input reads as it did. -/
def fnExactOverlapsSpec : ChangeSpec := { name := "fnExactOverlaps", fn := fun _ => fun
  | [d1, d2] => { results := [.lit (.bool true)], args := [d1, d2] }
  | _ => none }
def fnExactOverlapsRow : OpenClaim := { program := "ythpfjhijkgmglab", sum := "be2859d31cc9d1b8ed29daa43f6bdfd16ddf2710a372bd7b1015c46f1af17a9c", func := "loop.example/g00890/laws.FnExactOverlaps", spec := "fnExactOverlaps", apart := false }
def FnExactOverlapsSaid : Prop := fnExactOverlapsRow.holds Try.pinned (OpenSpec.ofChange fnExactOverlapsSpec)

/-- ITS FALSE NEIGHBOUR: 'it returns false'. Refute it at one input. -/
def fnExactOverlapsWrong : ChangeSpec := { name := "fnExactOverlaps", fn := fun _ => fun
  | [d1, d2] => { results := [.lit (.bool false)], args := [d1, d2] }
  | _ => none }
def FnExactOverlapsWrongFalsely : Prop := fnExactOverlapsRow.holds Try.pinned (OpenSpec.ofChange fnExactOverlapsWrong)

/-- 'laws.FnExactCovers': WHATEVER THE INPUT: true; the input reads as it did. -/
def fnExactCoversSpec : ChangeSpec := { name := "fnExactCovers", fn := fun _ => fun
  | [d1, d2] => { results := [.lit (.bool true)], args := [d1, d2] }
  | _ => none }
def fnExactCoversRow : OpenClaim := { program := "ythpfjhijkgmglab", sum := "be2859d31cc9d1b8ed29daa43f6bdfd16ddf2710a372bd7b1015c46f1af17a9c", func := "loop.example/g00890/laws.FnExactCovers", spec := "fnExactCovers", apart := false }
def FnExactCoversSaid : Prop := fnExactCoversRow.holds Try.pinned (OpenSpec.ofChange fnExactCoversSpec)

/-- ITS FALSE NEIGHBOUR: 'it returns false'. Refute it at one input. -/
def fnExactCoversWrong : ChangeSpec := { name := "fnExactCovers", fn := fun _ => fun
  | [d1, d2] => { results := [.lit (.bool false)], args := [d1, d2] }
  | _ => none }
def FnExactCoversWrongFalsely : Prop := fnExactCoversRow.holds Try.pinned (OpenSpec.ofChange fnExactCoversWrong)

/- THE SECOND FORM. 'bulk': how many values and letters a reading holds, each counted each time it is reached (what is shared counts as often as it is met; a slice's spare places count too). A statement '..UptoSaid' is the law's where the arguments, and the package variables that the reading takes, are together of bulk at most 1048576: NARROWER than '..Said'. Prove '..Said' where nothing that the law and all that it calls make is longer than what came in: it says more and counts as full. Else prove '..UptoSaid'. A law counts once. -/
mutual
def uptoBulk {H : Type} : DataW H → Nat
  | .lit (.string bytes) => bytes.length + 1
  | .lit _ => 1
  | .nil => 1
  | .ptr d => uptoBulk d + 1
  | .slice elems spare => uptoBulkAll elems + uptoBulkAll spare + 1
  | .agg parts => uptoBulkAll parts + 1
  | .iface _ d => uptoBulk d + 1
  | .map entries => uptoBulkEntries entries + 1
  | .held _ => 1
def uptoBulkAll {H : Type} : List (DataW H) → Nat
  | [] => 0
  | d :: r => uptoBulk d + uptoBulkAll r
def uptoBulkEntries {H : Type} : List (Lit × DataW H) → Nat
  | [] => 0
  | x :: r => uptoBulkEntry x + uptoBulkEntries r
def uptoBulkEntry {H : Type} : Lit × DataW H → Nat
  | (.string bytes, d) => bytes.length + uptoBulk d + 1
  | (_, d) => uptoBulk d + 1
 end
def uptoSmall : (H : Type) → List (DataW H) → Bool := fun _ ds => decide (uptoBulkAll ds ≤ 1048576)
def OpenSpec.upto (s : _root_.Go.ChangeSpec) : _root_.Go.OpenSpec := { _root_.Go.OpenSpec.ofChange s with cond := some uptoSmall }

/-- 'laws.FnExactIsRegion', WHERE WHAT IT READS IS OF BULK AT MOST 1048576: true; the input reads as it did. -/
def fnExactIsRegionUptoRow : OpenClaim := { program := "ythpfjhijkgmglab", sum := "be2859d31cc9d1b8ed29daa43f6bdfd16ddf2710a372bd7b1015c46f1af17a9c", func := "loop.example/g00890/laws.FnExactIsRegion", spec := "fnExactIsRegion", apart := false, narrowed := true }
def FnExactIsRegionUptoSaid : Prop := fnExactIsRegionUptoRow.holds Try.pinned (OpenSpec.upto fnExactIsRegionSpec)

/-- 'laws.FnExactRegionOf', WHERE WHAT IT READS IS OF BULK AT MOST 1048576: true; the input reads as it did. -/
def fnExactRegionOfUptoRow : OpenClaim := { program := "ythpfjhijkgmglab", sum := "be2859d31cc9d1b8ed29daa43f6bdfd16ddf2710a372bd7b1015c46f1af17a9c", func := "loop.example/g00890/laws.FnExactRegionOf", spec := "fnExactRegionOf", apart := false, narrowed := true }
def FnExactRegionOfUptoSaid : Prop := fnExactRegionOfUptoRow.holds Try.pinned (OpenSpec.upto fnExactRegionOfSpec)

/-- 'laws.FnExactRegionContains', WHERE WHAT IT READS IS OF BULK AT MOST 1048576: true; the input reads as it did. -/
def fnExactRegionContainsUptoRow : OpenClaim := { program := "ythpfjhijkgmglab", sum := "be2859d31cc9d1b8ed29daa43f6bdfd16ddf2710a372bd7b1015c46f1af17a9c", func := "loop.example/g00890/laws.FnExactRegionContains", spec := "fnExactRegionContains", unfollowed := true, recurses := true, apart := false, narrowed := true }
def FnExactRegionContainsUptoSaid : Prop := fnExactRegionContainsUptoRow.holds Try.pinned (OpenSpec.upto fnExactRegionContainsSpec)

/-- 'laws.FnExactRegionBox', WHERE WHAT IT READS IS OF BULK AT MOST 1048576: true; the input reads as it did. -/
def fnExactRegionBoxUptoRow : OpenClaim := { program := "ythpfjhijkgmglab", sum := "be2859d31cc9d1b8ed29daa43f6bdfd16ddf2710a372bd7b1015c46f1af17a9c", func := "loop.example/g00890/laws.FnExactRegionBox", spec := "fnExactRegionBox", apart := false, narrowed := true }
def FnExactRegionBoxUptoSaid : Prop := fnExactRegionBoxUptoRow.holds Try.pinned (OpenSpec.upto fnExactRegionBoxSpec)

/-- 'laws.FnExactRegionArea', WHERE WHAT IT READS IS OF BULK AT MOST 1048576: true; the input reads as it did. -/
def fnExactRegionAreaUptoRow : OpenClaim := { program := "ythpfjhijkgmglab", sum := "be2859d31cc9d1b8ed29daa43f6bdfd16ddf2710a372bd7b1015c46f1af17a9c", func := "loop.example/g00890/laws.FnExactRegionArea", spec := "fnExactRegionArea", apart := false, narrowed := true }
def FnExactRegionAreaUptoSaid : Prop := fnExactRegionAreaUptoRow.holds Try.pinned (OpenSpec.upto fnExactRegionAreaSpec)

/-- 'laws.FnExactRegionDistance', WHERE WHAT IT READS IS OF BULK AT MOST 1048576: true; the input reads as it did. -/
def fnExactRegionDistanceUptoRow : OpenClaim := { program := "ythpfjhijkgmglab", sum := "be2859d31cc9d1b8ed29daa43f6bdfd16ddf2710a372bd7b1015c46f1af17a9c", func := "loop.example/g00890/laws.FnExactRegionDistance", spec := "fnExactRegionDistance", apart := false, narrowed := true }
def FnExactRegionDistanceUptoSaid : Prop := fnExactRegionDistanceUptoRow.holds Try.pinned (OpenSpec.upto fnExactRegionDistanceSpec)

/-- 'laws.FnExactOverlaps', WHERE WHAT IT READS IS OF BULK AT MOST 1048576: true; the input reads as it did. -/
def fnExactOverlapsUptoRow : OpenClaim := { program := "ythpfjhijkgmglab", sum := "be2859d31cc9d1b8ed29daa43f6bdfd16ddf2710a372bd7b1015c46f1af17a9c", func := "loop.example/g00890/laws.FnExactOverlaps", spec := "fnExactOverlaps", apart := false, narrowed := true }
def FnExactOverlapsUptoSaid : Prop := fnExactOverlapsUptoRow.holds Try.pinned (OpenSpec.upto fnExactOverlapsSpec)

/-- 'laws.FnExactCovers', WHERE WHAT IT READS IS OF BULK AT MOST 1048576: true; the input reads as it did. -/
def fnExactCoversUptoRow : OpenClaim := { program := "ythpfjhijkgmglab", sum := "be2859d31cc9d1b8ed29daa43f6bdfd16ddf2710a372bd7b1015c46f1af17a9c", func := "loop.example/g00890/laws.FnExactCovers", spec := "fnExactCovers", apart := false, narrowed := true }
def FnExactCoversUptoSaid : Prop := fnExactCoversUptoRow.holds Try.pinned (OpenSpec.upto fnExactCoversSpec)

end Rows
end Go.Proofs.Ythpfjhijkgmglab
