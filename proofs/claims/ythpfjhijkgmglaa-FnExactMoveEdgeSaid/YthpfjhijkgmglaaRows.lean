/-
  No cell of these rows narrows 'for every input' (looked for: loops, veiled, ifaces, maps, wideKeys, modest, calm, conditions, laid).
  DERIVED. THE GIVEN ROWS OF THIS SEAT. 8 by the template 'for every input the law returns true; each argument reads behind the call as it read before'; 0 by the template 'total and deterministic' (their statements: YthpfjhijkgmglaaTotals.lean).
  GIVEN WITH THE SEED: the statements are not yours to turn. If you find one false, say at which input.
  Laid BY PROGRAM, IN A SANDBOX (cutbox-rows.mjs): the forced cells as the released guide's own fill.sh prints them over the translation 73f7df4247d2d063… (all of the seat's roots in one cut). By AI agents, Wed Nov 11 2026. No macro, syntax, notation, axiom, sorry.
-/
import Derived.Test.YthpfjhijkgmglaaChecked
import GoSem.Claim
import GoSem.ClaimJoined
import GoSem.ClaimMapViews
import Derived.JoinedTies
import Derived.KernelRfl
namespace Go.Proofs.Ythpfjhijkgmglaa
/- THE CELL 'sum', in the pinned program and in every row, IS THE sha256 OF THE DUMP (.gsa) THAT YthpfjhijkgmglaaProg.lean LOADS. Nothing in Lean hashes anything: it is a label: what it is worth is what the hold of that sum in a sandbox is worth. -/
noncomputable def Try.pinned : Pinned := { name := "ythpfjhijkgmglaa", sum := "73f7df4247d2d0637f95b1174420ec22917b6ada70304c0c08f85dab8e5c84c0", checked := Try.checked }
namespace Rows
def none {H : Type} : Left H := { results := [], args := [] }

/-- 'laws.FnExactMovePoint': WHATEVER THE INPUT: true; the input reads as it did. -/
def fnExactMovePointSpec : ChangeSpec := { name := "fnExactMovePoint", fn := fun _ => fun
  | [d1, d2] => { results := [.lit (.bool true)], args := [d1, d2] }
  | _ => none }
def fnExactMovePointRow : OpenClaim := { program := "ythpfjhijkgmglaa", sum := "73f7df4247d2d0637f95b1174420ec22917b6ada70304c0c08f85dab8e5c84c0", func := "loop.example/g00890/laws.FnExactMovePoint", spec := "fnExactMovePoint", apart := false }
def FnExactMovePointSaid : Prop := fnExactMovePointRow.holds Try.pinned (OpenSpec.ofChange fnExactMovePointSpec)

/-- ITS FALSE NEIGHBOUR: 'it returns false'. Refute it at one input. -/
def fnExactMovePointWrong : ChangeSpec := { name := "fnExactMovePoint", fn := fun _ => fun
  | [d1, d2] => { results := [.lit (.bool false)], args := [d1, d2] }
  | _ => none }
def FnExactMovePointWrongFalsely : Prop := fnExactMovePointRow.holds Try.pinned (OpenSpec.ofChange fnExactMovePointWrong)

/-- 'laws.FnExactMoveUnitCell': WHATEVER THE INPUT: true; the input reads as it did. -/
def fnExactMoveUnitCellSpec : ChangeSpec := { name := "fnExactMoveUnitCell", fn := fun _ => fun
  | [d1, d2] => { results := [.lit (.bool true)], args := [d1, d2] }
  | _ => none }
def fnExactMoveUnitCellRow : OpenClaim := { program := "ythpfjhijkgmglaa", sum := "73f7df4247d2d0637f95b1174420ec22917b6ada70304c0c08f85dab8e5c84c0", func := "loop.example/g00890/laws.FnExactMoveUnitCell", spec := "fnExactMoveUnitCell", apart := false }
def FnExactMoveUnitCellSaid : Prop := fnExactMoveUnitCellRow.holds Try.pinned (OpenSpec.ofChange fnExactMoveUnitCellSpec)

/-- ITS FALSE NEIGHBOUR: 'it returns false'. Refute it at one input. -/
def fnExactMoveUnitCellWrong : ChangeSpec := { name := "fnExactMoveUnitCell", fn := fun _ => fun
  | [d1, d2] => { results := [.lit (.bool false)], args := [d1, d2] }
  | _ => none }
def FnExactMoveUnitCellWrongFalsely : Prop := fnExactMoveUnitCellRow.holds Try.pinned (OpenSpec.ofChange fnExactMoveUnitCellWrong)

/-- 'laws.FnExactInvertTransform': WHATEVER THE INPUT: true; the input reads as it did. -/
def fnExactInvertTransformSpec : ChangeSpec := { name := "fnExactInvertTransform", fn := fun _ => fun
  | [d] => { results := [.lit (.bool true)], args := [d] }
  | _ => none }
def fnExactInvertTransformRow : OpenClaim := { program := "ythpfjhijkgmglaa", sum := "73f7df4247d2d0637f95b1174420ec22917b6ada70304c0c08f85dab8e5c84c0", func := "loop.example/g00890/laws.FnExactInvertTransform", spec := "fnExactInvertTransform", apart := false }
def FnExactInvertTransformSaid : Prop := fnExactInvertTransformRow.holds Try.pinned (OpenSpec.ofChange fnExactInvertTransformSpec)

/-- ITS FALSE NEIGHBOUR: 'it returns false'. Refute it at one input. -/
def fnExactInvertTransformWrong : ChangeSpec := { name := "fnExactInvertTransform", fn := fun _ => fun
  | [d] => { results := [.lit (.bool false)], args := [d] }
  | _ => none }
def FnExactInvertTransformWrongFalsely : Prop := fnExactInvertTransformRow.holds Try.pinned (OpenSpec.ofChange fnExactInvertTransformWrong)

/-- 'laws.FnExactBoundingBox': WHATEVER THE INPUT: true; the input reads as it did. -/
def fnExactBoundingBoxSpec : ChangeSpec := { name := "fnExactBoundingBox", fn := fun _ => fun
  | [d] => { results := [.lit (.bool true)], args := [d] }
  | _ => none }
def fnExactBoundingBoxRow : OpenClaim := { program := "ythpfjhijkgmglaa", sum := "73f7df4247d2d0637f95b1174420ec22917b6ada70304c0c08f85dab8e5c84c0", func := "loop.example/g00890/laws.FnExactBoundingBox", spec := "fnExactBoundingBox", apart := false }
def FnExactBoundingBoxSaid : Prop := fnExactBoundingBoxRow.holds Try.pinned (OpenSpec.ofChange fnExactBoundingBoxSpec)

/-- ITS FALSE NEIGHBOUR: 'it returns false'. Refute it at one input. -/
def fnExactBoundingBoxWrong : ChangeSpec := { name := "fnExactBoundingBox", fn := fun _ => fun
  | [d] => { results := [.lit (.bool false)], args := [d] }
  | _ => none }
def FnExactBoundingBoxWrongFalsely : Prop := fnExactBoundingBoxRow.holds Try.pinned (OpenSpec.ofChange fnExactBoundingBoxWrong)

/-- 'laws.FnExactComposeTransforms': WHATEVER THE INPUT: true; the input reads as it did. -/
def fnExactComposeTransformsSpec : ChangeSpec := { name := "fnExactComposeTransforms", fn := fun _ => fun
  | [d1, d2] => { results := [.lit (.bool true)], args := [d1, d2] }
  | _ => none }
def fnExactComposeTransformsRow : OpenClaim := { program := "ythpfjhijkgmglaa", sum := "73f7df4247d2d0637f95b1174420ec22917b6ada70304c0c08f85dab8e5c84c0", func := "loop.example/g00890/laws.FnExactComposeTransforms", spec := "fnExactComposeTransforms", apart := false }
def FnExactComposeTransformsSaid : Prop := fnExactComposeTransformsRow.holds Try.pinned (OpenSpec.ofChange fnExactComposeTransformsSpec)

/-- ITS FALSE NEIGHBOUR: 'it returns false'. Refute it at one input. -/
def fnExactComposeTransformsWrong : ChangeSpec := { name := "fnExactComposeTransforms", fn := fun _ => fun
  | [d1, d2] => { results := [.lit (.bool false)], args := [d1, d2] }
  | _ => none }
def FnExactComposeTransformsWrongFalsely : Prop := fnExactComposeTransformsRow.holds Try.pinned (OpenSpec.ofChange fnExactComposeTransformsWrong)

/-- 'laws.FnExactMoveRect': WHATEVER THE INPUT: true; the input reads as it did. -/
def fnExactMoveRectSpec : ChangeSpec := { name := "fnExactMoveRect", fn := fun _ => fun
  | [d1, d2] => { results := [.lit (.bool true)], args := [d1, d2] }
  | _ => none }
def fnExactMoveRectRow : OpenClaim := { program := "ythpfjhijkgmglaa", sum := "73f7df4247d2d0637f95b1174420ec22917b6ada70304c0c08f85dab8e5c84c0", func := "loop.example/g00890/laws.FnExactMoveRect", spec := "fnExactMoveRect", apart := false }
def FnExactMoveRectSaid : Prop := fnExactMoveRectRow.holds Try.pinned (OpenSpec.ofChange fnExactMoveRectSpec)

/-- ITS FALSE NEIGHBOUR: 'it returns false'. Refute it at one input. -/
def fnExactMoveRectWrong : ChangeSpec := { name := "fnExactMoveRect", fn := fun _ => fun
  | [d1, d2] => { results := [.lit (.bool false)], args := [d1, d2] }
  | _ => none }
def FnExactMoveRectWrongFalsely : Prop := fnExactMoveRectRow.holds Try.pinned (OpenSpec.ofChange fnExactMoveRectWrong)

/-- 'laws.FnExactMoveEdge': WHATEVER THE INPUT: true; the input reads as it did. -/
def fnExactMoveEdgeSpec : ChangeSpec := { name := "fnExactMoveEdge", fn := fun _ => fun
  | [d1, d2] => { results := [.lit (.bool true)], args := [d1, d2] }
  | _ => none }
def fnExactMoveEdgeRow : OpenClaim := { program := "ythpfjhijkgmglaa", sum := "73f7df4247d2d0637f95b1174420ec22917b6ada70304c0c08f85dab8e5c84c0", func := "loop.example/g00890/laws.FnExactMoveEdge", spec := "fnExactMoveEdge", apart := false }
def FnExactMoveEdgeSaid : Prop := fnExactMoveEdgeRow.holds Try.pinned (OpenSpec.ofChange fnExactMoveEdgeSpec)

/-- ITS FALSE NEIGHBOUR: 'it returns false'. Refute it at one input. -/
def fnExactMoveEdgeWrong : ChangeSpec := { name := "fnExactMoveEdge", fn := fun _ => fun
  | [d1, d2] => { results := [.lit (.bool false)], args := [d1, d2] }
  | _ => none }
def FnExactMoveEdgeWrongFalsely : Prop := fnExactMoveEdgeRow.holds Try.pinned (OpenSpec.ofChange fnExactMoveEdgeWrong)

/-- 'laws.FnExactFindTransform': WHATEVER THE INPUT: true; the input reads as it did. -/
def fnExactFindTransformSpec : ChangeSpec := { name := "fnExactFindTransform", fn := fun _ => fun
  | [d1, d2] => { results := [.lit (.bool true)], args := [d1, d2] }
  | _ => none }
def fnExactFindTransformRow : OpenClaim := { program := "ythpfjhijkgmglaa", sum := "73f7df4247d2d0637f95b1174420ec22917b6ada70304c0c08f85dab8e5c84c0", func := "loop.example/g00890/laws.FnExactFindTransform", spec := "fnExactFindTransform", apart := false }
def FnExactFindTransformSaid : Prop := fnExactFindTransformRow.holds Try.pinned (OpenSpec.ofChange fnExactFindTransformSpec)

/-- ITS FALSE NEIGHBOUR: 'it returns false'. Refute it at one input. -/
def fnExactFindTransformWrong : ChangeSpec := { name := "fnExactFindTransform", fn := fun _ => fun
  | [d1, d2] => { results := [.lit (.bool false)], args := [d1, d2] }
  | _ => none }
def FnExactFindTransformWrongFalsely : Prop := fnExactFindTransformRow.holds Try.pinned (OpenSpec.ofChange fnExactFindTransformWrong)

/- THE SECOND FORM. 'bulk': how many values and letters a reading holds, each counted each time it is reached (what is shared counts as often as it is met; a slice's spare places count too). A statement '..UptoSaid' is the law's where the arguments, and the package variables that the reading takes, are together of bulk at most 1048576: NARROWER than '..Said'. Prove '..Said' where nothing that the law and all that it calls make is longer than what came in: it says more and counts as full. Else prove '..UptoSaid'. A law counts once. -/
mutual
def uptoBulk {H : Type} : DataW H → Nat
  | .lit (.string bytes) => bytes.length + 1
  | .lit _ => 1
  | .nil => 1
  | .ptr d => uptoBulk d + 1
  | .slice elems spare => uptoBulkAll elems + uptoBulkAll spare + 1
  | .agg parts => uptoBulkAll parts + 1
  | .iface _ d => uptoBulk d + 1
  | .map entries => uptoBulkEntries entries + 1
  | .held _ => 1
def uptoBulkAll {H : Type} : List (DataW H) → Nat
  | [] => 0
  | d :: r => uptoBulk d + uptoBulkAll r
def uptoBulkEntries {H : Type} : List (Lit × DataW H) → Nat
  | [] => 0
  | x :: r => uptoBulkEntry x + uptoBulkEntries r
def uptoBulkEntry {H : Type} : Lit × DataW H → Nat
  | (.string bytes, d) => bytes.length + uptoBulk d + 1
  | (_, d) => uptoBulk d + 1
 end
def uptoSmall : (H : Type) → List (DataW H) → Bool := fun _ ds => decide (uptoBulkAll ds ≤ 1048576)
def OpenSpec.upto (s : _root_.Go.ChangeSpec) : _root_.Go.OpenSpec := { _root_.Go.OpenSpec.ofChange s with cond := some uptoSmall }

/-- 'laws.FnExactMovePoint', WHERE WHAT IT READS IS OF BULK AT MOST 1048576: true; the input reads as it did. -/
def fnExactMovePointUptoRow : OpenClaim := { program := "ythpfjhijkgmglaa", sum := "73f7df4247d2d0637f95b1174420ec22917b6ada70304c0c08f85dab8e5c84c0", func := "loop.example/g00890/laws.FnExactMovePoint", spec := "fnExactMovePoint", apart := false, narrowed := true }
def FnExactMovePointUptoSaid : Prop := fnExactMovePointUptoRow.holds Try.pinned (OpenSpec.upto fnExactMovePointSpec)

/-- 'laws.FnExactMoveUnitCell', WHERE WHAT IT READS IS OF BULK AT MOST 1048576: true; the input reads as it did. -/
def fnExactMoveUnitCellUptoRow : OpenClaim := { program := "ythpfjhijkgmglaa", sum := "73f7df4247d2d0637f95b1174420ec22917b6ada70304c0c08f85dab8e5c84c0", func := "loop.example/g00890/laws.FnExactMoveUnitCell", spec := "fnExactMoveUnitCell", apart := false, narrowed := true }
def FnExactMoveUnitCellUptoSaid : Prop := fnExactMoveUnitCellUptoRow.holds Try.pinned (OpenSpec.upto fnExactMoveUnitCellSpec)

/-- 'laws.FnExactInvertTransform', WHERE WHAT IT READS IS OF BULK AT MOST 1048576: true; the input reads as it did. -/
def fnExactInvertTransformUptoRow : OpenClaim := { program := "ythpfjhijkgmglaa", sum := "73f7df4247d2d0637f95b1174420ec22917b6ada70304c0c08f85dab8e5c84c0", func := "loop.example/g00890/laws.FnExactInvertTransform", spec := "fnExactInvertTransform", apart := false, narrowed := true }
def FnExactInvertTransformUptoSaid : Prop := fnExactInvertTransformUptoRow.holds Try.pinned (OpenSpec.upto fnExactInvertTransformSpec)

/-- 'laws.FnExactBoundingBox', WHERE WHAT IT READS IS OF BULK AT MOST 1048576: true; the input reads as it did. -/
def fnExactBoundingBoxUptoRow : OpenClaim := { program := "ythpfjhijkgmglaa", sum := "73f7df4247d2d0637f95b1174420ec22917b6ada70304c0c08f85dab8e5c84c0", func := "loop.example/g00890/laws.FnExactBoundingBox", spec := "fnExactBoundingBox", apart := false, narrowed := true }
def FnExactBoundingBoxUptoSaid : Prop := fnExactBoundingBoxUptoRow.holds Try.pinned (OpenSpec.upto fnExactBoundingBoxSpec)

/-- 'laws.FnExactComposeTransforms', WHERE WHAT IT READS IS OF BULK AT MOST 1048576: true; the input reads as it did. -/
def fnExactComposeTransformsUptoRow : OpenClaim := { program := "ythpfjhijkgmglaa", sum := "73f7df4247d2d0637f95b1174420ec22917b6ada70304c0c08f85dab8e5c84c0", func := "loop.example/g00890/laws.FnExactComposeTransforms", spec := "fnExactComposeTransforms", apart := false, narrowed := true }
def FnExactComposeTransformsUptoSaid : Prop := fnExactComposeTransformsUptoRow.holds Try.pinned (OpenSpec.upto fnExactComposeTransformsSpec)

/-- 'laws.FnExactMoveRect', WHERE WHAT IT READS IS OF BULK AT MOST 1048576: true; the input reads as it did. -/
def fnExactMoveRectUptoRow : OpenClaim := { program := "ythpfjhijkgmglaa", sum := "73f7df4247d2d0637f95b1174420ec22917b6ada70304c0c08f85dab8e5c84c0", func := "loop.example/g00890/laws.FnExactMoveRect", spec := "fnExactMoveRect", apart := false, narrowed := true }
def FnExactMoveRectUptoSaid : Prop := fnExactMoveRectUptoRow.holds Try.pinned (OpenSpec.upto fnExactMoveRectSpec)

/-- 'laws.FnExactMoveEdge', WHERE WHAT IT READS IS OF BULK AT MOST 1048576: true; the input reads as it did. -/
def fnExactMoveEdgeUptoRow : OpenClaim := { program := "ythpfjhijkgmglaa", sum := "73f7df4247d2d0637f95b1174420ec22917b6ada70304c0c08f85dab8e5c84c0", func := "loop.example/g00890/laws.FnExactMoveEdge", spec := "fnExactMoveEdge", apart := false, narrowed := true }
def FnExactMoveEdgeUptoSaid : Prop := fnExactMoveEdgeUptoRow.holds Try.pinned (OpenSpec.upto fnExactMoveEdgeSpec)

/-- 'laws.FnExactFindTransform', WHERE WHAT IT READS IS OF BULK AT MOST 1048576: true; the input reads as it did. -/
def fnExactFindTransformUptoRow : OpenClaim := { program := "ythpfjhijkgmglaa", sum := "73f7df4247d2d0637f95b1174420ec22917b6ada70304c0c08f85dab8e5c84c0", func := "loop.example/g00890/laws.FnExactFindTransform", spec := "fnExactFindTransform", apart := false, narrowed := true }
def FnExactFindTransformUptoSaid : Prop := fnExactFindTransformUptoRow.holds Try.pinned (OpenSpec.upto fnExactFindTransformSpec)

end Rows
end Go.Proofs.Ythpfjhijkgmglaa
