/-
  No cell of these rows narrows 'for every input' (looked for: loops, veiled, ifaces, maps, wideKeys, modest, calm, conditions, laid).
  DERIVED. THE GIVEN ROWS OF THIS SEAT. 12 by the template 'for every input the law returns true; each argument reads behind the call as it read before'; 0 by the template 'total and deterministic' (their statements: YtldgjocjcbhkmaaTotals.lean).
  GIVEN WITH THE SEED: the statements are not yours to turn. If you find one false, say at which input.
  Laid BY PROGRAM, IN A SANDBOX (cutbox-rows.mjs): the forced cells as the released guide's own fill.sh prints them over the translation 2abbd85d1353302d… (all of the seat's roots in one cut). By AI agents, Wed Nov 11 2026. No macro, syntax, notation, axiom, sorry.
-/
import Derived.Test.YtldgjocjcbhkmaaChecked
import GoSem.Claim
import GoSem.ClaimJoined
import GoSem.ClaimMapViews
import Derived.JoinedTies
import Derived.KernelRfl
namespace Go.Proofs.Ytldgjocjcbhkmaa
/- THE CELL 'sum', in the pinned program and in every row, IS THE sha256 OF THE DUMP (.gsa) THAT YtldgjocjcbhkmaaProg.lean LOADS. Nothing in Lean hashes anything: it is a label: what it is worth is what the hold of that sum in a sandbox is worth. -/
noncomputable def Try.pinned : Pinned := { name := "ytldgjocjcbhkmaa", sum := "2abbd85d1353302d8273b7fdda61ce5035388c329ea7f5ce6c39e8724b2893d4", checked := Try.checked }
namespace Rows
def none {H : Type} : Left H := { results := [], args := [] }

/-- 'laws.FnExactUnionAll': WHATEVER THE INPUT: true; the input reads as it did. -/
def fnExactUnionAllSpec : ChangeSpec := { name := "fnExactUnionAll", fn := fun _ => fun
  | [d] => { results := [.lit (.bool true)], args := [d] }
  | _ => none }
def fnExactUnionAllRow : OpenClaim := { program := "ytldgjocjcbhkmaa", sum := "2abbd85d1353302d8273b7fdda61ce5035388c329ea7f5ce6c39e8724b2893d4", func := "loop.example/g00890/laws.FnExactUnionAll", spec := "fnExactUnionAll", apart := false }
def FnExactUnionAllSaid : Prop := fnExactUnionAllRow.holds Try.pinned (OpenSpec.ofChange fnExactUnionAllSpec)

/-- ITS FALSE NEIGHBOUR: 'it returns false'. Refute it at one input. -/
def fnExactUnionAllWrong : ChangeSpec := { name := "fnExactUnionAll", fn := fun _ => fun
  | [d] => { results := [.lit (.bool false)], args := [d] }
  | _ => none }
def FnExactUnionAllWrongFalsely : Prop := fnExactUnionAllRow.holds Try.pinned (OpenSpec.ofChange fnExactUnionAllWrong)

/-- 'laws.FnRegionOf': WHATEVER THE INPUT: true; the input reads as it did. -/
def fnRegionOfSpec : ChangeSpec := { name := "fnRegionOf", fn := fun _ => fun
  | [d] => { results := [.lit (.bool true)], args := [d] }
  | _ => none }
def fnRegionOfRow : OpenClaim := { program := "ytldgjocjcbhkmaa", sum := "2abbd85d1353302d8273b7fdda61ce5035388c329ea7f5ce6c39e8724b2893d4", func := "loop.example/g00890/laws.FnRegionOf", spec := "fnRegionOf", unfollowed := true, recurses := true, apart := false }
def FnRegionOfSaid : Prop := fnRegionOfRow.holds Try.pinned (OpenSpec.ofChange fnRegionOfSpec)

/-- ITS FALSE NEIGHBOUR: 'it returns false'. Refute it at one input. -/
def fnRegionOfWrong : ChangeSpec := { name := "fnRegionOf", fn := fun _ => fun
  | [d] => { results := [.lit (.bool false)], args := [d] }
  | _ => none }
def FnRegionOfWrongFalsely : Prop := fnRegionOfRow.holds Try.pinned (OpenSpec.ofChange fnRegionOfWrong)

/-- 'laws.FnAreas': WHATEVER THE INPUT: true; the input reads as it did. -/
def fnAreasSpec : ChangeSpec := { name := "fnAreas", fn := fun _ => fun
  | [d] => { results := [.lit (.bool true)], args := [d] }
  | _ => none }
def fnAreasRow : OpenClaim := { program := "ytldgjocjcbhkmaa", sum := "2abbd85d1353302d8273b7fdda61ce5035388c329ea7f5ce6c39e8724b2893d4", func := "loop.example/g00890/laws.FnAreas", spec := "fnAreas", unfollowed := true, recurses := true, apart := false }
def FnAreasSaid : Prop := fnAreasRow.holds Try.pinned (OpenSpec.ofChange fnAreasSpec)

/-- ITS FALSE NEIGHBOUR: 'it returns false'. Refute it at one input. -/
def fnAreasWrong : ChangeSpec := { name := "fnAreas", fn := fun _ => fun
  | [d] => { results := [.lit (.bool false)], args := [d] }
  | _ => none }
def FnAreasWrongFalsely : Prop := fnAreasRow.holds Try.pinned (OpenSpec.ofChange fnAreasWrong)

/-- 'laws.FnDistance': WHATEVER THE INPUT: true; the input reads as it did. -/
def fnDistanceSpec : ChangeSpec := { name := "fnDistance", fn := fun _ => fun
  | [d] => { results := [.lit (.bool true)], args := [d] }
  | _ => none }
def fnDistanceRow : OpenClaim := { program := "ytldgjocjcbhkmaa", sum := "2abbd85d1353302d8273b7fdda61ce5035388c329ea7f5ce6c39e8724b2893d4", func := "loop.example/g00890/laws.FnDistance", spec := "fnDistance", apart := false }
def FnDistanceSaid : Prop := fnDistanceRow.holds Try.pinned (OpenSpec.ofChange fnDistanceSpec)

/-- ITS FALSE NEIGHBOUR: 'it returns false'. Refute it at one input. -/
def fnDistanceWrong : ChangeSpec := { name := "fnDistance", fn := fun _ => fun
  | [d] => { results := [.lit (.bool false)], args := [d] }
  | _ => none }
def FnDistanceWrongFalsely : Prop := fnDistanceRow.holds Try.pinned (OpenSpec.ofChange fnDistanceWrong)

/-- 'laws.FnDistributive': WHATEVER THE INPUT: true; the input reads as it did. -/
def fnDistributiveSpec : ChangeSpec := { name := "fnDistributive", fn := fun _ => fun
  | [d] => { results := [.lit (.bool true)], args := [d] }
  | _ => none }
def fnDistributiveRow : OpenClaim := { program := "ytldgjocjcbhkmaa", sum := "2abbd85d1353302d8273b7fdda61ce5035388c329ea7f5ce6c39e8724b2893d4", func := "loop.example/g00890/laws.FnDistributive", spec := "fnDistributive", unfollowed := true, recurses := true, apart := false }
def FnDistributiveSaid : Prop := fnDistributiveRow.holds Try.pinned (OpenSpec.ofChange fnDistributiveSpec)

/-- ITS FALSE NEIGHBOUR: 'it returns false'. Refute it at one input. -/
def fnDistributiveWrong : ChangeSpec := { name := "fnDistributive", fn := fun _ => fun
  | [d] => { results := [.lit (.bool false)], args := [d] }
  | _ => none }
def FnDistributiveWrongFalsely : Prop := fnDistributiveRow.holds Try.pinned (OpenSpec.ofChange fnDistributiveWrong)

/-- 'laws.FnOpening': WHATEVER THE INPUT: true; the input reads as it did. -/
def fnOpeningSpec : ChangeSpec := { name := "fnOpening", fn := fun _ => fun
  | [d] => { results := [.lit (.bool true)], args := [d] }
  | _ => none }
def fnOpeningRow : OpenClaim := { program := "ytldgjocjcbhkmaa", sum := "2abbd85d1353302d8273b7fdda61ce5035388c329ea7f5ce6c39e8724b2893d4", func := "loop.example/g00890/laws.FnOpening", spec := "fnOpening", apart := false }
def FnOpeningSaid : Prop := fnOpeningRow.holds Try.pinned (OpenSpec.ofChange fnOpeningSpec)

/-- ITS FALSE NEIGHBOUR: 'it returns false'. Refute it at one input. -/
def fnOpeningWrong : ChangeSpec := { name := "fnOpening", fn := fun _ => fun
  | [d] => { results := [.lit (.bool false)], args := [d] }
  | _ => none }
def FnOpeningWrongFalsely : Prop := fnOpeningRow.holds Try.pinned (OpenSpec.ofChange fnOpeningWrong)

/-- 'laws.FnBoolean': WHATEVER THE INPUT: true; the input reads as it did. -/
def fnBooleanSpec : ChangeSpec := { name := "fnBoolean", fn := fun _ => fun
  | [d] => { results := [.lit (.bool true)], args := [d] }
  | _ => none }
def fnBooleanRow : OpenClaim := { program := "ytldgjocjcbhkmaa", sum := "2abbd85d1353302d8273b7fdda61ce5035388c329ea7f5ce6c39e8724b2893d4", func := "loop.example/g00890/laws.FnBoolean", spec := "fnBoolean", unfollowed := true, recurses := true, apart := false }
def FnBooleanSaid : Prop := fnBooleanRow.holds Try.pinned (OpenSpec.ofChange fnBooleanSpec)

/-- ITS FALSE NEIGHBOUR: 'it returns false'. Refute it at one input. -/
def fnBooleanWrong : ChangeSpec := { name := "fnBoolean", fn := fun _ => fun
  | [d] => { results := [.lit (.bool false)], args := [d] }
  | _ => none }
def FnBooleanWrongFalsely : Prop := fnBooleanRow.holds Try.pinned (OpenSpec.ofChange fnBooleanWrong)

/-- 'laws.FnSizing': WHATEVER THE INPUT: true; the input reads as it did. -/
def fnSizingSpec : ChangeSpec := { name := "fnSizing", fn := fun _ => fun
  | [d] => { results := [.lit (.bool true)], args := [d] }
  | _ => none }
def fnSizingRow : OpenClaim := { program := "ytldgjocjcbhkmaa", sum := "2abbd85d1353302d8273b7fdda61ce5035388c329ea7f5ce6c39e8724b2893d4", func := "loop.example/g00890/laws.FnSizing", spec := "fnSizing", apart := false }
def FnSizingSaid : Prop := fnSizingRow.holds Try.pinned (OpenSpec.ofChange fnSizingSpec)

/-- ITS FALSE NEIGHBOUR: 'it returns false'. Refute it at one input. -/
def fnSizingWrong : ChangeSpec := { name := "fnSizing", fn := fun _ => fun
  | [d] => { results := [.lit (.bool false)], args := [d] }
  | _ => none }
def FnSizingWrongFalsely : Prop := fnSizingRow.holds Try.pinned (OpenSpec.ofChange fnSizingWrong)

/-- 'laws.FnSquares': WHATEVER THE INPUT: true; the input reads as it did. -/
def fnSquaresSpec : ChangeSpec := { name := "fnSquares", fn := fun _ => fun
  | [d] => { results := [.lit (.bool true)], args := [d] }
  | _ => none }
def fnSquaresRow : OpenClaim := { program := "ytldgjocjcbhkmaa", sum := "2abbd85d1353302d8273b7fdda61ce5035388c329ea7f5ce6c39e8724b2893d4", func := "loop.example/g00890/laws.FnSquares", spec := "fnSquares", apart := false }
def FnSquaresSaid : Prop := fnSquaresRow.holds Try.pinned (OpenSpec.ofChange fnSquaresSpec)

/-- ITS FALSE NEIGHBOUR: 'it returns false'. Refute it at one input. -/
def fnSquaresWrong : ChangeSpec := { name := "fnSquares", fn := fun _ => fun
  | [d] => { results := [.lit (.bool false)], args := [d] }
  | _ => none }
def FnSquaresWrongFalsely : Prop := fnSquaresRow.holds Try.pinned (OpenSpec.ofChange fnSquaresWrong)

/-- 'laws.FnMoveRegions': WHATEVER THE INPUT: true; the input reads as it did. -/
def fnMoveRegionsSpec : ChangeSpec := { name := "fnMoveRegions", fn := fun _ => fun
  | [d] => { results := [.lit (.bool true)], args := [d] }
  | _ => none }
def fnMoveRegionsRow : OpenClaim := { program := "ytldgjocjcbhkmaa", sum := "2abbd85d1353302d8273b7fdda61ce5035388c329ea7f5ce6c39e8724b2893d4", func := "loop.example/g00890/laws.FnMoveRegions", spec := "fnMoveRegions", unfollowed := true, recurses := true, apart := false }
def FnMoveRegionsSaid : Prop := fnMoveRegionsRow.holds Try.pinned (OpenSpec.ofChange fnMoveRegionsSpec)

/-- ITS FALSE NEIGHBOUR: 'it returns false'. Refute it at one input. -/
def fnMoveRegionsWrong : ChangeSpec := { name := "fnMoveRegions", fn := fun _ => fun
  | [d] => { results := [.lit (.bool false)], args := [d] }
  | _ => none }
def FnMoveRegionsWrongFalsely : Prop := fnMoveRegionsRow.holds Try.pinned (OpenSpec.ofChange fnMoveRegionsWrong)

/-- 'laws.FnExactBoundingBox': WHATEVER THE INPUT: true; the input reads as it did. -/
def fnExactBoundingBoxSpec : ChangeSpec := { name := "fnExactBoundingBox", fn := fun _ => fun
  | [d] => { results := [.lit (.bool true)], args := [d] }
  | _ => none }
def fnExactBoundingBoxRow : OpenClaim := { program := "ytldgjocjcbhkmaa", sum := "2abbd85d1353302d8273b7fdda61ce5035388c329ea7f5ce6c39e8724b2893d4", func := "loop.example/g00890/laws.FnExactBoundingBox", spec := "fnExactBoundingBox", apart := false }
def FnExactBoundingBoxSaid : Prop := fnExactBoundingBoxRow.holds Try.pinned (OpenSpec.ofChange fnExactBoundingBoxSpec)

/-- ITS FALSE NEIGHBOUR: 'it returns false'. Refute it at one input. -/
def fnExactBoundingBoxWrong : ChangeSpec := { name := "fnExactBoundingBox", fn := fun _ => fun
  | [d] => { results := [.lit (.bool false)], args := [d] }
  | _ => none }
def FnExactBoundingBoxWrongFalsely : Prop := fnExactBoundingBoxRow.holds Try.pinned (OpenSpec.ofChange fnExactBoundingBoxWrong)

/-- 'laws.FnExactFindTransform': WHATEVER THE INPUT: true; the input reads as it did. -/
def fnExactFindTransformSpec : ChangeSpec := { name := "fnExactFindTransform", fn := fun _ => fun
  | [d1, d2] => { results := [.lit (.bool true)], args := [d1, d2] }
  | _ => none }
def fnExactFindTransformRow : OpenClaim := { program := "ytldgjocjcbhkmaa", sum := "2abbd85d1353302d8273b7fdda61ce5035388c329ea7f5ce6c39e8724b2893d4", func := "loop.example/g00890/laws.FnExactFindTransform", spec := "fnExactFindTransform", apart := false }
def FnExactFindTransformSaid : Prop := fnExactFindTransformRow.holds Try.pinned (OpenSpec.ofChange fnExactFindTransformSpec)

/-- ITS FALSE NEIGHBOUR: 'it returns false'. Refute it at one input. -/
def fnExactFindTransformWrong : ChangeSpec := { name := "fnExactFindTransform", fn := fun _ => fun
  | [d1, d2] => { results := [.lit (.bool false)], args := [d1, d2] }
  | _ => none }
def FnExactFindTransformWrongFalsely : Prop := fnExactFindTransformRow.holds Try.pinned (OpenSpec.ofChange fnExactFindTransformWrong)

/- THE SECOND FORM. 'bulk': how many values and letters a reading holds, each counted each time it is reached (what is shared counts as often as it is met; a slice's spare places count too). A statement '..UptoSaid' is the law's where the arguments, and the package variables that the reading takes, are together of bulk at most 1048576: NARROWER than '..Said'. Prove '..Said' where nothing that the law and all that it calls make is longer than what came in: it says more and counts as full. Else prove '..UptoSaid'. A law counts once. -/
mutual
def uptoBulk {H : Type} : DataW H → Nat
  | .lit (.string bytes) => bytes.length + 1
  | .lit _ => 1
  | .nil => 1
  | .ptr d => uptoBulk d + 1
  | .slice elems spare => uptoBulkAll elems + uptoBulkAll spare + 1
  | .agg parts => uptoBulkAll parts + 1
  | .iface _ d => uptoBulk d + 1
  | .map entries => uptoBulkEntries entries + 1
  | .held _ => 1
def uptoBulkAll {H : Type} : List (DataW H) → Nat
  | [] => 0
  | d :: r => uptoBulk d + uptoBulkAll r
def uptoBulkEntries {H : Type} : List (Lit × DataW H) → Nat
  | [] => 0
  | x :: r => uptoBulkEntry x + uptoBulkEntries r
def uptoBulkEntry {H : Type} : Lit × DataW H → Nat
  | (.string bytes, d) => bytes.length + uptoBulk d + 1
  | (_, d) => uptoBulk d + 1
 end
def uptoSmall : (H : Type) → List (DataW H) → Bool := fun _ ds => decide (uptoBulkAll ds ≤ 1048576)
def OpenSpec.upto (s : _root_.Go.ChangeSpec) : _root_.Go.OpenSpec := { _root_.Go.OpenSpec.ofChange s with cond := some uptoSmall }

/-- 'laws.FnExactUnionAll', WHERE WHAT IT READS IS OF BULK AT MOST 1048576: true; the input reads as it did. -/
def fnExactUnionAllUptoRow : OpenClaim := { program := "ytldgjocjcbhkmaa", sum := "2abbd85d1353302d8273b7fdda61ce5035388c329ea7f5ce6c39e8724b2893d4", func := "loop.example/g00890/laws.FnExactUnionAll", spec := "fnExactUnionAll", apart := false, narrowed := true }
def FnExactUnionAllUptoSaid : Prop := fnExactUnionAllUptoRow.holds Try.pinned (OpenSpec.upto fnExactUnionAllSpec)

/-- 'laws.FnRegionOf', WHERE WHAT IT READS IS OF BULK AT MOST 1048576: true; the input reads as it did. -/
def fnRegionOfUptoRow : OpenClaim := { program := "ytldgjocjcbhkmaa", sum := "2abbd85d1353302d8273b7fdda61ce5035388c329ea7f5ce6c39e8724b2893d4", func := "loop.example/g00890/laws.FnRegionOf", spec := "fnRegionOf", unfollowed := true, recurses := true, apart := false, narrowed := true }
def FnRegionOfUptoSaid : Prop := fnRegionOfUptoRow.holds Try.pinned (OpenSpec.upto fnRegionOfSpec)

/-- 'laws.FnAreas', WHERE WHAT IT READS IS OF BULK AT MOST 1048576: true; the input reads as it did. -/
def fnAreasUptoRow : OpenClaim := { program := "ytldgjocjcbhkmaa", sum := "2abbd85d1353302d8273b7fdda61ce5035388c329ea7f5ce6c39e8724b2893d4", func := "loop.example/g00890/laws.FnAreas", spec := "fnAreas", unfollowed := true, recurses := true, apart := false, narrowed := true }
def FnAreasUptoSaid : Prop := fnAreasUptoRow.holds Try.pinned (OpenSpec.upto fnAreasSpec)

/-- 'laws.FnDistance', WHERE WHAT IT READS IS OF BULK AT MOST 1048576: true; the input reads as it did. -/
def fnDistanceUptoRow : OpenClaim := { program := "ytldgjocjcbhkmaa", sum := "2abbd85d1353302d8273b7fdda61ce5035388c329ea7f5ce6c39e8724b2893d4", func := "loop.example/g00890/laws.FnDistance", spec := "fnDistance", apart := false, narrowed := true }
def FnDistanceUptoSaid : Prop := fnDistanceUptoRow.holds Try.pinned (OpenSpec.upto fnDistanceSpec)

/-- 'laws.FnDistributive', WHERE WHAT IT READS IS OF BULK AT MOST 1048576: true; the input reads as it did. -/
def fnDistributiveUptoRow : OpenClaim := { program := "ytldgjocjcbhkmaa", sum := "2abbd85d1353302d8273b7fdda61ce5035388c329ea7f5ce6c39e8724b2893d4", func := "loop.example/g00890/laws.FnDistributive", spec := "fnDistributive", unfollowed := true, recurses := true, apart := false, narrowed := true }
def FnDistributiveUptoSaid : Prop := fnDistributiveUptoRow.holds Try.pinned (OpenSpec.upto fnDistributiveSpec)

/-- 'laws.FnOpening', WHERE WHAT IT READS IS OF BULK AT MOST 1048576: true; the input reads as it did. -/
def fnOpeningUptoRow : OpenClaim := { program := "ytldgjocjcbhkmaa", sum := "2abbd85d1353302d8273b7fdda61ce5035388c329ea7f5ce6c39e8724b2893d4", func := "loop.example/g00890/laws.FnOpening", spec := "fnOpening", apart := false, narrowed := true }
def FnOpeningUptoSaid : Prop := fnOpeningUptoRow.holds Try.pinned (OpenSpec.upto fnOpeningSpec)

/-- 'laws.FnBoolean', WHERE WHAT IT READS IS OF BULK AT MOST 1048576: true; the input reads as it did. -/
def fnBooleanUptoRow : OpenClaim := { program := "ytldgjocjcbhkmaa", sum := "2abbd85d1353302d8273b7fdda61ce5035388c329ea7f5ce6c39e8724b2893d4", func := "loop.example/g00890/laws.FnBoolean", spec := "fnBoolean", unfollowed := true, recurses := true, apart := false, narrowed := true }
def FnBooleanUptoSaid : Prop := fnBooleanUptoRow.holds Try.pinned (OpenSpec.upto fnBooleanSpec)

/-- 'laws.FnSizing', WHERE WHAT IT READS IS OF BULK AT MOST 1048576: true; the input reads as it did. -/
def fnSizingUptoRow : OpenClaim := { program := "ytldgjocjcbhkmaa", sum := "2abbd85d1353302d8273b7fdda61ce5035388c329ea7f5ce6c39e8724b2893d4", func := "loop.example/g00890/laws.FnSizing", spec := "fnSizing", apart := false, narrowed := true }
def FnSizingUptoSaid : Prop := fnSizingUptoRow.holds Try.pinned (OpenSpec.upto fnSizingSpec)

/-- 'laws.FnSquares', WHERE WHAT IT READS IS OF BULK AT MOST 1048576: true; the input reads as it did. -/
def fnSquaresUptoRow : OpenClaim := { program := "ytldgjocjcbhkmaa", sum := "2abbd85d1353302d8273b7fdda61ce5035388c329ea7f5ce6c39e8724b2893d4", func := "loop.example/g00890/laws.FnSquares", spec := "fnSquares", apart := false, narrowed := true }
def FnSquaresUptoSaid : Prop := fnSquaresUptoRow.holds Try.pinned (OpenSpec.upto fnSquaresSpec)

/-- 'laws.FnMoveRegions', WHERE WHAT IT READS IS OF BULK AT MOST 1048576: true; the input reads as it did. -/
def fnMoveRegionsUptoRow : OpenClaim := { program := "ytldgjocjcbhkmaa", sum := "2abbd85d1353302d8273b7fdda61ce5035388c329ea7f5ce6c39e8724b2893d4", func := "loop.example/g00890/laws.FnMoveRegions", spec := "fnMoveRegions", unfollowed := true, recurses := true, apart := false, narrowed := true }
def FnMoveRegionsUptoSaid : Prop := fnMoveRegionsUptoRow.holds Try.pinned (OpenSpec.upto fnMoveRegionsSpec)

/-- 'laws.FnExactBoundingBox', WHERE WHAT IT READS IS OF BULK AT MOST 1048576: true; the input reads as it did. -/
def fnExactBoundingBoxUptoRow : OpenClaim := { program := "ytldgjocjcbhkmaa", sum := "2abbd85d1353302d8273b7fdda61ce5035388c329ea7f5ce6c39e8724b2893d4", func := "loop.example/g00890/laws.FnExactBoundingBox", spec := "fnExactBoundingBox", apart := false, narrowed := true }
def FnExactBoundingBoxUptoSaid : Prop := fnExactBoundingBoxUptoRow.holds Try.pinned (OpenSpec.upto fnExactBoundingBoxSpec)

/-- 'laws.FnExactFindTransform', WHERE WHAT IT READS IS OF BULK AT MOST 1048576: true; the input reads as it did. -/
def fnExactFindTransformUptoRow : OpenClaim := { program := "ytldgjocjcbhkmaa", sum := "2abbd85d1353302d8273b7fdda61ce5035388c329ea7f5ce6c39e8724b2893d4", func := "loop.example/g00890/laws.FnExactFindTransform", spec := "fnExactFindTransform", apart := false, narrowed := true }
def FnExactFindTransformUptoSaid : Prop := fnExactFindTransformUptoRow.holds Try.pinned (OpenSpec.upto fnExactFindTransformSpec)

end Rows
end Go.Proofs.Ytldgjocjcbhkmaa
