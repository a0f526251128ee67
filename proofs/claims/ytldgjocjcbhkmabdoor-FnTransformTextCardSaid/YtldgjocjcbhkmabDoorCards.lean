/-
  DERIVED. GIVEN WITH THE SEED: THE CARDS: each row of YtldgjocjcbhkmabDoorRows.lean that lists a variable, with what it lists TIED to the program's text (the seventh form; the later family's looks); each row that meets fmt, with fmt's text TOLD by the authors' own Lean function (tested against real Go, not proved from fmt's source: count such statements apart). THE CARD IS WHAT COUNTS. Prove the row's statement (the work); the ties are given (YtldgjocjcbhkmabDoorTie.lean); close each card by the builder's one call (the guide's Derived/Test/ToyasCard.lean, 'card_holds'). Laid BY PROGRAM, IN A SANDBOX (cutbox-door.mjs). By AI agents, Wed Nov 11 2026. No macro, syntax, notation, axiom, sorry.
-/
import Derived.Test.YtldgjocjcbhkmabDoorRows
import GoSem.ClaimSeven
namespace Go.Proofs.YtldgjocjcbhkmabDoor
namespace Rows

/-- THE TIED CARD OF 'laws.FnExactFormatTransform'. -/
def fnExactFormatTransformCard : Claim7 := { stood := { row := fnExactFormatTransformRow, standIns := [], harness := (true, "0bde62939612b391efbb4310f3fe397adc3abe477e44bb6579449d10d1975fa6"), looks := true }, kinds := [], alts := [], laidByText := true, laidKinds := [.data, .data, .data], laidTests := true, laidLooks := .later }
def FnExactFormatTransformCardSaid : Prop := Claim7.holds Tryd.pinned (.plain (OpenSpec.ofChange fnExactFormatTransformSpec)) fnExactFormatTransformCard

/-- THE TIED CARD OF 'laws.FnExactParseTransform'. -/
def fnExactParseTransformCard : Claim7 := { stood := { row := fnExactParseTransformRow, standIns := [], harness := (true, "0bde62939612b391efbb4310f3fe397adc3abe477e44bb6579449d10d1975fa6"), looks := true }, kinds := [], alts := [], laidByText := true, laidKinds := [.data, .data, .data, .data, .sentinel, .sentinel, .pinned], laidTests := true, laidLooks := .later }
def FnExactParseTransformCardSaid : Prop := Claim7.holds Tryd.pinned (.plain (OpenSpec.ofChange fnExactParseTransformSpec)) fnExactParseTransformCard

/-- THE TIED CARD OF 'laws.FnTransformText'. -/
def fnTransformTextCard : Claim7 := { stood := { row := fnTransformTextRow, standIns := [], harness := (true, "0bde62939612b391efbb4310f3fe397adc3abe477e44bb6579449d10d1975fa6"), looks := true }, kinds := [], alts := [], laidByText := true, laidKinds := [.data, .data, .data, .data, .sentinel, .sentinel, .pinned], laidTests := true, laidLooks := .later }
def FnTransformTextCardSaid : Prop := Claim7.holds Tryd.pinned (.plain (OpenSpec.ofChange fnTransformTextSpec)) fnTransformTextCard

/-- THE SECOND FORM's CARD OF 'laws.FnExactFormatTransform'. -/
def fnExactFormatTransformUptoCard : Claim7 := { stood := { row := fnExactFormatTransformUptoRow, standIns := [], harness := (true, "0bde62939612b391efbb4310f3fe397adc3abe477e44bb6579449d10d1975fa6"), looks := true }, kinds := [], alts := [], laidByText := true, laidKinds := [.data, .data, .data], laidTests := true, laidLooks := .later }
def FnExactFormatTransformUptoCardSaid : Prop := Claim7.holds Tryd.pinned (.plain (OpenSpec.upto fnExactFormatTransformSpec)) fnExactFormatTransformUptoCard

/-- THE SECOND FORM's CARD OF 'laws.FnExactParseTransform'. -/
def fnExactParseTransformUptoCard : Claim7 := { stood := { row := fnExactParseTransformUptoRow, standIns := [], harness := (true, "0bde62939612b391efbb4310f3fe397adc3abe477e44bb6579449d10d1975fa6"), looks := true }, kinds := [], alts := [], laidByText := true, laidKinds := [.data, .data, .data, .data, .sentinel, .sentinel, .pinned], laidTests := true, laidLooks := .later }
def FnExactParseTransformUptoCardSaid : Prop := Claim7.holds Tryd.pinned (.plain (OpenSpec.upto fnExactParseTransformSpec)) fnExactParseTransformUptoCard

/-- THE SECOND FORM's CARD OF 'laws.FnTransformText'. -/
def fnTransformTextUptoCard : Claim7 := { stood := { row := fnTransformTextUptoRow, standIns := [], harness := (true, "0bde62939612b391efbb4310f3fe397adc3abe477e44bb6579449d10d1975fa6"), looks := true }, kinds := [], alts := [], laidByText := true, laidKinds := [.data, .data, .data, .data, .sentinel, .sentinel, .pinned], laidTests := true, laidLooks := .later }
def FnTransformTextUptoCardSaid : Prop := Claim7.holds Tryd.pinned (.plain (OpenSpec.upto fnTransformTextSpec)) fnTransformTextUptoCard
end Rows
end Go.Proofs.YtldgjocjcbhkmabDoor
