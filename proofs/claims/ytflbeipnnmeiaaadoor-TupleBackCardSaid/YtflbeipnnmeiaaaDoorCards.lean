/-
  DERIVED. GIVEN WITH THE SEED: THE CARDS: each row of YtflbeipnnmeiaaaDoorRows.lean that lists a variable, with what it lists TIED to the program's text (the seventh form; the later family's looks); each row that meets fmt, with fmt's text TOLD by the authors' own Lean function (tested against real Go, not proved from fmt's source: count such statements apart). THE CARD IS WHAT COUNTS. Prove the row's statement (the work); the ties are given (YtflbeipnnmeiaaaDoorTie.lean); close each card by the builder's one call (the guide's Derived/Test/ToyasCard.lean, 'card_holds'). Laid BY PROGRAM, IN A SANDBOX (cutbox-door.mjs). By AI agents, Wed Nov 11 2026. No macro, syntax, notation, axiom, sorry.
-/
import Derived.Test.YtflbeipnnmeiaaaDoorRows
import GoSem.ClaimSeven
namespace Go.Proofs.YtflbeipnnmeiaaaDoor
namespace Rows

/-- THE TIED CARD OF 'goitlaw7.TupleOrder'. -/
def tupleOrderCard : Claim7 := { stood := { row := tupleOrderRow, standIns := [], harness := (true, "5ce1656406901181366f156a7906713c45c401f79f5442aa3b3b4fd26f304542"), looks := true }, kinds := [], alts := [], laidByText := true, laidKinds := [.data, .data, .data], laidTests := true, laidLooks := .later }
def TupleOrderCardSaid : Prop := Claim7.holds Tryd.pinned (.plain (OpenSpec.ofChange tupleOrderSpec)) tupleOrderCard

/-- THE TIED CARD OF 'goitlaw7.TupleRow'. -/
def tupleRowCard : Claim7 := { stood := { row := tupleRowRow, standIns := [], harness := (true, "5ce1656406901181366f156a7906713c45c401f79f5442aa3b3b4fd26f304542"), looks := true }, kinds := [], alts := [], laidByText := true, laidKinds := [.data, .data, .data], laidTests := true, laidLooks := .later }
def TupleRowCardSaid : Prop := Claim7.holds Tryd.pinned (.plain (OpenSpec.ofChange tupleRowSpec)) tupleRowCard

/-- THE TIED CARD OF 'goitlaw5.ManifestNames'. -/
def manifestNamesCard : Claim7 := { stood := { row := manifestNamesRow, standIns := [], harness := (true, "5ce1656406901181366f156a7906713c45c401f79f5442aa3b3b4fd26f304542"), looks := true }, kinds := [], alts := [], laidByText := true, laidKinds := [.data, .data, .data], laidTests := true, laidLooks := .later }
def ManifestNamesCardSaid : Prop := Claim7.holds Tryd.pinned (.plain (OpenSpec.ofChange manifestNamesSpec)) manifestNamesCard

/-- THE TIED CARD OF 'goitlaw7.TupleBack'. -/
def tupleBackCard : Claim7 := { stood := { row := tupleBackRow, standIns := [], harness := (true, "5ce1656406901181366f156a7906713c45c401f79f5442aa3b3b4fd26f304542"), looks := true }, kinds := [], alts := [], laidByText := true, laidKinds := [.data, .data, .data, .data, .sentinel, .sentinel, .pinned], laidTests := true, laidLooks := .later }
def TupleBackCardSaid : Prop := Claim7.holds Tryd.pinned (.plain (OpenSpec.ofChange tupleBackSpec)) tupleBackCard

/-- THE SECOND FORM's CARD OF 'goitlaw7.TupleOrder'. -/
def tupleOrderUptoCard : Claim7 := { stood := { row := tupleOrderUptoRow, standIns := [], harness := (true, "5ce1656406901181366f156a7906713c45c401f79f5442aa3b3b4fd26f304542"), looks := true }, kinds := [], alts := [], laidByText := true, laidKinds := [.data, .data, .data], laidTests := true, laidLooks := .later }
def TupleOrderUptoCardSaid : Prop := Claim7.holds Tryd.pinned (.plain (OpenSpec.upto tupleOrderSpec)) tupleOrderUptoCard

/-- THE SECOND FORM's CARD OF 'goitlaw7.TupleRow'. -/
def tupleRowUptoCard : Claim7 := { stood := { row := tupleRowUptoRow, standIns := [], harness := (true, "5ce1656406901181366f156a7906713c45c401f79f5442aa3b3b4fd26f304542"), looks := true }, kinds := [], alts := [], laidByText := true, laidKinds := [.data, .data, .data], laidTests := true, laidLooks := .later }
def TupleRowUptoCardSaid : Prop := Claim7.holds Tryd.pinned (.plain (OpenSpec.upto tupleRowSpec)) tupleRowUptoCard

/-- THE SECOND FORM's CARD OF 'goitlaw5.ManifestNames'. -/
def manifestNamesUptoCard : Claim7 := { stood := { row := manifestNamesUptoRow, standIns := [], harness := (true, "5ce1656406901181366f156a7906713c45c401f79f5442aa3b3b4fd26f304542"), looks := true }, kinds := [], alts := [], laidByText := true, laidKinds := [.data, .data, .data], laidTests := true, laidLooks := .later }
def ManifestNamesUptoCardSaid : Prop := Claim7.holds Tryd.pinned (.plain (OpenSpec.upto manifestNamesSpec)) manifestNamesUptoCard

/-- THE SECOND FORM's CARD OF 'goitlaw7.TupleBack'. -/
def tupleBackUptoCard : Claim7 := { stood := { row := tupleBackUptoRow, standIns := [], harness := (true, "5ce1656406901181366f156a7906713c45c401f79f5442aa3b3b4fd26f304542"), looks := true }, kinds := [], alts := [], laidByText := true, laidKinds := [.data, .data, .data, .data, .sentinel, .sentinel, .pinned], laidTests := true, laidLooks := .later }
def TupleBackUptoCardSaid : Prop := Claim7.holds Tryd.pinned (.plain (OpenSpec.upto tupleBackSpec)) tupleBackUptoCard
end Rows
end Go.Proofs.YtflbeipnnmeiaaaDoor
