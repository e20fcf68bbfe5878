/-
  DERIVED. GIVEN WITH THE SEED: THE CARDS: each row of YtlgfekllkahfaaaDoorRows.lean that lists a variable, with what it lists TIED to the program's text (the seventh form; the later family's looks); each row that meets fmt, with fmt's text TOLD by the authors' own Lean function (tested against real Go, not proved from fmt's source: count such statements apart). THE CARD IS WHAT COUNTS. Prove the row's statement (the work); the ties are given (YtlgfekllkahfaaaDoorTie.lean); close each card by the builder's one call (the guide's Derived/Test/ToyasCard.lean, 'card_holds'). Laid BY PROGRAM, IN A SANDBOX (cutbox-door.mjs). By AI agents, Wed Nov 11 2026. No macro, syntax, notation, axiom, sorry.
-/
import Derived.Test.YtlgfekllkahfaaaDoorRows
import GoSem.ClaimSeven
namespace Go.Proofs.YtlgfekllkahfaaaDoor
namespace Rows

/-- THE TIED CARD OF 'gossamerlaw10.TxWitness'. -/
def txWitnessCard : Claim7 := { stood := { row := txWitnessRow, standIns := [], harness := (true, "ba30aa502e878da679d2baa1b44b95abd0e0cd68919d3a1dcd8c07a702644c4d"), looks := false }, kinds := [], alts := [], laidByText := true, laidKinds := [.data, .data], laidTests := true, laidLooks := .later }
def TxWitnessCardSaid : Prop := Claim7.holds Tryd.pinned (.plain (OpenSpec.ofChange txWitnessSpec)) txWitnessCard

/-- THE TIED CARD OF 'gossamerlaw10.TxBytes'. -/
def txBytesCard : Claim7 := { stood := { row := txBytesRow, standIns := [], harness := (true, "ba30aa502e878da679d2baa1b44b95abd0e0cd68919d3a1dcd8c07a702644c4d"), looks := false }, kinds := [], alts := [], laidByText := true, laidKinds := [.data, .data, .data], laidTests := true, laidLooks := .later }
def TxBytesCardSaid : Prop := Claim7.holds Tryd.pinned (.plain (OpenSpec.ofChange txBytesSpec)) txBytesCard

/-- THE SECOND FORM's CARD OF 'gossamerlaw10.TxWitness'. -/
def txWitnessUptoCard : Claim7 := { stood := { row := txWitnessUptoRow, standIns := [], harness := (true, "ba30aa502e878da679d2baa1b44b95abd0e0cd68919d3a1dcd8c07a702644c4d"), looks := false }, kinds := [], alts := [], laidByText := true, laidKinds := [.data, .data], laidTests := true, laidLooks := .later }
def TxWitnessUptoCardSaid : Prop := Claim7.holds Tryd.pinned (.plain (OpenSpec.upto txWitnessSpec)) txWitnessUptoCard

/-- THE SECOND FORM's CARD OF 'gossamerlaw10.TxBytes'. -/
def txBytesUptoCard : Claim7 := { stood := { row := txBytesUptoRow, standIns := [], harness := (true, "ba30aa502e878da679d2baa1b44b95abd0e0cd68919d3a1dcd8c07a702644c4d"), looks := false }, kinds := [], alts := [], laidByText := true, laidKinds := [.data, .data, .data], laidTests := true, laidLooks := .later }
def TxBytesUptoCardSaid : Prop := Claim7.holds Tryd.pinned (.plain (OpenSpec.upto txBytesSpec)) txBytesUptoCard
end Rows
end Go.Proofs.YtlgfekllkahfaaaDoor
