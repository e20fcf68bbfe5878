/-
  DERIVED. GIVEN WITH THE SEED: THE CARDS: each row of YthnfjbnebfjjfaaDoorRows.lean that lists a variable, with what it lists TIED to the program's text (the seventh form; the later family's looks); each row that meets fmt, with fmt's text TOLD by the authors' own Lean function (tested against real Go, not proved from fmt's source: count such statements apart). THE CARD IS WHAT COUNTS. Prove the row's statement (the work); the ties are given (YthnfjbnebfjjfaaDoorTie.lean); close each card by the builder's one call (the guide's Derived/Test/ToyasCard.lean, 'card_holds'). Laid BY PROGRAM, IN A SANDBOX (cutbox-door.mjs). By AI agents, Wed Nov 11 2026. No macro, syntax, notation, axiom, sorry.
-/
import Derived.Test.YthnfjbnebfjjfaaDoorRows
import GoSem.ClaimSeven
namespace Go.Proofs.YthnfjbnebfjjfaaDoor
namespace Rows

/-- THE TIED CARD OF 'gossamerlaw11.LockKeys'. -/
def lockKeysCard : Claim7 := { stood := { row := lockKeysRow, standIns := [], harness := (true, "863a9fd1cc519729ee97e5f4edaf6283cc3806a99850f8c10f8770cab85e29d2"), looks := true }, kinds := [], alts := [], laidByText := true, laidKinds := [.data, .data, .data], laidTests := true, laidLooks := .later }
def LockKeysCardSaid : Prop := Claim7.holds Tryd.pinned (.plain (OpenSpec.ofChange lockKeysSpec)) lockKeysCard

/-- THE TIED CARD OF 'gossamerlaw11.LockChecks'. -/
def lockChecksCard : Claim7 := { stood := { row := lockChecksRow, standIns := [], harness := (true, "863a9fd1cc519729ee97e5f4edaf6283cc3806a99850f8c10f8770cab85e29d2"), looks := true }, kinds := [], alts := [], laidByText := true, laidKinds := [.data, .data, .data], laidTests := true, laidLooks := .later }
def LockChecksCardSaid : Prop := Claim7.holds Tryd.pinned (.plain (OpenSpec.ofChange lockChecksSpec)) lockChecksCard

/-- THE TIED CARD OF 'gossamerlaw11.LockSigns'. -/
def lockSignsCard : Claim7 := { stood := { row := lockSignsRow, standIns := [], harness := (true, "863a9fd1cc519729ee97e5f4edaf6283cc3806a99850f8c10f8770cab85e29d2"), looks := true }, kinds := [], alts := [], laidByText := true, laidKinds := [.data, .data, .data], laidTests := true, laidLooks := .later }
def LockSignsCardSaid : Prop := Claim7.holds Tryd.pinned (.plain (OpenSpec.ofChange lockSignsSpec)) lockSignsCard

/-- THE SECOND FORM's CARD OF 'gossamerlaw11.LockKeys'. -/
def lockKeysUptoCard : Claim7 := { stood := { row := lockKeysUptoRow, standIns := [], harness := (true, "863a9fd1cc519729ee97e5f4edaf6283cc3806a99850f8c10f8770cab85e29d2"), looks := true }, kinds := [], alts := [], laidByText := true, laidKinds := [.data, .data, .data], laidTests := true, laidLooks := .later }
def LockKeysUptoCardSaid : Prop := Claim7.holds Tryd.pinned (.plain (OpenSpec.upto lockKeysSpec)) lockKeysUptoCard

/-- THE SECOND FORM's CARD OF 'gossamerlaw11.LockChecks'. -/
def lockChecksUptoCard : Claim7 := { stood := { row := lockChecksUptoRow, standIns := [], harness := (true, "863a9fd1cc519729ee97e5f4edaf6283cc3806a99850f8c10f8770cab85e29d2"), looks := true }, kinds := [], alts := [], laidByText := true, laidKinds := [.data, .data, .data], laidTests := true, laidLooks := .later }
def LockChecksUptoCardSaid : Prop := Claim7.holds Tryd.pinned (.plain (OpenSpec.upto lockChecksSpec)) lockChecksUptoCard

/-- THE SECOND FORM's CARD OF 'gossamerlaw11.LockSigns'. -/
def lockSignsUptoCard : Claim7 := { stood := { row := lockSignsUptoRow, standIns := [], harness := (true, "863a9fd1cc519729ee97e5f4edaf6283cc3806a99850f8c10f8770cab85e29d2"), looks := true }, kinds := [], alts := [], laidByText := true, laidKinds := [.data, .data, .data], laidTests := true, laidLooks := .later }
def LockSignsUptoCardSaid : Prop := Claim7.holds Tryd.pinned (.plain (OpenSpec.upto lockSignsSpec)) lockSignsUptoCard
end Rows
end Go.Proofs.YthnfjbnebfjjfaaDoor
