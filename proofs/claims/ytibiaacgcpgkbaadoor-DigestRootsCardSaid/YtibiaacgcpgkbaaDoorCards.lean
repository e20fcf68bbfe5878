/-
  DERIVED. GIVEN WITH THE SEED: THE CARDS: each row of YtibiaacgcpgkbaaDoorRows.lean that lists a variable, with what it lists TIED to the program's text (the seventh form; the later family's looks); each row that meets fmt, with fmt's text TOLD by the authors' own Lean function (tested against real Go, not proved from fmt's source: count such statements apart). THE CARD IS WHAT COUNTS. Prove the row's statement (the work); the ties are given (YtibiaacgcpgkbaaDoorTie.lean); close each card by the builder's one call (the guide's Derived/Test/ToyasCard.lean, 'card_holds'). Laid BY PROGRAM, IN A SANDBOX (cutbox-door.mjs). By AI agents, Wed Nov 11 2026. No macro, syntax, notation, axiom, sorry.
-/
import Derived.Test.YtibiaacgcpgkbaaDoorRows
import GoSem.ClaimSeven
namespace Go.Proofs.YtibiaacgcpgkbaaDoor
namespace Rows

/-- THE TIED CARD OF 'gossamerlaw07.DigestSums'. -/
def digestSumsCard : Claim7 := { stood := { row := digestSumsRow, standIns := [], harness := (true, "58ba068c03a640ad404d4e86e28038c45770cda64dcba11856f9a18d6b172dca"), looks := false }, kinds := [], alts := [], laidByText := true, laidKinds := [.data, .data, .data], laidTests := true, laidLooks := .later }
def DigestSumsCardSaid : Prop := Claim7.holds Tryd.pinned (.plain (OpenSpec.ofChange digestSumsSpec)) digestSumsCard

/-- THE TIED CARD OF 'gossamerlaw07.DigestParts'. -/
def digestPartsCard : Claim7 := { stood := { row := digestPartsRow, standIns := [], harness := (true, "58ba068c03a640ad404d4e86e28038c45770cda64dcba11856f9a18d6b172dca"), looks := false }, kinds := [], alts := [], laidByText := true, laidKinds := [.data, .data], laidTests := true, laidLooks := .later }
def DigestPartsCardSaid : Prop := Claim7.holds Tryd.pinned (.plain (OpenSpec.ofChange digestPartsSpec)) digestPartsCard

/-- THE TIED CARD OF 'gossamerlaw07.DigestOrders'. -/
def digestOrdersCard : Claim7 := { stood := { row := digestOrdersRow, standIns := [], harness := (true, "58ba068c03a640ad404d4e86e28038c45770cda64dcba11856f9a18d6b172dca"), looks := false }, kinds := [], alts := [], laidByText := true, laidKinds := [.data, .data], laidTests := true, laidLooks := .later }
def DigestOrdersCardSaid : Prop := Claim7.holds Tryd.pinned (.plain (OpenSpec.ofChange digestOrdersSpec)) digestOrdersCard

/-- THE TIED CARD OF 'gossamerlaw07.DigestTrees'. -/
def digestTreesCard : Claim7 := { stood := { row := digestTreesRow, standIns := [], harness := (true, "58ba068c03a640ad404d4e86e28038c45770cda64dcba11856f9a18d6b172dca"), looks := false }, kinds := [], alts := [], laidByText := true, laidKinds := [.data, .data, .data], laidTests := true, laidLooks := .later }
def DigestTreesCardSaid : Prop := Claim7.holds Tryd.pinned (.plain (OpenSpec.ofChange digestTreesSpec)) digestTreesCard

/-- THE TIED CARD OF 'gossamerlaw07.DigestRoots'. -/
def digestRootsCard : Claim7 := { stood := { row := digestRootsRow, standIns := [], harness := (true, "58ba068c03a640ad404d4e86e28038c45770cda64dcba11856f9a18d6b172dca"), looks := false }, kinds := [], alts := [], laidByText := true, laidKinds := [.data, .data], laidTests := true, laidLooks := .later }
def DigestRootsCardSaid : Prop := Claim7.holds Tryd.pinned (.plain (OpenSpec.ofChange digestRootsSpec)) digestRootsCard

/-- THE SECOND FORM's CARD OF 'gossamerlaw07.DigestSums'. -/
def digestSumsUptoCard : Claim7 := { stood := { row := digestSumsUptoRow, standIns := [], harness := (true, "58ba068c03a640ad404d4e86e28038c45770cda64dcba11856f9a18d6b172dca"), looks := false }, kinds := [], alts := [], laidByText := true, laidKinds := [.data, .data, .data], laidTests := true, laidLooks := .later }
def DigestSumsUptoCardSaid : Prop := Claim7.holds Tryd.pinned (.plain (OpenSpec.upto digestSumsSpec)) digestSumsUptoCard

/-- THE SECOND FORM's CARD OF 'gossamerlaw07.DigestParts'. -/
def digestPartsUptoCard : Claim7 := { stood := { row := digestPartsUptoRow, standIns := [], harness := (true, "58ba068c03a640ad404d4e86e28038c45770cda64dcba11856f9a18d6b172dca"), looks := false }, kinds := [], alts := [], laidByText := true, laidKinds := [.data, .data], laidTests := true, laidLooks := .later }
def DigestPartsUptoCardSaid : Prop := Claim7.holds Tryd.pinned (.plain (OpenSpec.upto digestPartsSpec)) digestPartsUptoCard

/-- THE SECOND FORM's CARD OF 'gossamerlaw07.DigestOrders'. -/
def digestOrdersUptoCard : Claim7 := { stood := { row := digestOrdersUptoRow, standIns := [], harness := (true, "58ba068c03a640ad404d4e86e28038c45770cda64dcba11856f9a18d6b172dca"), looks := false }, kinds := [], alts := [], laidByText := true, laidKinds := [.data, .data], laidTests := true, laidLooks := .later }
def DigestOrdersUptoCardSaid : Prop := Claim7.holds Tryd.pinned (.plain (OpenSpec.upto digestOrdersSpec)) digestOrdersUptoCard

/-- THE SECOND FORM's CARD OF 'gossamerlaw07.DigestTrees'. -/
def digestTreesUptoCard : Claim7 := { stood := { row := digestTreesUptoRow, standIns := [], harness := (true, "58ba068c03a640ad404d4e86e28038c45770cda64dcba11856f9a18d6b172dca"), looks := false }, kinds := [], alts := [], laidByText := true, laidKinds := [.data, .data, .data], laidTests := true, laidLooks := .later }
def DigestTreesUptoCardSaid : Prop := Claim7.holds Tryd.pinned (.plain (OpenSpec.upto digestTreesSpec)) digestTreesUptoCard

/-- THE SECOND FORM's CARD OF 'gossamerlaw07.DigestRoots'. -/
def digestRootsUptoCard : Claim7 := { stood := { row := digestRootsUptoRow, standIns := [], harness := (true, "58ba068c03a640ad404d4e86e28038c45770cda64dcba11856f9a18d6b172dca"), looks := false }, kinds := [], alts := [], laidByText := true, laidKinds := [.data, .data], laidTests := true, laidLooks := .later }
def DigestRootsUptoCardSaid : Prop := Claim7.holds Tryd.pinned (.plain (OpenSpec.upto digestRootsSpec)) digestRootsUptoCard
end Rows
end Go.Proofs.YtibiaacgcpgkbaaDoor
