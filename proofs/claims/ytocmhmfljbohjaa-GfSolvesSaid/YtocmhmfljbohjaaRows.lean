/-
  No cell of these rows narrows 'for every input' (looked for: loops, veiled, ifaces, maps, wideKeys, modest, calm, conditions, laid).
  DERIVED. THE GIVEN ROWS OF THIS SEAT. 6 by the template 'for every input the law returns true; each argument reads behind the call as it read before'; 0 by the template 'total and deterministic' (their statements: YtocmhmfljbohjaaTotals.lean).
  GIVEN WITH THE SEED: the statements are not yours to turn. If you find one false, say at which input.
  Laid BY PROGRAM, IN A SANDBOX (cutbox-rows.mjs): the forced cells as the released guide's own fill.sh prints them over the translation 214220f55562bc4d… (all of the seat's roots in one cut). By AI agents, Wed Nov 11 2026. No macro, syntax, notation, axiom, sorry.
-/
import Derived.Test.YtocmhmfljbohjaaChecked
import GoSem.Claim
import GoSem.ClaimJoined
import GoSem.ClaimMapViews
import Derived.JoinedTies
import Derived.KernelRfl
namespace Go.Proofs.Ytocmhmfljbohjaa
/- THE CELL 'sum', in the pinned program and in every row, IS THE sha256 OF THE DUMP (.gsa) THAT YtocmhmfljbohjaaProg.lean LOADS. Nothing in Lean hashes anything: it is a label: what it is worth is what the hold of that sum in a sandbox is worth. -/
noncomputable def Try.pinned : Pinned := { name := "ytocmhmfljbohjaa", sum := "214220f55562bc4dd036bae5f5ebee6df55025dd39df2a74821ad242a2640375", checked := Try.checked }
namespace Rows
def none {H : Type} : Left H := { results := [], args := [] }

/-- 'gossamerlaw01.GfField': WHATEVER THE INPUT: true; the input reads as it did. -/
def gfFieldSpec : ChangeSpec := { name := "gfField", fn := fun _ => fun
  | [d1, d2, d3] => { results := [.lit (.bool true)], args := [d1, d2, d3] }
  | _ => none }
def gfFieldRow : OpenClaim := { program := "ytocmhmfljbohjaa", sum := "214220f55562bc4dd036bae5f5ebee6df55025dd39df2a74821ad242a2640375", func := "gossamer/gossamerlaw01.GfField", spec := "gfField", apart := false }
def GfFieldSaid : Prop := gfFieldRow.holds Try.pinned (OpenSpec.ofChange gfFieldSpec)

/-- ITS FALSE NEIGHBOUR: 'it returns false'. Refute it at one input. -/
def gfFieldWrong : ChangeSpec := { name := "gfField", fn := fun _ => fun
  | [d1, d2, d3] => { results := [.lit (.bool false)], args := [d1, d2, d3] }
  | _ => none }
def GfFieldWrongFalsely : Prop := gfFieldRow.holds Try.pinned (OpenSpec.ofChange gfFieldWrong)

/-- 'gossamerlaw01.GfSquares': WHATEVER THE INPUT: true; the input reads as it did. -/
def gfSquaresSpec : ChangeSpec := { name := "gfSquares", fn := fun _ => fun
  | [d] => { results := [.lit (.bool true)], args := [d] }
  | _ => none }
def gfSquaresRow : OpenClaim := { program := "ytocmhmfljbohjaa", sum := "214220f55562bc4dd036bae5f5ebee6df55025dd39df2a74821ad242a2640375", func := "gossamer/gossamerlaw01.GfSquares", spec := "gfSquares", apart := false }
def GfSquaresSaid : Prop := gfSquaresRow.holds Try.pinned (OpenSpec.ofChange gfSquaresSpec)

/-- ITS FALSE NEIGHBOUR: 'it returns false'. Refute it at one input. -/
def gfSquaresWrong : ChangeSpec := { name := "gfSquares", fn := fun _ => fun
  | [d] => { results := [.lit (.bool false)], args := [d] }
  | _ => none }
def GfSquaresWrongFalsely : Prop := gfSquaresRow.holds Try.pinned (OpenSpec.ofChange gfSquaresWrong)

/-- 'gossamerlaw01.GfPowers': WHATEVER THE INPUT: true; the input reads as it did. -/
def gfPowersSpec : ChangeSpec := { name := "gfPowers", fn := fun _ => fun
  | [d1, d2] => { results := [.lit (.bool true)], args := [d1, d2] }
  | _ => none }
def gfPowersRow : OpenClaim := { program := "ytocmhmfljbohjaa", sum := "214220f55562bc4dd036bae5f5ebee6df55025dd39df2a74821ad242a2640375", func := "gossamer/gossamerlaw01.GfPowers", spec := "gfPowers", recurses := true, apart := false }
def GfPowersSaid : Prop := gfPowersRow.holds Try.pinned (OpenSpec.ofChange gfPowersSpec)

/-- ITS FALSE NEIGHBOUR: 'it returns false'. Refute it at one input. -/
def gfPowersWrong : ChangeSpec := { name := "gfPowers", fn := fun _ => fun
  | [d1, d2] => { results := [.lit (.bool false)], args := [d1, d2] }
  | _ => none }
def GfPowersWrongFalsely : Prop := gfPowersRow.holds Try.pinned (OpenSpec.ofChange gfPowersWrong)

/-- 'gossamerlaw01.GfNone': WHATEVER THE INPUT: true; the input reads as it did. -/
def gfNoneSpec : ChangeSpec := { name := "gfNone", fn := fun _ => fun
  | [d] => { results := [.lit (.bool true)], args := [d] }
  | _ => none }
def gfNoneRow : OpenClaim := { program := "ytocmhmfljbohjaa", sum := "214220f55562bc4dd036bae5f5ebee6df55025dd39df2a74821ad242a2640375", func := "gossamer/gossamerlaw01.GfNone", spec := "gfNone", apart := false }
def GfNoneSaid : Prop := gfNoneRow.holds Try.pinned (OpenSpec.ofChange gfNoneSpec)

/-- ITS FALSE NEIGHBOUR: 'it returns false'. Refute it at one input. -/
def gfNoneWrong : ChangeSpec := { name := "gfNone", fn := fun _ => fun
  | [d] => { results := [.lit (.bool false)], args := [d] }
  | _ => none }
def GfNoneWrongFalsely : Prop := gfNoneRow.holds Try.pinned (OpenSpec.ofChange gfNoneWrong)

/-- 'gossamerlaw01.GfMuls': WHATEVER THE INPUT: true; the input reads as it did. -/
def gfMulsSpec : ChangeSpec := { name := "gfMuls", fn := fun _ => fun
  | [d1, d2, d3] => { results := [.lit (.bool true)], args := [d1, d2, d3] }
  | _ => none }
def gfMulsRow : OpenClaim := { program := "ytocmhmfljbohjaa", sum := "214220f55562bc4dd036bae5f5ebee6df55025dd39df2a74821ad242a2640375", func := "gossamer/gossamerlaw01.GfMuls", spec := "gfMuls", apart := false }
def GfMulsSaid : Prop := gfMulsRow.holds Try.pinned (OpenSpec.ofChange gfMulsSpec)

/-- ITS FALSE NEIGHBOUR: 'it returns false'. Refute it at one input. -/
def gfMulsWrong : ChangeSpec := { name := "gfMuls", fn := fun _ => fun
  | [d1, d2, d3] => { results := [.lit (.bool false)], args := [d1, d2, d3] }
  | _ => none }
def GfMulsWrongFalsely : Prop := gfMulsRow.holds Try.pinned (OpenSpec.ofChange gfMulsWrong)

/-- 'gossamerlaw01.GfSolves': WHATEVER THE INPUT: true; the input reads as it did. -/
def gfSolvesSpec : ChangeSpec := { name := "gfSolves", fn := fun _ => fun
  | [d] => { results := [.lit (.bool true)], args := [d] }
  | _ => none }
def gfSolvesRow : OpenClaim := { program := "ytocmhmfljbohjaa", sum := "214220f55562bc4dd036bae5f5ebee6df55025dd39df2a74821ad242a2640375", func := "gossamer/gossamerlaw01.GfSolves", spec := "gfSolves", recurses := true, apart := false }
def GfSolvesSaid : Prop := gfSolvesRow.holds Try.pinned (OpenSpec.ofChange gfSolvesSpec)

/-- ITS FALSE NEIGHBOUR: 'it returns false'. Refute it at one input. -/
def gfSolvesWrong : ChangeSpec := { name := "gfSolves", fn := fun _ => fun
  | [d] => { results := [.lit (.bool false)], args := [d] }
  | _ => none }
def GfSolvesWrongFalsely : Prop := gfSolvesRow.holds Try.pinned (OpenSpec.ofChange gfSolvesWrong)

/- THE SECOND FORM. 'bulk': how many values and letters a reading holds, each counted each time it is reached (what is shared counts as often as it is met; a slice's spare places count too). A statement '..UptoSaid' is the law's where the arguments, and the package variables that the reading takes, are together of bulk at most 1048576: NARROWER than '..Said'. Prove '..Said' where nothing that the law and all that it calls make is longer than what came in: it says more and counts as full. Else prove '..UptoSaid'. A law counts once. -/
mutual
def uptoBulk {H : Type} : DataW H → Nat
  | .lit (.string bytes) => bytes.length + 1
  | .lit _ => 1
  | .nil => 1
  | .ptr d => uptoBulk d + 1
  | .slice elems spare => uptoBulkAll elems + uptoBulkAll spare + 1
  | .agg parts => uptoBulkAll parts + 1
  | .iface _ d => uptoBulk d + 1
  | .map entries => uptoBulkEntries entries + 1
  | .held _ => 1
def uptoBulkAll {H : Type} : List (DataW H) → Nat
  | [] => 0
  | d :: r => uptoBulk d + uptoBulkAll r
def uptoBulkEntries {H : Type} : List (Lit × DataW H) → Nat
  | [] => 0
  | x :: r => uptoBulkEntry x + uptoBulkEntries r
def uptoBulkEntry {H : Type} : Lit × DataW H → Nat
  | (.string bytes, d) => bytes.length + uptoBulk d + 1
  | (_, d) => uptoBulk d + 1
 end
def uptoSmall : (H : Type) → List (DataW H) → Bool := fun _ ds => decide (uptoBulkAll ds ≤ 1048576)
def OpenSpec.upto (s : _root_.Go.ChangeSpec) : _root_.Go.OpenSpec := { _root_.Go.OpenSpec.ofChange s with cond := some uptoSmall }

/-- 'gossamerlaw01.GfField', WHERE WHAT IT READS IS OF BULK AT MOST 1048576: true; the input reads as it did. -/
def gfFieldUptoRow : OpenClaim := { program := "ytocmhmfljbohjaa", sum := "214220f55562bc4dd036bae5f5ebee6df55025dd39df2a74821ad242a2640375", func := "gossamer/gossamerlaw01.GfField", spec := "gfField", apart := false, narrowed := true }
def GfFieldUptoSaid : Prop := gfFieldUptoRow.holds Try.pinned (OpenSpec.upto gfFieldSpec)

/-- 'gossamerlaw01.GfSquares', WHERE WHAT IT READS IS OF BULK AT MOST 1048576: true; the input reads as it did. -/
def gfSquaresUptoRow : OpenClaim := { program := "ytocmhmfljbohjaa", sum := "214220f55562bc4dd036bae5f5ebee6df55025dd39df2a74821ad242a2640375", func := "gossamer/gossamerlaw01.GfSquares", spec := "gfSquares", apart := false, narrowed := true }
def GfSquaresUptoSaid : Prop := gfSquaresUptoRow.holds Try.pinned (OpenSpec.upto gfSquaresSpec)

/-- 'gossamerlaw01.GfPowers', WHERE WHAT IT READS IS OF BULK AT MOST 1048576: true; the input reads as it did. -/
def gfPowersUptoRow : OpenClaim := { program := "ytocmhmfljbohjaa", sum := "214220f55562bc4dd036bae5f5ebee6df55025dd39df2a74821ad242a2640375", func := "gossamer/gossamerlaw01.GfPowers", spec := "gfPowers", recurses := true, apart := false, narrowed := true }
def GfPowersUptoSaid : Prop := gfPowersUptoRow.holds Try.pinned (OpenSpec.upto gfPowersSpec)

/-- 'gossamerlaw01.GfNone', WHERE WHAT IT READS IS OF BULK AT MOST 1048576: true; the input reads as it did. -/
def gfNoneUptoRow : OpenClaim := { program := "ytocmhmfljbohjaa", sum := "214220f55562bc4dd036bae5f5ebee6df55025dd39df2a74821ad242a2640375", func := "gossamer/gossamerlaw01.GfNone", spec := "gfNone", apart := false, narrowed := true }
def GfNoneUptoSaid : Prop := gfNoneUptoRow.holds Try.pinned (OpenSpec.upto gfNoneSpec)

/-- 'gossamerlaw01.GfMuls', WHERE WHAT IT READS IS OF BULK AT MOST 1048576: true; the input reads as it did. -/
def gfMulsUptoRow : OpenClaim := { program := "ytocmhmfljbohjaa", sum := "214220f55562bc4dd036bae5f5ebee6df55025dd39df2a74821ad242a2640375", func := "gossamer/gossamerlaw01.GfMuls", spec := "gfMuls", apart := false, narrowed := true }
def GfMulsUptoSaid : Prop := gfMulsUptoRow.holds Try.pinned (OpenSpec.upto gfMulsSpec)

/-- 'gossamerlaw01.GfSolves', WHERE WHAT IT READS IS OF BULK AT MOST 1048576: true; the input reads as it did. -/
def gfSolvesUptoRow : OpenClaim := { program := "ytocmhmfljbohjaa", sum := "214220f55562bc4dd036bae5f5ebee6df55025dd39df2a74821ad242a2640375", func := "gossamer/gossamerlaw01.GfSolves", spec := "gfSolves", recurses := true, apart := false, narrowed := true }
def GfSolvesUptoSaid : Prop := gfSolvesUptoRow.holds Try.pinned (OpenSpec.upto gfSolvesSpec)

end Rows
end Go.Proofs.Ytocmhmfljbohjaa
