/-
  No cell of these rows narrows 'for every input' (looked for: loops, veiled, ifaces, maps, wideKeys, modest, calm, conditions, laid).
  DERIVED. THE GIVEN ROWS OF THIS SEAT. 4 by the template 'for every input the law returns true; each argument reads behind the call as it read before'; 0 by the template 'total and deterministic' (their statements: YtblhkbncpopkcaaTotals.lean).
  GIVEN WITH THE SEED: the statements are not yours to turn. If you find one false, say at which input.
  Laid BY PROGRAM, IN A SANDBOX (cutbox-rows.mjs): the forced cells as the released guide's own fill.sh prints them over the translation 42d7ea6592c027b7… (all of the seat's roots in one cut). By AI agents, Wed Nov 11 2026. No macro, syntax, notation, axiom, sorry.
-/
import Derived.Test.YtblhkbncpopkcaaChecked
import GoSem.Claim
import GoSem.ClaimJoined
import GoSem.ClaimMapViews
import Derived.JoinedTies
import Derived.KernelRfl
namespace Go.Proofs.Ytblhkbncpopkcaa
/- THE CELL 'sum', in the pinned program and in every row, IS THE sha256 OF THE DUMP (.gsa) THAT YtblhkbncpopkcaaProg.lean LOADS. Nothing in Lean hashes anything: it is a label: what it is worth is what the hold of that sum in a sandbox is worth. -/
noncomputable def Try.pinned : Pinned := { name := "ytblhkbncpopkcaa", sum := "42d7ea6592c027b7b224c7488984eb48a825642d85732537f5e10202b0f6ecf6", checked := Try.checked }
namespace Rows
def none {H : Type} : Left H := { results := [], args := [] }

/-- 'gossamerlaw24.EstimateTells': WHATEVER THE INPUT: true; the input reads as it did. -/
def estimateTellsSpec : ChangeSpec := { name := "estimateTells", fn := fun _ => fun
  | [d1, d2, d3] => { results := [.lit (.bool true)], args := [d1, d2, d3] }
  | _ => none }
def estimateTellsRow : OpenClaim := { program := "ytblhkbncpopkcaa", sum := "42d7ea6592c027b7b224c7488984eb48a825642d85732537f5e10202b0f6ecf6", func := "gossamer/gossamerlaw24.EstimateTells", spec := "estimateTells", apart := false }
def EstimateTellsSaid : Prop := estimateTellsRow.holds Try.pinned (OpenSpec.ofChange estimateTellsSpec)

/-- ITS FALSE NEIGHBOUR: 'it returns false'. Refute it at one input. -/
def estimateTellsWrong : ChangeSpec := { name := "estimateTells", fn := fun _ => fun
  | [d1, d2, d3] => { results := [.lit (.bool false)], args := [d1, d2, d3] }
  | _ => none }
def EstimateTellsWrongFalsely : Prop := estimateTellsRow.holds Try.pinned (OpenSpec.ofChange estimateTellsWrong)

/-- 'gossamerlaw24.EstimateNears': WHATEVER THE INPUT: true; the input reads as it did. -/
def estimateNearsSpec : ChangeSpec := { name := "estimateNears", fn := fun _ => fun
  | [d1, d2] => { results := [.lit (.bool true)], args := [d1, d2] }
  | _ => none }
def estimateNearsRow : OpenClaim := { program := "ytblhkbncpopkcaa", sum := "42d7ea6592c027b7b224c7488984eb48a825642d85732537f5e10202b0f6ecf6", func := "gossamer/gossamerlaw24.EstimateNears", spec := "estimateNears", apart := false }
def EstimateNearsSaid : Prop := estimateNearsRow.holds Try.pinned (OpenSpec.ofChange estimateNearsSpec)

/-- ITS FALSE NEIGHBOUR: 'it returns false'. Refute it at one input. -/
def estimateNearsWrong : ChangeSpec := { name := "estimateNears", fn := fun _ => fun
  | [d1, d2] => { results := [.lit (.bool false)], args := [d1, d2] }
  | _ => none }
def EstimateNearsWrongFalsely : Prop := estimateNearsRow.holds Try.pinned (OpenSpec.ofChange estimateNearsWrong)

/-- 'gossamerlaw24.EstimateGood': WHATEVER THE INPUT: true; the input reads as it did. -/
def estimateGoodSpec : ChangeSpec := { name := "estimateGood", fn := fun _ => fun
  | [d] => { results := [.lit (.bool true)], args := [d] }
  | _ => none }
def estimateGoodRow : OpenClaim := { program := "ytblhkbncpopkcaa", sum := "42d7ea6592c027b7b224c7488984eb48a825642d85732537f5e10202b0f6ecf6", func := "gossamer/gossamerlaw24.EstimateGood", spec := "estimateGood", apart := false }
def EstimateGoodSaid : Prop := estimateGoodRow.holds Try.pinned (OpenSpec.ofChange estimateGoodSpec)

/-- ITS FALSE NEIGHBOUR: 'it returns false'. Refute it at one input. -/
def estimateGoodWrong : ChangeSpec := { name := "estimateGood", fn := fun _ => fun
  | [d] => { results := [.lit (.bool false)], args := [d] }
  | _ => none }
def EstimateGoodWrongFalsely : Prop := estimateGoodRow.holds Try.pinned (OpenSpec.ofChange estimateGoodWrong)

/-- 'gossamerlaw24.EstimateMoves': WHATEVER THE INPUT: true; the input reads as it did. -/
def estimateMovesSpec : ChangeSpec := { name := "estimateMoves", fn := fun _ => fun
  | [d1, d2] => { results := [.lit (.bool true)], args := [d1, d2] }
  | _ => none }
def estimateMovesRow : OpenClaim := { program := "ytblhkbncpopkcaa", sum := "42d7ea6592c027b7b224c7488984eb48a825642d85732537f5e10202b0f6ecf6", func := "gossamer/gossamerlaw24.EstimateMoves", spec := "estimateMoves", apart := false }
def EstimateMovesSaid : Prop := estimateMovesRow.holds Try.pinned (OpenSpec.ofChange estimateMovesSpec)

/-- ITS FALSE NEIGHBOUR: 'it returns false'. Refute it at one input. -/
def estimateMovesWrong : ChangeSpec := { name := "estimateMoves", fn := fun _ => fun
  | [d1, d2] => { results := [.lit (.bool false)], args := [d1, d2] }
  | _ => none }
def EstimateMovesWrongFalsely : Prop := estimateMovesRow.holds Try.pinned (OpenSpec.ofChange estimateMovesWrong)

/- THE SECOND FORM. 'bulk': how many values and letters a reading holds, each counted each time it is reached (what is shared counts as often as it is met; a slice's spare places count too). A statement '..UptoSaid' is the law's where the arguments, and the package variables that the reading takes, are together of bulk at most 1048576: NARROWER than '..Said'. Prove '..Said' where nothing that the law and all that it calls make is longer than what came in: it says more and counts as full. Else prove '..UptoSaid'. A law counts once. -/
mutual
def uptoBulk {H : Type} : DataW H → Nat
  | .lit (.string bytes) => bytes.length + 1
  | .lit _ => 1
  | .nil => 1
  | .ptr d => uptoBulk d + 1
  | .slice elems spare => uptoBulkAll elems + uptoBulkAll spare + 1
  | .agg parts => uptoBulkAll parts + 1
  | .iface _ d => uptoBulk d + 1
  | .map entries => uptoBulkEntries entries + 1
  | .held _ => 1
def uptoBulkAll {H : Type} : List (DataW H) → Nat
  | [] => 0
  | d :: r => uptoBulk d + uptoBulkAll r
def uptoBulkEntries {H : Type} : List (Lit × DataW H) → Nat
  | [] => 0
  | x :: r => uptoBulkEntry x + uptoBulkEntries r
def uptoBulkEntry {H : Type} : Lit × DataW H → Nat
  | (.string bytes, d) => bytes.length + uptoBulk d + 1
  | (_, d) => uptoBulk d + 1
 end
def uptoSmall : (H : Type) → List (DataW H) → Bool := fun _ ds => decide (uptoBulkAll ds ≤ 1048576)
def OpenSpec.upto (s : _root_.Go.ChangeSpec) : _root_.Go.OpenSpec := { _root_.Go.OpenSpec.ofChange s with cond := some uptoSmall }

/-- 'gossamerlaw24.EstimateTells', WHERE WHAT IT READS IS OF BULK AT MOST 1048576: true; the input reads as it did. -/
def estimateTellsUptoRow : OpenClaim := { program := "ytblhkbncpopkcaa", sum := "42d7ea6592c027b7b224c7488984eb48a825642d85732537f5e10202b0f6ecf6", func := "gossamer/gossamerlaw24.EstimateTells", spec := "estimateTells", apart := false, narrowed := true }
def EstimateTellsUptoSaid : Prop := estimateTellsUptoRow.holds Try.pinned (OpenSpec.upto estimateTellsSpec)

/-- 'gossamerlaw24.EstimateNears', WHERE WHAT IT READS IS OF BULK AT MOST 1048576: true; the input reads as it did. -/
def estimateNearsUptoRow : OpenClaim := { program := "ytblhkbncpopkcaa", sum := "42d7ea6592c027b7b224c7488984eb48a825642d85732537f5e10202b0f6ecf6", func := "gossamer/gossamerlaw24.EstimateNears", spec := "estimateNears", apart := false, narrowed := true }
def EstimateNearsUptoSaid : Prop := estimateNearsUptoRow.holds Try.pinned (OpenSpec.upto estimateNearsSpec)

/-- 'gossamerlaw24.EstimateGood', WHERE WHAT IT READS IS OF BULK AT MOST 1048576: true; the input reads as it did. -/
def estimateGoodUptoRow : OpenClaim := { program := "ytblhkbncpopkcaa", sum := "42d7ea6592c027b7b224c7488984eb48a825642d85732537f5e10202b0f6ecf6", func := "gossamer/gossamerlaw24.EstimateGood", spec := "estimateGood", apart := false, narrowed := true }
def EstimateGoodUptoSaid : Prop := estimateGoodUptoRow.holds Try.pinned (OpenSpec.upto estimateGoodSpec)

/-- 'gossamerlaw24.EstimateMoves', WHERE WHAT IT READS IS OF BULK AT MOST 1048576: true; the input reads as it did. -/
def estimateMovesUptoRow : OpenClaim := { program := "ytblhkbncpopkcaa", sum := "42d7ea6592c027b7b224c7488984eb48a825642d85732537f5e10202b0f6ecf6", func := "gossamer/gossamerlaw24.EstimateMoves", spec := "estimateMoves", apart := false, narrowed := true }
def EstimateMovesUptoSaid : Prop := estimateMovesUptoRow.holds Try.pinned (OpenSpec.upto estimateMovesSpec)

end Rows
end Go.Proofs.Ytblhkbncpopkcaa
