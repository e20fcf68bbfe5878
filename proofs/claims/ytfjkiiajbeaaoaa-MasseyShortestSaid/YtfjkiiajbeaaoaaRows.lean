/-
  No cell of these rows narrows 'for every input' (looked for: loops, veiled, ifaces, maps, wideKeys, modest, calm, conditions, laid).
  DERIVED. THE GIVEN ROWS OF THIS SEAT. 5 by the template 'for every input the law returns true; each argument reads behind the call as it read before'; 0 by the template 'total and deterministic' (their statements: YtfjkiiajbeaaoaaTotals.lean).
  GIVEN WITH THE SEED: the statements are not yours to turn. If you find one false, say at which input.
  Laid BY PROGRAM, IN A SANDBOX (cutbox-rows.mjs): the forced cells as the released guide's own fill.sh prints them over the translation c83ac060ec3fc974… (all of the seat's roots in one cut). By AI agents, Wed Nov 11 2026. No macro, syntax, notation, axiom, sorry.
-/
import Derived.Test.YtfjkiiajbeaaoaaChecked
import GoSem.Claim
import GoSem.ClaimJoined
import GoSem.ClaimMapViews
import Derived.JoinedTies
import Derived.KernelRfl
namespace Go.Proofs.Ytfjkiiajbeaaoaa
/- THE CELL 'sum', in the pinned program and in every row, IS THE sha256 OF THE DUMP (.gsa) THAT YtfjkiiajbeaaoaaProg.lean LOADS. Nothing in Lean hashes anything: it is a label: what it is worth is what the hold of that sum in a sandbox is worth. -/
noncomputable def Try.pinned : Pinned := { name := "ytfjkiiajbeaaoaa", sum := "c83ac060ec3fc974e761df6b927a8d2dea86374518a3d630c2e5350de6e79591", checked := Try.checked }
namespace Rows
def none {H : Type} : Left H := { results := [], args := [] }

/-- 'gossamerlaw03.MasseyLess': WHATEVER THE INPUT: true; the input reads as it did. -/
def masseyLessSpec : ChangeSpec := { name := "masseyLess", fn := fun _ => fun
  | [d] => { results := [.lit (.bool true)], args := [d] }
  | _ => none }
def masseyLessRow : OpenClaim := { program := "ytfjkiiajbeaaoaa", sum := "c83ac060ec3fc974e761df6b927a8d2dea86374518a3d630c2e5350de6e79591", func := "gossamer/gossamerlaw03.MasseyLess", spec := "masseyLess", apart := false }
def MasseyLessSaid : Prop := masseyLessRow.holds Try.pinned (OpenSpec.ofChange masseyLessSpec)

/-- ITS FALSE NEIGHBOUR: 'it returns false'. Refute it at one input. -/
def masseyLessWrong : ChangeSpec := { name := "masseyLess", fn := fun _ => fun
  | [d] => { results := [.lit (.bool false)], args := [d] }
  | _ => none }
def MasseyLessWrongFalsely : Prop := masseyLessRow.holds Try.pinned (OpenSpec.ofChange masseyLessWrong)

/-- 'gossamerlaw03.MasseyShortest': WHATEVER THE INPUT: true; the input reads as it did. -/
def masseyShortestSpec : ChangeSpec := { name := "masseyShortest", fn := fun _ => fun
  | [d] => { results := [.lit (.bool true)], args := [d] }
  | _ => none }
def masseyShortestRow : OpenClaim := { program := "ytfjkiiajbeaaoaa", sum := "c83ac060ec3fc974e761df6b927a8d2dea86374518a3d630c2e5350de6e79591", func := "gossamer/gossamerlaw03.MasseyShortest", spec := "masseyShortest", apart := false }
def MasseyShortestSaid : Prop := masseyShortestRow.holds Try.pinned (OpenSpec.ofChange masseyShortestSpec)

/-- ITS FALSE NEIGHBOUR: 'it returns false'. Refute it at one input. -/
def masseyShortestWrong : ChangeSpec := { name := "masseyShortest", fn := fun _ => fun
  | [d] => { results := [.lit (.bool false)], args := [d] }
  | _ => none }
def MasseyShortestWrongFalsely : Prop := masseyShortestRow.holds Try.pinned (OpenSpec.ofChange masseyShortestWrong)

/-- 'gossamerlaw03.MasseyKeeps': WHATEVER THE INPUT: true; the input reads as it did. -/
def masseyKeepsSpec : ChangeSpec := { name := "masseyKeeps", fn := fun _ => fun
  | [d1, d2] => { results := [.lit (.bool true)], args := [d1, d2] }
  | _ => none }
def masseyKeepsRow : OpenClaim := { program := "ytfjkiiajbeaaoaa", sum := "c83ac060ec3fc974e761df6b927a8d2dea86374518a3d630c2e5350de6e79591", func := "gossamer/gossamerlaw03.MasseyKeeps", spec := "masseyKeeps", apart := false }
def MasseyKeepsSaid : Prop := masseyKeepsRow.holds Try.pinned (OpenSpec.ofChange masseyKeepsSpec)

/-- ITS FALSE NEIGHBOUR: 'it returns false'. Refute it at one input. -/
def masseyKeepsWrong : ChangeSpec := { name := "masseyKeeps", fn := fun _ => fun
  | [d1, d2] => { results := [.lit (.bool false)], args := [d1, d2] }
  | _ => none }
def MasseyKeepsWrongFalsely : Prop := masseyKeepsRow.holds Try.pinned (OpenSpec.ofChange masseyKeepsWrong)

/-- 'gossamerlaw03.MasseyOne': WHATEVER THE INPUT: true; the input reads as it did. -/
def masseyOneSpec : ChangeSpec := { name := "masseyOne", fn := fun _ => fun
  | [d1, d2, d3] => { results := [.lit (.bool true)], args := [d1, d2, d3] }
  | _ => none }
def masseyOneRow : OpenClaim := { program := "ytfjkiiajbeaaoaa", sum := "c83ac060ec3fc974e761df6b927a8d2dea86374518a3d630c2e5350de6e79591", func := "gossamer/gossamerlaw03.MasseyOne", spec := "masseyOne", apart := false }
def MasseyOneSaid : Prop := masseyOneRow.holds Try.pinned (OpenSpec.ofChange masseyOneSpec)

/-- ITS FALSE NEIGHBOUR: 'it returns false'. Refute it at one input. -/
def masseyOneWrong : ChangeSpec := { name := "masseyOne", fn := fun _ => fun
  | [d1, d2, d3] => { results := [.lit (.bool false)], args := [d1, d2, d3] }
  | _ => none }
def MasseyOneWrongFalsely : Prop := masseyOneRow.holds Try.pinned (OpenSpec.ofChange masseyOneWrong)

/-- 'gossamerlaw03.MasseyGoes': WHATEVER THE INPUT: true; the input reads as it did. -/
def masseyGoesSpec : ChangeSpec := { name := "masseyGoes", fn := fun _ => fun
  | [d1, d2, d3] => { results := [.lit (.bool true)], args := [d1, d2, d3] }
  | _ => none }
def masseyGoesRow : OpenClaim := { program := "ytfjkiiajbeaaoaa", sum := "c83ac060ec3fc974e761df6b927a8d2dea86374518a3d630c2e5350de6e79591", func := "gossamer/gossamerlaw03.MasseyGoes", spec := "masseyGoes", apart := false }
def MasseyGoesSaid : Prop := masseyGoesRow.holds Try.pinned (OpenSpec.ofChange masseyGoesSpec)

/-- ITS FALSE NEIGHBOUR: 'it returns false'. Refute it at one input. -/
def masseyGoesWrong : ChangeSpec := { name := "masseyGoes", fn := fun _ => fun
  | [d1, d2, d3] => { results := [.lit (.bool false)], args := [d1, d2, d3] }
  | _ => none }
def MasseyGoesWrongFalsely : Prop := masseyGoesRow.holds Try.pinned (OpenSpec.ofChange masseyGoesWrong)

/- THE SECOND FORM. 'bulk': how many values and letters a reading holds, each counted each time it is reached (what is shared counts as often as it is met; a slice's spare places count too). A statement '..UptoSaid' is the law's where the arguments, and the package variables that the reading takes, are together of bulk at most 1048576: NARROWER than '..Said'. Prove '..Said' where nothing that the law and all that it calls make is longer than what came in: it says more and counts as full. Else prove '..UptoSaid'. A law counts once. -/
mutual
def uptoBulk {H : Type} : DataW H → Nat
  | .lit (.string bytes) => bytes.length + 1
  | .lit _ => 1
  | .nil => 1
  | .ptr d => uptoBulk d + 1
  | .slice elems spare => uptoBulkAll elems + uptoBulkAll spare + 1
  | .agg parts => uptoBulkAll parts + 1
  | .iface _ d => uptoBulk d + 1
  | .map entries => uptoBulkEntries entries + 1
  | .held _ => 1
def uptoBulkAll {H : Type} : List (DataW H) → Nat
  | [] => 0
  | d :: r => uptoBulk d + uptoBulkAll r
def uptoBulkEntries {H : Type} : List (Lit × DataW H) → Nat
  | [] => 0
  | x :: r => uptoBulkEntry x + uptoBulkEntries r
def uptoBulkEntry {H : Type} : Lit × DataW H → Nat
  | (.string bytes, d) => bytes.length + uptoBulk d + 1
  | (_, d) => uptoBulk d + 1
 end
def uptoSmall : (H : Type) → List (DataW H) → Bool := fun _ ds => decide (uptoBulkAll ds ≤ 1048576)
def OpenSpec.upto (s : _root_.Go.ChangeSpec) : _root_.Go.OpenSpec := { _root_.Go.OpenSpec.ofChange s with cond := some uptoSmall }

/-- 'gossamerlaw03.MasseyLess', WHERE WHAT IT READS IS OF BULK AT MOST 1048576: true; the input reads as it did. -/
def masseyLessUptoRow : OpenClaim := { program := "ytfjkiiajbeaaoaa", sum := "c83ac060ec3fc974e761df6b927a8d2dea86374518a3d630c2e5350de6e79591", func := "gossamer/gossamerlaw03.MasseyLess", spec := "masseyLess", apart := false, narrowed := true }
def MasseyLessUptoSaid : Prop := masseyLessUptoRow.holds Try.pinned (OpenSpec.upto masseyLessSpec)

/-- 'gossamerlaw03.MasseyShortest', WHERE WHAT IT READS IS OF BULK AT MOST 1048576: true; the input reads as it did. -/
def masseyShortestUptoRow : OpenClaim := { program := "ytfjkiiajbeaaoaa", sum := "c83ac060ec3fc974e761df6b927a8d2dea86374518a3d630c2e5350de6e79591", func := "gossamer/gossamerlaw03.MasseyShortest", spec := "masseyShortest", apart := false, narrowed := true }
def MasseyShortestUptoSaid : Prop := masseyShortestUptoRow.holds Try.pinned (OpenSpec.upto masseyShortestSpec)

/-- 'gossamerlaw03.MasseyKeeps', WHERE WHAT IT READS IS OF BULK AT MOST 1048576: true; the input reads as it did. -/
def masseyKeepsUptoRow : OpenClaim := { program := "ytfjkiiajbeaaoaa", sum := "c83ac060ec3fc974e761df6b927a8d2dea86374518a3d630c2e5350de6e79591", func := "gossamer/gossamerlaw03.MasseyKeeps", spec := "masseyKeeps", apart := false, narrowed := true }
def MasseyKeepsUptoSaid : Prop := masseyKeepsUptoRow.holds Try.pinned (OpenSpec.upto masseyKeepsSpec)

/-- 'gossamerlaw03.MasseyOne', WHERE WHAT IT READS IS OF BULK AT MOST 1048576: true; the input reads as it did. -/
def masseyOneUptoRow : OpenClaim := { program := "ytfjkiiajbeaaoaa", sum := "c83ac060ec3fc974e761df6b927a8d2dea86374518a3d630c2e5350de6e79591", func := "gossamer/gossamerlaw03.MasseyOne", spec := "masseyOne", apart := false, narrowed := true }
def MasseyOneUptoSaid : Prop := masseyOneUptoRow.holds Try.pinned (OpenSpec.upto masseyOneSpec)

/-- 'gossamerlaw03.MasseyGoes', WHERE WHAT IT READS IS OF BULK AT MOST 1048576: true; the input reads as it did. -/
def masseyGoesUptoRow : OpenClaim := { program := "ytfjkiiajbeaaoaa", sum := "c83ac060ec3fc974e761df6b927a8d2dea86374518a3d630c2e5350de6e79591", func := "gossamer/gossamerlaw03.MasseyGoes", spec := "masseyGoes", apart := false, narrowed := true }
def MasseyGoesUptoSaid : Prop := masseyGoesUptoRow.holds Try.pinned (OpenSpec.upto masseyGoesSpec)

end Rows
end Go.Proofs.Ytfjkiiajbeaaoaa
