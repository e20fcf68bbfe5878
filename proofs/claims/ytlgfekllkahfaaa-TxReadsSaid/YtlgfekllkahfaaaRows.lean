/-
  No cell of these rows narrows 'for every input' (looked for: loops, veiled, ifaces, maps, wideKeys, modest, calm, conditions, laid).
  DERIVED. THE GIVEN ROWS OF THIS SEAT. 3 by the template 'for every input the law returns true; each argument reads behind the call as it read before'; 0 by the template 'total and deterministic' (their statements: YtlgfekllkahfaaaTotals.lean).
  GIVEN WITH THE SEED: the statements are not yours to turn. If you find one false, say at which input.
  Laid BY PROGRAM, IN A SANDBOX (cutbox-rows.mjs): the forced cells as the released guide's own fill.sh prints them over the translation d9c5e1fe5407242f… (all of the seat's roots in one cut). By AI agents, Wed Nov 11 2026. No macro, syntax, notation, axiom, sorry.
-/
import Derived.Test.YtlgfekllkahfaaaChecked
import GoSem.Claim
import GoSem.ClaimJoined
import GoSem.ClaimMapViews
import Derived.JoinedTies
import Derived.KernelRfl
namespace Go.Proofs.Ytlgfekllkahfaaa
/- THE CELL 'sum', in the pinned program and in every row, IS THE sha256 OF THE DUMP (.gsa) THAT YtlgfekllkahfaaaProg.lean LOADS. Nothing in Lean hashes anything: it is a label: what it is worth is what the hold of that sum in a sandbox is worth. -/
noncomputable def Try.pinned : Pinned := { name := "ytlgfekllkahfaaa", sum := "d9c5e1fe5407242f75494f1f836ea4135cc552bf732442248efed2bbb870cb0a", checked := Try.checked }
namespace Rows
def none {H : Type} : Left H := { results := [], args := [] }

/-- 'gossamerlaw10.TxCopies': WHATEVER THE INPUT: true; the input reads as it did. -/
def txCopiesSpec : ChangeSpec := { name := "txCopies", fn := fun _ => fun
  | [d] => { results := [.lit (.bool true)], args := [d] }
  | _ => none }
def txCopiesRow : OpenClaim := { program := "ytlgfekllkahfaaa", sum := "d9c5e1fe5407242f75494f1f836ea4135cc552bf732442248efed2bbb870cb0a", func := "gossamer/gossamerlaw10.TxCopies", spec := "txCopies", unfollowed := true, recurses := true, apart := false }
def TxCopiesSaid : Prop := txCopiesRow.holds Try.pinned (OpenSpec.ofChange txCopiesSpec)

/-- ITS FALSE NEIGHBOUR: 'it returns false'. Refute it at one input. -/
def txCopiesWrong : ChangeSpec := { name := "txCopies", fn := fun _ => fun
  | [d] => { results := [.lit (.bool false)], args := [d] }
  | _ => none }
def TxCopiesWrongFalsely : Prop := txCopiesRow.holds Try.pinned (OpenSpec.ofChange txCopiesWrong)

/-- 'gossamerlaw10.TxChecks': WHATEVER THE INPUT: true; the input reads as it did. -/
def txChecksSpec : ChangeSpec := { name := "txChecks", fn := fun _ => fun
  | [d1, d2] => { results := [.lit (.bool true)], args := [d1, d2] }
  | _ => none }
def txChecksRow : OpenClaim := { program := "ytlgfekllkahfaaa", sum := "d9c5e1fe5407242f75494f1f836ea4135cc552bf732442248efed2bbb870cb0a", func := "gossamer/gossamerlaw10.TxChecks", spec := "txChecks", unfollowed := true, recurses := true, apart := false }
def TxChecksSaid : Prop := txChecksRow.holds Try.pinned (OpenSpec.ofChange txChecksSpec)

/-- ITS FALSE NEIGHBOUR: 'it returns false'. Refute it at one input. -/
def txChecksWrong : ChangeSpec := { name := "txChecks", fn := fun _ => fun
  | [d1, d2] => { results := [.lit (.bool false)], args := [d1, d2] }
  | _ => none }
def TxChecksWrongFalsely : Prop := txChecksRow.holds Try.pinned (OpenSpec.ofChange txChecksWrong)

/-- 'gossamerlaw10.TxReads': WHATEVER THE INPUT: true; the input reads as it did. -/
def txReadsSpec : ChangeSpec := { name := "txReads", fn := fun _ => fun
  | [d] => { results := [.lit (.bool true)], args := [d] }
  | _ => none }
def txReadsRow : OpenClaim := { program := "ytlgfekllkahfaaa", sum := "d9c5e1fe5407242f75494f1f836ea4135cc552bf732442248efed2bbb870cb0a", func := "gossamer/gossamerlaw10.TxReads", spec := "txReads", unfollowed := true, recurses := true, apart := false }
def TxReadsSaid : Prop := txReadsRow.holds Try.pinned (OpenSpec.ofChange txReadsSpec)

/-- ITS FALSE NEIGHBOUR: 'it returns false'. Refute it at one input. -/
def txReadsWrong : ChangeSpec := { name := "txReads", fn := fun _ => fun
  | [d] => { results := [.lit (.bool false)], args := [d] }
  | _ => none }
def TxReadsWrongFalsely : Prop := txReadsRow.holds Try.pinned (OpenSpec.ofChange txReadsWrong)

/- THE SECOND FORM. 'bulk': how many values and letters a reading holds, each counted each time it is reached (what is shared counts as often as it is met; a slice's spare places count too). A statement '..UptoSaid' is the law's where the arguments, and the package variables that the reading takes, are together of bulk at most 1048576: NARROWER than '..Said'. Prove '..Said' where nothing that the law and all that it calls make is longer than what came in: it says more and counts as full. Else prove '..UptoSaid'. A law counts once. -/
mutual
def uptoBulk {H : Type} : DataW H → Nat
  | .lit (.string bytes) => bytes.length + 1
  | .lit _ => 1
  | .nil => 1
  | .ptr d => uptoBulk d + 1
  | .slice elems spare => uptoBulkAll elems + uptoBulkAll spare + 1
  | .agg parts => uptoBulkAll parts + 1
  | .iface _ d => uptoBulk d + 1
  | .map entries => uptoBulkEntries entries + 1
  | .held _ => 1
def uptoBulkAll {H : Type} : List (DataW H) → Nat
  | [] => 0
  | d :: r => uptoBulk d + uptoBulkAll r
def uptoBulkEntries {H : Type} : List (Lit × DataW H) → Nat
  | [] => 0
  | x :: r => uptoBulkEntry x + uptoBulkEntries r
def uptoBulkEntry {H : Type} : Lit × DataW H → Nat
  | (.string bytes, d) => bytes.length + uptoBulk d + 1
  | (_, d) => uptoBulk d + 1
 end
def uptoSmall : (H : Type) → List (DataW H) → Bool := fun _ ds => decide (uptoBulkAll ds ≤ 1048576)
def OpenSpec.upto (s : _root_.Go.ChangeSpec) : _root_.Go.OpenSpec := { _root_.Go.OpenSpec.ofChange s with cond := some uptoSmall }

/-- 'gossamerlaw10.TxCopies', WHERE WHAT IT READS IS OF BULK AT MOST 1048576: true; the input reads as it did. -/
def txCopiesUptoRow : OpenClaim := { program := "ytlgfekllkahfaaa", sum := "d9c5e1fe5407242f75494f1f836ea4135cc552bf732442248efed2bbb870cb0a", func := "gossamer/gossamerlaw10.TxCopies", spec := "txCopies", unfollowed := true, recurses := true, apart := false, narrowed := true }
def TxCopiesUptoSaid : Prop := txCopiesUptoRow.holds Try.pinned (OpenSpec.upto txCopiesSpec)

/-- 'gossamerlaw10.TxChecks', WHERE WHAT IT READS IS OF BULK AT MOST 1048576: true; the input reads as it did. -/
def txChecksUptoRow : OpenClaim := { program := "ytlgfekllkahfaaa", sum := "d9c5e1fe5407242f75494f1f836ea4135cc552bf732442248efed2bbb870cb0a", func := "gossamer/gossamerlaw10.TxChecks", spec := "txChecks", unfollowed := true, recurses := true, apart := false, narrowed := true }
def TxChecksUptoSaid : Prop := txChecksUptoRow.holds Try.pinned (OpenSpec.upto txChecksSpec)

/-- 'gossamerlaw10.TxReads', WHERE WHAT IT READS IS OF BULK AT MOST 1048576: true; the input reads as it did. -/
def txReadsUptoRow : OpenClaim := { program := "ytlgfekllkahfaaa", sum := "d9c5e1fe5407242f75494f1f836ea4135cc552bf732442248efed2bbb870cb0a", func := "gossamer/gossamerlaw10.TxReads", spec := "txReads", unfollowed := true, recurses := true, apart := false, narrowed := true }
def TxReadsUptoSaid : Prop := txReadsUptoRow.holds Try.pinned (OpenSpec.upto txReadsSpec)

end Rows
end Go.Proofs.Ytlgfekllkahfaaa
