/-
  No cell of these rows narrows 'for every input' (looked for: loops, veiled, ifaces, maps, wideKeys, modest, calm, conditions, laid).
  DERIVED. THE GIVEN ROWS OF THIS SEAT. 5 by the template 'for every input the law returns true; each argument reads behind the call as it read before'; 0 by the template 'total and deterministic' (their statements: YtljkbkhaamlbmaaTotals.lean).
  GIVEN WITH THE SEED: the statements are not yours to turn. If you find one false, say at which input.
  Laid BY PROGRAM, IN A SANDBOX (cutbox-rows.mjs): the forced cells as the released guide's own fill.sh prints them over the translation 6b83d97209fc29ba… (all of the seat's roots in one cut). By AI agents, Wed Nov 11 2026. No macro, syntax, notation, axiom, sorry.
-/
import Derived.Test.YtljkbkhaamlbmaaChecked
import GoSem.Claim
import GoSem.ClaimJoined
import GoSem.ClaimMapViews
import Derived.JoinedTies
import Derived.KernelRfl
namespace Go.Proofs.Ytljkbkhaamlbmaa
/- THE CELL 'sum', in the pinned program and in every row, IS THE sha256 OF THE DUMP (.gsa) THAT YtljkbkhaamlbmaaProg.lean LOADS. Nothing in Lean hashes anything: it is a label: what it is worth is what the hold of that sum in a sandbox is worth. -/
noncomputable def Try.pinned : Pinned := { name := "ytljkbkhaamlbmaa", sum := "6b83d97209fc29ba85f226b834fa420dbf964308beab4a16e849fe05436859cd", checked := Try.checked }
namespace Rows
def none {H : Type} : Left H := { results := [], args := [] }

/-- 'gossamerlaw04.RootsLong': WHATEVER THE INPUT: true; the input reads as it did. -/
def rootsLongSpec : ChangeSpec := { name := "rootsLong", fn := fun _ => fun
  | [d] => { results := [.lit (.bool true)], args := [d] }
  | _ => none }
def rootsLongRow : OpenClaim := { program := "ytljkbkhaamlbmaa", sum := "6b83d97209fc29ba85f226b834fa420dbf964308beab4a16e849fe05436859cd", func := "gossamer/gossamerlaw04.RootsLong", spec := "rootsLong", recurses := true, apart := false }
def RootsLongSaid : Prop := rootsLongRow.holds Try.pinned (OpenSpec.ofChange rootsLongSpec)

/-- ITS FALSE NEIGHBOUR: 'it returns false'. Refute it at one input. -/
def rootsLongWrong : ChangeSpec := { name := "rootsLong", fn := fun _ => fun
  | [d] => { results := [.lit (.bool false)], args := [d] }
  | _ => none }
def RootsLongWrongFalsely : Prop := rootsLongRow.holds Try.pinned (OpenSpec.ofChange rootsLongWrong)

/-- 'gossamerlaw04.RootsAll': WHATEVER THE INPUT: true; the input reads as it did. -/
def rootsAllSpec : ChangeSpec := { name := "rootsAll", fn := fun _ => fun
  | [d] => { results := [.lit (.bool true)], args := [d] }
  | _ => none }
def rootsAllRow : OpenClaim := { program := "ytljkbkhaamlbmaa", sum := "6b83d97209fc29ba85f226b834fa420dbf964308beab4a16e849fe05436859cd", func := "gossamer/gossamerlaw04.RootsAll", spec := "rootsAll", recurses := true, apart := false }
def RootsAllSaid : Prop := rootsAllRow.holds Try.pinned (OpenSpec.ofChange rootsAllSpec)

/-- ITS FALSE NEIGHBOUR: 'it returns false'. Refute it at one input. -/
def rootsAllWrong : ChangeSpec := { name := "rootsAll", fn := fun _ => fun
  | [d] => { results := [.lit (.bool false)], args := [d] }
  | _ => none }
def RootsAllWrongFalsely : Prop := rootsAllRow.holds Try.pinned (OpenSpec.ofChange rootsAllWrong)

/-- 'gossamerlaw04.RootsZero': WHATEVER THE INPUT: true; the input reads as it did. -/
def rootsZeroSpec : ChangeSpec := { name := "rootsZero", fn := fun _ => fun
  | [d] => { results := [.lit (.bool true)], args := [d] }
  | _ => none }
def rootsZeroRow : OpenClaim := { program := "ytljkbkhaamlbmaa", sum := "6b83d97209fc29ba85f226b834fa420dbf964308beab4a16e849fe05436859cd", func := "gossamer/gossamerlaw04.RootsZero", spec := "rootsZero", unfollowed := true, recurses := true, apart := false }
def RootsZeroSaid : Prop := rootsZeroRow.holds Try.pinned (OpenSpec.ofChange rootsZeroSpec)

/-- ITS FALSE NEIGHBOUR: 'it returns false'. Refute it at one input. -/
def rootsZeroWrong : ChangeSpec := { name := "rootsZero", fn := fun _ => fun
  | [d] => { results := [.lit (.bool false)], args := [d] }
  | _ => none }
def RootsZeroWrongFalsely : Prop := rootsZeroRow.holds Try.pinned (OpenSpec.ofChange rootsZeroWrong)

/-- 'gossamerlaw04.RootsFinds': WHATEVER THE INPUT: true; the input reads as it did. -/
def rootsFindsSpec : ChangeSpec := { name := "rootsFinds", fn := fun _ => fun
  | [d1, d2, d3] => { results := [.lit (.bool true)], args := [d1, d2, d3] }
  | _ => none }
def rootsFindsRow : OpenClaim := { program := "ytljkbkhaamlbmaa", sum := "6b83d97209fc29ba85f226b834fa420dbf964308beab4a16e849fe05436859cd", func := "gossamer/gossamerlaw04.RootsFinds", spec := "rootsFinds", recurses := true, apart := false }
def RootsFindsSaid : Prop := rootsFindsRow.holds Try.pinned (OpenSpec.ofChange rootsFindsSpec)

/-- ITS FALSE NEIGHBOUR: 'it returns false'. Refute it at one input. -/
def rootsFindsWrong : ChangeSpec := { name := "rootsFinds", fn := fun _ => fun
  | [d1, d2, d3] => { results := [.lit (.bool false)], args := [d1, d2, d3] }
  | _ => none }
def RootsFindsWrongFalsely : Prop := rootsFindsRow.holds Try.pinned (OpenSpec.ofChange rootsFindsWrong)

/-- 'gossamerlaw04.RootsTraces': WHATEVER THE INPUT: true; the input reads as it did. -/
def rootsTracesSpec : ChangeSpec := { name := "rootsTraces", fn := fun _ => fun
  | [d1, d2] => { results := [.lit (.bool true)], args := [d1, d2] }
  | _ => none }
def rootsTracesRow : OpenClaim := { program := "ytljkbkhaamlbmaa", sum := "6b83d97209fc29ba85f226b834fa420dbf964308beab4a16e849fe05436859cd", func := "gossamer/gossamerlaw04.RootsTraces", spec := "rootsTraces", unfollowed := true, recurses := true, apart := false }
def RootsTracesSaid : Prop := rootsTracesRow.holds Try.pinned (OpenSpec.ofChange rootsTracesSpec)

/-- ITS FALSE NEIGHBOUR: 'it returns false'. Refute it at one input. -/
def rootsTracesWrong : ChangeSpec := { name := "rootsTraces", fn := fun _ => fun
  | [d1, d2] => { results := [.lit (.bool false)], args := [d1, d2] }
  | _ => none }
def RootsTracesWrongFalsely : Prop := rootsTracesRow.holds Try.pinned (OpenSpec.ofChange rootsTracesWrong)

/- THE SECOND FORM. 'bulk': how many values and letters a reading holds, each counted each time it is reached (what is shared counts as often as it is met; a slice's spare places count too). A statement '..UptoSaid' is the law's where the arguments, and the package variables that the reading takes, are together of bulk at most 1048576: NARROWER than '..Said'. Prove '..Said' where nothing that the law and all that it calls make is longer than what came in: it says more and counts as full. Else prove '..UptoSaid'. A law counts once. -/
mutual
def uptoBulk {H : Type} : DataW H → Nat
  | .lit (.string bytes) => bytes.length + 1
  | .lit _ => 1
  | .nil => 1
  | .ptr d => uptoBulk d + 1
  | .slice elems spare => uptoBulkAll elems + uptoBulkAll spare + 1
  | .agg parts => uptoBulkAll parts + 1
  | .iface _ d => uptoBulk d + 1
  | .map entries => uptoBulkEntries entries + 1
  | .held _ => 1
def uptoBulkAll {H : Type} : List (DataW H) → Nat
  | [] => 0
  | d :: r => uptoBulk d + uptoBulkAll r
def uptoBulkEntries {H : Type} : List (Lit × DataW H) → Nat
  | [] => 0
  | x :: r => uptoBulkEntry x + uptoBulkEntries r
def uptoBulkEntry {H : Type} : Lit × DataW H → Nat
  | (.string bytes, d) => bytes.length + uptoBulk d + 1
  | (_, d) => uptoBulk d + 1
 end
def uptoSmall : (H : Type) → List (DataW H) → Bool := fun _ ds => decide (uptoBulkAll ds ≤ 1048576)
def OpenSpec.upto (s : _root_.Go.ChangeSpec) : _root_.Go.OpenSpec := { _root_.Go.OpenSpec.ofChange s with cond := some uptoSmall }

/-- 'gossamerlaw04.RootsLong', WHERE WHAT IT READS IS OF BULK AT MOST 1048576: true; the input reads as it did. -/
def rootsLongUptoRow : OpenClaim := { program := "ytljkbkhaamlbmaa", sum := "6b83d97209fc29ba85f226b834fa420dbf964308beab4a16e849fe05436859cd", func := "gossamer/gossamerlaw04.RootsLong", spec := "rootsLong", recurses := true, apart := false, narrowed := true }
def RootsLongUptoSaid : Prop := rootsLongUptoRow.holds Try.pinned (OpenSpec.upto rootsLongSpec)

/-- 'gossamerlaw04.RootsAll', WHERE WHAT IT READS IS OF BULK AT MOST 1048576: true; the input reads as it did. -/
def rootsAllUptoRow : OpenClaim := { program := "ytljkbkhaamlbmaa", sum := "6b83d97209fc29ba85f226b834fa420dbf964308beab4a16e849fe05436859cd", func := "gossamer/gossamerlaw04.RootsAll", spec := "rootsAll", recurses := true, apart := false, narrowed := true }
def RootsAllUptoSaid : Prop := rootsAllUptoRow.holds Try.pinned (OpenSpec.upto rootsAllSpec)

/-- 'gossamerlaw04.RootsZero', WHERE WHAT IT READS IS OF BULK AT MOST 1048576: true; the input reads as it did. -/
def rootsZeroUptoRow : OpenClaim := { program := "ytljkbkhaamlbmaa", sum := "6b83d97209fc29ba85f226b834fa420dbf964308beab4a16e849fe05436859cd", func := "gossamer/gossamerlaw04.RootsZero", spec := "rootsZero", unfollowed := true, recurses := true, apart := false, narrowed := true }
def RootsZeroUptoSaid : Prop := rootsZeroUptoRow.holds Try.pinned (OpenSpec.upto rootsZeroSpec)

/-- 'gossamerlaw04.RootsFinds', WHERE WHAT IT READS IS OF BULK AT MOST 1048576: true; the input reads as it did. -/
def rootsFindsUptoRow : OpenClaim := { program := "ytljkbkhaamlbmaa", sum := "6b83d97209fc29ba85f226b834fa420dbf964308beab4a16e849fe05436859cd", func := "gossamer/gossamerlaw04.RootsFinds", spec := "rootsFinds", recurses := true, apart := false, narrowed := true }
def RootsFindsUptoSaid : Prop := rootsFindsUptoRow.holds Try.pinned (OpenSpec.upto rootsFindsSpec)

/-- 'gossamerlaw04.RootsTraces', WHERE WHAT IT READS IS OF BULK AT MOST 1048576: true; the input reads as it did. -/
def rootsTracesUptoRow : OpenClaim := { program := "ytljkbkhaamlbmaa", sum := "6b83d97209fc29ba85f226b834fa420dbf964308beab4a16e849fe05436859cd", func := "gossamer/gossamerlaw04.RootsTraces", spec := "rootsTraces", unfollowed := true, recurses := true, apart := false, narrowed := true }
def RootsTracesUptoSaid : Prop := rootsTracesUptoRow.holds Try.pinned (OpenSpec.upto rootsTracesSpec)

end Rows
end Go.Proofs.Ytljkbkhaamlbmaa
