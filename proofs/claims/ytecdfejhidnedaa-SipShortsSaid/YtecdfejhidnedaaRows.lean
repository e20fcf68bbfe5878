/-
  No cell of these rows narrows 'for every input' (looked for: loops, veiled, ifaces, maps, wideKeys, modest, calm, conditions, laid).
  DERIVED. THE GIVEN ROWS OF THIS SEAT. 4 by the template 'for every input the law returns true; each argument reads behind the call as it read before'; 0 by the template 'total and deterministic' (their statements: YtecdfejhidnedaaTotals.lean).
  GIVEN WITH THE SEED: the statements are not yours to turn. If you find one false, say at which input.
  Laid BY PROGRAM, IN A SANDBOX (cutbox-rows.mjs): the forced cells as the released guide's own fill.sh prints them over the translation 79697f9f57013148… (all of the seat's roots in one cut). By AI agents, Wed Nov 11 2026. No macro, syntax, notation, axiom, sorry.
-/
import Derived.Test.YtecdfejhidnedaaChecked
import GoSem.Claim
import GoSem.ClaimJoined
import GoSem.ClaimMapViews
import Derived.JoinedTies
import Derived.KernelRfl
namespace Go.Proofs.Ytecdfejhidnedaa
/- THE CELL 'sum', in the pinned program and in every row, IS THE sha256 OF THE DUMP (.gsa) THAT YtecdfejhidnedaaProg.lean LOADS. Nothing in Lean hashes anything: it is a label: what it is worth is what the hold of that sum in a sandbox is worth. -/
noncomputable def Try.pinned : Pinned := { name := "ytecdfejhidnedaa", sum := "79697f9f570131486219b0b9eefa18aae5ed61aad90c6d1e0d0485f248e5885e", checked := Try.checked }
namespace Rows
def none {H : Type} : Left H := { results := [], args := [] }

/-- 'gossamerlaw06.SipHashes': WHATEVER THE INPUT: true; the input reads as it did. -/
def sipHashesSpec : ChangeSpec := { name := "sipHashes", fn := fun _ => fun
  | [d1, d2, d3] => { results := [.lit (.bool true)], args := [d1, d2, d3] }
  | _ => none }
def sipHashesRow : OpenClaim := { program := "ytecdfejhidnedaa", sum := "79697f9f570131486219b0b9eefa18aae5ed61aad90c6d1e0d0485f248e5885e", func := "gossamer/gossamerlaw06.SipHashes", spec := "sipHashes", unfollowed := true, recurses := true, apart := false }
def SipHashesSaid : Prop := sipHashesRow.holds Try.pinned (OpenSpec.ofChange sipHashesSpec)

/-- ITS FALSE NEIGHBOUR: 'it returns false'. Refute it at one input. -/
def sipHashesWrong : ChangeSpec := { name := "sipHashes", fn := fun _ => fun
  | [d1, d2, d3] => { results := [.lit (.bool false)], args := [d1, d2, d3] }
  | _ => none }
def SipHashesWrongFalsely : Prop := sipHashesRow.holds Try.pinned (OpenSpec.ofChange sipHashesWrong)

/-- 'gossamerlaw06.SipEnds': WHATEVER THE INPUT: true; the input reads as it did. -/
def sipEndsSpec : ChangeSpec := { name := "sipEnds", fn := fun _ => fun
  | [d] => { results := [.lit (.bool true)], args := [d] }
  | _ => none }
def sipEndsRow : OpenClaim := { program := "ytecdfejhidnedaa", sum := "79697f9f570131486219b0b9eefa18aae5ed61aad90c6d1e0d0485f248e5885e", func := "gossamer/gossamerlaw06.SipEnds", spec := "sipEnds", unfollowed := true, recurses := true, apart := false }
def SipEndsSaid : Prop := sipEndsRow.holds Try.pinned (OpenSpec.ofChange sipEndsSpec)

/-- ITS FALSE NEIGHBOUR: 'it returns false'. Refute it at one input. -/
def sipEndsWrong : ChangeSpec := { name := "sipEnds", fn := fun _ => fun
  | [d] => { results := [.lit (.bool false)], args := [d] }
  | _ => none }
def SipEndsWrongFalsely : Prop := sipEndsRow.holds Try.pinned (OpenSpec.ofChange sipEndsWrong)

/-- 'gossamerlaw06.SipJoins': WHATEVER THE INPUT: true; the input reads as it did. -/
def sipJoinsSpec : ChangeSpec := { name := "sipJoins", fn := fun _ => fun
  | [d1, d2, d3] => { results := [.lit (.bool true)], args := [d1, d2, d3] }
  | _ => none }
def sipJoinsRow : OpenClaim := { program := "ytecdfejhidnedaa", sum := "79697f9f570131486219b0b9eefa18aae5ed61aad90c6d1e0d0485f248e5885e", func := "gossamer/gossamerlaw06.SipJoins", spec := "sipJoins", unfollowed := true, recurses := true, apart := false }
def SipJoinsSaid : Prop := sipJoinsRow.holds Try.pinned (OpenSpec.ofChange sipJoinsSpec)

/-- ITS FALSE NEIGHBOUR: 'it returns false'. Refute it at one input. -/
def sipJoinsWrong : ChangeSpec := { name := "sipJoins", fn := fun _ => fun
  | [d1, d2, d3] => { results := [.lit (.bool false)], args := [d1, d2, d3] }
  | _ => none }
def SipJoinsWrongFalsely : Prop := sipJoinsRow.holds Try.pinned (OpenSpec.ofChange sipJoinsWrong)

/-- 'gossamerlaw06.SipShorts': WHATEVER THE INPUT: true; the input reads as it did. -/
def sipShortsSpec : ChangeSpec := { name := "sipShorts", fn := fun _ => fun
  | [d1, d2] => { results := [.lit (.bool true)], args := [d1, d2] }
  | _ => none }
def sipShortsRow : OpenClaim := { program := "ytecdfejhidnedaa", sum := "79697f9f570131486219b0b9eefa18aae5ed61aad90c6d1e0d0485f248e5885e", func := "gossamer/gossamerlaw06.SipShorts", spec := "sipShorts", unfollowed := true, recurses := true, apart := false }
def SipShortsSaid : Prop := sipShortsRow.holds Try.pinned (OpenSpec.ofChange sipShortsSpec)

/-- ITS FALSE NEIGHBOUR: 'it returns false'. Refute it at one input. -/
def sipShortsWrong : ChangeSpec := { name := "sipShorts", fn := fun _ => fun
  | [d1, d2] => { results := [.lit (.bool false)], args := [d1, d2] }
  | _ => none }
def SipShortsWrongFalsely : Prop := sipShortsRow.holds Try.pinned (OpenSpec.ofChange sipShortsWrong)

/- THE SECOND FORM. 'bulk': how many values and letters a reading holds, each counted each time it is reached (what is shared counts as often as it is met; a slice's spare places count too). A statement '..UptoSaid' is the law's where the arguments, and the package variables that the reading takes, are together of bulk at most 1048576: NARROWER than '..Said'. Prove '..Said' where nothing that the law and all that it calls make is longer than what came in: it says more and counts as full. Else prove '..UptoSaid'. A law counts once. -/
mutual
def uptoBulk {H : Type} : DataW H → Nat
  | .lit (.string bytes) => bytes.length + 1
  | .lit _ => 1
  | .nil => 1
  | .ptr d => uptoBulk d + 1
  | .slice elems spare => uptoBulkAll elems + uptoBulkAll spare + 1
  | .agg parts => uptoBulkAll parts + 1
  | .iface _ d => uptoBulk d + 1
  | .map entries => uptoBulkEntries entries + 1
  | .held _ => 1
def uptoBulkAll {H : Type} : List (DataW H) → Nat
  | [] => 0
  | d :: r => uptoBulk d + uptoBulkAll r
def uptoBulkEntries {H : Type} : List (Lit × DataW H) → Nat
  | [] => 0
  | x :: r => uptoBulkEntry x + uptoBulkEntries r
def uptoBulkEntry {H : Type} : Lit × DataW H → Nat
  | (.string bytes, d) => bytes.length + uptoBulk d + 1
  | (_, d) => uptoBulk d + 1
 end
def uptoSmall : (H : Type) → List (DataW H) → Bool := fun _ ds => decide (uptoBulkAll ds ≤ 1048576)
def OpenSpec.upto (s : _root_.Go.ChangeSpec) : _root_.Go.OpenSpec := { _root_.Go.OpenSpec.ofChange s with cond := some uptoSmall }

/-- 'gossamerlaw06.SipHashes', WHERE WHAT IT READS IS OF BULK AT MOST 1048576: true; the input reads as it did. -/
def sipHashesUptoRow : OpenClaim := { program := "ytecdfejhidnedaa", sum := "79697f9f570131486219b0b9eefa18aae5ed61aad90c6d1e0d0485f248e5885e", func := "gossamer/gossamerlaw06.SipHashes", spec := "sipHashes", unfollowed := true, recurses := true, apart := false, narrowed := true }
def SipHashesUptoSaid : Prop := sipHashesUptoRow.holds Try.pinned (OpenSpec.upto sipHashesSpec)

/-- 'gossamerlaw06.SipEnds', WHERE WHAT IT READS IS OF BULK AT MOST 1048576: true; the input reads as it did. -/
def sipEndsUptoRow : OpenClaim := { program := "ytecdfejhidnedaa", sum := "79697f9f570131486219b0b9eefa18aae5ed61aad90c6d1e0d0485f248e5885e", func := "gossamer/gossamerlaw06.SipEnds", spec := "sipEnds", unfollowed := true, recurses := true, apart := false, narrowed := true }
def SipEndsUptoSaid : Prop := sipEndsUptoRow.holds Try.pinned (OpenSpec.upto sipEndsSpec)

/-- 'gossamerlaw06.SipJoins', WHERE WHAT IT READS IS OF BULK AT MOST 1048576: true; the input reads as it did. -/
def sipJoinsUptoRow : OpenClaim := { program := "ytecdfejhidnedaa", sum := "79697f9f570131486219b0b9eefa18aae5ed61aad90c6d1e0d0485f248e5885e", func := "gossamer/gossamerlaw06.SipJoins", spec := "sipJoins", unfollowed := true, recurses := true, apart := false, narrowed := true }
def SipJoinsUptoSaid : Prop := sipJoinsUptoRow.holds Try.pinned (OpenSpec.upto sipJoinsSpec)

/-- 'gossamerlaw06.SipShorts', WHERE WHAT IT READS IS OF BULK AT MOST 1048576: true; the input reads as it did. -/
def sipShortsUptoRow : OpenClaim := { program := "ytecdfejhidnedaa", sum := "79697f9f570131486219b0b9eefa18aae5ed61aad90c6d1e0d0485f248e5885e", func := "gossamer/gossamerlaw06.SipShorts", spec := "sipShorts", unfollowed := true, recurses := true, apart := false, narrowed := true }
def SipShortsUptoSaid : Prop := sipShortsUptoRow.holds Try.pinned (OpenSpec.upto sipShortsSpec)

end Rows
end Go.Proofs.Ytecdfejhidnedaa
