/-
  DERIVED. GIVEN WITH THE SEED: THE PROGRAM's TIES (one call each: nine closed facts by the kernel) AND EACH ROW's TIE, after the 31st guide's Derived/Test/Toyas{Tie, Card}.lean. No idea stands in it: it is a product of the set-up. Laid BY PROGRAM, IN A SANDBOX (cutbox-door.mjs). By AI agents, Wed Nov 11 2026. No macro, syntax, notation, axiom, sorry.
-/
import Derived.Test.YtlgfekllkahfaaaDoorRows
import Derived.LaidByTextLater
import Derived.SevenTiedAt
import Derived.LaidSub
import Derived.LaidOnce
namespace Go.Proofs.YtlgfekllkahfaaaDoor
open Go
set_option maxRecDepth 100000
theorem seatTie1 : Tryd.prog.laidByTextLater [("gossamer/gossamerref07.k", Rows.laid_gossamer_gossamerref07_k), ("gossamer/digest.constants", Rows.laid_gossamer_digest_constants), ("gossamer/digest.beginning", Rows.laid_gossamer_digest_beginning)] [.data, .data, .data] true :=
  Program.laidByTextLater_by_one 24 8 65 (by kernel_rfl) (by kernel_rfl) (by kernel_rfl) (by kernel_rfl) (by kernel_rfl) (by kernel_rfl) (fun _ _ => by kernel_rfl)
theorem noOwnUnsafe : Tryd.pinned.checked.prog.headLifts.contains "ownunsafe" = false := by kernel_rfl
theorem tie : Tryd.prog.laidByTextLater [("gossamer/digest.constants", Rows.laid_gossamer_digest_constants), ("gossamer/digest.beginning", Rows.laid_gossamer_digest_beginning)] [.data, .data] true :=
  Program.laidByTextLater.sub seatTie1 ["gossamer/digest.constants", "gossamer/digest.beginning"] (by kernel_rfl) (by kernel_rfl)
theorem txWitness_row_tie : Rows.txWitnessRow.laidByTextAt .later Tryd.pinned [.data, .data] true :=
  OpenClaim.laidByTextAt_later rfl rfl tie noOwnUnsafe
theorem tie2 : Tryd.prog.laidByTextLater [("gossamer/gossamerref07.k", Rows.laid_gossamer_gossamerref07_k), ("gossamer/digest.constants", Rows.laid_gossamer_digest_constants), ("gossamer/digest.beginning", Rows.laid_gossamer_digest_beginning)] [.data, .data, .data] true :=
  Program.laidByTextLater.sub seatTie1 ["gossamer/gossamerref07.k", "gossamer/digest.constants", "gossamer/digest.beginning"] (by kernel_rfl) (by kernel_rfl)
theorem txBytes_row_tie : Rows.txBytesRow.laidByTextAt .later Tryd.pinned [.data, .data, .data] true :=
  OpenClaim.laidByTextAt_later rfl rfl tie2 noOwnUnsafe
theorem txWitnessUpto_row_tie : Rows.txWitnessUptoRow.laidByTextAt .later Tryd.pinned [.data, .data] true :=
  OpenClaim.laidByTextAt_later rfl rfl tie noOwnUnsafe
theorem txBytesUpto_row_tie : Rows.txBytesUptoRow.laidByTextAt .later Tryd.pinned [.data, .data, .data] true :=
  OpenClaim.laidByTextAt_later rfl rfl tie2 noOwnUnsafe
end Go.Proofs.YtlgfekllkahfaaaDoor
