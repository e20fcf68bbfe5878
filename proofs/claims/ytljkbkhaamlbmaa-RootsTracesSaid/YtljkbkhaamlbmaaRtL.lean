/- bits.Len of a small number: by each. -/
import Derived.WalkKit
import Derived.Test.YtljkbkhaamlbmaaProg
import Derived.Test.YtljkbkhaamlbmaaWMore
set_option linter.unusedVariables false
set_option linter.unusedSimpArgs false
namespace Go.Proofs.Ytljkbkhaamlbmaa.RtL
open Go.RowKit Go.Proofs.YtljkbkhaamlbmaaW.PrintWords Go.Proofs.YtljkbkhaamlbmaaW.PrintMore Go.Proofs.Ytljkbkhaamlbmaa
def blen (n : Nat) : Int := if n = 0 then 0 else (n.log2 : Int) + 1
set_option maxRecDepth 100000 in
set_option maxHeartbeats 4000000 in
theorem len64_calls (w : World) : ∀ n : Nat, n < 32 → Calls Try.prog 79 #[.int .u64 (n : Int)] w fun e w' => e = .returned (.int .i64 (blen n)) ∧ w' = w
  | 0, _ => by
    show Calls Try.prog _ #[.int .u64 0] w _
    go_enter Try.func79, Try.ntmps79
    go_wp2_with fail
    go_ret
    exact ⟨by kernel_rfl, rfl⟩
  | 1, _ => by
    show Calls Try.prog _ #[.int .u64 1] w _
    go_enter Try.func79, Try.ntmps79
    go_wp2_with fail
    go_ret
    exact ⟨by kernel_rfl, rfl⟩
  | 2, _ => by
    show Calls Try.prog _ #[.int .u64 2] w _
    go_enter Try.func79, Try.ntmps79
    go_wp2_with fail
    go_ret
    exact ⟨by kernel_rfl, rfl⟩
  | 3, _ => by
    show Calls Try.prog _ #[.int .u64 3] w _
    go_enter Try.func79, Try.ntmps79
    go_wp2_with fail
    go_ret
    exact ⟨by kernel_rfl, rfl⟩
  | 4, _ => by
    show Calls Try.prog _ #[.int .u64 4] w _
    go_enter Try.func79, Try.ntmps79
    go_wp2_with fail
    go_ret
    exact ⟨by kernel_rfl, rfl⟩
  | 5, _ => by
    show Calls Try.prog _ #[.int .u64 5] w _
    go_enter Try.func79, Try.ntmps79
    go_wp2_with fail
    go_ret
    exact ⟨by kernel_rfl, rfl⟩
  | 6, _ => by
    show Calls Try.prog _ #[.int .u64 6] w _
    go_enter Try.func79, Try.ntmps79
    go_wp2_with fail
    go_ret
    exact ⟨by kernel_rfl, rfl⟩
  | 7, _ => by
    show Calls Try.prog _ #[.int .u64 7] w _
    go_enter Try.func79, Try.ntmps79
    go_wp2_with fail
    go_ret
    exact ⟨by kernel_rfl, rfl⟩
  | 8, _ => by
    show Calls Try.prog _ #[.int .u64 8] w _
    go_enter Try.func79, Try.ntmps79
    go_wp2_with fail
    go_ret
    exact ⟨by kernel_rfl, rfl⟩
  | 9, _ => by
    show Calls Try.prog _ #[.int .u64 9] w _
    go_enter Try.func79, Try.ntmps79
    go_wp2_with fail
    go_ret
    exact ⟨by kernel_rfl, rfl⟩
  | 10, _ => by
    show Calls Try.prog _ #[.int .u64 10] w _
    go_enter Try.func79, Try.ntmps79
    go_wp2_with fail
    go_ret
    exact ⟨by kernel_rfl, rfl⟩
  | 11, _ => by
    show Calls Try.prog _ #[.int .u64 11] w _
    go_enter Try.func79, Try.ntmps79
    go_wp2_with fail
    go_ret
    exact ⟨by kernel_rfl, rfl⟩
  | 12, _ => by
    show Calls Try.prog _ #[.int .u64 12] w _
    go_enter Try.func79, Try.ntmps79
    go_wp2_with fail
    go_ret
    exact ⟨by kernel_rfl, rfl⟩
  | 13, _ => by
    show Calls Try.prog _ #[.int .u64 13] w _
    go_enter Try.func79, Try.ntmps79
    go_wp2_with fail
    go_ret
    exact ⟨by kernel_rfl, rfl⟩
  | 14, _ => by
    show Calls Try.prog _ #[.int .u64 14] w _
    go_enter Try.func79, Try.ntmps79
    go_wp2_with fail
    go_ret
    exact ⟨by kernel_rfl, rfl⟩
  | 15, _ => by
    show Calls Try.prog _ #[.int .u64 15] w _
    go_enter Try.func79, Try.ntmps79
    go_wp2_with fail
    go_ret
    exact ⟨by kernel_rfl, rfl⟩
  | 16, _ => by
    show Calls Try.prog _ #[.int .u64 16] w _
    go_enter Try.func79, Try.ntmps79
    go_wp2_with fail
    go_ret
    exact ⟨by kernel_rfl, rfl⟩
  | 17, _ => by
    show Calls Try.prog _ #[.int .u64 17] w _
    go_enter Try.func79, Try.ntmps79
    go_wp2_with fail
    go_ret
    exact ⟨by kernel_rfl, rfl⟩
  | 18, _ => by
    show Calls Try.prog _ #[.int .u64 18] w _
    go_enter Try.func79, Try.ntmps79
    go_wp2_with fail
    go_ret
    exact ⟨by kernel_rfl, rfl⟩
  | 19, _ => by
    show Calls Try.prog _ #[.int .u64 19] w _
    go_enter Try.func79, Try.ntmps79
    go_wp2_with fail
    go_ret
    exact ⟨by kernel_rfl, rfl⟩
  | 20, _ => by
    show Calls Try.prog _ #[.int .u64 20] w _
    go_enter Try.func79, Try.ntmps79
    go_wp2_with fail
    go_ret
    exact ⟨by kernel_rfl, rfl⟩
  | 21, _ => by
    show Calls Try.prog _ #[.int .u64 21] w _
    go_enter Try.func79, Try.ntmps79
    go_wp2_with fail
    go_ret
    exact ⟨by kernel_rfl, rfl⟩
  | 22, _ => by
    show Calls Try.prog _ #[.int .u64 22] w _
    go_enter Try.func79, Try.ntmps79
    go_wp2_with fail
    go_ret
    exact ⟨by kernel_rfl, rfl⟩
  | 23, _ => by
    show Calls Try.prog _ #[.int .u64 23] w _
    go_enter Try.func79, Try.ntmps79
    go_wp2_with fail
    go_ret
    exact ⟨by kernel_rfl, rfl⟩
  | 24, _ => by
    show Calls Try.prog _ #[.int .u64 24] w _
    go_enter Try.func79, Try.ntmps79
    go_wp2_with fail
    go_ret
    exact ⟨by kernel_rfl, rfl⟩
  | 25, _ => by
    show Calls Try.prog _ #[.int .u64 25] w _
    go_enter Try.func79, Try.ntmps79
    go_wp2_with fail
    go_ret
    exact ⟨by kernel_rfl, rfl⟩
  | 26, _ => by
    show Calls Try.prog _ #[.int .u64 26] w _
    go_enter Try.func79, Try.ntmps79
    go_wp2_with fail
    go_ret
    exact ⟨by kernel_rfl, rfl⟩
  | 27, _ => by
    show Calls Try.prog _ #[.int .u64 27] w _
    go_enter Try.func79, Try.ntmps79
    go_wp2_with fail
    go_ret
    exact ⟨by kernel_rfl, rfl⟩
  | 28, _ => by
    show Calls Try.prog _ #[.int .u64 28] w _
    go_enter Try.func79, Try.ntmps79
    go_wp2_with fail
    go_ret
    exact ⟨by kernel_rfl, rfl⟩
  | 29, _ => by
    show Calls Try.prog _ #[.int .u64 29] w _
    go_enter Try.func79, Try.ntmps79
    go_wp2_with fail
    go_ret
    exact ⟨by kernel_rfl, rfl⟩
  | 30, _ => by
    show Calls Try.prog _ #[.int .u64 30] w _
    go_enter Try.func79, Try.ntmps79
    go_wp2_with fail
    go_ret
    exact ⟨by kernel_rfl, rfl⟩
  | 31, _ => by
    show Calls Try.prog _ #[.int .u64 31] w _
    go_enter Try.func79, Try.ntmps79
    go_wp2_with fail
    go_ret
    exact ⟨by kernel_rfl, rfl⟩
  | n + 32, h => absurd h (by omega)
set_option maxRecDepth 100000 in
theorem len_calls (w : World) (n : Nat) (h : n < 32) : Calls Try.prog 64 #[.int .u64 (n : Int)] w fun e w' => e = .returned (.int .i64 (blen n)) ∧ w' = w := by
  go_enter Try.func64, Try.ntmps64
  go_wp2_with (go_at_call 79; (with_reducible refine (len64_calls _ n h).mono ?_); rintro e w2 ⟨rfl, rfl⟩)
  go_ret
  exact ⟨rfl, rfl⟩
end Go.Proofs.Ytljkbkhaamlbmaa.RtL
