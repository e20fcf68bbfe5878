/- The document's least length of a recurrence. -/
import Derived.Test.YtfjkiiajbeaaoaaWalkMSolv
set_option linter.unusedVariables false
set_option linter.unusedSimpArgs false
namespace Go.Proofs.Ytfjkiiajbeaaoaa.MRws
open Go.RowKit Go.Proofs.Ytfjkiiajbeaaoaa.Q Go.Proofs.YtfjkiiajbeaaoaaW.PrintWords Go.Proofs.YtfjkiiajbeaaoaaW.PrintLast Go.Proofs.YtfjkiiajbeaaoaaW.PrintMore Go.Proofs.Ytfjkiiajbeaaoaa.Bits Go.Proofs.Ytfjkiiajbeaaoaa GF PolyT MV MSolv Massey
set_option maxRecDepth 100000 in
set_option maxHeartbeats 400000 in
theorem rlength_calls (s : List F) (A : Option Addr) (c : Nat) (w : World) (hs : Kd.C (Kd.int .u32) w A (V s).length (V s)) (hc : s.length ≤ c) (hsl : s.length ≤ 1000) :
    Calls Try.prog 11 #[.slice A s.length c] w fun e w' => e = .returned (.int .i64 ((run (co s) s.length).len : Int)) ∧ Below w.heap.size w w' := by
  have hN := (MW.run_bounds (co s) s.length).2.2.2.2
  have hy := solv_run s
  have hl := solv_less s
  obtain ⟨N, hNe⟩ : ∃ N, N = (run (co s) s.length).len := ⟨_, rfl⟩
  rw [← hNe] at hN hy hl ⊢
  have hS := Aside0.mk (fun (W : World) (hW : Below w.heap.size w W) (L : Nat) (hL : L ≤ s.length) => solvable_calls s L A c W (Kd.C_below hs hW) hc hsl hL)
  have hyA := Aside0.mk hy; have hlA := Aside0.mk hl
  clear hs hy hl hNe
  go_enter Try.func11, Try.ntmps11
  go_wp2_with fail
  go_loopw [3] (fun nv wr => ∃ n : Nat, n ≤ N ∧ nv = .int .i64 (n : Int) ∧ Below w.heap.size w wr) (fun nv _ => N - (intOf nv).toNat)
  case atStart => exact ⟨0, by omega, rfl, Below.refl _ _⟩
  case round =>
    obtain ⟨n, hn, rfl, hB⟩ := hrel
    have hBA := Aside0.mk hB
    clear hB
    have hC := Aside0.mk (hS.out wr hBA.out n (by omega))
    by_cases hlt : n < N
    · have hv := hlA.out n hlt
      rw [hv] at hC
      have e1 : IntKind.i64.wrap ((n : Int) + 1) = (n : Int) + 1 := IntWalk.i64_in _ (by omega)
      clear hv
      go_wp2_with (go_at_call 19; (with_reducible refine hC.out.mono ?_); rintro e0 w1 ⟨rfl, hb1⟩; have hB1 := Aside0.mk (below_then hBA.out hBA.out.size hb1); clear hb1)
      go_roundw
      · exact ⟨n + 1, by omega, by go_num, hB1.out⟩
      · simp [intOf]; omega
    · obtain rfl : N = n := by omega
      rw [hyA.out] at hC
      go_wp2_with (go_at_call 19; (with_reducible refine hC.out.mono ?_); rintro e0 w1 ⟨rfl, hb1⟩; have hB1 := Aside0.mk (below_then hBA.out hBA.out.size hb1); clear hb1)
      go_ret
      exact ⟨rfl, hB1.out⟩
end Go.Proofs.Ytfjkiiajbeaaoaa.MRws
