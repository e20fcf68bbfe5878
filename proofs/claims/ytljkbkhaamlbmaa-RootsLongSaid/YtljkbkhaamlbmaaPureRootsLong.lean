/- Which degrees may be looked at.
   Conditions: none. -/
import Derived.Test.YtljkbkhaamlbmaaRx7
import Derived.Test.YtljkbkhaamlbmaaMRt
set_option linter.unusedVariables false
set_option linter.unusedSimpArgs false
namespace Go.Proofs.Ytljkbkhaamlbmaa.Pure
open Go.RowKit Go.Proofs.Ytljkbkhaamlbmaa.R Go.Proofs.YtljkbkhaamlbmaaW.PrintWords Go.Proofs.YtljkbkhaamlbmaaW.PrintLast Go.Proofs.YtljkbkhaamlbmaaW.PrintMore Go.Proofs.Ytljkbkhaamlbmaa.Bits Go.Proofs.Ytljkbkhaamlbmaa GF PolyT
theorem RootsLong : gossamerlaw04_RootsLong.Pure := by
  intro a0 _
  suffices h : Ev (fun k => gossamerlaw04_RootsLong.f k a0) true by
    obtain ⟨K, hK⟩ := h
    exact ⟨K, hK K (Nat.le_refl K)⟩
  obtain ⟨n, hn, n1, n2⟩ : ∃ n : Nat, wrap64 (58 + wrap64 (Int.tmod (IntKind.u64.wrap a0) 5)) = ((n + 1 : Nat) : Int) ∧ 57 ≤ n ∧ n ≤ 61 := by
    have h0 : 0 ≤ IntKind.u64.wrap a0 := by unfold IntKind.wrap; simp [IntKind.signed, IntKind.bits]; omega
    have h1 : 0 ≤ Int.tmod (IntKind.u64.wrap a0) 5 := Int.tmod_nonneg _ h0
    have h2 : Int.tmod (IntKind.u64.wrap a0) 5 < 5 := Int.tmod_lt_of_pos _ (by decide)
    refine ⟨(57 + Int.tmod (IntKind.u64.wrap a0) 5).toNat, ?_, by omega, by omega⟩
    rw [wrap64_small (n := Int.tmod (IntKind.u64.wrap a0) 5) (by omega) (by omega), wrap64_small (by omega) (by omega)]
    omega
  unfold gossamerlaw04_RootsLong.f
  simp only [hn]
  have e1 : wrap64 (((n + 1 : Nat) : Int) + 1) = ((n + 2 : Nat) : Int) := by rw [wrap64_small] <;> omega
  simp only [e1, Int.toNat_natCast]
  refine Ev.bind alive_E (Ev.pos rfl (Ev.pos (by omega) (Ev.pos (by omega) (Ev.bind' rfl (Ev.pos (by omega) (Ev.pos (by simp) ?_))))))
  have e2 : (List.replicate (n + 2) (0 : Int)).set (n + 1) 1 = V (xp (n + 1)) := xp_V (n + 1)
  simp only [e2]
  by_cases hb : 60 ≤ n
  · refine Ev.bind (all_xp0 (n + 1) (by omega) (by omega)) (Ev.pos (by omega) (Ev.bind' is_1 (Ev.pos rfl (Ev.some'.to (by decide)))))
  · refine Ev.bind (all_xp n (by omega)) (Ev.neg (by omega) (Ev.pos rfl (Ev.bind (words_V (a := [0#32]) rfl (by unfold Small; simp)) Ev.some')))
end Go.Proofs.Ytljkbkhaamlbmaa.Pure
