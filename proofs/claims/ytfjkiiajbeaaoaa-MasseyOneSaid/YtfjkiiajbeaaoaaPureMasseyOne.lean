/- Where twice the length is not more than the sequence has, no other recurrence of that length is kept.
   Conditions: none. -/
import Derived.Test.YtfjkiiajbeaaoaaRx3
import Derived.Test.YtfjkiiajbeaaoaaCM3
set_option linter.unusedVariables false
namespace Go.Proofs.Ytfjkiiajbeaaoaa.Pure
open Go.RowKit Go.Proofs.Ytfjkiiajbeaaoaa.R Go.Proofs.YtfjkiiajbeaaoaaW.PrintWords Go.Proofs.YtfjkiiajbeaaoaaW.PrintLast Go.Proofs.YtfjkiiajbeaaoaaW.PrintMore Go.Proofs.Ytfjkiiajbeaaoaa.Bits Go.Proofs.Ytfjkiiajbeaaoaa GF PolyT MV Massey
theorem one_E (s : List F) (hs : s.length ≤ 40) (a : Int) (b : F) (hb : b ≠ 0#32) : Ev (fun k => gossamerlaw03_MasseyOne.j0 k (V s) a (v b) false) true := by
  refine Ev.succ ?_
  simp only [gossamerlaw03_MasseyOne.j0]
  refine Ev.neg (by decide) (Ev.bind' (shortest_V s (by omega)) ?_)
  have hl := short_length (co s) s.length
  have hbd := (MW.run_bounds (co s) s.length).2.2.2.2
  have honly := one_only s
  rw [V_length, V_length, hl]
  obtain ⟨n, hn⟩ : ∃ n, n = (run (co s) s.length).len := ⟨_, rfl⟩
  rw [← hn] at hl hbd honly ⊢
  have hw : wrap64 (((n + 1 : Nat) : Int) - 1) = (n : Int) := by rw [wrap64_small] <;> omega
  have hw2 : wrap64 (2 * (n : Int)) = 2 * (n : Int) := by rw [wrap64_small] <;> omega
  rw [hw, hw2]
  by_cases h1 : n < 1
  · exact Ev.pos (by omega) (Ev.some'.to (decide_eq_true (by omega)))
  refine Ev.neg (by omega) ?_
  rcases Nat.lt_or_ge s.length (2 * n) with h2 | h2
  · exact Ev.pos (by omega) (Ev.some'.to (decide_eq_true (by omega)))
  refine Ev.neg (by omega) ?_
  have hun : IntKind.u64.wrap (n : Int) = (n : Int) := by rw [wrap_u64]; omega
  have hua : 0 ≤ IntKind.u64.wrap a := by rw [wrap_u64]; omega
  rw [hun]
  obtain ⟨m, hm, hmn⟩ : ∃ m : Nat, Int.tmod (IntKind.u64.wrap a) (n : Int) = (m : Int) ∧ m < n := by
    rw [Int.tmod_eq_emod_of_nonneg hua]
    have hn0 : (n : Int) ≠ 0 := by omega
    have hn1 : (0 : Int) < (n : Int) := by omega
    generalize IntKind.u64.wrap a = y at *
    have ha := Int.emod_nonneg y hn0
    have hb := Int.emod_lt_of_pos y hn1
    generalize y % (n : Int) = z at *
    exact ⟨z.toNat, by omega, by omega⟩
  rw [hm]
  clear hm hun hua hw hw2
  have hw3 : wrap64 (m : Int) = (m : Int) := wrap64_small (by omega) (by omega)
  have hw4 : wrap64 (1 + (m : Int)) = ((m + 1 : Nat) : Int) := by rw [wrap64_small] <;> omega
  rw [hw3, hw4, rd_Vn, xor_v, Int.toNat_natCast, V_set]
  refine Ev.neg (by omega) (Ev.pos (by omega) (Ev.pos (by omega) ?_))
  obtain ⟨q, e1, k1⟩ := keeps_V ((MW.short (co s) s.length).set (m + 1) (co (MW.short (co s) s.length) (m + 1) ^^^ b)) s (by unfold Small; rw [List.length_set]; omega) (by unfold Small; omega)
  have hno := honly (m + 1) b hb (by omega) (by omega) h2
  refine Ev.bind k1 (Ev.some'.to ?_)
  cases q with
  | true => exact absurd (e1.1 rfl) hno
  | false => rfl
theorem MasseyOne : gossamerlaw03_MasseyOne.Pure := by
  intro l0 a1 a2 _ _ h0 _ h2
  obtain ⟨s, rfl⟩ := V_of l0 h0
  obtain ⟨b, rfl⟩ := v_of (wf_u32 h2).1 (wf_u32 h2).2
  have : Ev (fun k => gossamerlaw03_MasseyOne.f k (V s) a1 (v b)) true := by
    unfold gossamerlaw03_MasseyOne.f
    refine Ev.bind alive_E (Ev.pos rfl ?_)
    have tr : Ev (fun k => gossamerlaw03_MasseyOne.j0 k (V s) a1 (v b) true) true := by
      refine Ev.succ ?_
      simp only [gossamerlaw03_MasseyOne.j0]
      exact Ev.pos trivial Ev.some'
    by_cases hl : s.length ≤ 40
    · refine Ev.neg (by rw [V_length]; omega) ?_
      by_cases hb : b = 0#32
      · have : (v b == 0) = true := by rw [hb]; decide
        rw [this]; exact tr
      · have : (v b == 0) = false := beq_eq_false_iff_ne.2 (fun e => hb ((v_zero_iff _).1 e))
        rw [this]; exact one_E s hl a1 b hb
    · exact Ev.pos (by rw [V_length]; omega) tr
  obtain ⟨K, hK⟩ := this
  exact ⟨K, hK K (Nat.le_refl _)⟩
end Go.Proofs.Ytfjkiiajbeaaoaa.Pure
