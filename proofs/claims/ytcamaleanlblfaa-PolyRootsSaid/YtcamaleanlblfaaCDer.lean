/- What the printed derivatives and the document's values and derivatives of polynomials come to. -/
import Derived.Test.YtcamaleanlblfaaQx2
import Derived.Test.YtcamaleanlblfaaCPoly
import Derived.Test.YtcamaleanlblfaaPolyR
set_option linter.unusedVariables false
set_option linter.unusedSimpArgs false
namespace Go.Proofs.Ytcamaleanlblfaa.Q
open Go.RowKit Go.Proofs.YtcamaleanlblfaaW.PrintWords Go.Proofs.YtcamaleanlblfaaW.PrintLast Go.Proofs.YtcamaleanlblfaaW.PrintMore Go.Proofs.Ytcamaleanlblfaa.Bits Go.Proofs.Ytcamaleanlblfaa GF PolyT
theorem derived_loop (l : List F) (hs : Small l) : ∀ (n i : Nat) (t : List F), l.length ≤ i + n + n + 1 → i % 2 = 0 → i ≤ l.length → t.length = l.length - 1 → (∀ j, co t j = if j < i then dS l j else 0#32) →
    ∃ d, Ev (fun k => poly_Derived.l0 k (V l) (V t) (i : Int)) (V d) ∧ Tr d ∧ co d = dS l ∧ d.length ≤ l.length := by
  intro n
  unfold Small at hs
  have fin : ∀ (i : Nat) (t : List F), l.length ≤ i + 1 → t.length = l.length - 1 → (∀ j, co t j = if j < i then dS l j else 0#32) →
      ∃ d, Ev (fun k => poly_Derived.l0 k (V l) (V t) (i : Int)) (V d) ∧ Tr d ∧ co d = dS l ∧ d.length ≤ l.length := by
    intro i t hi ht hc
    refine ⟨trim t, ?_, tr_trim t, ?_, by rw [trim_length]; have := len_le t; omega⟩
    · refine Ev.succ ?_
      simp only [poly_Derived.l0, V_length]
      exact Ev.neg (by omega) (Ev.bind (cut_V t (by unfold Small; omega)) Ev.some')
    · funext j
      rw [co_trim, hc]
      by_cases h : j < i
      · rw [if_pos h]
      · rw [if_neg h]; unfold dS; rw [co_ge (by omega)]; split <;> rfl
  induction n with
  | zero => intro i t hi h2 hil ht hc; exact fin i t (by omega) ht hc
  | succ n ih =>
    intro i t hi h2 hil ht hc
    by_cases h : l.length ≤ i + 1
    · exact fin i t h ht hc
    obtain ⟨d, h1, h3⟩ := ih (i + 2) (t.set i (co l (i + 1))) (by omega) (by omega) (by omega) (by simpa using ht) (fun j => by
      rw [co_set, hc]
      by_cases e : j = i
      · subst e; rw [if_pos ⟨rfl, by omega⟩, if_pos (by omega)]; unfold dS; rw [if_pos h2]
      · rw [if_neg (fun c => e c.1)]
        by_cases e2 : j = i + 1
        · subst e2; rw [if_neg (by omega), if_pos (by omega)]; unfold dS; rw [if_neg (by omega)]
        · by_cases e3 : j < i
          · rw [if_pos e3, if_pos (by omega)]
          · rw [if_neg e3, if_neg (by omega)])
    refine ⟨d, ?_, h3⟩
    refine Ev.succ ?_
    have hw2 : wrap64 ((i : Int) + 2) = ((i + 2 : Nat) : Int) := by rw [wrap64_small] <;> omega
    simp only [poly_Derived.l0, V_length]
    rw [hw2, wrap_nat1 (by omega), rd_Vn, Int.toNat_natCast, V_set]
    exact Ev.pos (by omega) (Ev.pos (by omega) (Ev.pos (by omega) (Ev.pos (by omega) h1)))
theorem derived_V (l : List F) (hs : Small l) : ∃ d, Ev (fun k => poly_Derived.f k (V l)) (V d) ∧ Tr d ∧ co d = dS l ∧ d.length ≤ l.length := by
  obtain ⟨d, h1, h2⟩ := derived_loop l hs l.length 0 (List.replicate (l.length - 1) 0#32) (by omega) rfl (by omega) (by simp) (fun j => by rw [co_replicate, if_neg (by omega)])
  refine ⟨d, ?_, h2⟩
  unfold Small at hs
  have hm : mx 0 (wrap64 (((V l).length : Int) - 1)) = ((l.length - 1 : Nat) : Int) := by
    rw [V_length, wrap64_small (by omega) (by omega)]; unfold mx
    split <;> omega
  unfold poly_Derived.f
  rw [hm, Int.toNat_natCast, V_replicate]
  exact Ev.pos (by omega) (Ev.pos (by omega) h1)
end Go.Proofs.Ytcamaleanlblfaa.Q
