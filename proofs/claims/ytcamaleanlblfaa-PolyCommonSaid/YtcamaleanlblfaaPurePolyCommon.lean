/- The common divisor divides both, is monic, and whatever divides both divides it.
   Conditions: none. -/
import Derived.Test.YtcamaleanlblfaaQx3
import Derived.Test.YtcamaleanlblfaaCDiv
import Derived.Test.YtcamaleanlblfaaCLaw2A
set_option linter.unusedVariables false
namespace Go.Proofs.Ytcamaleanlblfaa.Pure
open Go.RowKit Go.Proofs.Ytcamaleanlblfaa.Q Go.Proofs.YtcamaleanlblfaaW.PrintWords Go.Proofs.YtcamaleanlblfaaW.PrintLast Go.Proofs.YtcamaleanlblfaaW.PrintMore Go.Proofs.Ytcamaleanlblfaa.Bits Go.Proofs.Ytcamaleanlblfaa GF PolyT
theorem degree_vE (l : List F) (hs : Small l) : Ev (fun k => poly_Degree.f k (V l)) ((len l : Int) - 1) := degree_V l hs
theorem gcd_len' {a b g : List F} (h : Gcd a b g) : len g ≤ max (len a) (len b) := by
  induction h with
  | done h0 => rw [len_monic]; omega
  | step h0 _ ih => have := h0.2; omega
theorem gcd_top {a b g : List F} (h : Gcd a b g) : len g ≠ 0 → co g (len g - 1) = 1#32 := by
  induction h with
  | done h0 => intro hg; rw [len_monic] at hg ⊢; exact monic_top hg
  | step h0 _ ih => exact ih
theorem common_law (a b c : List F) (ba : a.length < 140737488351232) (bb : b.length < 140737488351232) (bc : c.length < 140737488351232) :
    Ev (fun k => gossamerlaw02_PolyCommon.f k (V a) (V b) (V c)) true := by
  unfold gossamerlaw02_PolyCommon.f
  refine Ev.bind alive_E (Ev.pos rfl ?_)
  rw [V_length, V_length, V_length]
  have hw1 : wrap64 ((a.length : Int) + (c.length : Int)) = ((a.length + c.length : Nat) : Int) := wrap_nat (by omega)
  have hw2 : wrap64 ((b.length : Int) + (c.length : Int)) = ((b.length + c.length : Nat) : Int) := wrap_nat (by omega)
  rw [hw1, hw2]
  clear hw1 hw2
  by_cases h1 : ((a.length + c.length : Nat) : Int) > 24
  · refine Ev.pos h1 (Ev.succ ?_)
    simp only [gossamerlaw02_PolyCommon.j0]
    exact Ev.pos trivial Ev.some'
  refine Ev.neg h1 ?_
  by_cases h2 : ((b.length + c.length : Nat) : Int) > 24
  · rw [decide_eq_true h2]
    refine Ev.succ ?_
    simp only [gossamerlaw02_PolyCommon.j0]
    exact Ev.pos trivial Ev.some'
  rw [decide_eq_false h2]
  have ha : a.length + c.length ≤ 24 := by omega
  have hb : b.length + c.length ≤ 24 := by omega
  clear h1 h2 ba bb bc
  obtain ⟨A, A1, A2, A3, A4⟩ := mul_V a c (by unfold Small; omega) (by unfold Small; omega)
  obtain ⟨B, B1, B2, B3, B4⟩ := mul_V b c (by unfold Small; omega) (by unfold Small; omega)
  have sA : Small A := by unfold Small; omega
  have sB : Small B := by unfold Small; omega
  have sc' : Small c := by unfold Small; omega
  obtain ⟨g, g1, g2⟩ := common_V A B sA sB
  rw [trim_of_tr A2, trim_of_tr B2] at g2
  have gl := gcd_len' g2
  have gt : len g = g.length := g2.tr
  have lA := len_le A
  have lB := len_le B
  have sg : Small g := by unfold Small; omega
  -- what is not nought
  have main : ¬ (len A = 0 ∧ len B = 0) → Ev (fun k => gossamerlaw02_PolyCommon.j1 k (V c) (V A) (V B) (V g) false) true := by
    intro hn
    have hg : len g ≠ 0 := by
      intro h0
      exact hn ⟨g2.dv.1.of_zero h0, g2.dv.2.of_zero h0⟩
    have hc : len c ≠ 0 := by
      intro h0
      refine hn ⟨len_eq (fun i _ => ?_) (fun m hm => by omega), len_eq (fun i _ => ?_) (fun m hm => by omega)⟩
      · rw [A3, pr_zero_r a h0]
      · rw [B3, pr_zero_r b h0]
    obtain ⟨m, hm⟩ : ∃ m, len g = m + 1 := ⟨len g - 1, by omega⟩
    have et : ((len g : Nat) : Int) - 1 = (m : Int) := by omega
    have top := gcd_top g2 hg
    rw [hm, Nat.add_sub_cancel] at top
    obtain ⟨q1, r1, d1, d2, d3, d4, d5, d6⟩ := divide_V A g sA sg hg
    obtain ⟨q2, r2, e1, e2, e3, e4, e5, e6⟩ := divide_V B g sB sg hg
    obtain ⟨q3, r3, f1, f2, f3, f4, f5, f6⟩ := divide_V g c sg sc' hc
    have z1 := d4.exact d3 g2.dv.1
    have z2 := e4.exact e3 g2.dv.2
    have z3 := f4.exact f3 (g2.greatest (Dv.mul_r a c A A3) (Dv.mul_r b c B B3))
    subst z1 z2 z3
    refine Ev.succ ?_
    simp only [gossamerlaw02_PolyCommon.j1]
    have hdeg := degree_vE g sg
    rw [et] at hdeg
    refine Ev.neg (by decide) (Ev.bind hdeg (Ev.neg (by omega) (Ev.bind hdeg ?_)))
    rw [V_length, rd_Vn, top]
    refine Ev.pos (by omega) (Ev.pos (by omega) ?_)
    have hne : (v 1#32 != (1 : Int)) = false := by decide
    rw [hne]
    refine Ev.succ ?_
    simp only [gossamerlaw02_PolyCommon.j2]
    exact Ev.neg (by decide) (Ev.bind d1 (Ev.bind e1 (Ev.bind f1 (Ev.pos rfl (Ev.pos rfl (Ev.pos rfl (Ev.pos rfl (Ev.pos rfl (Ev.some'.to rfl)))))))))
  refine Ev.succ ?_
  simp only [gossamerlaw02_PolyCommon.j0]
  refine Ev.neg (by decide) (Ev.bind A1 (Ev.bind B1 (Ev.bind g1 (Ev.bind (degree_vE A sA) ?_))))
  by_cases hA : len A = 0
  · refine Ev.pos (by omega) (Ev.bind (degree_vE B sB) ?_)
    by_cases hB : len B = 0
    · rw [decide_eq_true (by omega)]
      refine Ev.succ ?_
      simp only [gossamerlaw02_PolyCommon.j1]
      refine Ev.pos trivial (Ev.some'.to ?_)
      rw [V_length]
      have : g.length = 0 := by omega
      rw [this]; rfl
    · rw [decide_eq_false (by omega)]
      exact main (fun h => hB h.2)
  · exact Ev.neg (by omega) (main (fun h => hA h.1))
theorem PolyCommon : gossamerlaw02_PolyCommon.Pure := by
  intro l0 l1 l2 _ b0 h0 _ b1 h1 _ b2 h2
  obtain ⟨a, rfl⟩ := V_of l0 h0
  obtain ⟨b, rfl⟩ := V_of l1 h1
  obtain ⟨c, rfl⟩ := V_of l2 h2
  rw [V_length] at b0 b1 b2
  obtain ⟨K, hK⟩ := common_law a b c (by omega) (by omega) (by omega)
  exact ⟨K, hK K (Nat.le_refl _)⟩
end Go.Proofs.Ytcamaleanlblfaa.Pure
