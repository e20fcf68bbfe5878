/- The division of any polynomials, what is monic of them, and their common divisor.
   Conditions: none. -/
import Derived.Test.YtcamaleanlblfaaQx6
import Derived.Test.YtcamaleanlblfaaCSq
import Derived.Test.YtcamaleanlblfaaCRef2
import Derived.Test.YtcamaleanlblfaaCLaw2
set_option linter.unusedVariables false
namespace Go.Proofs.Ytcamaleanlblfaa.Pure
open Go.RowKit Go.Proofs.Ytcamaleanlblfaa.Q Go.Proofs.YtcamaleanlblfaaW.PrintWords Go.Proofs.YtcamaleanlblfaaW.PrintLast Go.Proofs.YtcamaleanlblfaaW.PrintMore Go.Proofs.Ytcamaleanlblfaa.Bits Go.Proofs.Ytcamaleanlblfaa GF PolyT
theorem gcd_len {a b g : List F} (h : Gcd a b g) : len g ≤ max (len a) (len b) := by
  induction h with
  | done h0 => rw [len_monic]; omega
  | step h0 _ ih => have := h0.2; omega
theorem divides_V (a b : List F) : Ev (fun k => gossamerlaw02_PolyDivides.f k (V a) (V b)) true := by
  unfold gossamerlaw02_PolyDivides.f
  refine Ev.bind alive_E (Ev.pos rfl (Ev.bind (long_E _ (by simp)) ?_))
  by_cases hl : ([V a, V b].any fun x => decide (24 < x.length)) = true
  · exact Ev.pos hl Ev.some'
  refine Ev.neg hl ?_
  have hl' : a.length ≤ 24 ∧ b.length ≤ 24 := by
    simp only [List.any_cons, List.any_nil, V_length, Bool.or_false, Bool.or_eq_true, decide_eq_true_eq] at hl
    omega
  clear hl
  obtain ⟨la, lb⟩ := hl'
  have sa : Small a := by unfold Small; omega
  have sb : Small b := by unfold Small; omega
  have la2 := len_le a
  have lb2 := len_le b
  refine Ev.bind' (own_V a sa) (Ev.bind' (own_V b sb) ?_)
  obtain ⟨g, g1, g2⟩ := common_V a b sa sb
  obtain ⟨g', g3, g4⟩ := rcommon_V (len b + 1) a b (by omega) sa sb
  have eg : g = g' := g2.eq g4 (funext (co_trim a)) (funext (co_trim b))
  subst eg
  have gl := gcd_len g4
  have gt : len g = g.length := g4.tr
  have hm : Small (monic a) := by
    have := tr_monic a
    unfold Tr at this
    unfold Small; rw [← this, len_monic]; omega
  have hsg : Small g := by unfold Small; omega
  by_cases hz : len b = 0
  · refine Ev.bind (divide_V0 a b sb hz) (Ev.bind (squared_V0 a b (by omega) sb hz) (Ev.bind (monic_V a sa) (Ev.bind (rmonic_V a sa) (Ev.bind (words_V rfl hm) (Ev.pos rfl (Ev.bind g1 (Ev.bind g3 (Ev.bind (words_V rfl hsg) (Ev.pos rfl (Ev.bind (words_V rfl sa) (Ev.pos rfl (Ev.bind (words_V rfl sb) ?_))))))))))))
    refine Ev.succ ?_
    simp only [gossamerlaw02_PolyDivides.j0]
    refine Ev.neg (by decide) (Ev.bind (rtrim_V b (by omega)) ?_)
    rw [V_length, trim_length, hz]
    exact Ev.pos rfl (Ev.bind' (is_own 1 (by decide)) (Ev.pos rfl (Ev.bind' (is_own 1 (by decide)) (Ev.pos rfl (Ev.pos rfl (Ev.pos rfl (Ev.some'.to rfl)))))))
  · obtain ⟨q, r, d1, d2, d3, d4, d5, d6⟩ := divide_V a b sa sb hz
    obtain ⟨s, s1, s2, s3, c, p, s4, s5, s6⟩ := squared_V a b (by omega) sb hz
    obtain ⟨q', r', e1, e2, e3, e4, e5, e6⟩ := rdivide_V a b sa sb hz
    obtain ⟨m, m1, m2, m3, m4⟩ := rmul_V a a (by omega) (by omega)
    obtain ⟨p', s', f1, f2, f3, f4, f5, f6⟩ := rdivide_V m b (by unfold Small; omega) sb hz
    obtain ⟨rfl, rfl⟩ := d4.eq e4 d2 e2 d3 e3
    obtain ⟨rfl, rfl⟩ := (s5.congr (a' := m) (b' := b) (by rw [m3, s4]) rfl).eq f4 s6 f2 s2 f3
    have sq1 : Small q := by unfold Small; omega
    have sr1 : Small r := by unfold Small; omega
    refine Ev.bind d1 (Ev.bind s1 (Ev.bind (monic_V a sa) (Ev.bind (rmonic_V a sa) (Ev.bind (words_V rfl hm) (Ev.pos rfl (Ev.bind g1 (Ev.bind g3 (Ev.bind (words_V rfl hsg) (Ev.pos rfl (Ev.bind (words_V rfl sa) (Ev.pos rfl (Ev.bind (words_V rfl sb) ?_))))))))))))
    refine Ev.succ ?_
    simp only [gossamerlaw02_PolyDivides.j0]
    refine Ev.neg (by decide) (Ev.bind (rtrim_V b (by omega)) ?_)
    rw [V_length, trim_length]
    refine Ev.neg (by omega) (Ev.bind e1 (Ev.bind m1 (Ev.bind f1 (Ev.pos rfl (Ev.pos rfl (Ev.bind (words_V rfl sq1) (Ev.pos rfl (Ev.bind (words_V rfl sr1) (Ev.pos rfl (Ev.bind (words_V rfl s3) Ev.some'))))))))))
theorem PolyDivides : gossamerlaw02_PolyDivides.Pure := by
  intro l0 l1 _ _ h0 _ _ h1
  obtain ⟨a, rfl⟩ := V_of l0 h0
  obtain ⟨b, rfl⟩ := V_of l1 h1
  obtain ⟨K, hK⟩ := divides_V a b
  exact ⟨K, hK K (Nat.le_refl _)⟩
end Go.Proofs.Ytcamaleanlblfaa.Pure
