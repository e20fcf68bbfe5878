/- Values of sums and products are sums and products of values, and what is divided is put together again.
   Conditions: none. -/
import Derived.Test.YtcamaleanlblfaaQx2
import Derived.Test.YtcamaleanlblfaaQx3
import Derived.Test.YtcamaleanlblfaaCDivA
import Derived.Test.YtcamaleanlblfaaCAdd
import Derived.Test.YtcamaleanlblfaaCWords
import Derived.Test.YtcamaleanlblfaaCLaw2L
set_option linter.unusedVariables false
namespace Go.Proofs.Ytcamaleanlblfaa.Pure
open Go.RowKit Go.Proofs.Ytcamaleanlblfaa.Q Go.Proofs.YtcamaleanlblfaaW.PrintWords Go.Proofs.YtcamaleanlblfaaW.PrintLast Go.Proofs.YtcamaleanlblfaaW.PrintMore Go.Proofs.Ytcamaleanlblfaa.Bits Go.Proofs.Ytcamaleanlblfaa GF PolyT
theorem degree_vE (l : List F) (hs : Small l) : Ev (fun k => poly_Degree.f k (V l)) ((len l : Int) - 1) := degree_V l hs
theorem values_V (a b : List F) (x : F) : Ev (fun k => gossamerlaw02_PolyValues.f k (V a) (V b) (v x)) true := by
  unfold gossamerlaw02_PolyValues.f
  refine Ev.bind alive_E (Ev.pos rfl (Ev.bind (long_E _ (by simp)) ?_))
  by_cases hl : ([V a, V b].any fun x => decide (24 < x.length)) = true
  · exact Ev.pos hl Ev.some'
  refine Ev.neg hl ?_
  have hl' : a.length ≤ 24 ∧ b.length ≤ 24 := by
    simp only [List.any_cons, List.any_nil, V_length, Bool.or_false, Bool.or_eq_true, decide_eq_true_eq] at hl
    omega
  clear hl
  obtain ⟨la, lb⟩ := hl'
  have sa : Small a := by unfold Small; omega
  have sb : Small b := by unfold Small; omega
  obtain ⟨s, s1, s2, s3, s4⟩ := add_V a b sa sb
  obtain ⟨m, m1, m2, m3, m4⟩ := mul_V a b sa sb
  refine Ev.bind s1 (Ev.bind' (at_V s x (by unfold Small; omega)) (Ev.bind' (at_V a x sa) (Ev.bind' (at_V b x sb) ?_)))
  refine Ev.pos (by rw [xor_v, ev_add x a b s s3]) ?_
  refine Ev.bind m1 (Ev.bind' (at_V m x (by unfold Small; omega)) (Ev.bind' (at_V a x sa) (Ev.bind' (at_V b x sb) (Ev.bind (mul_vE _ _) ?_))))
  rw [ev_mul x b a m m3]
  have hne : ∀ y : Int, (y != y) = false := fun y => by simp
  rw [hne]
  refine Ev.succ ?_
  simp only [gossamerlaw02_PolyValues.j0]
  refine Ev.neg (by decide) ?_
  by_cases hz : len b = 0
  · refine Ev.bind (divide_V0 a b sb hz) (Ev.neg (by decide) (Ev.bind (degree_vE b sb) (Ev.some'.to ?_)))
    rw [hz]; rfl
  · obtain ⟨q, r, d1, d2, d3, d4, d5, d6⟩ := divide_V a b sa sb hz
    obtain ⟨p, p1, p2, p3, p4⟩ := mul_V q b (by unfold Small; omega) sb
    obtain ⟨u, u1, u2, u3, u4⟩ := add_V p r (by unfold Small; omega) (by unfold Small; omega)
    have hu : u = trim a := tr_ext u2 (tr_trim a) (fun i => by rw [u3, p3, d4.1, co_trim])
    refine Ev.bind d1 (Ev.pos rfl (Ev.bind p1 (Ev.bind u1 (Ev.bind (trim_V a sa) (Ev.bind (words_V hu (by unfold Small; omega)) (Ev.pos rfl (Ev.bind (degree_vE r (by unfold Small; omega)) (Ev.bind (degree_vE b sb) (Ev.some'.to ?_)))))))))
    have := d4.2
    exact decide_eq_true (by omega)
theorem PolyValues : gossamerlaw02_PolyValues.Pure := by
  intro l0 l1 a2 _ _ h0 _ _ h1 h2
  obtain ⟨a, rfl⟩ := V_of l0 h0
  obtain ⟨b, rfl⟩ := V_of l1 h1
  obtain ⟨x, rfl⟩ := v_of (wf_u32 h2).1 (wf_u32 h2).2
  obtain ⟨K, hK⟩ := values_V a b x
  exact ⟨K, hK K (Nat.le_refl _)⟩
end Go.Proofs.Ytcamaleanlblfaa.Pure
