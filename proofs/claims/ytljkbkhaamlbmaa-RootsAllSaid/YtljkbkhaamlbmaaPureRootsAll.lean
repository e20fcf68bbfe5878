/- The roots of any polynomial, how many there are, whether it splits, and what has just these.
   Conditions: none. -/
import Derived.Test.YtljkbkhaamlbmaaRx12
import Derived.Test.YtljkbkhaamlbmaaMRf
import Derived.Test.YtljkbkhaamlbmaaMRt
set_option linter.unusedVariables false
set_option linter.unusedSimpArgs false
namespace Go.Proofs.Ytljkbkhaamlbmaa.Pure
open Go.RowKit Go.Proofs.Ytljkbkhaamlbmaa.R Go.Proofs.YtljkbkhaamlbmaaW.PrintWords Go.Proofs.YtljkbkhaamlbmaaW.PrintLast Go.Proofs.YtljkbkhaamlbmaaW.PrintMore Go.Proofs.Ytljkbkhaamlbmaa.Bits Go.Proofs.Ytljkbkhaamlbmaa GF PolyT
theorem RootsAll : gossamerlaw04_RootsAll.Pure := by
  intro l0 _ _ hwf
  suffices h : Ev (fun k => gossamerlaw04_RootsAll.f k l0) true by
    obtain ⟨K, hK⟩ := h
    exact ⟨K, hK K (Nat.le_refl K)⟩
  obtain ⟨p, rfl⟩ := V_of l0 hwf
  unfold gossamerlaw04_RootsAll.f
  refine Ev.bind alive_E (Ev.pos rfl ?_)
  by_cases h9 : ((V p).length : Int) > 9
  · exact Ev.pos h9 Ev.some'
  refine Ev.neg h9 ?_
  rw [V_length] at h9
  have hs : Small p := by unfold Small; omega
  have hl := len_le p
  refine Ev.bind' rfl (Ev.pos (by simp [V_length]; omega) (Ev.bind' rfl ?_))
  simp only [List.nil_append]
  by_cases h0 : len p = 0
  · have a1 := all_V0 p hs (Or.inl h0)
    have c1 : Ev (fun k => roots_Count.f k (V p)) (0, some 1) := Ev.bind a1 Ev.some'
    have ck := check_V p hs
    rw [if_pos h0] at ck
    have l1 : Ev (fun k => roots_Linear.f k (V p)) (([] : List Int), some 1) := Ev.bind ck (Ev.neg (by simp) Ev.some')
    have s1 : Ev (fun k => roots_Split.f k (V p)) (([] : List Int), false) := Ev.bind a1 (Ev.neg (by simp) Ev.some')
    refine Ev.bind a1 (Ev.bind c1 (Ev.bind l1 (Ev.bind s1 (Ev.bind (words_V rfl hs) (Ev.pos rfl (Ev.bind (rtrim_V p (by omega)) (Ev.pos (by rw [V_length, trim_length, h0]; rfl) ?_)))))))
    refine Ev.bind' is_1 (Ev.pos rfl (Ev.bind' is_1 (Ev.pos rfl (Ev.bind' is_1 (Ev.pos rfl (Ev.pos rfl (Ev.pos rfl (Ev.pos rfl (Ev.neg (by simp) (Ev.some'.to (by decide)))))))))))
  · obtain ⟨S, a1, a2, a3⟩ := all_V p (by omega) h0 (by omega) (fun o ho => by have := roots_few p h0 o ho; omega)
    have sl := roots_few p h0 S (fun y => by rw [a3]; exact Nat.le_refl _)
    obtain ⟨S', b1, b2, b3⟩ := rall_V p (by omega) h0
    obtain rfl := asc_uniq S S' a2 b2 (fun y => by rw [a3, b3])
    have c1 : Ev (fun k => roots_Count.f k (V p)) (((V S).length : Int), none) := Ev.bind a1 Ev.some'
    have ck := check_V p hs
    rw [if_neg h0, if_neg (by omega)] at ck
    obtain ⟨g, g1, g2⟩ := linear_V p (by omega) h0
    obtain ⟨g', g1', g2'⟩ := rlinear_V p (by omega) h0
    obtain rfl := g2.uniq g2'
    have gl : g.length ≤ len p := by
      obtain ⟨p1, p2, p3⟩ := g2.pi h0
      have : len g = g.length := p1.tr
      omega
    have l1 : Ev (fun k => roots_Linear.f k (V p)) (V g, none) := Ev.bind ck (Ev.pos rfl (Ev.bind g1 Ev.some'))
    have hsS : Small S := by unfold Small; omega
    have ew : wrap64 (((V (trim p)).length : Int) - 1) = (len p : Int) - 1 := by rw [V_length, trim_length, wrap64_small] <;> omega
    have dg : Ev (fun k => poly_Degree.f k (V p)) ((len p : Int) - 1) := degree_V p hs
    by_cases hd : (S.length : Int) = (len p : Int) - 1
    · have s1 : Ev (fun k => roots_Split.f k (V p)) (V S, true) := Ev.bind a1 (Ev.pos rfl (Ev.bind dg (Ev.pos (by rw [V_length]; exact hd) Ev.some')))
      refine Ev.bind a1 (Ev.bind c1 (Ev.bind l1 (Ev.bind s1 (Ev.bind (words_V rfl hs) (Ev.pos rfl (Ev.bind (rtrim_V p (by omega)) (Ev.neg (by rw [V_length, trim_length]; omega) ?_)))))))
      refine Ev.bind b1 (Ev.bind (rtrim_V p (by omega)) (Ev.pos rfl (Ev.pos rfl (Ev.pos rfl (Ev.bind (words_V rfl hsS) (Ev.pos rfl (Ev.pos rfl (Ev.bind g1' (Ev.bind (words_V rfl (by unfold Small; omega)) (Ev.pos rfl ?_))))))))))
      rw [ew]
      exact Ev.pos (by rw [V_length, hd]; simp) (Ev.pos rfl (Ev.bind (words_V rfl hsS) (Ev.pos rfl Ev.some')))
    · have s1 : Ev (fun k => roots_Split.f k (V p)) (([] : List Int), false) := Ev.bind a1 (Ev.pos rfl (Ev.bind dg (Ev.neg (by rw [V_length]; exact hd) Ev.some')))
      refine Ev.bind a1 (Ev.bind c1 (Ev.bind l1 (Ev.bind s1 (Ev.bind (words_V rfl hs) (Ev.pos rfl (Ev.bind (rtrim_V p (by omega)) (Ev.neg (by rw [V_length, trim_length]; omega) ?_)))))))
      refine Ev.bind b1 (Ev.bind (rtrim_V p (by omega)) (Ev.pos rfl (Ev.pos rfl (Ev.pos rfl (Ev.bind (words_V rfl hsS) (Ev.pos rfl (Ev.pos rfl (Ev.bind g1' (Ev.bind (words_V rfl (by unfold Small; omega)) (Ev.pos rfl ?_))))))))))
      rw [ew]
      have e5 : ((S.length : Int) == (len p : Int) - 1) = false := beq_eq_false_iff_ne.mpr hd
      exact Ev.pos (by rw [V_length, e5]; rfl) (Ev.neg (by simp) (Ev.some'.to (by decide)))
end Go.Proofs.Ytljkbkhaamlbmaa.Pure
