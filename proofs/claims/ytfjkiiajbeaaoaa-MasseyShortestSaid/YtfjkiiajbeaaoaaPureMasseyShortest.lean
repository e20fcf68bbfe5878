/- The shortest recurrence found is one that the sequence keeps, of the least length, as the document says by elimination.
   Conditions: none. -/
import Derived.Test.YtfjkiiajbeaaoaaRx2
import Derived.Test.YtfjkiiajbeaaoaaRx3
import Derived.Test.YtfjkiiajbeaaoaaCM3s
import Derived.Test.YtfjkiiajbeaaoaaWalkMLen
set_option linter.unusedVariables false
namespace Go.Proofs.Ytfjkiiajbeaaoaa.Pure
open Go.RowKit Go.Proofs.Ytfjkiiajbeaaoaa.R Go.Proofs.YtfjkiiajbeaaoaaW.PrintWords Go.Proofs.YtfjkiiajbeaaoaaW.PrintLast Go.Proofs.YtfjkiiajbeaaoaaW.PrintMore Go.Proofs.Ytfjkiiajbeaaoaa.Bits Go.Proofs.Ytfjkiiajbeaaoaa GF PolyT MV Massey
theorem rlength_V (s : List F) (h : s.length ≤ 1000) : gossamerref03_Length.f (V s) = some ((Massey.run (co s) s.length).len : Int) := by
  unfold gossamerref03_Length.f
  rw [if_pos ⟨V_in s, by rw [V_length]; exact h⟩, ofInts_V, V_length]
theorem spoil_loop (s : List F) (hs : s.length ≤ 24) : ∀ (n i : Nat) (x : List Int), i + n = x.length → x.length < 4096 → Ev (fun k => gossamerlaw03_MasseyShortest.l0 k (V s) (V s) x (x.length : Int) (i : Int)) true := by
  intro n
  induction n with
  | zero =>
    intro i x hi hx
    refine Ev.succ ?_
    simp only [gossamerlaw03_MasseyShortest.l0]
    exact Ev.neg (by omega) (Ev.bind (words_V rfl (by unfold Small; omega)) Ev.some')
  | succ n ih =>
    intro i x hi hx
    refine Ev.succ ?_
    have hw : wrap64 ((i : Int) + 1) = ((i + 1 : Nat) : Int) := wrap_nat1 (by omega)
    have h2 := ih (i + 1) (x.set i 77) (by rw [List.length_set]; omega) (by rw [List.length_set]; exact hx)
    rw [List.length_set] at h2
    simp only [gossamerlaw03_MasseyShortest.l0]
    rw [hw, Int.toNat_natCast]
    exact Ev.pos (by omega) (Ev.pos (by omega) (Ev.pos (by omega) h2))
theorem MasseyShortest : gossamerlaw03_MasseyShortest.Pure := by
  intro l0 _ _ h0
  obtain ⟨s, rfl⟩ := V_of l0 h0
  have : Ev (fun k => gossamerlaw03_MasseyShortest.f k (V s)) true := by
    unfold gossamerlaw03_MasseyShortest.f
    refine Ev.bind alive_E (Ev.pos rfl ?_)
    by_cases hs : s.length ≤ 24
    · have hbd := (MW.run_bounds (co s) s.length).2.2.2.2
      have hl := short_length (co s) s.length
      refine Ev.neg (by rw [V_length]; omega) (Ev.bind' rfl (Ev.pos (by rw [V_length]; simp; omega) (Ev.bind' rfl ?_)))
      rw [List.nil_append]
      refine Ev.bind' (shortest_V s (by omega)) (Ev.bind' (rlength_V s (by omega)) (Ev.bind' (length_V s (by omega)) ?_))
      have hw : wrap64 (((run (co s) s.length).len : Int) + 1) = (((run (co s) s.length).len + 1 : Nat) : Int) := wrap_nat1 (by omega)
      rw [hw, V_length, hl]
      refine Ev.pos rfl (Ev.pos rfl ?_)
      obtain ⟨b, e1, k1⟩ := rkeeps_V (MW.short (co s) s.length) s (by unfold Small; omega) (by unfold Small; omega)
      obtain ⟨d, e2, k2⟩ := keeps_V (MW.short (co s) s.length) s (by unfold Small; omega) (by unfold Small; omega)
      have hb : b = true := e1.2 (short_keep s)
      have hd : d = true := e2.2 (short_keep s)
      subst hb; subst hd
      refine Ev.bind k1 (Ev.pos rfl (Ev.bind k2 (Ev.pos rfl (Ev.bind (words_V rfl (by unfold Small; omega)) ?_))))
      refine Ev.succ ?_
      simp only [gossamerlaw03_MasseyShortest.j0]
      exact Ev.neg (by decide) (spoil_loop s hs _ 0 _ (Nat.zero_add _) (by rw [V_length, hl]; omega))
    · exact Ev.pos (by rw [V_length]; omega) Ev.some'
  obtain ⟨K, hK⟩ := this
  exact ⟨K, hK K (Nat.le_refl _)⟩
end Go.Proofs.Ytfjkiiajbeaaoaa.Pure
