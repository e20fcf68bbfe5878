/- The sums of squares of squares; at a root their value is a trace.
   Conditions: none. -/
import Derived.Test.YtljkbkhaamlbmaaTx10
import Derived.Test.YtljkbkhaamlbmaaTx6
import Derived.Test.YtljkbkhaamlbmaaTx7
import Derived.Test.YtljkbkhaamlbmaaTx9
import Derived.Test.YtljkbkhaamlbmaaRtEt
import Derived.Test.YtljkbkhaamlbmaaRtF
import Derived.Test.YtljkbkhaamlbmaaMCp
set_option linter.unusedVariables false
set_option linter.unusedSimpArgs false
namespace Go.Proofs.Ytljkbkhaamlbmaa.Pure
open Go.RowKit Go.Proofs.Ytljkbkhaamlbmaa.T Go.Proofs.YtljkbkhaamlbmaaW.PrintWords Go.Proofs.YtljkbkhaamlbmaaW.PrintLast Go.Proofs.YtljkbkhaamlbmaaW.PrintMore Go.Proofs.Ytljkbkhaamlbmaa.Bits Go.Proofs.Ytljkbkhaamlbmaa GF PolyT
theorem traces_loop_law (l q t : List F) (c : F) (hl : l.length ≤ 8) (hq : RootsOf l q) (ht : TrcR q c t) (hts : t.length ≤ 100) : ∀ (n i : Nat), i + n = l.length →
    Ev (fun k => gossamerlaw04_RootsTraces.l0 k (V l) (v c) (V t) (V l) (l.length : Int) (i : Int)) true := by
  intro n
  induction n with
  | zero =>
    intro i hi
    refine Ev.succ ?_
    simp only [gossamerlaw04_RootsTraces.l0]
    refine Ev.neg (by omega) ?_
    have hc := check_V [] (by unfold Small; simp)
    have e0 : len ([] : List F) = 0 := rfl
    rw [if_pos e0] at hc
    have hT : Ev (fun k => roots_Traces.f k ([] : List Int) (v c)) (([] : List Int), some 1) := Ev.bind hc (Ev.neg (by simp) Ev.some')
    exact Ev.bind hT (Ev.bind' is_1 Ev.some')
  | succ n ih =>
    intro i hi
    have hx : ev q (co l i) = 0#32 := ((hq.at (co l i)).1).2 ((many_mem l _).2 (by rw [co_lt (by omega)]; exact List.getElem_mem _))
    have hval := ht.ev hx
    have hnext : Ev (fun k => gossamerlaw04_RootsTraces.l0 k (V l) (v c) (V t) (V l) (l.length : Int) (wrap64 ((i : Int) + 1))) true := by
      rw [wrap_nat1 (by omega)]; exact ih (i + 1) (by omega)
    refine Ev.succ ?_
    simp only [gossamerlaw04_RootsTraces.l0]
    refine Ev.pos (by omega) (Ev.pos (by omega) (Ev.pos (by rw [V_length]; omega) ?_))
    have hsf : gossamerlaw04_sorted.f (V l) = some (RtS.sortI (V l)) := by
      unfold gossamerlaw04_sorted.f
      rw [if_pos (by rw [V_length]; omega)]
    refine Ev.bind' hsf ?_
    rw [rd_Vn]
    by_cases hd : ((RtS.sortI (V l)).length : Int) = ((V l).length : Int)
    · refine Ev.pos hd (Ev.bind' (at_V t (co l i) (by unfold Small; omega)) (Ev.bind (mul_vE _ _) (Ev.bind (Ev.from' 66 (trace_v _)) (Ev.pos (by rw [hval]) hnext))))
    · exact Ev.neg hd hnext
theorem RootsTraces : gossamerlaw04_RootsTraces.Pure := by
  intro l0 a1 _ _ hwf hw1
  suffices h : Ev (fun k => gossamerlaw04_RootsTraces.f k l0 a1) true by
    obtain ⟨K, hK⟩ := h
    exact ⟨K, hK K (Nat.le_refl K)⟩
  obtain ⟨l, rfl⟩ := V_of l0 hwf
  obtain ⟨c, rfl⟩ := v_of (wf_u32 hw1).1 (wf_u32 hw1).2
  unfold gossamerlaw04_RootsTraces.f
  refine Ev.bind alive_E (Ev.pos rfl ?_)
  by_cases h8 : ((V l).length : Int) > 8
  · exact Ev.pos h8 Ev.some'
  refine Ev.neg h8 ?_
  rw [V_length] at h8
  obtain ⟨q, q1, q2⟩ := from_V l (by omega)
  obtain ⟨f1, f2, f3⟩ := q2.facts
  have hlq : len q = l.length + 1 := by have : len q = q.length := f1; omega
  obtain ⟨t, t1, t2, t3⟩ := traces_V q c (by omega) (by omega)
  obtain ⟨t', s1, s2, s3⟩ := rtraces_V q c (by omega) (by omega)
  obtain rfl := t2.uniq s2
  have hc := check_V q (by unfold Small; omega)
  rw [if_neg (by omega), if_neg (by omega)] at hc
  have hT : Ev (fun k => roots_Traces.f k (V q) (v c)) (V t, none) := Ev.bind hc (Ev.pos rfl (Ev.bind t1 Ev.some'))
  refine Ev.bind q1 (Ev.bind hT (Ev.pos rfl (Ev.bind s1 (Ev.bind (words_V rfl (by unfold Small; omega)) ?_))))
  refine Ev.succ ?_
  simp only [gossamerlaw04_RootsTraces.j0]
  refine Ev.neg (by decide) ?_
  rw [V_len]
  exact traces_loop_law l q t c (by omega) q2 t2 (by omega) l.length 0 (by omega)
end Go.Proofs.Ytljkbkhaamlbmaa.Pure
