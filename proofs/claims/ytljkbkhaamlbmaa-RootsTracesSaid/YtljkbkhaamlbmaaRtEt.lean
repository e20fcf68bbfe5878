/- The document's traces: what its functions come to. -/
import Derived.Test.YtljkbkhaamlbmaaTx9
import Derived.Test.YtljkbkhaamlbmaaRtD
import Derived.Test.YtljkbkhaamlbmaaCRef2d
set_option linter.unusedVariables false
set_option linter.unusedSimpArgs false
namespace Go.Proofs.Ytljkbkhaamlbmaa.T
open Go.RowKit Go.Proofs.YtljkbkhaamlbmaaW.PrintWords Go.Proofs.YtljkbkhaamlbmaaW.PrintLast Go.Proofs.YtljkbkhaamlbmaaW.PrintMore Go.Proofs.Ytljkbkhaamlbmaa.Bits Go.Proofs.Ytljkbkhaamlbmaa GF PolyT
theorem rrest_V (a p : List F) (ha : Small a) (hp : Small p) (h : len p ≠ 0) : ∃ r, Ev (fun k => gossamerref04_rest.f k (V a) (V p)) (V r) ∧ Rem p a r := by
  obtain ⟨q, r, h1, h2, h3, h4, _⟩ := rdivide_V a p ha hp h
  exact ⟨r, Ev.bind h1 Ev.some', h3, q, h4⟩
theorem rstep (a p : List F) (ha : a.length ≤ p.length) (hp : p.length ≤ 2000) (h : len p ≠ 0) : ∃ c r, Ev (fun k => gossamerref02_Mul.f k (V a) (V a)) (V c) ∧ Ev (fun k => gossamerref04_rest.f k (V c) (V p)) (V r) ∧ Step p a r := by
  obtain ⟨c, c1, c2, c3, c4⟩ := rmul_V a a (by omega) (by omega)
  obtain ⟨r, r1, r2⟩ := rrest_V c p (by unfold Small; omega) (by unfold Small; omega) h
  exact ⟨c, r, c1, r1, c, c3, r2⟩
theorem rtraces_loop (p : List F) (hp : p.length ≤ 2000) (h0 : len p ≠ 0) : ∀ (n i : Nat) (o a : List F), i + n = 32 → o.length ≤ p.length → a.length ≤ p.length →
    ∃ t, Ev (fun k => gossamerref04_Traces.l0 k (V p) (V o) (V a) (i : Int)) (V t) ∧ TI p n a o t ∧ t.length ≤ p.length := by
  intro n
  induction n with
  | zero =>
    intro i o a hi ho ha
    obtain rfl : i = 32 := by omega
    refine ⟨o, ?_, rfl, ho⟩
    refine Ev.succ ?_
    simp only [gossamerref04_Traces.l0]
    exact Ev.neg (by decide) Ev.some'
  | succ n ih =>
    intro i o a hi ho ha
    obtain ⟨s, s1, s2, s3, s4⟩ := radd_V o a (by unfold Small; omega) (by unfold Small; omega)
    obtain ⟨c, r, c1, r1, r2⟩ := rstep a p ha hp h0
    obtain ⟨t, t1, t2, t3⟩ := ih (i + 1) s r (by omega) (by omega) (by have := step_short r2; omega)
    refine ⟨t, ?_, ⟨s, r, s2, s3, r2, t2⟩, t3⟩
    refine Ev.succ ?_
    simp only [gossamerref04_Traces.l0]
    refine Ev.pos (by omega) (Ev.bind s1 (Ev.bind c1 (Ev.bind r1 ?_)))
    rw [up1 hi (by omega)]
    exact t1
theorem rtraces_V (p : List F) (c : F) (hp : p.length ≤ 2000) (h0 : len p ≠ 0) : ∃ t, Ev (fun k => gossamerref04_Traces.f k (V p) (v c)) (V t) ∧ TrcR p c t ∧ t.length ≤ p.length := by
  obtain ⟨x, x1, x2⟩ := rrest_V [0#32, c] p (by unfold Small; simp) (by unfold Small; omega) h0
  have hx := x2.len_lt
  have hl := len_le p
  obtain ⟨t, t1, t2, t3⟩ := rtraces_loop p hp h0 32 0 [] x (by omega) (by simp) (by omega)
  exact ⟨t, Ev.bind x1 t1, ⟨x, x2, t2⟩, t3⟩
end Go.Proofs.Ytljkbkhaamlbmaa.T
