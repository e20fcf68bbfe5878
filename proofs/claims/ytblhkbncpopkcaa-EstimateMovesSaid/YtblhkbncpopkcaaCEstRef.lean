/- What the printed functions of the document's estimates come to. -/
import Derived.Test.YtblhkbncpopkcaaQx1
import Derived.Test.YtblhkbncpopkcaaCEst
set_option linter.unusedVariables false
set_option linter.unusedSimpArgs false
namespace Go.Proofs.Ytblhkbncpopkcaa.Q
open Go.RowKit Go.Proofs.YtblhkbncpopkcaaW.PrintWords Go.Proofs.YtblhkbncpopkcaaW.PrintLast Go.Proofs.YtblhkbncpopkcaaW.PrintMore
theorem in_v (a : Int) : gossamerref24_in.f a = some (decide (inR a)) := by
  unfold gossamerref24_in.f inR
  by_cases h : a ≥ 0
  · rw [if_pos h]; congr 1; apply decide_eq_decide.mpr; omega
  · rw [if_neg h]; congr 1; symm; apply decide_eq_false; omega
theorem apart_v {a b : Int} (ha : inR a) (hb : inR b) : gossamerref24_apart.f a b = some (mx a b - mn a b, mn a b) := by
  unfold inR at ha hb
  unfold gossamerref24_apart.f mx mn
  by_cases h : a < b
  · rw [if_pos h, w_small (by omega) (by omega), if_pos h, if_neg (by omega)]
  · rw [if_neg h, w_small (by omega) (by omega), if_neg h]
    by_cases h2 : b < a
    · rw [if_pos h2]
    · rw [if_neg h2]; obtain rfl : a = b := by omega
      rfl
theorem restimate_in {a b q : Int} (ha : inR a) (hb : inR b) (hq : inR q) : gossamerref24_Estimate.f a b q = some (est a b q, true) := by
  have h := mnmx a b ha hb
  have h1 := h.1; have h2 := h.2.1; have h3 := h.2.2
  unfold gossamerref24_Estimate.f
  simp only [in_v, Option.bind_some, decide_eq_true ha, decide_eq_true hb, decide_eq_true hq, if_true, apart_v ha hb]
  obtain ⟨m, hm⟩ : ∃ m, m = mn a b := ⟨_, rfl⟩
  obtain ⟨x, hx⟩ : ∃ x, x = mx a b := ⟨_, rfl⟩
  rw [← hm] at h1 h3; rw [← hx] at h2 h3
  have hq' := hq
  unfold inR at hq'
  have q1 : inR (q / 32768) := by unfold inR; omega
  have q0 : inR (q % 32768) := by unfold inR; omega
  have p1 := prod_bd h1 q1
  have p0 := prod_bd h1 q0
  have hp : q * m = 32768 * (m * (q / 32768)) + m * (q % 32768) := by
    have e : q = 32768 * (q / 32768) + q % 32768 := by omega
    calc q * m = m * q := Int.mul_comm _ _
      _ = m * (32768 * (q / 32768) + q % 32768) := by rw [← e]
      _ = 32768 * (m * (q / 32768)) + m * (q % 32768) := by rw [Int.mul_add, ← Int.mul_assoc, Int.mul_comm m 32768, Int.mul_assoc]
  unfold est
  rw [← hm, ← hx, hp, tdiv_pos (by omega), tmod_pos (by omega)]
  unfold inR at h1 h2
  obtain ⟨u, hu⟩ : ∃ u, u = m * (q / 32768) := ⟨_, rfl⟩
  obtain ⟨s, hs⟩ : ∃ s, s = m * (q % 32768) := ⟨_, rfl⟩
  rw [w_small (n := q / 32768) (by omega) (by omega), ← hu, ← hs]
  rw [← hu] at p1; rw [← hs] at p0
  rw [w_small (n := s) (by omega) (by omega), tdiv_pos (by omega), w_small (n := u) (by omega) (by omega), w_small (n := s / 32768) (by omega) (by omega), w_small (n := x - m + u) (by omega) (by omega), w_small (n := x - m + u + s / 32768) (by omega) (by omega),
    w_small (n := x - m + u + s / 32768 + 1) (by omega) (by omega)]
  have : (32768 * u + s) / 32768 = u + s / 32768 := by omega
  rw [this, ← Int.add_assoc]
theorem restimate_out {a b q : Int} (h : ¬ (inR a ∧ inR b ∧ inR q)) : gossamerref24_Estimate.f a b q = some (0, false) := by
  unfold gossamerref24_Estimate.f
  simp only [in_v, Option.bind_some]
  by_cases ha : inR a
  · by_cases hb : inR b
    · have hq : ¬ inR q := fun hq => h ⟨ha, hb, hq⟩
      simp [ha, hb, hq]
    · simp [ha, hb]
  · simp [ha]
theorem told_in (n : Int) : gossamerlaw24_told.f n none n true = some true := by
  simp [gossamerlaw24_told.f]
theorem told_out (m : Int) : gossamerlaw24_told.f 0 (some 1) m false = some true := by
  simp [gossamerlaw24_told.f, gossamernum_Is.f, gossamernum_Num.f]
end Go.Proofs.Ytblhkbncpopkcaa.Q
