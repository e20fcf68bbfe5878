/- A capacity is from 1 to 20, a greater factor gives no lesser one, and by the factor that would have been right the estimate is above d, if d isn't more than both sizes.
   Conditions: none. -/
import Derived.Test.YtblhkbncpopkcaaQx3
import Derived.Test.YtblhkbncpopkcaaCEst
set_option linter.unusedVariables false
namespace Go.Proofs.Ytblhkbncpopkcaa.Pure
open Go.RowKit Go.Proofs.Ytblhkbncpopkcaa.Q Go.Proofs.YtblhkbncpopkcaaW.PrintWords Go.Proofs.YtblhkbncpopkcaaW.PrintLast Go.Proofs.YtblhkbncpopkcaaW.PrintMore
theorem right_good {a b d : Int} (ha : inR a) (hb : inR b) (h0 : 0 ≤ d) (hda : d ≤ a) (hdb : d ≤ b) : inR (right a b d) ∧ d < est a b (right a b d) := by
  have h := mnmx a b ha hb
  have h1 := h.1; have h2 := h.2.1; have h3 := h.2.2
  have hdm : d ≤ mn a b := by unfold mn; split <;> omega
  obtain ⟨m, hm⟩ : ∃ m, m = mn a b := ⟨_, rfl⟩
  obtain ⟨x, hx⟩ : ∃ x, x = mx a b := ⟨_, rfl⟩
  unfold right est
  rw [← hm, ← hx]; rw [← hm] at h1 h3 hdm; rw [← hx] at h2 h3
  unfold inR at *
  by_cases e : m = 0
  · rw [if_pos e, e]; omega
  · rw [if_neg e]
    by_cases e2 : d - (x - m) ≤ 0
    · rw [if_pos e2]; omega
    · rw [if_neg e2]
      obtain ⟨c, hc⟩ : ∃ c, c = (d - (x - m)) * 32768 + m - 1 := ⟨_, rfl⟩
      rw [← hc]
      have hc0 : 0 ≤ c / m := Int.ediv_nonneg (by omega) (by omega)
      have hlt : c < (c / m + 1) * m := Int.lt_ediv_add_one_mul_self c (by omega)
      have hge : (d - (x - m)) * 32768 ≤ c / m * m := by rw [Int.add_mul, Int.one_mul] at hlt; omega
      unfold mn
      by_cases e3 : 65535 < c / m
      · rw [if_pos e3]
        refine ⟨by omega, ?_⟩
        have : (65535 : Int) * m / 32768 ≥ d - (x - m) := by omega
        omega
      · rw [if_neg e3]
        refine ⟨by omega, ?_⟩
        have : c / m * m / 32768 ≥ d - (x - m) := by omega
        omega
theorem est_mono {a b q : Int} (ha : inR a) (hb : inR b) : est a b q ≤ est a b (q + 1) := by
  have h1 := (mnmx a b ha hb).1
  unfold est inR at *
  rw [Int.add_mul, Int.one_mul]
  omega
theorem good_end {a b d : Int} (ha : inR a) (hb : inR b) (k : Nat) : gossamerlaw24_EstimateGood.j1 (k + 10) a b d = some true := by
  simp only [gossamerlaw24_EstimateGood.j1]
  have key : ∀ t : Bool, (t = false → 0 ≤ d ∧ d ≤ a ∧ d ≤ b) → gossamerlaw24_EstimateGood.j2 (k + 9) a b d t = some true := by
    intro t ht
    simp only [gossamerlaw24_EstimateGood.j2]
    cases t
    · obtain ⟨h0, hda, hdb⟩ := ht rfl
      have g := right_good ha hb h0 hda hdb
      have hd : inR d := by unfold inR at *; omega
      rw [if_neg (by decide), right_in ha hb hd (k + 4)]
      simp only [Option.bind_some, Option.isNone_none, if_true]
      rw [estimate_in ha hb g.1 (k + 4)]
      simp only [Option.bind_some, Option.isNone_none, if_true]
      congr 1; exact decide_eq_true g.2
    · rw [if_pos rfl]
  by_cases e : d < 0
  · rw [if_pos e]; exact key true (by simp)
  · rw [if_neg e]
    by_cases e2 : d > a
    · rw [if_pos e2]; exact key true (by simp)
    · rw [if_neg e2]; refine key _ (fun h => ?_)
      have := of_decide_eq_false h
      omega
theorem EstimateGood : gossamerlaw24_EstimateGood.Pure := by
  intro a b q d _ _ _ _
  refine ⟨30, ?_⟩
  unfold gossamerlaw24_EstimateGood.f
  rw [alive_w 26]
  simp only [Option.bind_some, if_true]
  by_cases h : inR a ∧ inR b ∧ inR q
  · rw [capacity_in h.1 h.2.1 h.2.2 26]
    simp only [Option.bind_some, Option.isNone_none, if_true]
    have hb := est_bd h.1 h.2.1 h.2.2
    have hc : 1 ≤ mn (est a b q) 20 ∧ mn (est a b q) 20 ≤ 20 := by unfold mn; split <;> omega
    rw [if_neg (by omega), decide_eq_false (by omega)]
    simp only [gossamerlaw24_EstimateGood.j0]
    rw [if_neg (by decide)]
    by_cases e : q < 65535
    · have hq : inR (q + 1) := by have := h.2.2; unfold inR at *; omega
      have hq' := h.2.2
      unfold inR at hq'
      rw [if_pos e, w_small (by omega) (by omega), capacity_in h.1 h.2.1 hq 25]
      simp only [Option.bind_some, Option.isNone_none, if_true]
      have hm := est_mono (q := q) h.1 h.2.1
      rw [if_neg (by unfold mn; split <;> split <;> omega)]
      exact good_end h.1 h.2.1 19
    · rw [if_neg e]; exact good_end h.1 h.2.1 19
  · rw [capacity_out h 26]; rfl

end Go.Proofs.Ytblhkbncpopkcaa.Pure
