/- What the printed functions of the estimates come to. -/
import Derived.Test.YtblhkbncpopkcaaQx1
import Derived.Test.YtblhkbncpopkcaaQx2
import Derived.Test.YtblhkbncpopkcaaWMore
set_option linter.unusedVariables false
set_option linter.unusedSimpArgs false
namespace Go.Proofs.Ytblhkbncpopkcaa.Q
open Go.RowKit Go.Proofs.YtblhkbncpopkcaaW.PrintWords Go.Proofs.YtblhkbncpopkcaaW.PrintLast Go.Proofs.YtblhkbncpopkcaaW.PrintMore
theorem w_small {n : Int} (h0 : -9223372036854775808 ≤ n) (h1 : n < 9223372036854775808) : wrap64 n = n := by unfold wrap64; omega
theorem w1 : wrap64 2 = 2 := by unfold wrap64; omega
theorem w2 : wrap64 3 = 3 := by unfold wrap64; omega
theorem min3 (a b c : Int) (k : Nat) : slices_Min_int_int.f (k + 4) [a, b, c] = some (mn (mn a b) c) := by
  simp [slices_Min_int_int.f, slices_Min_int_int.l0, rd, w1, w2]
theorem max3 (a b c : Int) (k : Nat) : slices_Max_int_int.f (k + 4) [a, b, c] = some (mx (mx a b) c) := by
  simp [slices_Max_int_int.f, slices_Max_int_int.l0, rd, w1, w2]
theorem min2 (a b : Int) (k : Nat) : slices_Min_int_int.f (k + 4) [a, b] = some (mn a b) := by
  simp [slices_Min_int_int.f, slices_Min_int_int.l0, rd, w1, w2]
theorem max2 (a b : Int) (k : Nat) : slices_Max_int_int.f (k + 4) [a, b] = some (mx a b) := by
  simp [slices_Max_int_int.f, slices_Max_int_int.l0, rd, w1, w2]
/-- from 0 to 65535 -/
def inR (a : Int) : Prop := 0 ≤ a ∧ a ≤ 65535
instance (a : Int) : Decidable (inR a) := by unfold inR; exact inferInstance
theorem check3 (a b c : Int) (k : Nat) : estimate_check.f (k + 4) [a, b, c] = some (if inR a ∧ inR b ∧ inR c then none else some 1) := by
  unfold estimate_check.f
  rw [min3, max3]
  simp only [Option.bind_some]
  unfold mn mx inR
  by_cases h : (0 ≤ a ∧ a ≤ 65535) ∧ (0 ≤ b ∧ b ≤ 65535) ∧ (0 ≤ c ∧ c ≤ 65535)
  · rw [if_pos h, if_neg (by split <;> split <;> omega), if_neg (by split <;> split <;> omega)]
  · rw [if_neg h]
    by_cases h1 : (if c < (if b < a then b else a) then c else (if b < a then b else a)) < 0
    · rw [if_pos h1]
    · rw [if_neg h1, if_pos (by revert h1; split <;> split <;> split <;> split <;> omega)]
theorem check2 (a b : Int) (k : Nat) : estimate_check.f (k + 4) [a, b] = some (if inR a ∧ inR b then none else some 1) := by
  unfold estimate_check.f
  rw [min2, max2]
  simp only [Option.bind_some]
  unfold mn mx inR
  by_cases h : (0 ≤ a ∧ a ≤ 65535) ∧ (0 ≤ b ∧ b ≤ 65535)
  · rw [if_pos h, if_neg (by split <;> omega), if_neg (by split <;> omega)]
  · rw [if_neg h]
    by_cases h1 : (if b < a then b else a) < 0
    · rw [if_pos h1]
    · rw [if_neg h1, if_pos (by revert h1; split <;> split <;> omega)]
theorem mnmx (a b : Int) (ha : inR a) (hb : inR b) : inR (mn a b) ∧ inR (mx a b) ∧ mn a b ≤ mx a b := by
  unfold inR at *; unfold mn mx; refine ⟨?_, ?_, ?_⟩ <;> (repeat' split) <;> omega
theorem prod_bd {a b : Int} (ha : inR a) (hb : inR b) : 0 ≤ a * b ∧ a * b ≤ 4294836225 := by
  refine ⟨Int.mul_nonneg ha.1 hb.1, ?_⟩
  exact Int.mul_le_mul ha.2 hb.2 hb.1 (by decide)
theorem tdiv_pos {a b : Int} (h : 0 ≤ a) : Int.tdiv a b = a / b := Int.tdiv_eq_ediv_of_nonneg h
theorem tmod_pos {a b : Int} (h : 0 ≤ a) : Int.tmod a b = a % b := Int.tmod_eq_emod_of_nonneg h
/-- the estimate -/
def est (a b q : Int) : Int := mx a b - mn a b + q * mn a b / 32768 + 1
theorem est_bd {a b q : Int} (ha : inR a) (hb : inR b) (hq : inR q) : 1 ≤ est a b q ∧ est a b q ≤ 200000 := by
  have h := mnmx a b ha hb
  have p := prod_bd hq h.1
  have := h.1; have := h.2.1
  unfold est; unfold inR at *
  omega
theorem estimate_in {a b q : Int} (ha : inR a) (hb : inR b) (hq : inR q) (k : Nat) : estimate_Estimate.f (k + 4) a b q = some (est a b q, none) := by
  have h := mnmx a b ha hb
  have p := prod_bd hq h.1
  have h1 := h.1; have h2 := h.2.1; have h3 := h.2.2
  unfold estimate_Estimate.f est
  rw [check3, if_pos ⟨ha, hb, hq⟩]
  simp only [Option.bind_some, Option.isNone_none, if_true]
  unfold inR at h1 h2
  rw [w_small (n := q * mn a b) (by omega) (by omega), tdiv_pos (by omega)]
  rw [w_small (n := mx a b - mn a b) (by omega) (by omega)]
  rw [w_small (n := q * mn a b / 32768) (by omega) (by omega)]
  rw [w_small (n := mx a b - mn a b + q * mn a b / 32768) (by omega) (by omega)]
  rw [w_small (n := mx a b - mn a b + q * mn a b / 32768 + 1) (by omega) (by omega)]
theorem estimate_out {a b q : Int} (h : ¬ (inR a ∧ inR b ∧ inR q)) (k : Nat) : estimate_Estimate.f (k + 4) a b q = some (0, some 1) := by
  unfold estimate_Estimate.f
  rw [check3, if_neg h]; rfl
theorem capacity_in {a b q : Int} (ha : inR a) (hb : inR b) (hq : inR q) (k : Nat) : estimate_Capacity.f (k + 4) a b q = some (mn (est a b q) 20, none) := by
  unfold estimate_Capacity.f
  rw [estimate_in ha hb hq]; rfl
theorem capacity_out {a b q : Int} (h : ¬ (inR a ∧ inR b ∧ inR q)) (k : Nat) : estimate_Capacity.f (k + 4) a b q = some (0, some 1) := by
  unfold estimate_Capacity.f
  rw [estimate_out h]; rfl
theorem alive_w (k : Nat) : gossamerlaw24_alive.f (k + 4) = some true := by
  unfold gossamerlaw24_alive.f
  rw [estimate_in (by decide) (by decide) (by decide)]; decide +kernel
/-- the factor that would have been right -/
def right (a b d : Int) : Int := if mn a b = 0 then 0 else if d - (mx a b - mn a b) ≤ 0 then 0 else mn (((d - (mx a b - mn a b)) * 32768 + mn a b - 1) / mn a b) 65535
theorem right_in {a b d : Int} (ha : inR a) (hb : inR b) (hd : inR d) (k : Nat) : estimate_Right.f (k + 4) a b d = some (right a b d, none) := by
  have h := mnmx a b ha hb
  have h1 := h.1; have h2 := h.2.1; have h3 := h.2.2
  unfold estimate_Right.f right
  rw [check3, if_pos ⟨ha, hb, hd⟩]
  simp only [Option.bind_some, Option.isNone_none, if_true]
  unfold inR at h1 h2 hd
  by_cases e : mn a b = 0
  · rw [if_pos e, if_pos e]
  · rw [if_neg e, if_neg e, w_small (n := mx a b - mn a b) (by omega) (by omega), w_small (n := d - (mx a b - mn a b)) (by omega) (by omega)]
    by_cases e2 : d - (mx a b - mn a b) ≤ 0
    · rw [if_pos e2, if_pos e2]
    · rw [if_neg e2, if_neg e2, w_small (n := (d - (mx a b - mn a b)) * 32768) (by omega) (by omega), w_small (n := (d - (mx a b - mn a b)) * 32768 + mn a b) (by omega) (by omega),
        w_small (n := (d - (mx a b - mn a b)) * 32768 + mn a b - 1) (by omega) (by omega), tdiv_pos (by omega)]
      have hq0 : 0 ≤ ((d - (mx a b - mn a b)) * 32768 + mn a b - 1) / mn a b := Int.ediv_nonneg (by omega) (by omega)
      have hq1 : ((d - (mx a b - mn a b)) * 32768 + mn a b - 1) / mn a b ≤ (d - (mx a b - mn a b)) * 32768 + mn a b - 1 := Int.ediv_le_self _ (by omega)
      rw [w_small (n := ((d - (mx a b - mn a b)) * 32768 + mn a b - 1) / mn a b) (by omega) (by omega)]
theorem right_out {a b d : Int} (h : ¬ (inR a ∧ inR b ∧ inR d)) (k : Nat) : estimate_Right.f (k + 4) a b d = some (0, some 1) := by
  unfold estimate_Right.f
  rw [check3, if_neg h]; rfl
/-- a moved factor -/
def moved (q r : Int) : Int := if r < q then q - (q - r) / 4 else q + (r - q) / 4
theorem move_in {q r : Int} (hq : inR q) (hr : inR r) (k : Nat) : estimate_Move.f (k + 4) q r = some (moved q r, none) := by
  unfold estimate_Move.f moved
  rw [check2, if_pos ⟨hq, hr⟩]
  simp only [Option.bind_some, Option.isNone_none, if_true]
  unfold inR at hq hr
  by_cases h : r < q
  · rw [if_pos h, if_pos h, w_small (n := q - r) (by omega) (by omega), tdiv_pos (by omega), w_small (n := (q - r) / 4) (by omega) (by omega), w_small (n := q - (q - r) / 4) (by omega) (by omega)]
  · rw [if_neg h, if_neg h, w_small (n := r - q) (by omega) (by omega), tdiv_pos (by omega), w_small (n := (r - q) / 4) (by omega) (by omega), w_small (n := q + (r - q) / 4) (by omega) (by omega)]
theorem move_out {q r : Int} (h : ¬ (inR q ∧ inR r)) (k : Nat) : estimate_Move.f (k + 4) q r = some (0, some 1) := by
  unfold estimate_Move.f
  rw [check2, if_neg h]; rfl
end Go.Proofs.Ytblhkbncpopkcaa.Q
