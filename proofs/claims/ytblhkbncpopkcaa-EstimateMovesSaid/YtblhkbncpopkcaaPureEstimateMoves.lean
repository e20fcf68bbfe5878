/- Which factor would have been right, how one is moved, and how many bytes sketches have, is the document's.
   Conditions: none. -/
import Derived.Test.YtblhkbncpopkcaaQx3
import Derived.Test.YtblhkbncpopkcaaQx4
import Derived.Test.YtblhkbncpopkcaaCEst
import Derived.Test.YtblhkbncpopkcaaCEstRef
set_option linter.unusedVariables false
set_option linter.unusedSimpArgs false
namespace Go.Proofs.Ytblhkbncpopkcaa.Pure
open Go.RowKit Go.Proofs.Ytblhkbncpopkcaa.Q Go.Proofs.YtblhkbncpopkcaaW.PrintWords Go.Proofs.YtblhkbncpopkcaaW.PrintLast Go.Proofs.YtblhkbncpopkcaaW.PrintMore
theorem rright_in {a b d : Int} (ha : inR a) (hb : inR b) (hd : inR d) (k : Nat) : gossamerref24_Right.f (k + 4) a b d = some (right a b d, true) := by
  have h := mnmx a b ha hb
  have h1 := h.1; have h2 := h.2.1; have h3 := h.2.2
  unfold gossamerref24_Right.f right
  simp only [in_v, Option.bind_some, decide_eq_true ha, decide_eq_true hb, decide_eq_true hd, if_true, Bool.not_true]
  simp only [gossamerref24_Right.j0]
  rw [if_neg (by decide), apart_v ha hb]
  simp only [Option.bind_some]
  obtain ⟨m, hm⟩ : ∃ m, m = mn a b := ⟨_, rfl⟩
  obtain ⟨x, hx⟩ : ∃ x, x = mx a b := ⟨_, rfl⟩
  rw [← hm] at h1 h3; rw [← hx] at h2 h3
  rw [← hm, ← hx]
  unfold inR at h1 h2 hd
  have key1 : gossamerref24_Right.j1 (k + 3) d (x - m) m true = some (0, true) := by simp [gossamerref24_Right.j1]
  by_cases e : m = 0
  · rw [if_pos e, if_pos e]; exact key1
  · rw [if_neg e, if_neg e]
    by_cases e2 : d ≤ x - m
    · rw [decide_eq_true e2, if_pos (by omega)]; exact key1
    · rw [decide_eq_false e2, if_neg (by omega)]
      simp only [gossamerref24_Right.j1]
      rw [if_neg (by decide), if_neg e, w_small (n := d - (x - m)) (by omega) (by omega), w_small (n := (d - (x - m)) * 32768) (by omega) (by omega), tdiv_pos (by omega)]
      obtain ⟨c, hc⟩ : ∃ c, c = (d - (x - m)) * 32768 := ⟨_, rfl⟩
      rw [← hc]
      obtain ⟨n, hn⟩ : ∃ n, n = c / m := ⟨_, rfl⟩
      have n0 : 0 ≤ c / m := Int.ediv_nonneg (by omega) (by omega)
      have n1 : c / m ≤ c := Int.ediv_le_self _ (by omega)
      have hdiv : m * (c / m) + c % m = c := Int.mul_ediv_add_emod c m
      have hr0 : 0 ≤ c % m := Int.emod_nonneg _ e
      have hr1 : c % m < m := Int.emod_lt_of_pos _ (by omega)
      rw [← hn] at n0 n1 hdiv
      rw [← hn, w_small (n := n) (by omega) (by omega)]
      have hnm : n * m = m * n := Int.mul_comm _ _
      have nm0 : 0 ≤ n * m := Int.mul_nonneg n0 (by omega)
      rw [w_small (n := n * m) (by omega) (by omega), w_small (n := n + 1) (by omega) (by omega)]
      -- the rounded-up quotient
      have up : (c + m - 1) / m = if n * m < c then n + 1 else n := by
        by_cases hz : n * m < c
        · rw [if_pos hz]
          have : c + m - 1 = (c % m - 1) + m * (n + 1) := by rw [Int.mul_add, Int.mul_one]; omega
          rw [this, Int.add_mul_ediv_left _ _ e, Int.ediv_eq_zero_of_lt (by omega) (by omega), Int.zero_add]
        · rw [if_neg hz]
          have : c + m - 1 = (m - 1) + m * n := by omega
          rw [this, Int.add_mul_ediv_left _ _ e, Int.ediv_eq_zero_of_lt (by omega) (by omega), Int.zero_add]
      rw [up]
      unfold mn
      by_cases hz : n * m < c
      · rw [if_pos hz, if_pos hz]
        by_cases hb2 : n + 1 > 65535
        · rw [if_pos hb2, if_pos (by omega)]
        · rw [if_neg hb2, if_neg (by omega)]
      · rw [if_neg hz, if_neg hz]
        by_cases hb2 : n > 65535
        · rw [if_pos hb2, if_pos (by omega)]
        · rw [if_neg hb2, if_neg (by omega)]
theorem rright_out {a b d : Int} (h : ¬ (inR a ∧ inR b ∧ inR d)) (k : Nat) : gossamerref24_Right.f (k + 4) a b d = some (0, false) := by
  unfold gossamerref24_Right.f
  simp only [in_v, Option.bind_some]
  by_cases ha : inR a
  · by_cases hb : inR b
    · have hq : ¬ inR d := fun hq => h ⟨ha, hb, hq⟩
      simp [ha, hb, hq, gossamerref24_Right.j0]
    · simp [ha, hb, gossamerref24_Right.j0]
  · simp [ha, gossamerref24_Right.j0]
theorem rmove_in {q r : Int} (hq : inR q) (hr : inR r) (k : Nat) : gossamerref24_Move.f (k + 4) q r = some (moved q r, true) := by
  have h := mnmx q r hq hr
  unfold gossamerref24_Move.f moved
  simp only [in_v, Option.bind_some, decide_eq_true hq, decide_eq_true hr, if_true, Bool.not_true]
  simp only [gossamerref24_Move.j0]
  rw [if_neg (by decide), apart_v hq hr]
  simp only [Option.bind_some]
  unfold mn mx
  unfold inR at hq hr
  by_cases e : r < q
  · have e' : ¬ q < r := by omega
    simp only [if_pos e, if_neg e']
    rw [if_neg (by omega), tdiv_pos (by omega), w_small (n := (q - r) / 4) (by omega) (by omega), w_small (by omega) (by omega)]
  · by_cases e3 : q < r
    · simp only [if_neg e, if_pos e3]
      rw [if_pos trivial, tdiv_pos (by omega), w_small (n := (r - q) / 4) (by omega) (by omega), w_small (by omega) (by omega)]
    · obtain rfl : q = r := by omega
      simp only [if_neg e]
      rw [if_pos trivial, tdiv_pos (by omega), w_small (n := (q - q) / 4) (by omega) (by omega), w_small (by omega) (by omega)]
theorem rmove_out {q r : Int} (h : ¬ (inR q ∧ inR r)) (k : Nat) : gossamerref24_Move.f (k + 4) q r = some (0, false) := by
  unfold gossamerref24_Move.f
  simp only [in_v, Option.bind_some]
  by_cases ha : inR q
  · have hb : ¬ inR r := fun hq => h ⟨ha, hq⟩
    simp [ha, hb, gossamerref24_Move.j0]
  · simp [ha, gossamerref24_Move.j0]
/-- how many bytes a sketch has -/
def byts (c : Int) : Int := if c < 1 then 0 else if c > 40 then 0 else 4 * c
theorem byts_bd (c : Int) : 0 ≤ byts c ∧ byts c ≤ 160 := by unfold byts; split; omega; split <;> omega
theorem bytes_v (c : Int) : estimate_Bytes.f c = some (byts c) := by
  unfold estimate_Bytes.f byts
  by_cases h : c < 1
  · rw [if_pos h, if_pos h]
  · rw [if_neg h, if_neg h]
    by_cases h2 : c > 40
    · rw [if_pos h2, if_pos h2]
    · rw [if_neg h2, if_neg h2, w_small (by omega) (by omega)]
theorem rbytes_v (c : Int) : gossamerref24_Bytes.f c = some (byts c) := by
  unfold gossamerref24_Bytes.f byts
  by_cases h : c < 1
  · rw [if_pos h, if_pos h]
  · rw [if_neg h, if_neg h]
    by_cases h2 : c > 40
    · rw [if_pos h2, if_pos h2]
    · rw [if_neg h2, if_neg h2, w_small (by omega) (by omega)]
/-- the sum of the bytes from a place on -/
def total (l : List Int) : Int := (l.map byts).sum
theorem drop_at (l : List Int) (i : Nat) (h : i < l.length) : l.drop i = rd l (i : Int) :: l.drop (i + 1) := by
  rw [List.drop_eq_getElem_cons h]
  congr 1
  unfold rd; simp [h]
theorem total_bd (l : List Int) : 0 ≤ total l ∧ total l ≤ 160 * l.length := by
  unfold total
  induction l with
  | nil => simp
  | cons a l ih => have := byts_bd a; simp only [List.map_cons, List.sum_cons, List.length_cons]; omega
theorem spent_loop (l : List Int) (hl : l.length ≤ 100) : ∀ (n i : Nat) (o : Int), i + n = l.length → 0 ≤ o → o ≤ 160 * i → ∀ k, n < k → estimate_Spent.l0 k o l (l.length : Int) (i : Int) = some (o + total (l.drop i)) := by
  intro n
  induction n with
  | zero =>
    intro i o hi h0 h1 k hk
    obtain ⟨k, rfl⟩ : ∃ m, k = m + 1 := ⟨k - 1, by omega⟩
    simp only [estimate_Spent.l0]; rw [if_neg (by omega), List.drop_of_length_le (by omega)]; simp [total]
  | succ n ih =>
    intro i o hi h0 h1 k hk
    obtain ⟨k, rfl⟩ : ∃ m, k = m + 1 := ⟨k - 1, by omega⟩
    have hb := byts_bd (rd l (i : Int))
    have hw : wrap64 ((i : Int) + 1) = ((i + 1 : Nat) : Int) := by rw [w_small] <;> omega
    simp only [estimate_Spent.l0]
    rw [if_pos (by omega), if_pos (by omega), if_pos (by omega), bytes_v, Option.bind_some, hw, w_small (by omega) (by omega), ih (i + 1) _ (by omega) (by omega) (by omega) k (by omega), drop_at l i (by omega)]
    simp only [total, List.map_cons, List.sum_cons]; congr 1; omega
theorem moves_loop (l : List Int) (hl : l.length ≤ 100) : ∀ (n i : Nat) (o : Int), i + n = l.length → 0 ≤ o → o ≤ 160 * i → o + total (l.drop i) = total l → ∀ k, n + 110 < k → gossamerlaw24_EstimateMoves.l0 k l o l (l.length : Int) (i : Int) = some true := by
  intro n
  induction n with
  | zero =>
    intro i o hi h0 h1 ho k hk
    obtain ⟨k, rfl⟩ : ∃ m, k = m + 1 := ⟨k - 1, by omega⟩
    simp only [gossamerlaw24_EstimateMoves.l0]
    unfold estimate_Spent.f
    rw [List.drop_of_length_le (by omega)] at ho
    have e := spent_loop l hl l.length 0 0 (by omega) (by omega) (by omega) k (by omega)
    simp only [Int.ofNat_zero, List.drop_zero, Int.zero_add, Int.natCast_zero] at e
    rw [if_neg (by omega), e, Option.bind_some]
    congr 1; rw [beq_iff_eq]; simpa [total] using ho.symm
  | succ n ih =>
    intro i o hi h0 h1 ho k hk
    obtain ⟨k, rfl⟩ : ∃ m, k = m + 1 := ⟨k - 1, by omega⟩
    have hb := byts_bd (rd l (i : Int))
    have hw : wrap64 ((i : Int) + 1) = ((i + 1 : Nat) : Int) := by rw [w_small] <;> omega
    rw [drop_at l i (by omega)] at ho
    simp only [total, List.map_cons, List.sum_cons] at ho
    simp only [gossamerlaw24_EstimateMoves.l0]
    rw [if_pos (by omega), if_pos (by omega), if_pos (by omega), bytes_v, rbytes_v]
    simp only [Option.bind_some, if_true]
    rw [hw, w_small (by omega) (by omega)]
    exact ih (i + 1) _ (by omega) (by omega) (by omega) (by simp only [total]; omega) k (by omega)
theorem EstimateMoves : gossamerlaw24_EstimateMoves.Pure := by
  intro a b d l _ _ _ _ _ _
  refine ⟨300, ?_⟩
  unfold gossamerlaw24_EstimateMoves.f
  rw [alive_w 296]
  simp only [Option.bind_some, if_true]
  have e1 : ∃ n e r, estimate_Right.f 300 a b d = some (n, e) ∧ gossamerref24_Right.f 300 a b d = some r ∧ gossamerlaw24_told.f n e r.1 r.2 = some true := by
    by_cases h : inR a ∧ inR b ∧ inR d
    · exact ⟨_, _, _, right_in h.1 h.2.1 h.2.2 296, rright_in h.1 h.2.1 h.2.2 296, told_in _⟩
    · exact ⟨_, _, _, right_out h 296, rright_out h 296, told_out _⟩
  have e2 : ∃ n e r, estimate_Move.f 300 a b = some (n, e) ∧ gossamerref24_Move.f 300 a b = some r ∧ gossamerlaw24_told.f n e r.1 r.2 = some true := by
    by_cases h : inR a ∧ inR b
    · exact ⟨_, _, _, move_in h.1 h.2 296, rmove_in h.1 h.2 296, told_in _⟩
    · exact ⟨_, _, _, move_out h 296, rmove_out h 296, told_out _⟩
  obtain ⟨n, e, r, h1, h2, h3⟩ := e1
  obtain ⟨n', e', r', g1, g2, g3⟩ := e2
  rw [h1, h2, g1, g2]
  simp only [Option.bind_some, h3, g3, if_true, Bool.not_true]
  by_cases hl : (l.length : Int) > 100
  · rw [if_pos hl]; simp only [gossamerlaw24_EstimateMoves.j0]; rw [if_pos trivial, decide_eq_true hl]
  · rw [if_neg hl]; simp only [gossamerlaw24_EstimateMoves.j0]; rw [if_neg (by decide)]
    exact moves_loop l (by omega) l.length 0 0 (by omega) (by omega) (by omega) (by simp) 299 (by omega)

end Go.Proofs.Ytblhkbncpopkcaa.Pure
