/- The document's solution by elimination, as a function of words: plain mathematics, no program in sight. -/
import Derived.Test.YtocmhmfljbohjaaGFRef
set_option linter.unusedVariables false
set_option linter.unusedSimpArgs false
namespace Go.Proofs.Ytocmhmfljbohjaa.RSolve
open Go.Proofs.Ytocmhmfljbohjaa GF
/-- the row of the bit i of y -/
def row0 (i : Nat) : W := wide (sq (e i) ^^^ e i) ||| (1#64 <<< (32 + i))
/-- the first n rows -/
def rows0 (n : Nat) : List W := (List.range 32).map fun i => if i < n then row0 i else 0#64
theorem rows0_length (n : Nat) : (rows0 n).length = 32 := by simp [rows0]
theorem rows0_succ (n : Nat) : rows0 (n + 1) = (rows0 n).set n (row0 n) := by
  apply List.ext_getElem
  · simp [rows0]
  · intro i h1 h2
    rw [List.getElem_set]
    simp only [rows0, List.getElem_map, List.getElem_range]
    by_cases h : n = i
    · subst h; simp
    · rw [if_neg h]
      by_cases h3 : i < n
      · rw [if_pos h3, if_pos (by omega)]
      · rw [if_neg h3, if_neg (by omega)]
/-- the last of the rows from used on that has the bit -/
def kk (rs : List W) (bit used : Nat) : Nat → Option Nat
  | 0 => none
  | n + 1 => if (rs.getD (used + n) 0#64).getLsbD bit then some (used + n) else kk rs bit used n
theorem kk_bd (rs : List W) (bit used : Nat) : ∀ n k, kk rs bit used n = some k → used ≤ k ∧ k < used + n := by
  intro n
  induction n with
  | zero => intro k h; cases h
  | succ n ih =>
    intro k h
    simp only [kk] at h
    by_cases hb : (rs.getD (used + n) 0#64).getLsbD bit = true
    · rw [if_pos hb] at h; injection h with h; omega
    · rw [if_neg hb] at h; have := ih k h; omega
def swp (rs : List W) (u k : Nat) : List W := (rs.set u (rs.getD k 0#64)).set k (rs.getD u 0#64)
theorem swp_length (rs : List W) (u k : Nat) : (swp rs u k).length = rs.length := by simp [swp]
def elimN (rs : List W) (u bit : Nat) : Nat → List W
  | 0 => rs
  | n + 1 => if n ≠ u ∧ ((elimN rs u bit n).getD n 0#64).getLsbD bit = true then (elimN rs u bit n).set n ((elimN rs u bit n).getD n 0#64 ^^^ (elimN rs u bit n).getD u 0#64) else elimN rs u bit n
theorem elimN_length (rs : List W) (u bit : Nat) : ∀ n, (elimN rs u bit n).length = rs.length := by
  intro n
  induction n with
  | zero => rfl
  | succ n ih =>
    simp only [elimN]
    split
    · rw [List.length_set, ih]
    · exact ih
def elim (s : List W × Nat) (bit k : Nat) : List W := elimN (swp s.1 s.2 k) s.2 bit 32
def stp (s : List W × Nat) (bit : Nat) : List W × Nat := match kk s.1 bit s.2 (32 - s.2) with
  | none => s
  | some k => (elim s bit k, s.2 + 1)
def piv (s : List W × Nat) (bit : Nat) : Option W := match kk s.1 bit s.2 (32 - s.2) with
  | none => none
  | some k => some ((elim s bit k).getD s.2 0#64)
def sts : Nat → List W × Nat
  | 0 => (rows0 32, 0)
  | b + 1 => stp (sts b) b
theorem sts_ok : ∀ b, (sts b).1.length = 32 ∧ (sts b).2 ≤ b := by
  intro b
  induction b with
  | zero => exact ⟨rows0_length 32, Nat.le_refl _⟩
  | succ b ih =>
    simp only [sts, stp]
    split
    · exact ⟨ih.1, by omega⟩
    · exact ⟨by rw [elim, elimN_length, swp_length]; exact ih.1, by show (sts b).2 + 1 ≤ b + 1; omega⟩
def gstep (p : Option W) (bit : Nat) (g : W) : W := match p with
  | none => g
  | some p => if g.getLsbD bit then g ^^^ p else g
theorem gstep_xor (p : Option W) (bit : Nat) (g h : W) : gstep p bit (g ^^^ h) = gstep p bit g ^^^ gstep p bit h := by
  cases p with
  | none => rfl
  | some p =>
    simp only [gstep, BitVec.getLsbD_xor]
    cases g.getLsbD bit <;> cases h.getLsbD bit
    · rfl
    · show (g ^^^ h) ^^^ p = g ^^^ (h ^^^ p); ac_rfl
    · show (g ^^^ h) ^^^ p = (g ^^^ p) ^^^ h; ac_rfl
    · show g ^^^ h = (g ^^^ p) ^^^ (h ^^^ p)
      rw [wxor4, BitVec.xor_self, BitVec.xor_zero]
def got (c : F) : Nat → W
  | 0 => wide c
  | b + 1 => gstep (piv (sts b) b) b (got c b)
theorem got_xor (c d : F) : ∀ b, got (c ^^^ d) b = got c b ^^^ got d b := by
  intro b
  induction b with
  | zero => exact wide_xor c d
  | succ b ih => simp only [got]; rw [ih, gstep_xor]
end Go.Proofs.Ytocmhmfljbohjaa.RSolve
