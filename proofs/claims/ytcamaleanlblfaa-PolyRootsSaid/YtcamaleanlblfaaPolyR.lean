/- The polynomial of roots: where it and its derivative are 0. Plain mathematics, no program in sight. -/
import Derived.Test.YtcamaleanlblfaaPolyE
set_option linter.unusedVariables false
set_option linter.unusedSimpArgs false
namespace Go.Proofs.Ytcamaleanlblfaa.PolyT
open Go.Proofs.Ytcamaleanlblfaa GF
/-- a derivative's coefficients -/
def dS (l : List F) : S := fun i => if i % 2 = 0 then co l (i + 1) else 0#32
/-- a list of a derivative's coefficients -/
def dl (l : List F) : List F := (List.range l.length).map (dS l)
theorem co_dl (l : List F) : co (dl l) = dS l := by
  funext i
  by_cases h : i < l.length
  · rw [co_lt (by simpa [dl] using h)]; simp [dl]
  · rw [co_ge (by simpa [dl] using Nat.le_of_not_lt h)]; unfold dS
    rw [co_ge (by omega)]; split <;> rfl
theorem pr_lin (a : List F) (r : F) : pr a [r, 1#32] = sadd (smul r (co a)) (X (co a)) := by
  rw [pr_comm]
  show sadd (smul r (co a)) (X (sadd (smul 1#32 (co a)) (X (fun _ => 0#32)))) = _
  rw [X_zero, sadd_zero]
  congr 2
  funext i; exact GF.one_mul _
theorem dS_lin (a c : List F) (r : F) (h : co c = pr a [r, 1#32]) : dS c = sadd (pr (dl a) [r, 1#32]) (co a) := by
  rw [pr_lin] at h; rw [pr_lin, co_dl]
  funext i
  simp only [dS, sadd, smul]
  rw [h]
  by_cases hi : i % 2 = 0
  · rw [if_pos hi, if_pos hi]
    simp only [sadd, smul, X]
    cases i with
    | zero => simp [X]
    | succ i => simp only [X, dS]; rw [if_neg (by omega), BitVec.xor_zero]
  · rw [if_neg hi, if_neg hi, GF.mul_zero]
    cases i with
    | zero => omega
    | succ i => simp only [X, dS]; rw [if_pos (by omega), BitVec.zero_xor, BitVec.xor_self]
theorem ev_lin (r y : F) : ev [r, 1#32] y = y ^^^ r := by
  simp only [ev]
  rw [GF.zero_mul, BitVec.zero_xor, GF.one_mul]
/-- the polynomial of roots -/
inductive RootsOf : List F → List F → Prop
  | nil : RootsOf [] [1#32]
  | snoc {l p c : List F} {r : F} : RootsOf l p → co c = pr p [r, 1#32] → Tr c → RootsOf (l ++ [r]) c
theorem RootsOf.facts {l p : List F} (h : RootsOf l p) : Tr p ∧ p.length = l.length + 1 ∧ co p l.length = 1#32 := by
  induction h with
  | nil => exact ⟨rfl, rfl, rfl⟩
  | @snoc l p c r h hc ht ih =>
    obtain ⟨h1, h2, h3⟩ := ih
    have hlp : len p = l.length + 1 := by rw [← h2]; exact h1
    have hl2 : len [r, 1#32] = 2 := by
      simp [len]
    have hl := len_pr hc (by omega) (by omega)
    have hcl : len c = c.length := ht
    refine ⟨ht, by rw [List.length_append, List.length_singleton]; omega, ?_⟩
    rw [List.length_append, List.length_singleton, hc, pr_lin]
    simp only [sadd, smul, X]
    rw [co_ge (show p.length ≤ l.length + 1 by omega), GF.mul_zero, h3]; rfl
theorem xor_ne {a b : F} (h : a ≠ b) : a ^^^ b ≠ 0#32 := fun e => h (xor_eq_zero e)
/-- how often an element stands in a list -/
def many (l : List F) (y : F) : Nat := (l.filter fun r => r == y).length
theorem many_snoc (l : List F) (r y : F) : many (l ++ [r]) y = many l y + if r = y then 1 else 0 := by
  unfold many
  rw [List.filter_append, List.length_append]
  by_cases h : r = y
  · rw [if_pos h]; simp [h]
  · rw [if_neg h]; simp [h]
theorem RootsOf.at {l p : List F} (h : RootsOf l p) (y : F) : (ev p y = 0#32 ↔ 0 < many l y) ∧ (many l y = 1 → ev (dl p) y ≠ 0#32) ∧ (2 ≤ many l y → ev (dl p) y = 0#32) := by
  induction h with
  | nil =>
    have e1 : ev [1#32] y = 1#32 := by simp only [ev]; rw [GF.zero_mul]; rfl
    have e2 : many ([] : List F) y = 0 := rfl
    rw [e1, e2]
    exact ⟨⟨fun h => absurd h one_ne_zero, fun h => by omega⟩, fun h => by omega, fun h => by omega⟩
  | @snoc l p c r h hc ht ih =>
    obtain ⟨h1, h2, h3⟩ := ih
    have e1 : ev c y = mul (ev p y) (y ^^^ r) := by rw [ev_mul y [r, 1#32] p c hc, ev_lin]
    obtain ⟨q, hq⟩ := ex_pr (dl p) [r, 1#32]
    have e2 : ev (dl c) y = mul (ev (dl p) y) (y ^^^ r) ^^^ ev p y := by
      rw [ev_add y q p (dl c) (by rw [co_dl, dS_lin p c r hc, hq]), ev_mul y [r, 1#32] (dl p) q hq, ev_lin]
    rw [many_snoc, e1, e2]
    by_cases hr : r = y
    · subst hr
      rw [if_pos rfl, BitVec.xor_self, GF.mul_zero, GF.mul_zero, BitVec.zero_xor]
      refine ⟨⟨fun _ => by omega, fun _ => rfl⟩, fun hm hz => ?_, fun hm => h1.2 (by omega)⟩
      have := h1.1 hz
      omega
    · rw [if_neg hr, Nat.add_zero]
      have hne : y ^^^ r ≠ 0#32 := xor_ne (fun e => hr e.symm)
      refine ⟨⟨fun hz => ?_, fun hm => by rw [h1.2 hm, GF.zero_mul]⟩, fun hm => ?_, fun hm => by rw [h3 hm, h1.2 (by omega), GF.zero_mul]; rfl⟩
      · rcases GF.mul_eq_zero hz with e | e
        · exact h1.1 e
        · exact absurd e hne
      · rw [h1.2 (by omega), BitVec.xor_zero]
        intro e
        rcases GF.mul_eq_zero e with e | e
        · exact h2 hm e
        · exact hne e
end Go.Proofs.Ytcamaleanlblfaa.PolyT
