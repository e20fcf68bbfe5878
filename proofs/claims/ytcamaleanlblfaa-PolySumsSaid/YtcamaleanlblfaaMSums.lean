/- What the printed derivatives and the document's values and derivatives of polynomials come to. -/
import Derived.Test.YtcamaleanlblfaaQx2
import Derived.Test.YtcamaleanlblfaaCPoly
import Derived.Test.YtcamaleanlblfaaPolyR
import Derived.Test.YtcamaleanlblfaaQx4
import Derived.Test.YtcamaleanlblfaaCGfRefP
import Derived.Test.YtcamaleanlblfaaCRefM
set_option linter.unusedVariables false
set_option linter.unusedSimpArgs false
namespace Go.Proofs.Ytcamaleanlblfaa.Q
open Go.RowKit Go.Proofs.YtcamaleanlblfaaW.PrintWords Go.Proofs.YtcamaleanlblfaaW.PrintLast Go.Proofs.YtcamaleanlblfaaW.PrintMore Go.Proofs.Ytcamaleanlblfaa.Bits Go.Proofs.Ytcamaleanlblfaa GF PolyT
theorem derived_loop (l : List F) (hs : Small l) : ∀ (n i : Nat) (t : List F), l.length ≤ i + n + n + 1 → i % 2 = 0 → i ≤ l.length → t.length = l.length - 1 → (∀ j, co t j = if j < i then dS l j else 0#32) →
    ∃ d, Ev (fun k => poly_Derived.l0 k (V l) (V t) (i : Int)) (V d) ∧ Tr d ∧ co d = dS l ∧ d.length ≤ l.length := by
  intro n
  unfold Small at hs
  have fin : ∀ (i : Nat) (t : List F), l.length ≤ i + 1 → t.length = l.length - 1 → (∀ j, co t j = if j < i then dS l j else 0#32) →
      ∃ d, Ev (fun k => poly_Derived.l0 k (V l) (V t) (i : Int)) (V d) ∧ Tr d ∧ co d = dS l ∧ d.length ≤ l.length := by
    intro i t hi ht hc
    refine ⟨trim t, ?_, tr_trim t, ?_, by rw [trim_length]; have := len_le t; omega⟩
    · refine Ev.succ ?_
      simp only [poly_Derived.l0, V_length]
      exact Ev.neg (by omega) (Ev.bind (cut_V t (by unfold Small; omega)) Ev.some')
    · funext j
      rw [co_trim, hc]
      by_cases h : j < i
      · rw [if_pos h]
      · rw [if_neg h]; unfold dS; rw [co_ge (by omega)]; split <;> rfl
  induction n with
  | zero => intro i t hi h2 hil ht hc; exact fin i t (by omega) ht hc
  | succ n ih =>
    intro i t hi h2 hil ht hc
    by_cases h : l.length ≤ i + 1
    · exact fin i t h ht hc
    obtain ⟨d, h1, h3⟩ := ih (i + 2) (t.set i (co l (i + 1))) (by omega) (by omega) (by omega) (by simpa using ht) (fun j => by
      rw [co_set, hc]
      by_cases e : j = i
      · subst e; rw [if_pos ⟨rfl, by omega⟩, if_pos (by omega)]; unfold dS; rw [if_pos h2]
      · rw [if_neg (fun c => e c.1)]
        by_cases e2 : j = i + 1
        · subst e2; rw [if_neg (by omega), if_pos (by omega)]; unfold dS; rw [if_neg (by omega)]
        · by_cases e3 : j < i
          · rw [if_pos e3, if_pos (by omega)]
          · rw [if_neg e3, if_neg (by omega)])
    refine ⟨d, ?_, h3⟩
    refine Ev.succ ?_
    have hw2 : wrap64 ((i : Int) + 2) = ((i + 2 : Nat) : Int) := by rw [wrap64_small] <;> omega
    simp only [poly_Derived.l0, V_length]
    rw [hw2, wrap_nat1 (by omega), rd_Vn, Int.toNat_natCast, V_set]
    exact Ev.pos (by omega) (Ev.pos (by omega) (Ev.pos (by omega) (Ev.pos (by omega) h1)))
theorem derived_V (l : List F) (hs : Small l) : ∃ d, Ev (fun k => poly_Derived.f k (V l)) (V d) ∧ Tr d ∧ co d = dS l ∧ d.length ≤ l.length := by
  obtain ⟨d, h1, h2⟩ := derived_loop l hs l.length 0 (List.replicate (l.length - 1) 0#32) (by omega) rfl (by omega) (by simp) (fun j => by rw [co_replicate, if_neg (by omega)])
  refine ⟨d, ?_, h2⟩
  unfold Small at hs
  have hm : mx 0 (wrap64 (((V l).length : Int) - 1)) = ((l.length - 1 : Nat) : Int) := by
    rw [V_length, wrap64_small (by omega) (by omega)]; unfold mx
    split <;> omega
  unfold poly_Derived.f
  rw [hm, Int.toNat_natCast, V_replicate]
  exact Ev.pos (by omega) (Ev.pos (by omega) h1)
end Go.Proofs.Ytcamaleanlblfaa.Q
/- What the printed derivatives and the document's values and derivatives of polynomials come to. -/
set_option linter.unusedVariables false
set_option linter.unusedSimpArgs false
namespace Go.Proofs.Ytcamaleanlblfaa.Q
open Go.RowKit Go.Proofs.YtcamaleanlblfaaW.PrintWords Go.Proofs.YtcamaleanlblfaaW.PrintLast Go.Proofs.YtcamaleanlblfaaW.PrintMore Go.Proofs.Ytcamaleanlblfaa.Bits Go.Proofs.Ytcamaleanlblfaa GF PolyT
/-- the sum of the first coefficients times powers -/
def psum (l : List F) (x : F) : Nat → F
  | 0 => 0#32
  | i + 1 => psum l x i ^^^ mul (co l i) (pow x i)
theorem psum_cons (c : F) (l : List F) (x : F) : ∀ n, psum (c :: l) x (n + 1) = mul (psum l x n) x ^^^ c := by
  intro n
  induction n with
  | zero =>
    show 0#32 ^^^ mul c 1#32 = mul 0#32 x ^^^ c
    rw [GF.mul_one, GF.zero_mul]
  | succ n ih =>
    have e : psum (c :: l) x (n + 1 + 1) = psum (c :: l) x (n + 1) ^^^ mul (co l n) (pow x (n + 1)) := rfl
    have e2 : psum l x (n + 1) = psum l x n ^^^ mul (co l n) (pow x n) := rfl
    rw [e, ih, e2, xor_mul, GF.mul_assoc]
    show mul (psum l x n) x ^^^ c ^^^ mul (co l n) (mul (pow x n) x) = _
    rw [BitVec.xor_assoc, BitVec.xor_comm c, ← BitVec.xor_assoc]
theorem psum_ev (x : F) : ∀ l : List F, psum l x l.length = ev l x := by
  intro l
  induction l with
  | nil => rfl
  | cons c l ih => rw [List.length_cons, psum_cons, ih]; rfl
theorem rat_loop (l : List F) (x : F) (hs : Small l) : ∀ (n i : Nat), i + n = l.length → Ev (fun k => gossamerref02_At.l0 k (V l) (v x) (v (psum l x i)) (i : Int)) (v (ev l x)) := by
  intro n
  unfold Small at hs
  induction n with
  | zero =>
    intro i hi
    refine Ev.succ ?_
    simp only [gossamerref02_At.l0, V_length]
    refine Ev.neg (by omega) (Ev.some'.to ?_)
    rw [show i = l.length by omega, psum_ev]
  | succ n ih =>
    intro i hi
    refine Ev.succ ?_
    simp only [gossamerref02_At.l0, V_length]
    rw [wrapu_nat (by omega), rd_Vn, wrap_nat1 (by omega)]
    refine Ev.pos (by omega) (Ev.pos (by omega) (Ev.bind (Ev.from' 131 (rpower_v x i (by omega))) (Ev.bind (rmul_vE _ _) ?_)))
    rw [xor_v]
    exact ih (i + 1) (by omega)
theorem rat_V (l : List F) (x : F) (hs : Small l) : Ev (fun k => gossamerref02_At.f k (V l) (v x)) (v (ev l x)) := by
  unfold gossamerref02_At.f
  exact rat_loop l x hs l.length 0 (by omega)
theorem rderived_loop (l : List F) (hs : Small l) : ∀ (n i : Nat) (o : List F), l.length ≤ i + 1 + n → o.length = i → (∀ j, co o j = if j < i then dS l j else 0#32) → (i = 0 ∨ i + 1 ≤ l.length) →
    ∃ d, Ev (fun k => gossamerref02_Derived.l0 k (V l) (V o) ((i + 1 : Nat) : Int)) (V d) ∧ Tr d ∧ co d = dS l ∧ d.length ≤ l.length := by
  intro n
  unfold Small at hs
  have fin : ∀ (i : Nat) (o : List F), l.length ≤ i + 1 → o.length = i → (∀ j, co o j = if j < i then dS l j else 0#32) → (i = 0 ∨ i + 1 ≤ l.length) →
      ∃ d, Ev (fun k => gossamerref02_Derived.l0 k (V l) (V o) ((i + 1 : Nat) : Int)) (V d) ∧ Tr d ∧ co d = dS l ∧ d.length ≤ l.length := by
    intro i o hi ho hc hi2
    refine ⟨trim o, ?_, tr_trim o, ?_, by rw [trim_length]; have := len_le o; omega⟩
    · refine Ev.succ ?_
      simp only [gossamerref02_Derived.l0, V_length]
      exact Ev.neg (by omega) (Ev.bind (rtrim_V o (by omega)) Ev.some')
    · funext j
      rw [co_trim, hc]
      by_cases h : j < i
      · rw [if_pos h]
      · rw [if_neg h]; unfold dS; rw [co_ge (by omega)]; split <;> rfl
  induction n with
  | zero => intro i o hi ho hc hi2; exact fin i o (by omega) ho hc hi2
  | succ n ih =>
    intro i o hi ho hc hi2
    by_cases h : l.length ≤ i + 1
    · exact fin i o h ho hc hi2
    obtain ⟨d, h1, h3⟩ := ih (i + 1) (o ++ [dS l i]) (by omega) (by simp; omega) (fun j => by
      rw [co_snoc, hc]
      by_cases e : j = o.length
      · rw [if_pos e, if_pos (by omega)]; rw [e, ho]
      · rw [if_neg e]
        by_cases e3 : j < i
        · rw [if_pos e3, if_pos (by omega)]
        · rw [if_neg e3, if_neg (by omega)]) (by omega)
    refine ⟨d, ?_, h3⟩
    refine Ev.succ ?_
    simp only [gossamerref02_Derived.l0, V_length]
    rw [wrap_nat1 (by omega), rd_Vn, tmod2]
    refine Ev.pos (by omega) ?_
    by_cases hp : i % 2 = 0
    · refine Ev.pos (by omega) (Ev.pos (by omega) (Ev.pos (by omega) ?_))
      have e : V o ++ [v (co l (i + 1))] = V (o ++ [dS l i]) := by unfold dS; rw [if_pos hp]; simp [V]
      rw [e]; exact h1
    · refine Ev.neg (by omega) (Ev.pos (by omega) ?_)
      have e : V o ++ [0] = V (o ++ [dS l i]) := by unfold dS; rw [if_neg hp]; simp [V]; decide
      rw [e]; exact h1
theorem rderived_V (l : List F) (hs : Small l) : ∃ d, Ev (fun k => gossamerref02_Derived.f k (V l)) (V d) ∧ Tr d ∧ co d = dS l ∧ d.length ≤ l.length := by
  unfold gossamerref02_Derived.f
  exact rderived_loop l hs l.length 0 [] (by omega) rfl (fun j => by rw [co_nil, if_neg (by omega)]) (.inl rfl)
end Go.Proofs.Ytcamaleanlblfaa.Q
