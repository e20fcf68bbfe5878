/- Values of polynomials: sums and products. -/
import Derived.Test.YtcamaleanlblfaaPolyG
set_option linter.unusedVariables false
set_option linter.unusedSimpArgs false
namespace Go.Proofs.Ytcamaleanlblfaa.PolyT
open Go.Proofs.Ytcamaleanlblfaa GF
theorem ev_add (x : F) : ∀ (a b c : List F), co c = sadd (co a) (co b) → ev c x = ev a x ^^^ ev b x := by
  intro a
  induction a with
  | nil =>
    intro b c h
    have : ev c x = ev b x := ev_congr (fun i => by rw [h]; simp only [sadd]; rw [co_nil, BitVec.zero_xor]) x
    rw [this]; simp [ev]
  | cons y a ih =>
    intro b c h
    cases b with
    | nil =>
      have : ev c x = ev (y :: a) x := ev_congr (fun i => by rw [h]; simp only [sadd]; rw [co_nil, BitVec.xor_zero]) x
      rw [this]; simp [ev]
    | cons z b =>
      cases c with
      | nil =>
        have : ev (y :: a) x = ev (z :: b) x := ev_congr (fun i => by
          have := congrFun h i
          rw [co_nil] at this
          exact xor_eq_zero this.symm) x
        rw [this, BitVec.xor_self]; rfl
      | cons u c =>
        have h0 : u = y ^^^ z := congrFun h 0
        have h1 : co c = sadd (co a) (co b) := funext fun i => congrFun h (i + 1)
        simp only [ev]
        rw [ih b c h1, h0, GF.xor_mul, xor4]
theorem ev_sc (c x : F) (l : List F) : ev (sc c l) x = mul c (ev l x) := by
  induction l with
  | nil => exact (GF.mul_zero c).symm
  | cons a l ih =>
    show mul (ev (sc c l) x) x ^^^ mul c a = mul c (mul (ev l x) x ^^^ a)
    rw [ih, GF.mul_xor, GF.mul_assoc]
theorem ev_mul (x : F) (b : List F) : ∀ (a c : List F), co c = pr a b → ev c x = mul (ev a x) (ev b x) := by
  intro a
  induction a with
  | nil =>
    intro c h
    have : len c = 0 := len_eq (fun i _ => by rw [h, pr_zero_l b rfl]) (fun m hm => by omega)
    rw [ev_zero this]; exact (GF.zero_mul _).symm
  | cons y a ih =>
    intro c h
    obtain ⟨d, hd⟩ := ex_pr a b
    have h2 : co (0#32 :: d) = X (pr a b) := by
      rw [← hd]; funext i; cases i <;> rfl
    have h1 : co c = sadd (co (sc y b)) (co (0#32 :: d)) := by rw [h, co_sc, h2]; rfl
    rw [ev_add x _ _ _ h1, ev_sc]
    simp only [ev]
    rw [ih d hd, BitVec.xor_zero, GF.xor_mul, BitVec.xor_comm]
    congr 1
    rw [GF.mul_assoc, GF.mul_assoc, GF.mul_comm (ev b x) x]
end Go.Proofs.Ytcamaleanlblfaa.PolyT
