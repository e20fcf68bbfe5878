/- What the printed squares of polynomials come to. -/
import Derived.Test.YtcamaleanlblfaaQx5
import Derived.Test.YtcamaleanlblfaaCDiv
set_option linter.unusedVariables false
set_option linter.unusedSimpArgs false
namespace Go.Proofs.Ytcamaleanlblfaa.Q
open Go.RowKit Go.Proofs.YtcamaleanlblfaaW.PrintWords Go.Proofs.YtcamaleanlblfaaW.PrintLast Go.Proofs.YtcamaleanlblfaaW.PrintMore Go.Proofs.Ytcamaleanlblfaa.Bits Go.Proofs.Ytcamaleanlblfaa GF PolyT
theorem sq_sofar (a t : List F) (h : ∀ p, co t (2 * p) = mul (co a p) (co a p) ∧ co t (2 * p + 1) = 0#32) : co t = pr a a := by
  funext j
  rcases Nat.mod_two_eq_zero_or_one j with e | e
  · obtain ⟨p, rfl⟩ : ∃ p, j = 2 * p := ⟨j / 2, by omega⟩
    rw [(h p).1, (pr_sq a p).1]
  · obtain ⟨p, rfl⟩ : ∃ p, j = 2 * p + 1 := ⟨j / 2, by omega⟩
    rw [(h p).2, (pr_sq a p).2]
theorem squared_loop (a b : List F) (ha : a.length < 2048) {R : List Int × Option Int} : ∀ (n i : Nat) (t : List F), i + n = a.length → t.length = 2 * a.length - 1 →
    (∀ p, co t (2 * p) = (if p < i then mul (co a p) (co a p) else 0#32) ∧ co t (2 * p + 1) = 0#32) →
    (∀ t, t.length = 2 * a.length - 1 → co t = pr a a → Ev (fun k => (poly_Divide.f k (V t) (V b)).bind fun bt => some (bt.2.1, bt.2.2)) R) →
    Ev (fun k => poly_Squared.l0 k (V b) (V t) (V a) (a.length : Int) (i : Int)) R := by
  intro n
  induction n with
  | zero =>
    intro i t hi ht hc hR
    refine Ev.succ ?_
    simp only [poly_Squared.l0]
    refine Ev.neg (by omega) (hR t ht (sq_sofar a t fun p => ⟨?_, (hc p).2⟩))
    rw [(hc p).1]
    by_cases h : p < i
    · rw [if_pos h]
    · rw [if_neg h, co_ge (by omega), GF.mul_zero]
  | succ n ih =>
    intro i t hi ht hc hR
    have hw2 : wrap64 ((i : Int) + 1) = ((i + 1 : Nat) : Int) := wrap_nat1 (by omega)
    have hw3 : wrap64 (2 * (i : Int)) = ((2 * i : Nat) : Int) := by rw [wrap64_small] <;> omega
    refine Ev.succ ?_
    simp only [poly_Squared.l0, V_length]
    rw [hw2, hw3, rd_Vn, Int.toNat_natCast]
    refine Ev.pos (by omega) (Ev.pos (by omega) (Ev.pos (by omega) (Ev.bind (square_vE _) (Ev.pos (by omega) (Ev.pos (by omega) ?_)))))
    rw [V_set]
    refine ih (i + 1) _ (by omega) (by rw [List.length_set]; exact ht) (fun p => ?_) hR
    rw [co_set, co_set]
    refine ⟨?_, by rw [if_neg (by omega)]; exact (hc p).2⟩
    by_cases e : p = i
    · subst e
      rw [if_pos ⟨rfl, by omega⟩, if_pos (by omega)]; rfl
    · rw [if_neg (by omega), (hc p).1]
      by_cases h : p < i
      · rw [if_pos h, if_pos (by omega)]
      · rw [if_neg h, if_neg (by omega)]
theorem squared_top (a b : List F) (ha : a.length < 2048) {R : List Int × Option Int}
    (hR : ∀ t, t.length = 2 * a.length - 1 → co t = pr a a → Ev (fun k => (poly_Divide.f k (V t) (V b)).bind fun bt => some (bt.2.1, bt.2.2)) R) :
    Ev (fun k => poly_Squared.f k (V a) (V b)) R := by
  unfold poly_Squared.f
  rw [V_length]
  have hmx : mx 0 (wrap64 (wrap64 (2 * (a.length : Int)) - 1)) = ((2 * a.length - 1 : Nat) : Int) := by
    have h1 : wrap64 (2 * (a.length : Int)) = 2 * (a.length : Int) := wrap64_small (by omega) (by omega)
    rw [h1, wrap64_small (by omega) (by omega)]
    unfold mx; split <;> omega
  rw [hmx, Int.toNat_natCast, V_replicate]
  refine Ev.pos (by omega) (Ev.pos (by omega) (squared_loop a b ha a.length 0 _ (by omega) (by simp) (fun p => ?_) hR))
  rw [co_replicate, co_replicate, if_neg (by omega)]; exact ⟨rfl, rfl⟩
theorem squared_V (a b : List F) (ha : a.length < 2048) (hb : Small b) (h : len b ≠ 0) :
    ∃ s, Ev (fun k => poly_Squared.f k (V a) (V b)) (V s, none) ∧ Tr s ∧ Small s ∧ ∃ c p, co c = pr a a ∧ Quo c b p s ∧ Tr p := by
  obtain ⟨c, hc, hl⟩ := of_fn (pr a a) (2 * a.length - 1) (fun i hi => by
    refine pr_high a a i ?_
    have := len_le a
    omega)
  obtain ⟨p, s, h1, h2, h3, h4, h5, h6⟩ := divide_V c b (by unfold Small; omega) hb h
  refine ⟨s, squared_top a b ha (fun t ht htc => ?_), h3, by unfold Small; omega, c, p, hc, h4, h2⟩
  have e : t = c := list_ext (by omega) (fun i => by rw [htc, hc])
  rw [e]
  exact Ev.bind h1 Ev.some'
theorem squared_V0 (a b : List F) (ha : a.length < 2048) (hb : Small b) (h : len b = 0) : Ev (fun k => poly_Squared.f k (V a) (V b)) (([] : List Int), some 1) :=
  squared_top a b ha (fun t _ _ => Ev.bind (divide_V0 t b hb h) Ev.some')
end Go.Proofs.Ytcamaleanlblfaa.Q
