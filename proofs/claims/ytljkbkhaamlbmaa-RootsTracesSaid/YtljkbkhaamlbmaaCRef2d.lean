/- What the printed functions of the plain polynomials come to. -/
import Derived.Test.YtljkbkhaamlbmaaTx8
import Derived.Test.YtljkbkhaamlbmaaTx9
import Derived.Test.YtljkbkhaamlbmaaCGfRefI
import Derived.Test.YtljkbkhaamlbmaaCRefM
set_option linter.unusedVariables false
set_option linter.unusedSimpArgs false
namespace Go.Proofs.Ytljkbkhaamlbmaa.T
open Go.RowKit Go.Proofs.YtljkbkhaamlbmaaW.PrintWords Go.Proofs.YtljkbkhaamlbmaaW.PrintLast Go.Proofs.YtljkbkhaamlbmaaW.PrintMore Go.Proofs.Ytljkbkhaamlbmaa.Bits Go.Proofs.Ytljkbkhaamlbmaa GF PolyT
theorem rinverse_vE (a : F) : Ev (fun k => gossamerref01_Inverse.f k (v a)) (v (inv a)) := Ev.from' 140 (rinverse_v a)
theorem rdloop (a b : List F) (m : Nat) (hb : len b = m + 1) (ht : Tr b) (hsb : Small b) : ∀ (n : Nat) (r q : List F), r.length < n → Tr r → Small r → Small q → sadd (pr q b) (co r) = co a →
    ∃ q' r', Ev (fun k => gossamerref02_Divide.l0 k (V b) (V r) (V q)) (V q', V r') ∧ Tr q' ∧ Tr r' ∧ Quo a b q' r' ∧ q'.length ≤ max q.length r.length ∧ r'.length ≤ r.length := by
  intro n
  induction n with
  | zero => intro r q h; omega
  | succ n ih =>
    intro r q hn hr hsr hsq hc
    have hbl : b.length = m + 1 := by rw [← hb]; exact (rtr_length ht).symm
    have hrl := rtr_length hr
    by_cases h : r.length < b.length
    · refine ⟨trim q, r, ?_, tr_trim q, hr, ⟨?_, by omega⟩, by rw [trim_length]; have := len_le q; omega, Nat.le_refl _⟩
      · refine Ev.succ ?_
        simp only [gossamerref02_Divide.l0, V_length]
        unfold Small at *
        exact Ev.neg (by omega) (Ev.bind (rtrim_V q (by omega)) Ev.some')
      · rw [act_congr (co_trim q)]; exact hc
    · obtain ⟨d, hd⟩ : ∃ d, r.length = d + m + 1 := ⟨r.length - m - 1, by omega⟩
      obtain ⟨t, htd⟩ : ∃ t, t = mul (co r (d + m)) (inv (co b m)) := ⟨_, rfl⟩
      have htb : mul t (co b m) = co r (d + m) := by
        rw [htd, GF.mul_assoc, GF.mul_comm (inv _), GF.mul_inv (co_top b m hb), GF.mul_one]
      obtain ⟨p, p1, p2, p3, p4⟩ := rscale_V [1#32] t d (by unfold Small; simp) (by unfold Small at *; omega)
      have hp : co p = smul t (shn d one) := by
        rw [p3]; congr 1; congr 1; funext i; cases i <;> rfl
      obtain ⟨s, s1, s2, s3, s4⟩ := radd_V q p hsq (by unfold Small at *; simp at p4; omega)
      obtain ⟨w, w1, w2, w3, w4⟩ := rscale_V b t d hsb (by unfold Small at *; omega)
      obtain ⟨u, u1, u2, u3, u4⟩ := radd_V r w hsr (by unfold Small at *; omega)
      have hul : len u ≤ d + m := by
        rcases Nat.lt_or_ge (d + m) (len u) with h1 | h1
        · exfalso
          obtain ⟨x, hx⟩ : ∃ x, len u = x + 1 := ⟨len u - 1, by omega⟩
          apply co_top u x hx
          rw [u3, w3]; simp only [sadd, smul, shn]
          rw [if_pos (by omega)]
          by_cases e : x = d + m
          · subst e
            have : d + m - d = m := by omega
            rw [this, htb, BitVec.xor_self]
          · rw [co_len r x (by omega), co_len b (x - d) (by omega), GF.mul_zero]; rfl
        · exact h1
      have hul2 := rtr_length u2
      obtain ⟨q', r', x1, x2, x3, x4, x5, x6⟩ := ih u s (by omega) u2 (by unfold Small at *; omega) (by unfold Small at *; simp at p4; omega) (by
        rw [pr_add_l b s3, pr_shn t d b p hp, u3, w3, sadd_comm4, sadd_self, sadd_zero, hc])
      refine ⟨q', r', ?_, x2, x3, x4, by simp at p4; omega, by omega⟩
      refine Ev.succ ?_
      unfold Small at *
      have hw1 : wrap64 (((d + m + 1 : Nat) : Int) - 1) = ((d + m : Nat) : Int) := by rw [wrap64_small (by omega) (by omega)]; omega
      have hw2 : wrap64 (((m + 1 : Nat) : Int) - 1) = (m : Int) := by rw [wrap64_small (by omega) (by omega)]; omega
      have hw3 : wrap64 (((d + m + 1 : Nat) : Int) - ((m + 1 : Nat) : Int)) = (d : Int) := by rw [wrap64_small (by omega) (by omega)]; omega
      simp only [gossamerref02_Divide.l0, V_length]
      rw [hd, hbl, hw1, hw2, hw3, rd_Vn, rd_Vn]
      refine Ev.pos (by omega) (Ev.pos (by omega) (Ev.pos (by omega) (Ev.pos (by omega) (Ev.pos (by omega) (Ev.bind (rinverse_vE _) (Ev.bind (rmul_vE _ _) ?_))))))
      rw [← htd]
      exact Ev.bind p1 (Ev.bind s1 (Ev.bind w1 (Ev.bind u1 x1)))
theorem rdivide_V (a b : List F) (ha : Small a) (hb : Small b) (h : len b ≠ 0) :
    ∃ q r, Ev (fun k => gossamerref02_Divide.f k (V a) (V b)) (V q, V r) ∧ Tr q ∧ Tr r ∧ Quo a b q r ∧ q.length ≤ a.length ∧ r.length ≤ a.length := by
  have la := len_le a
  have lb := len_le b
  unfold Small at *
  have ta := trim_length a
  have tb := trim_length b
  obtain ⟨q, r, h1, h2, h3, h4, h5, h6⟩ := rdloop (trim a) (trim b) (len b - 1) (by rw [len_trim]; omega) (tr_trim b) (by unfold Small; omega) (a.length + 1) (trim a) [] (by omega) (tr_trim a) (by unfold Small; omega) (by unfold Small; simp)
    (by rw [pr_zero_l _ rfl, zero_sadd])
  refine ⟨q, r, ?_, h2, h3, h4.congr (funext fun i => (co_trim a i).symm) (funext fun i => (co_trim b i).symm), by simp at h5; omega, by omega⟩
  unfold gossamerref02_Divide.f
  exact Ev.bind (rtrim_V b (by omega)) (Ev.bind (rtrim_V a (by omega)) h1)
end Go.Proofs.Ytljkbkhaamlbmaa.T
