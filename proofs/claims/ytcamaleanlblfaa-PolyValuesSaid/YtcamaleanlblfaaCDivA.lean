/- What the printed divisions come to. -/
import Derived.Test.YtcamaleanlblfaaQx1
import Derived.Test.YtcamaleanlblfaaQx2
import Derived.Test.YtcamaleanlblfaaQx3
import Derived.Test.YtcamaleanlblfaaCPoly
import Derived.Test.YtcamaleanlblfaaCGfP
set_option linter.unusedVariables false
set_option linter.unusedSimpArgs false
namespace Go.Proofs.Ytcamaleanlblfaa.Q
open Go.RowKit Go.Proofs.YtcamaleanlblfaaW.PrintWords Go.Proofs.YtcamaleanlblfaaW.PrintLast Go.Proofs.YtcamaleanlblfaaW.PrintMore Go.Proofs.Ytcamaleanlblfaa.Bits Go.Proofs.Ytcamaleanlblfaa GF PolyT
theorem tr_length {l : List F} (h : Tr l) : len l = l.length := h
theorem clone_V (l : List F) (hs : l.length < 8192) : slices_Clone_uint32_uint32.f (V l) = some (V l) := by
  unfold slices_Clone_uint32_uint32.f
  simp only [Option.bind_some, List.nil_append, List.length_nil, V_length]
  rw [if_pos (by omega)]
theorem trim_V (l : List F) (hs : Small l) : Ev (fun k => poly_Trim.f k (V l)) (V (trim l)) := by
  unfold poly_Trim.f
  have := len_le l
  exact Ev.bind (cut_V l hs) (Ev.bind' (clone_V _ (by rw [trim_length]; omega)) Ev.some')
theorem mul_vE (a b : F) : Ev (fun k => gf_Mul.f k (v a) (v b)) (v (mul a b)) := Ev.from' 33 (mul_v a b)
theorem inverse_vE (a : F) : Ev (fun k => gf_Inverse.f k (v a)) (v (inv a)) := Ev.from' 98 (inverse_v a)
theorem square_vE (a : F) : Ev (fun k => gf_Square.f k (v a)) (v (sq a)) := Ev.from' 33 (square_v a)
theorem dexit (b r q : List F) (hq : Small q) (hr : Small r) (x : Int) (i : Int) (h : ¬ i ≥ 0) : Ev (fun k => poly_Divide.l0 k (V b) (V r) (V q) x i) (V (trim q), V (trim r), none) := by
  refine Ev.succ ?_
  simp only [poly_Divide.l0]
  exact Ev.neg h (Ev.bind (cut_V q hq) (Ev.bind (cut_V r hr) Ev.some'))
theorem dloop (a b : List F) (m : Nat) (hb : len b = m + 1) (ht : Tr b) (hsb : Small b) : ∀ (n : Nat) (r q : List F), n ≤ q.length → Small q → (n ≠ 0 → n + m ≤ r.length) → Small r →
    (∀ j, n + m ≤ j → co r j = 0#32) → (∀ j, j < n → co q j = 0#32) → sadd (pr q b) (co r) = co a →
    ∃ q' r', Ev (fun k => poly_Divide.l0 k (V b) (V r) (V q) (v (inv (co b m))) ((n : Int) - 1)) (V q', V r', none) ∧ Tr q' ∧ Tr r' ∧ Quo a b q' r' ∧ q'.length ≤ q.length ∧ r'.length ≤ r.length := by
  intro n
  induction n with
  | zero =>
    intro r q hq hsq hr hsr h1 h2 h3
    refine ⟨trim q, trim r, dexit b r q hsq hsr _ _ (by omega), tr_trim q, tr_trim r, ⟨?_, ?_⟩, ?_, ?_⟩
    · rw [act_congr (co_trim q), show co (trim r) = co r from funext (co_trim r)]; exact h3
    · rw [len_trim, hb]
      rcases Nat.lt_or_ge (len r) (m + 1) with h | h
      · exact h
      · exfalso
        obtain ⟨p, hp⟩ : ∃ p, len r = p + 1 := ⟨len r - 1, by omega⟩
        exact co_top r p hp (h1 p (by omega))
    · rw [trim_length]; exact len_le q
    · rw [trim_length]; exact len_le r
  | succ n ih =>
    intro r q hq hsq hr hsr h1 h2 h3
    have hr' := hr (by omega)
    have hbl : b.length = m + 1 := by rw [← hb]; exact (tr_length ht).symm
    obtain ⟨t, htd⟩ : ∃ t, t = mul (co r (n + m)) (inv (co b m)) := ⟨_, rfl⟩
    have hc : co (q.set n t) n = t := by rw [co_set, if_pos ⟨rfl, by omega⟩]
    have htb : mul t (co b m) = co r (n + m) := by
      rw [htd, GF.mul_assoc, GF.mul_comm (inv _), GF.mul_inv (co_top b m hb), GF.mul_one]
    obtain ⟨r1, hp, hl1, hc1⟩ := put_V r b t n hsb (by omega) (by omega)
    have key : sadd (pr (q.set n t) b) (co r1) = co a := by
      rw [pr_set b t q n (by omega) (h2 n (by omega)), hc1, sadd_comm4, sadd_self, sadd_zero, h3]
    obtain ⟨q', r', he, x1, x2, x3, x4, x5⟩ := ih r1 (q.set n t) (by rw [List.length_set]; omega) (by rw [Small, List.length_set]; exact hsq) (by intro _; rw [hl1]; omega) (by rw [Small, hl1]; exact hsr)
      (by
        intro j hj
        rw [hc1]
        simp only [sadd, smul, shn]
        rw [if_pos (by omega)]
        by_cases e : j = n + m
        · subst e
          have : n + m - n = m := by omega
          rw [this, htb, BitVec.xor_self]
        · rw [h1 j (by omega), co_len b (j - n) (by omega), GF.mul_zero]; rfl)
      (by
        intro j hj
        rw [co_set, if_neg (by omega)]; exact h2 j (by omega)) key
    refine ⟨q', r', ?_, x1, x2, x3, by rw [List.length_set] at x4; exact x4, by rw [hl1] at x5; exact x5⟩
    have e1 : ((n + 1 : Nat) : Int) - 1 = (n : Int) := by omega
    have g0 : (n : Int) ≥ 0 := by omega
    have g1 : (0 : Int) ≤ ((n + m : Nat) : Int) := by omega
    have g2 : ((n + m : Nat) : Int) < (r.length : Int) := by omega
    have g3 : (n : Int) < (q.length : Int) := by omega
    have hw2 : wrap64 ((n : Int) - 1) = (n : Int) - 1 := by rw [wrap64_small] <;> omega
    have hw : wrap64 (wrap64 ((n : Int) + ((m + 1 : Nat) : Int)) - 1) = ((n + m : Nat) : Int) := by
      rw [wrap_nat (by omega), wrap64_small (by omega) (by omega)]; omega
    rw [e1]
    refine Ev.succ ?_
    simp only [poly_Divide.l0, V_length]
    rw [hbl, hw, hw2, rd_Vn, Int.toNat_natCast]
    refine Ev.pos g0 (Ev.pos g1 (Ev.pos g2 (Ev.bind (mul_vE _ _) (Ev.pos g0 (Ev.pos g3 (Ev.bind' rfl ?_))))))
    rw [← htd, V_set, rd_Vn, hc]
    exact Ev.bind hp he
/-- a division by what is not nought -/
theorem divide_V (a b : List F) (ha : Small a) (hb : Small b) (h : len b ≠ 0) :
    ∃ q r, Ev (fun k => poly_Divide.f k (V a) (V b)) (V q, V r, none) ∧ Tr q ∧ Tr r ∧ Quo a b q r ∧ q.length ≤ a.length ∧ r.length ≤ a.length := by
  obtain ⟨m, hm⟩ : ∃ m, len b = m + 1 := ⟨len b - 1, by omega⟩
  have la := len_le a
  have lb := len_le b
  have hz : (trim b).length = m + 1 := by rw [trim_length, hm]
  have hza : (trim a).length = len a := trim_length a
  have ct : co (trim b) = co b := funext (co_trim b)
  have cta : co (trim a) = co a := funext (co_trim a)
  -- what the loop gives
  have hloop : ∀ n : Nat, n = len a - m → ∃ q r, Ev (fun k => poly_Divide.l0 k (V (trim b)) (V (trim a)) (List.replicate n 0) (v (inv (co b m))) ((len a : Int) - ((m + 1 : Nat) : Int) + 1 - 1)) (V q, V r, none) ∧ Tr q ∧ Tr r ∧ Quo a b q r ∧ q.length ≤ a.length ∧ r.length ≤ a.length := by
    intro n hn
    rw [V_replicate]
    have hrep : pr (List.replicate n 0#32) (trim b) = fun _ => 0#32 := pr_zero_l _ (len_eq (fun i _ => co_replicate n i) (fun m hm => by omega))
    by_cases hlt : len a ≤ m
    · obtain rfl : n = 0 := by omega
      refine ⟨[], trim a, (dexit (trim b) (trim a) [] (by unfold Small; simp) (by unfold Small; omega) _ _ (by omega)).to ?_, rfl, tr_trim a, ⟨?_, ?_⟩, by simp, by omega⟩
      · have : trim (trim a) = trim a := trim_of_tr (tr_trim a)
        rw [this]; rfl
      · rw [pr_zero_l b rfl, zero_sadd, cta]
      · rw [len_trim]; omega
    · have e : (len a : Int) - ((m + 1 : Nat) : Int) + 1 - 1 = (n : Int) - 1 := by omega
      rw [e]
      obtain ⟨q, r, h1, h2, h3, h4, h5, h6⟩ := dloop a (trim b) m (by rw [len_trim, hm]) (tr_trim b) (by unfold Small; omega) n (trim a) (List.replicate n 0#32) (by simp) (by unfold Small; rw [List.length_replicate]; omega) (by intro _; omega) (by unfold Small; omega)
        (by intro j hj; rw [co_trim]; exact co_len a j (by omega)) (by intro j _; exact co_replicate n j) (by rw [hrep, zero_sadd, cta])
      rw [List.length_replicate] at h5
      rw [ct] at h1
      exact ⟨q, r, h1, h2, h3, h4.congr rfl ct.symm, by omega, by omega⟩
  obtain ⟨n, hn⟩ : ∃ n, n = len a - m := ⟨_, rfl⟩
  obtain ⟨q, r, hE, h2⟩ := hloop n hn
  refine ⟨q, r, ?_, h2⟩
  unfold poly_Divide.f
  refine Ev.bind (cut_V b hb) ?_
  rw [V_length, hz]
  refine Ev.neg (by omega) (Ev.bind (trim_V a ha) ?_)
  rw [V_length, hza]
  have hw1 : wrap64 ((len a : Int) - ((m + 1 : Nat) : Int)) = (len a : Int) - ((m + 1 : Nat) : Int) := wrap64_small (by omega) (by omega)
  have hw2 : wrap64 ((len a : Int) - ((m + 1 : Nat) : Int) + 1) = (len a : Int) - ((m + 1 : Nat) : Int) + 1 := wrap64_small (by omega) (by omega)
  have hw3 : wrap64 ((len a : Int) - ((m + 1 : Nat) : Int) + 1 - 1) = (len a : Int) - ((m + 1 : Nat) : Int) + 1 - 1 := wrap64_small (by omega) (by omega)
  have hw4 : wrap64 (((m + 1 : Nat) : Int) - 1) = (m : Int) := by rw [wrap64_small (by omega) (by omega)]; omega
  have hmx : mx 0 ((len a : Int) - ((m + 1 : Nat) : Int) + 1) = (n : Int) := by unfold mx; split <;> omega
  rw [hw1, hw2, hw3, hw4, hmx, Int.toNat_natCast, rd_Vn, co_trim]
  refine Ev.pos (by omega) (Ev.pos (by omega) (Ev.pos (by omega) (Ev.pos (by omega) (Ev.bind (inverse_vE _) hE))))
theorem divide_V0 (a b : List F) (hb : Small b) (h : len b = 0) : Ev (fun k => poly_Divide.f k (V a) (V b)) (([] : List Int), ([] : List Int), some 1) := by
  unfold poly_Divide.f
  refine Ev.bind (cut_V b hb) ?_
  rw [V_length, trim_length, h]
  exact Ev.pos rfl Ev.some'
end Go.Proofs.Ytcamaleanlblfaa.Q
