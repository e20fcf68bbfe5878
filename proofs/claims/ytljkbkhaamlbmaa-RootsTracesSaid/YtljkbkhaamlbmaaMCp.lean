/- What the printed functions of the field come to, at words that are spelled as bit vectors. -/
import Derived.Test.YtljkbkhaamlbmaaTx1
import Derived.Test.YtljkbkhaamlbmaaGF
import Derived.Test.YtljkbkhaamlbmaaBits
import Derived.Test.YtljkbkhaamlbmaaTx7
import Derived.Test.YtljkbkhaamlbmaaMPoly
import Derived.Test.YtljkbkhaamlbmaaEv
import Derived.Test.YtljkbkhaamlbmaaTx6
import Derived.Test.YtljkbkhaamlbmaaETabV
import Derived.Test.YtljkbkhaamlbmaaEAt
import Derived.Test.YtljkbkhaamlbmaaTx2
import Derived.Test.YtljkbkhaamlbmaaTx3
import Derived.Test.YtljkbkhaamlbmaaTx9
set_option linter.unusedVariables false
set_option linter.unusedSimpArgs false
namespace Go.Proofs.Ytljkbkhaamlbmaa.T
open Go.RowKit Go.Proofs.YtljkbkhaamlbmaaW.PrintWords Go.Proofs.YtljkbkhaamlbmaaW.PrintLast Go.Proofs.YtljkbkhaamlbmaaW.PrintMore Go.Proofs.Ytljkbkhaamlbmaa.Bits Go.Proofs.Ytljkbkhaamlbmaa
theorem shift_v (x : BitVec 32) : gf_shift.f (v x) = some (v (GF.sh x)) := by
  unfold gf_shift.f
  have h1 : Go.bits .and .u32 (v x) 2147483648 = if x.getLsbD 31 then 2147483648 else 0 := by
    have : (2147483648 : Int) = v (1#32 <<< 31) := by decide
    rw [this, and_v]
    have h2 : x &&& (1#32 <<< 31) = if x.getLsbD 31 then (1#32 <<< 31) else 0#32 := by
      apply BitVec.eq_of_getLsbD_eq; intro i hi
      by_cases e : i = 31
      · subst e
        have h31 : ((1#32 <<< 31 : BitVec 32)).getLsbD 31 = true := by decide
        rw [BitVec.getLsbD_and, h31, Bool.and_true]
        cases x.getLsbD 31
        · rfl
        · exact h31.symm
      · have h31 : ((1#32 <<< 31 : BitVec 32)).getLsbD i = false := by
          rw [BitVec.getLsbD_shiftLeft]; have : i < 31 := by omega
          simp [this]
        rw [BitVec.getLsbD_and, h31, Bool.and_false]
        cases x.getLsbD 31
        · exact (BitVec.getLsbD_zero ..).symm
        · exact h31.symm
    rw [h2]
    cases x.getLsbD 31 <;> rfl
  have h3 : (v x * (2 : Int)) % (4294967296 : Int) = v (x <<< 1) := by
    unfold v; rw [BitVec.toNat_shiftLeft, Nat.shiftLeft_eq]
    exact (congrArg (· % (4294967296 : Int)) (mul_cast x.toNat 2)).trans (emod_cast _ 4294967296)
  rw [h1, h3]
  unfold GF.sh
  cases x.getLsbD 31
  · simp
  · have : (141 : Int) = v 0x8d#32 := by decide
    rw [if_neg (by decide), this, xor_v]; rfl

theorem mul_loop (a b : BitVec 32) : ∀ (n : Nat) (i : Int), n ≤ 32 → i = (n : Int) - 1 → ∀ k, n < k → gf_Mul.l0 k (v a) (v b) (v (GF.mulH a b (32 - n))) i = some (v (GF.mul a b)) := by
  intro n
  induction n with
  | zero =>
    intro i _ hi k hk
    obtain ⟨k, rfl⟩ : ∃ m, k = m + 1 := ⟨k - 1, by omega⟩
    simp only [gf_Mul.l0]; rw [if_neg (by omega)]; rfl
  | succ n ih =>
    intro i hn hi k hk
    obtain ⟨k, rfl⟩ : ∃ m, k = m + 1 := ⟨k - 1, by omega⟩
    obtain rfl : i = (n : Int) := by omega
    have hw : wrap64 ((n : Int) - 1) = (n : Int) - 1 := wrap64_small (by omega) (by omega)
    have e1 : (1 : Int) = v 1#32 := by decide
    simp only [gf_Mul.l0]
    rw [if_pos (by omega), shift_v, Option.bind_some, if_pos (by omega), shr_v b n (by omega)]
    have hb : Go.bits .and .u32 (v (b >>> n)) 1 = if b.getLsbD n then 1 else 0 := by
      have e1 : (1 : Int) = v 1#32 := by decide
      rw [show Go.bits .and .u32 (v (b >>> n)) 1 = Go.bits .and .u32 (v (b >>> n)) (v 1#32) by rw [← e1], and_v, bit_v]
    rw [hb, hw]
    have hs : GF.mulH a b (32 - n) = GF.sh (GF.mulH a b (32 - (n + 1))) ^^^ (if b.getLsbD n then a else 0#32) := by
      have e2 : 32 - n = (32 - (n + 1)) + 1 := by omega
      rw [e2]; simp only [GF.mulH]
      have e3 : 31 - (32 - (n + 1)) = n := by omega
      rw [e3]
    have := ih ((n : Int) - 1) (by omega) rfl k (by omega)
    rw [hs] at this
    cases hbn : b.getLsbD n
    · rw [if_neg (by decide)]
      rw [hbn] at this; simpa using this
    · rw [if_pos (by decide), xor_v]
      rw [hbn] at this; exact this
theorem mul_v (a b : BitVec 32) (k : Nat) (hk : 33 ≤ k) : gf_Mul.f k (v a) (v b) = some (v (GF.mul a b)) :=
  mul_loop a b 32 31 (by omega) (by omega) k (by omega)

end Go.Proofs.Ytljkbkhaamlbmaa.T
/- What the printed functions of the field come to, at words that are spelled as bit vectors. -/
set_option linter.unusedVariables false
set_option linter.unusedSimpArgs false
namespace Go.Proofs.Ytljkbkhaamlbmaa.T
open Go.RowKit Go.Proofs.YtljkbkhaamlbmaaW.PrintWords Go.Proofs.YtljkbkhaamlbmaaW.PrintLast Go.Proofs.YtljkbkhaamlbmaaW.PrintMore Go.Proofs.Ytljkbkhaamlbmaa.Bits Go.Proofs.Ytljkbkhaamlbmaa
theorem square_v (a : BitVec 32) (k : Nat) (hk : 33 ≤ k) : gf_Square.f k (v a) = some (v (GF.sq a)) := by
  unfold gf_Square.f; rw [mul_v a a k hk]; rfl

end Go.Proofs.Ytljkbkhaamlbmaa.T
/- What the printed powers and inverses come to, at words that are spelled as bit vectors. -/
set_option linter.unusedVariables false
set_option linter.unusedSimpArgs false
namespace Go.Proofs.Ytljkbkhaamlbmaa.T
open Go.RowKit Go.Proofs.YtljkbkhaamlbmaaW.PrintWords Go.Proofs.YtljkbkhaamlbmaaW.PrintLast Go.Proofs.YtljkbkhaamlbmaaW.PrintMore Go.Proofs.Ytljkbkhaamlbmaa.Bits Go.Proofs.Ytljkbkhaamlbmaa
theorem and1_u64 (n : Int) (h0 : 0 ≤ n) (h1 : n < 18446744073709551616) : Go.bits .and .u64 n 1 = n % 2 := by
  obtain ⟨x, rfl⟩ := q_of h0 h1
  have e1 : (1 : Int) = q 1#64 := by decide
  rw [show Go.bits .and .u64 (q x) 1 = Go.bits .and .u64 (q x) (q 1#64) by rw [← e1], and_q]
  unfold q
  rw [BitVec.toNat_and]
  show ((x.toNat &&& 1 : Nat) : Int) = _
  rw [Nat.and_one_is_mod]; exact (emod_cast _ 2).symm
theorem power_loop : ∀ (m : Nat) (a o : BitVec 32) (n : Nat), n < 2 ^ m → n < 18446744073709551616 → ∀ k, 33 + m < k → gf_Power.l0 k (v a) (n : Int) (v o) = some (v (GF.mul o (GF.pow a n))) := by
  intro m
  induction m with
  | zero =>
    intro a o n hn _ k hk
    obtain ⟨k, rfl⟩ : ∃ m, k = m + 1 := ⟨k - 1, by omega⟩
    obtain rfl : n = 0 := by simpa using hn
    simp only [gf_Power.l0]; rw [if_neg (by omega)]; simp [GF.pow, GF.mul_one]
  | succ m ih =>
    intro a o n hn hb k hk
    obtain ⟨k, rfl⟩ : ∃ m, k = m + 1 := ⟨k - 1, by omega⟩
    simp only [gf_Power.l0]
    by_cases h0 : n = 0
    · subst h0; rw [if_neg (by omega)]; simp [GF.pow, GF.mul_one]
    · rw [if_pos (by omega), and1_u64 _ (by omega) (by omega), square_v a k (by omega), mul_v o a k (by omega)]
      simp only [Option.bind_some]
      have hd : (n : Int) / 2 = ((n / 2 : Nat) : Int) := ediv_cast n 2
      have hm : (n : Int) % 2 = ((n % 2 : Nat) : Int) := emod_cast n 2
      have hn2 : n / 2 < 2 ^ m := by rw [Nat.pow_succ] at hn; omega
      rw [hd, hm, ih (GF.sq a) (GF.mul o a) (n / 2) hn2 (by omega) k (by omega), ih (GF.sq a) o (n / 2) hn2 (by omega) k (by omega), ← GF.pow_sq]
      by_cases h1 : n % 2 = 1
      · rw [if_pos (by omega)]
        have : GF.pow a n = GF.mul a (GF.pow a (2 * (n / 2))) := by
          have e : n = 2 * (n / 2) + 1 := by omega
          rw [GF.mul_comm]
          exact (congrArg (GF.pow a) e)
        rw [this, GF.mul_assoc]
      · rw [if_neg (by omega)]
        have e : 2 * (n / 2) = n := by omega
        rw [e]
theorem power_v (a : BitVec 32) (n : Nat) (hn : n < 18446744073709551616) (k : Nat) (hk : 98 ≤ k) : gf_Power.f k (v a) (n : Int) = some (v (GF.pow a n)) := by
  have h := power_loop 64 a 1#32 n hn hn k (by omega)
  rw [GF.one_mul] at h
  exact h

theorem inverse_v (a : BitVec 32) (k : Nat) (hk : 98 ≤ k) : gf_Inverse.f k (v a) = some (v (GF.inv a)) := by
  unfold gf_Inverse.f
  have := power_v a 4294967294 (by decide) k hk
  have h : gf_Power.f k (v a) 4294967294 = some (v (GF.inv a)) := this
  rw [h]; rfl
end Go.Proofs.Ytljkbkhaamlbmaa.T
/- What the printed functions of polynomials come to, at lists of coefficients that are spelled as bit vectors. -/
set_option linter.unusedVariables false
set_option linter.unusedSimpArgs false
namespace Go.Proofs.Ytljkbkhaamlbmaa.T
open Go.RowKit Go.Proofs.YtljkbkhaamlbmaaW.PrintWords Go.Proofs.YtljkbkhaamlbmaaW.PrintLast Go.Proofs.YtljkbkhaamlbmaaW.PrintMore Go.Proofs.Ytljkbkhaamlbmaa.Bits Go.Proofs.Ytljkbkhaamlbmaa GF PolyT
def V (l : List F) : List Int := l.map v
theorem V_length (l : List F) : (V l).length = l.length := List.length_map _
theorem rd_V (l : List F) (i : Int) : rd (V l) i = v (co l i.toNat) := by
  unfold rd V co
  rw [List.getD_eq_getElem?_getD, List.getD_eq_getElem?_getD, List.getElem?_map]
  cases l[i.toNat]? <;> rfl
theorem rd_Vn (l : List F) (i : Nat) : rd (V l) (i : Int) = v (co l i) := by rw [rd_V, Int.toNat_natCast]
theorem V_of (l : List Int) (h : ∀ x ∈ l, (Lit.int .u32 x).wf = true) : ∃ m, l = V m := by
  induction l with
  | nil => exact ⟨[], rfl⟩
  | cons a l ih =>
    obtain ⟨m, rfl⟩ := ih (fun x hx => h x (by simp [hx]))
    obtain ⟨x, rfl⟩ := v_of (wf_u32 (h a (by simp))).1 (wf_u32 (h a (by simp))).2
    exact ⟨x :: m, rfl⟩
theorem V_take (l : List F) (n : Nat) : (V l).take n = V (l.take n) := by simp [V]
theorem V_set (l : List F) (n : Nat) (x : F) : (V l).set n (v x) = V (l.set n x) := by simp [V, List.map_set]
theorem V_replicate (n : Nat) : List.replicate n (0 : Int) = V (List.replicate n 0#32) := by
  unfold V; rw [List.map_replicate]; rfl
theorem v_zero_iff (x : F) : v x = 0 ↔ x = 0#32 := ⟨fun h => v_inj.mp h, fun h => by rw [h]; rfl⟩
theorem wrap_nat {a b : Nat} (h : a + b < 9223372036854775808) : wrap64 ((a : Int) + (b : Int)) = ((a + b : Nat) : Int) := by rw [wrap64_small] <;> omega
theorem wrap_nat1 {a : Nat} (h : a + 1 < 9223372036854775808) : wrap64 ((a : Int) + 1) = ((a + 1 : Nat) : Int) := by rw [wrap64_small] <;> omega
abbrev Small (l : List F) : Prop := l.length < 4096
theorem pdegree_loop (l : List F) (hs : Small l) : ∀ n : Nat, n ≤ l.length → (∀ j, n ≤ j → co l j = 0#32) → (∃ K, ∀ k, K ≤ k → poly_Degree.l0 k (V l) ((n : Int) - 1) = some ((len l : Int) - 1)) := by
  intro n
  induction n with
  | zero =>
    intro _ h
    refine ⟨1, fun k hk => ?_⟩
    obtain ⟨k, rfl⟩ : ∃ m, k = m + 1 := ⟨k - 1, by omega⟩
    have h0 : len l = 0 := len_eq (fun i _ => h i (by omega)) (fun m hm => by omega)
    simp only [poly_Degree.l0]; rw [if_neg (by omega), h0]
  | succ n ih =>
    intro hn h
    by_cases e : co l n = 0#32
    · obtain ⟨K, hK⟩ := ih (by omega) (fun j hj => by
        by_cases e2 : j = n
        · rw [e2]; exact e
        · exact h j (by omega))
      refine ⟨K + 1, fun k hk => ?_⟩
      obtain ⟨k, rfl⟩ : ∃ m, k = m + 1 := ⟨k - 1, by omega⟩
      have e1 : ((n + 1 : Nat) : Int) - 1 = (n : Int) := by omega
      have hw : wrap64 ((n : Int) - 1) = (n : Int) - 1 := wrap64_small (by omega) (by omega)
      have g0 : (n : Int) ≥ 0 := by omega
      have g1 : (n : Int) < (l.length : Int) := by omega
      simp only [poly_Degree.l0, V_length]
      rw [e1, if_pos g0, if_pos g0, if_pos g1, rd_Vn, if_pos (by rw [e]; rfl), hw]
      exact hK k (by omega)
    · refine ⟨1, fun k hk => ?_⟩
      obtain ⟨k, rfl⟩ : ∃ m, k = m + 1 := ⟨k - 1, by omega⟩
      have e1 : ((n + 1 : Nat) : Int) - 1 = (n : Int) := by omega
      have h0 : len l = n + 1 := len_eq (fun i hi => h i hi) (fun m hm => by
        have e2 : m = n := by omega
        rw [e2]; exact e)
      have g0 : (n : Int) ≥ 0 := by omega
      have g1 : (n : Int) < (l.length : Int) := by omega
      simp only [poly_Degree.l0, V_length]
      rw [e1, if_pos g0, if_pos g0, if_pos g1, rd_Vn, if_neg (fun h => e ((v_zero_iff _).mp h)), h0, ← e1]
theorem degree_V (l : List F) (hs : Small l) : (∃ K, ∀ k, K ≤ k → poly_Degree.f k (V l) = some ((len l : Int) - 1)) := by
  obtain ⟨K, hK⟩ := pdegree_loop l hs l.length (Nat.le_refl _) (fun j hj => co_ge hj)
  refine ⟨K, fun k hk => ?_⟩
  unfold poly_Degree.f
  rw [V_length, wrap64_small (by omega) (by omega)]
  exact hK k hk
theorem cut_V (l : List F) (hs : Small l) : (∃ K, ∀ k, K ≤ k → poly_cut.f k (V l) = some (V (trim l))) := by
  obtain ⟨K, hK⟩ := degree_V l hs
  refine ⟨K, fun k hk => ?_⟩
  have hl := len_le l
  unfold poly_cut.f
  rw [hK k hk, Option.bind_some]
  have hw : wrap64 ((len l : Int) - 1 + 1) = (len l : Int) := by rw [wrap64_small (by omega) (by omega)]; omega
  rw [hw, V_length, if_pos (by omega), if_pos (by omega), Int.toNat_natCast, V_take]; rfl
theorem put_loop (a : List F) (c : F) (up : Nat) (ha : Small a) (hu : up < 4096) : ∀ (n i : Nat) (t : List F), i + n = a.length → up + a.length ≤ t.length →
    ∃ t', (∃ K, ∀ k, K ≤ k → poly_put.l0 k (V t) (v c) (up : Int) (V a) (a.length : Int) (i : Int) = some (V t')) ∧ t'.length = t.length ∧
      ∀ j, co t' j = co t j ^^^ (if up + i ≤ j then mul (co a (j - up)) c else 0#32) := by
  intro n
  induction n with
  | zero =>
    intro i t hi ht
    refine ⟨t, ⟨1, fun k hk => ?_⟩, rfl, fun j => ?_⟩
    · obtain ⟨k, rfl⟩ : ∃ m, k = m + 1 := ⟨k - 1, by omega⟩
      simp only [poly_put.l0]; rw [if_neg (by omega)]
    · by_cases h : up + i ≤ j
      · have e0 : co a (j - up) = 0#32 := co_ge (by omega)
        rw [if_pos h, e0, GF.zero_mul, BitVec.xor_zero]
      · rw [if_neg h, BitVec.xor_zero]
  | succ n ih =>
    intro i t hi ht
    obtain ⟨t', ⟨K, hK⟩, hl, hc⟩ := ih (i + 1) (t.set (up + i) (co t (up + i) ^^^ mul (co a i) c)) (by omega) (by rw [List.length_set]; exact ht)
    refine ⟨t', ⟨K + 40, fun k hk => ?_⟩, by rw [hl, List.length_set], fun j => ?_⟩
    · obtain ⟨k, rfl⟩ : ∃ m, k = m + 1 := ⟨k - 1, by omega⟩
      have g0 : (0 : Int) ≤ (i : Int) := by omega
      have g1 : (i : Int) < (a.length : Int) := by omega
      have g2 : (0 : Int) ≤ ((up + i : Nat) : Int) := by omega
      have g3 : ((up + i : Nat) : Int) < (t.length : Int) := by omega
      have hk33 : 33 ≤ k := by omega
      have hkK : K ≤ k := by omega
      have hw : wrap64 ((up : Int) + (i : Int)) = ((up + i : Nat) : Int) := wrap_nat (by omega)
      have hw2 : wrap64 ((i : Int) + 1) = ((i + 1 : Nat) : Int) := wrap_nat1 (by omega)
      simp only [poly_put.l0, V_length]
      rw [if_pos g1, if_pos g0, if_pos g1, hw, if_pos g2, if_pos g3, rd_Vn, mul_v _ _ k hk33, Option.bind_some, rd_Vn, xor_v, Int.toNat_natCast, V_set, hw2]
      exact hK k hkK
    · rw [hc j, co_set]
      by_cases e : j = up + i
      · subst e
        rw [if_pos ⟨rfl, by omega⟩, if_neg (by omega), if_pos (by omega), BitVec.xor_zero]
        have : up + i - up = i := by omega
        rw [this]
      · rw [if_neg (fun h => e h.1)]
        by_cases h : up + i ≤ j
        · rw [if_pos (by omega), if_pos h]
        · rw [if_neg (by omega), if_neg h]
theorem put_V (t a : List F) (c : F) (up : Nat) (ha : Small a) (hu : up < 4096) (ht : up + a.length ≤ t.length) :
    ∃ t', (∃ K, ∀ k, K ≤ k → poly_put.f k (V t) (V a) (v c) (up : Int) = some (V t')) ∧ t'.length = t.length ∧ co t' = sadd (co t) (smul c (shn up (co a))) := by
  obtain ⟨t', ⟨K, hK⟩, hl, hc⟩ := put_loop a c up ha hu a.length 0 t (by omega) ht
  refine ⟨t', ⟨K, fun k hk => ?_⟩, hl, funext fun j => ?_⟩
  · unfold poly_put.f; rw [V_length]; exact hK k hk
  · rw [hc j]; simp only [sadd, smul, shn, Nat.add_zero]
    by_cases h : up ≤ j
    · rw [if_pos h, if_pos h, GF.mul_comm]
    · rw [if_neg h, if_neg h, GF.mul_zero]
theorem act_take_succ (a : List F) (f : S) : ∀ i, act (a.take (i + 1)) f = sadd (act (a.take i) f) (smul (co a i) (shn i f)) := by
  induction a with
  | nil =>
    intro i; simp only [List.take_nil, co_nil]
    funext j; simp [act, sadd, smul, GF.zero_mul]
  | cons x a ih =>
    intro i
    cases i with
    | zero =>
      simp only [List.take_succ_cons, List.take_zero, act, X_zero]
      funext j; simp [sadd, smul, shn, co_cons_zero]
    | succ i =>
      rw [List.take_succ_cons, List.take_succ_cons]
      simp only [act]
      rw [ih i, X_add, X_smul, X_shn, co_cons_succ]
      funext j; simp only [sadd]; rw [BitVec.xor_assoc]
theorem mul_ploop (a b : List F) (ha : Small a) (hb : Small b) : ∀ (n i : Nat) (t : List F), i + n = a.length → (a.length ≠ 0 → a.length + b.length ≤ t.length + 1) → co t = act (a.take i) (co b) →
    ∃ t', (∃ K, ∀ k, K ≤ k → poly_Mul.l0 k (V b) (V t) (V a) (a.length : Int) (i : Int) = some (V t')) ∧ t'.length = t.length ∧ co t' = pr a b := by
  intro n
  induction n with
  | zero =>
    intro i t hi ht hc
    refine ⟨t, ⟨1, fun k hk => ?_⟩, rfl, ?_⟩
    · obtain ⟨k, rfl⟩ : ∃ m, k = m + 1 := ⟨k - 1, by omega⟩
      simp only [poly_Mul.l0]; rw [if_neg (by omega)]
    · rw [hc, List.take_of_length_le (by omega)]; rfl
  | succ n ih =>
    intro i t hi ht hc
    obtain ⟨t1, ⟨K1, hK1⟩, hl1, hc1⟩ := put_V t b (co a i) i hb (by omega) (by have := ht (by omega); omega)
    obtain ⟨t', ⟨K, hK⟩, hl, hc'⟩ := ih (i + 1) t1 (by omega) (by rw [hl1]; exact ht) (by rw [hc1, hc, act_take_succ])
    refine ⟨t', ⟨K + K1 + 1, fun k hk => ?_⟩, by rw [hl, hl1], hc'⟩
    obtain ⟨k, rfl⟩ : ∃ m, k = m + 1 := ⟨k - 1, by omega⟩
    have g0 : (0 : Int) ≤ (i : Int) := by omega
    have g1 : (i : Int) < (a.length : Int) := by omega
    have hkK : K ≤ k := by omega
    have hkK1 : K1 ≤ k := by omega
    have hw2 : wrap64 ((i : Int) + 1) = ((i + 1 : Nat) : Int) := wrap_nat1 (by omega)
    simp only [poly_Mul.l0, V_length]
    rw [if_pos g1, if_pos g0, if_pos g1, rd_Vn, hK1 k hkK1, Option.bind_some, hw2]
    exact hK k hkK
theorem mul_V (a b : List F) (ha : Small a) (hb : Small b) : ∃ c, (∃ K, ∀ k, K ≤ k → poly_Mul.f k (V a) (V b) = some (V c)) ∧ Tr c ∧ co c = pr a b ∧ c.length ≤ a.length + b.length := by
  obtain ⟨K1, h1⟩ := cut_V a ha
  obtain ⟨K2, h2⟩ := cut_V b hb
  have la := len_le a
  have lb := len_le b
  have pe : pr (trim a) (trim b) = pr a b := by
    rw [act_congr (co_trim a), pr_comm, act_congr (co_trim b), pr_comm]
  by_cases za : len a = 0
  · refine ⟨[], ⟨K1 + K2 + 2, fun k hk => ?_⟩, rfl, ?_, by simp⟩
    · unfold poly_Mul.f
      rw [h1 k (by omega), Option.bind_some, h2 k (by omega), Option.bind_some, V_length, trim_length, if_pos (by omega)]
      obtain ⟨k, rfl⟩ : ∃ m, k = m + 1 := ⟨k - 1, by omega⟩
      simp only [poly_Mul.j0]; rfl
    · rw [pr_zero_l b za]; funext i; rfl
  · by_cases zb : len b = 0
    · refine ⟨[], ⟨K1 + K2 + 2, fun k hk => ?_⟩, rfl, ?_, by simp⟩
      · unfold poly_Mul.f
        rw [h1 k (by omega), Option.bind_some, h2 k (by omega), Option.bind_some, V_length, trim_length, if_neg (by omega), V_length, trim_length, zb]
        obtain ⟨k, rfl⟩ : ∃ m, k = m + 1 := ⟨k - 1, by omega⟩
        simp only [poly_Mul.j0]; rfl
      · rw [pr_zero_r a zb]; funext i; rfl
    · obtain ⟨c, ⟨K, hK⟩, hl, hc⟩ := mul_ploop (trim a) (trim b) (by unfold Small; rw [trim_length]; omega) (by unfold Small; rw [trim_length]; omega) (trim a).length 0 (List.replicate (len a + len b - 1) 0#32) (by omega)
        (by intro _; rw [trim_length, trim_length, List.length_replicate]; omega) (by funext i; rw [co_replicate]; rfl)
      rw [List.length_replicate] at hl
      rw [pe] at hc
      refine ⟨c, ⟨K1 + K2 + K + 2, fun k hk => ?_⟩, ?_, hc, by omega⟩
      · unfold poly_Mul.f
        rw [h1 k (by omega), Option.bind_some, h2 k (by omega), Option.bind_some, V_length, trim_length, if_neg (by omega), V_length, trim_length]
        have hb0 : (((len b : Nat) : Int) == 0) = false := beq_eq_false_iff_ne.mpr (by omega)
        rw [hb0]
        obtain ⟨k, rfl⟩ : ∃ m, k = m + 1 := ⟨k - 1, by omega⟩
        have g0 : (0 : Int) ≤ ((len a + len b - 1 : Nat) : Int) := by omega
        have g1 : len a + len b - 1 ≤ 70368744177664 := by omega
        have hkK : K ≤ k := by omega
        have hw : wrap64 (wrap64 ((len a : Int) + (len b : Int)) - 1) = ((len a + len b - 1 : Nat) : Int) := by
          rw [wrap64_small (n := (len a : Int) + (len b : Int)) (by omega) (by omega), wrap64_small (by omega) (by omega)]; omega
        simp only [poly_Mul.j0, V_length, trim_length]
        rw [if_neg (by decide), hw, if_pos g0, Int.toNat_natCast, if_pos g1, V_replicate]
        have := hK k hkK
        rw [trim_length] at this
        exact this
      · unfold Tr
        have := len_pr hc za zb
        omega
end Go.Proofs.Ytljkbkhaamlbmaa.T
/- What the printed divisions come to. -/
set_option linter.unusedVariables false
set_option linter.unusedSimpArgs false
namespace Go.Proofs.Ytljkbkhaamlbmaa.T
open Go.RowKit Go.Proofs.YtljkbkhaamlbmaaW.PrintWords Go.Proofs.YtljkbkhaamlbmaaW.PrintLast Go.Proofs.YtljkbkhaamlbmaaW.PrintMore Go.Proofs.Ytljkbkhaamlbmaa.Bits Go.Proofs.Ytljkbkhaamlbmaa GF PolyT
theorem tr_length {l : List F} (h : Tr l) : len l = l.length := h
theorem clone_V (l : List F) (hs : l.length < 8192) : slices_Clone_uint32_uint32.f (V l) = some (V l) := by
  unfold slices_Clone_uint32_uint32.f
  simp only [Option.bind_some, List.nil_append, List.length_nil, V_length]
  rw [if_pos (by omega)]
theorem trim_V (l : List F) (hs : Small l) : Ev (fun k => poly_Trim.f k (V l)) (V (trim l)) := by
  unfold poly_Trim.f
  have := len_le l
  exact Ev.bind (cut_V l hs) (Ev.bind' (clone_V _ (by rw [trim_length]; omega)) Ev.some')
end Go.Proofs.Ytljkbkhaamlbmaa.T
/- What the printed sums and values of polynomials come to. -/
set_option linter.unusedVariables false
set_option linter.unusedSimpArgs false
namespace Go.Proofs.Ytljkbkhaamlbmaa.T
open Go.RowKit Go.Proofs.YtljkbkhaamlbmaaW.PrintWords Go.Proofs.YtljkbkhaamlbmaaW.PrintLast Go.Proofs.YtljkbkhaamlbmaaW.PrintMore Go.Proofs.Ytljkbkhaamlbmaa.Bits Go.Proofs.Ytljkbkhaamlbmaa GF PolyT
theorem at_fold (l : List F) (x : F) : ∀ k, k ≤ l.length → EAt.fold EMul.mulI (v x) (EAt.upto (EAt.pair (V l)) k) = v (ev (l.drop (l.length - k)) x) := by
  intro k
  induction k with
  | zero => intro _; rw [Nat.sub_zero, List.drop_length]; rfl
  | succ k ih =>
    intro hk
    have h := ih (by omega)
    have e : EAt.fold EMul.mulI (v x) (EAt.upto (EAt.pair (V l)) (k + 1)) = Go.bits .xor .u32 (EMul.mulI (EAt.fold EMul.mulI (v x) (EAt.upto (EAt.pair (V l)) k)) (v x)) (EAt.pair (V l) k).2 := by
      unfold EAt.fold EAt.upto
      rw [List.range_succ, List.map_append, List.foldl_append]; rfl
    rw [e, h, EMul.mulI_v]
    have e2 : (EAt.pair (V l) k).2 = v (co l (l.length - (k + 1))) := by
      show rd (V l) (((V l).length : Int) - 1 - (k : Int)) = _
      have : ((V l).length : Int) - 1 - (k : Int) = ((l.length - (k + 1) : Nat) : Int) := by rw [V_length]; omega
      rw [this, rd_Vn]
    have e3 : l.drop (l.length - (k + 1)) = co l (l.length - (k + 1)) :: l.drop (l.length - k) := by
      rw [List.drop_eq_getElem_cons (by omega), co_lt (by omega)]
      congr 2; omega
    rw [e2, xor_v, e3]; rfl
theorem at_V (l : List F) (x : F) (hs : Small l) : poly_At.f (V l) (v x) = some (v (ev l x)) := by
  unfold poly_At.f
  rw [V_length, if_pos (by omega), at_fold l x l.length (Nat.le_refl _), Nat.sub_self, List.drop_zero]
end Go.Proofs.Ytljkbkhaamlbmaa.T
/- What the printed sums and values of polynomials come to. -/
set_option linter.unusedVariables false
set_option linter.unusedSimpArgs false
namespace Go.Proofs.Ytljkbkhaamlbmaa.T
open Go.RowKit Go.Proofs.YtljkbkhaamlbmaaW.PrintWords Go.Proofs.YtljkbkhaamlbmaaW.PrintLast Go.Proofs.YtljkbkhaamlbmaaW.PrintMore Go.Proofs.Ytljkbkhaamlbmaa.Bits Go.Proofs.Ytljkbkhaamlbmaa GF PolyT
theorem add_l1 (a t0 : List F) (L : List (List Int)) (cnt j : Int) (ha : Small a) {R : List Int}
    (hK : ∀ t', t'.length = t0.length → co t' = sadd (co t0) (co a) → Ev (fun k => poly_Add.l0 k (V t') L cnt (wrap64 (j + 1))) R) :
    ∀ (n i : Nat) (t : List F), i + n = a.length → t.length = t0.length → a.length ≤ t.length → (∀ p, co t p = co t0 p ^^^ (if p < i then co a p else 0#32)) →
    Ev (fun k => poly_Add.l1 k (V t) L cnt j (V a) (a.length : Int) (i : Int)) R := by
  intro n
  induction n with
  | zero =>
    intro i t hi ht hl hc
    refine Ev.succ ?_
    simp only [poly_Add.l1]
    refine Ev.neg (by omega) (hK t ht (funext fun p => ?_))
    rw [hc p]; simp only [sadd]
    by_cases h : p < i
    · rw [if_pos h]
    · rw [if_neg h, co_ge (l := a) (by omega)]
  | succ n ih =>
    intro i t hi ht hl hc
    have hw2 : wrap64 ((i : Int) + 1) = ((i + 1 : Nat) : Int) := wrap_nat1 (by unfold Small at ha; omega)
    refine Ev.succ ?_
    simp only [poly_Add.l1, V_length]
    rw [hw2, rd_Vn, rd_Vn, xor_v, Int.toNat_natCast, V_set]
    refine Ev.pos (by omega) (Ev.pos (by omega) (Ev.pos (by omega) (Ev.pos (by omega) (ih (i + 1) _ (by omega) (by rw [List.length_set]; exact ht) (by rw [List.length_set]; exact hl) (fun p => ?_)))))
    rw [co_set]
    by_cases e : p = i
    · subst e
      rw [if_pos ⟨rfl, by omega⟩, if_pos (by omega), hc p, if_neg (by omega), BitVec.xor_zero]
    · rw [if_neg (fun h => e h.1), hc p]
      by_cases h : p < i
      · rw [if_pos h, if_pos (by omega)]
      · rw [if_neg h, if_neg (by omega)]
theorem add_step (a t : List F) (L : List (List Int)) (cnt : Int) (j : Nat) (ha : Small a) (ht : Small t) (hj : rd_L1 L (j : Int) = V a) (hlt : (j : Int) < cnt) (hL : (j : Int) < (L.length : Int)) (hj2 : j < 4096) {R : List Int}
    (hK : ∀ t', t'.length = max t.length a.length → co t' = sadd (co t) (co a) → Ev (fun k => poly_Add.l0 k (V t') L cnt ((j + 1 : Nat) : Int)) R) :
    Ev (fun k => poly_Add.l0 k (V t) L cnt (j : Int)) R := by
  unfold Small at ha ht
  refine Ev.succ ?_
  simp only [poly_Add.l0]
  have hmx : mx 0 (wrap64 ((a.length : Int) - (t.length : Int))) = ((a.length - t.length : Nat) : Int) := by
    rw [wrap64_small (by omega) (by omega)]; unfold mx; split <;> omega
  rw [hj, V_length, V_length, hmx, Int.toNat_natCast, V_replicate]
  have e : V t ++ V (List.replicate (a.length - t.length) 0#32) = V (t ++ List.replicate (a.length - t.length) 0#32) := by simp [V]
  have hco : co (t ++ List.replicate (a.length - t.length) 0#32) = co t := by
    funext i
    rw [co_append, co_replicate]
    by_cases h : i < t.length
    · rw [if_pos h]
    · rw [if_neg h, co_ge (by omega)]
  have hlen : (t ++ List.replicate (a.length - t.length) 0#32).length = max t.length a.length := by simp; omega
  rw [e]
  have hw : wrap64 ((j : Int) + 1) = ((j + 1 : Nat) : Int) := wrap_nat1 (by omega)
  refine Ev.pos hlt (Ev.pos (by omega) (Ev.pos hL (Ev.pos (by omega) (Ev.pos (by omega) ?_))))
  refine add_l1 a _ L cnt (j : Int) (by unfold Small; omega) (fun t' h1 h2 => ?_) a.length 0 _ (by omega) rfl (by omega) (fun p => by rw [if_neg (by omega), BitVec.xor_zero])
  rw [hw]
  exact hK t' (by omega) (by rw [h2, hco])
theorem add_V (a b : List F) (ha : Small a) (hb : Small b) : ∃ s, Ev (fun k => poly_Add.f k [V a, V b]) (V s) ∧ Tr s ∧ co s = sadd (co a) (co b) ∧ s.length ≤ max a.length b.length := by
  obtain ⟨l, hl, hn⟩ := of_fn (sadd (co a) (co b)) (max a.length b.length) (fun i hi => by simp only [sadd]; rw [co_ge (by omega), co_ge (by omega)]; rfl)
  refine ⟨trim l, ?_, tr_trim l, by rw [← hl]; exact funext (co_trim l), by rw [trim_length]; have := len_le l; omega⟩
  unfold Small at ha hb
  unfold poly_Add.f
  refine add_step a [] [V a, V b] _ 0 ha (by unfold Small; simp) rfl (by simp) (by simp) (by omega) (fun t h1 h2 => ?_)
  refine add_step b t [V a, V b] _ 1 hb (by unfold Small; simp at h1; omega) rfl (by simp) (by simp) (by omega) (fun u h3 h4 => ?_)
  refine Ev.succ ?_
  simp only [poly_Add.l0]
  have hu : u = l := list_ext (by simp at h1; omega) (fun i => by
    rw [h4, h2, hl]; simp only [sadd]; rw [co_nil, BitVec.zero_xor])
  rw [hu]
  exact Ev.neg (by simp) (Ev.bind (cut_V l (by unfold Small; omega)) Ev.some')
end Go.Proofs.Ytljkbkhaamlbmaa.T
/- What the printed divisions come to. -/
set_option linter.unusedVariables false
set_option linter.unusedSimpArgs false
namespace Go.Proofs.Ytljkbkhaamlbmaa.T
open Go.RowKit Go.Proofs.YtljkbkhaamlbmaaW.PrintWords Go.Proofs.YtljkbkhaamlbmaaW.PrintLast Go.Proofs.YtljkbkhaamlbmaaW.PrintMore Go.Proofs.Ytljkbkhaamlbmaa.Bits Go.Proofs.Ytljkbkhaamlbmaa GF PolyT
theorem scale_all (c : F) (l : List F) : poly_Scale.all (v c) (V l) = V (sc c l) := by
  unfold poly_Scale.all V sc
  rw [List.map_map, List.map_map]
  apply List.map_congr_left
  intro x _
  exact ETab.tm_v c x
theorem scale_V (c : F) (l : List F) (hs : Small l) : Ev (fun k => poly_Scale.f k (V l) (v c)) (V (trim (sc c l))) := by
  unfold poly_Scale.f
  rw [scale_all, V_length]
  exact Ev.pos (by omega) (cut_V _ (by unfold Small; rw [sc_length]; exact hs))
end Go.Proofs.Ytljkbkhaamlbmaa.T
/- What the printed divisions come to. -/
set_option linter.unusedVariables false
set_option linter.unusedSimpArgs false
namespace Go.Proofs.Ytljkbkhaamlbmaa.T
open Go.RowKit Go.Proofs.YtljkbkhaamlbmaaW.PrintWords Go.Proofs.YtljkbkhaamlbmaaW.PrintLast Go.Proofs.YtljkbkhaamlbmaaW.PrintMore Go.Proofs.Ytljkbkhaamlbmaa.Bits Go.Proofs.Ytljkbkhaamlbmaa GF PolyT
theorem mul_vE (a b : F) : Ev (fun k => gf_Mul.f k (v a) (v b)) (v (mul a b)) := Ev.from' 33 (mul_v a b)
theorem inverse_vE (a : F) : Ev (fun k => gf_Inverse.f k (v a)) (v (inv a)) := Ev.from' 98 (inverse_v a)
theorem dexit (b r q : List F) (hq : Small q) (hr : Small r) (x : Int) (i : Int) (h : ¬ i ≥ 0) : Ev (fun k => poly_Divide.l0 k (V b) (V r) (V q) x i) (V (trim q), V (trim r), none) := by
  refine Ev.succ ?_
  simp only [poly_Divide.l0]
  exact Ev.neg h (Ev.bind (cut_V q hq) (Ev.bind (cut_V r hr) Ev.some'))
theorem dloop (a b : List F) (m : Nat) (hb : len b = m + 1) (ht : Tr b) (hsb : Small b) : ∀ (n : Nat) (r q : List F), n ≤ q.length → Small q → (n ≠ 0 → n + m ≤ r.length) → Small r →
    (∀ j, n + m ≤ j → co r j = 0#32) → (∀ j, j < n → co q j = 0#32) → sadd (pr q b) (co r) = co a →
    ∃ q' r', Ev (fun k => poly_Divide.l0 k (V b) (V r) (V q) (v (inv (co b m))) ((n : Int) - 1)) (V q', V r', none) ∧ Tr q' ∧ Tr r' ∧ Quo a b q' r' ∧ q'.length ≤ q.length ∧ r'.length ≤ r.length := by
  intro n
  induction n with
  | zero =>
    intro r q hq hsq hr hsr h1 h2 h3
    refine ⟨trim q, trim r, dexit b r q hsq hsr _ _ (by omega), tr_trim q, tr_trim r, ⟨?_, ?_⟩, ?_, ?_⟩
    · rw [act_congr (co_trim q), show co (trim r) = co r from funext (co_trim r)]; exact h3
    · rw [len_trim, hb]
      rcases Nat.lt_or_ge (len r) (m + 1) with h | h
      · exact h
      · exfalso
        obtain ⟨p, hp⟩ : ∃ p, len r = p + 1 := ⟨len r - 1, by omega⟩
        exact co_top r p hp (h1 p (by omega))
    · rw [trim_length]; exact len_le q
    · rw [trim_length]; exact len_le r
  | succ n ih =>
    intro r q hq hsq hr hsr h1 h2 h3
    have hr' := hr (by omega)
    have hbl : b.length = m + 1 := by rw [← hb]; exact (tr_length ht).symm
    obtain ⟨t, htd⟩ : ∃ t, t = mul (co r (n + m)) (inv (co b m)) := ⟨_, rfl⟩
    have hc : co (q.set n t) n = t := by rw [co_set, if_pos ⟨rfl, by omega⟩]
    have htb : mul t (co b m) = co r (n + m) := by
      rw [htd, GF.mul_assoc, GF.mul_comm (inv _), GF.mul_inv (co_top b m hb), GF.mul_one]
    obtain ⟨r1, hp, hl1, hc1⟩ := put_V r b t n hsb (by omega) (by omega)
    have key : sadd (pr (q.set n t) b) (co r1) = co a := by
      rw [pr_set b t q n (by omega) (h2 n (by omega)), hc1, sadd_comm4, sadd_self, sadd_zero, h3]
    obtain ⟨q', r', he, x1, x2, x3, x4, x5⟩ := ih r1 (q.set n t) (by rw [List.length_set]; omega) (by rw [Small, List.length_set]; exact hsq) (by intro _; rw [hl1]; omega) (by rw [Small, hl1]; exact hsr)
      (by
        intro j hj
        rw [hc1]
        simp only [sadd, smul, shn]
        rw [if_pos (by omega)]
        by_cases e : j = n + m
        · subst e
          have : n + m - n = m := by omega
          rw [this, htb, BitVec.xor_self]
        · rw [h1 j (by omega), co_len b (j - n) (by omega), GF.mul_zero]; rfl)
      (by
        intro j hj
        rw [co_set, if_neg (by omega)]; exact h2 j (by omega)) key
    refine ⟨q', r', ?_, x1, x2, x3, by rw [List.length_set] at x4; exact x4, by rw [hl1] at x5; exact x5⟩
    have e1 : ((n + 1 : Nat) : Int) - 1 = (n : Int) := by omega
    have g0 : (n : Int) ≥ 0 := by omega
    have g1 : (0 : Int) ≤ ((n + m : Nat) : Int) := by omega
    have g2 : ((n + m : Nat) : Int) < (r.length : Int) := by omega
    have g3 : (n : Int) < (q.length : Int) := by omega
    have hw2 : wrap64 ((n : Int) - 1) = (n : Int) - 1 := by rw [wrap64_small] <;> omega
    have hw : wrap64 (wrap64 ((n : Int) + ((m + 1 : Nat) : Int)) - 1) = ((n + m : Nat) : Int) := by
      rw [wrap_nat (by omega), wrap64_small (by omega) (by omega)]; omega
    rw [e1]
    refine Ev.succ ?_
    simp only [poly_Divide.l0, V_length]
    rw [hbl, hw, hw2, rd_Vn, Int.toNat_natCast]
    refine Ev.pos g0 (Ev.pos g1 (Ev.pos g2 (Ev.bind (mul_vE _ _) (Ev.pos g0 (Ev.pos g3 (Ev.bind' rfl ?_))))))
    rw [← htd, V_set, rd_Vn, hc]
    exact Ev.bind hp he
theorem divide_V (a b : List F) (ha : Small a) (hb : Small b) (h : len b ≠ 0) :
    ∃ q r, Ev (fun k => poly_Divide.f k (V a) (V b)) (V q, V r, none) ∧ Tr q ∧ Tr r ∧ Quo a b q r ∧ q.length ≤ a.length ∧ r.length ≤ a.length := by
  obtain ⟨m, hm⟩ : ∃ m, len b = m + 1 := ⟨len b - 1, by omega⟩
  have la := len_le a
  have lb := len_le b
  have hz : (trim b).length = m + 1 := by rw [trim_length, hm]
  have hza : (trim a).length = len a := trim_length a
  have ct : co (trim b) = co b := funext (co_trim b)
  have cta : co (trim a) = co a := funext (co_trim a)
  have hloop : ∀ n : Nat, n = len a - m → ∃ q r, Ev (fun k => poly_Divide.l0 k (V (trim b)) (V (trim a)) (List.replicate n 0) (v (inv (co b m))) ((len a : Int) - ((m + 1 : Nat) : Int) + 1 - 1)) (V q, V r, none) ∧ Tr q ∧ Tr r ∧ Quo a b q r ∧ q.length ≤ a.length ∧ r.length ≤ a.length := by
    intro n hn
    rw [V_replicate]
    have hrep : pr (List.replicate n 0#32) (trim b) = fun _ => 0#32 := pr_zero_l _ (len_eq (fun i _ => co_replicate n i) (fun m hm => by omega))
    by_cases hlt : len a ≤ m
    · obtain rfl : n = 0 := by omega
      refine ⟨[], trim a, (dexit (trim b) (trim a) [] (by unfold Small; simp) (by unfold Small; omega) _ _ (by omega)).to ?_, rfl, tr_trim a, ⟨?_, ?_⟩, by simp, by omega⟩
      · have : trim (trim a) = trim a := trim_of_tr (tr_trim a)
        rw [this]; rfl
      · rw [pr_zero_l b rfl, zero_sadd, cta]
      · rw [len_trim]; omega
    · have e : (len a : Int) - ((m + 1 : Nat) : Int) + 1 - 1 = (n : Int) - 1 := by omega
      rw [e]
      obtain ⟨q, r, h1, h2, h3, h4, h5, h6⟩ := dloop a (trim b) m (by rw [len_trim, hm]) (tr_trim b) (by unfold Small; omega) n (trim a) (List.replicate n 0#32) (by simp) (by unfold Small; rw [List.length_replicate]; omega) (by intro _; omega) (by unfold Small; omega)
        (by intro j hj; rw [co_trim]; exact co_len a j (by omega)) (by intro j _; exact co_replicate n j) (by rw [hrep, zero_sadd, cta])
      rw [List.length_replicate] at h5
      rw [ct] at h1
      exact ⟨q, r, h1, h2, h3, h4.congr rfl ct.symm, by omega, by omega⟩
  obtain ⟨n, hn⟩ : ∃ n, n = len a - m := ⟨_, rfl⟩
  obtain ⟨q, r, hE, h2⟩ := hloop n hn
  refine ⟨q, r, ?_, h2⟩
  unfold poly_Divide.f
  refine Ev.bind (cut_V b hb) ?_
  rw [V_length, hz]
  refine Ev.neg (by omega) (Ev.bind (trim_V a ha) ?_)
  rw [V_length, hza]
  have hw1 : wrap64 ((len a : Int) - ((m + 1 : Nat) : Int)) = (len a : Int) - ((m + 1 : Nat) : Int) := wrap64_small (by omega) (by omega)
  have hw2 : wrap64 ((len a : Int) - ((m + 1 : Nat) : Int) + 1) = (len a : Int) - ((m + 1 : Nat) : Int) + 1 := wrap64_small (by omega) (by omega)
  have hw3 : wrap64 ((len a : Int) - ((m + 1 : Nat) : Int) + 1 - 1) = (len a : Int) - ((m + 1 : Nat) : Int) + 1 - 1 := wrap64_small (by omega) (by omega)
  have hw4 : wrap64 (((m + 1 : Nat) : Int) - 1) = (m : Int) := by rw [wrap64_small (by omega) (by omega)]; omega
  have hmx : mx 0 ((len a : Int) - ((m + 1 : Nat) : Int) + 1) = (n : Int) := by unfold mx; split <;> omega
  rw [hw1, hw2, hw3, hw4, hmx, Int.toNat_natCast, rd_Vn, co_trim]
  refine Ev.pos (by omega) (Ev.pos (by omega) (Ev.pos (by omega) (Ev.pos (by omega) (Ev.bind (inverse_vE _) hE))))
end Go.Proofs.Ytljkbkhaamlbmaa.T
/- What the printed divisions come to. -/
set_option linter.unusedVariables false
set_option linter.unusedSimpArgs false
namespace Go.Proofs.Ytljkbkhaamlbmaa.T
open Go.RowKit Go.Proofs.YtljkbkhaamlbmaaW.PrintWords Go.Proofs.YtljkbkhaamlbmaaW.PrintLast Go.Proofs.YtljkbkhaamlbmaaW.PrintMore Go.Proofs.Ytljkbkhaamlbmaa.Bits Go.Proofs.Ytljkbkhaamlbmaa GF PolyT
theorem monic_V (l : List F) (hs : Small l) : Ev (fun k => poly_Monic.f k (V l)) (V (monic l)) := by
  have hl := len_le l
  unfold poly_Monic.f
  refine Ev.bind (cut_V l hs) ?_
  rw [V_length, trim_length]
  by_cases h : len l = 0
  · refine Ev.pos (by omega) (Ev.some'.to ?_)
    unfold monic; rw [if_pos h]; rfl
  · obtain ⟨m, hm⟩ : ∃ m, len l = m + 1 := ⟨len l - 1, by omega⟩
    have hw4 : wrap64 ((len l : Int) - 1) = (m : Int) := by rw [wrap64_small (by omega) (by omega)]; omega
    rw [hw4, rd_Vn, co_trim]
    refine Ev.neg (by omega) (Ev.pos (by omega) (Ev.pos (by omega) (Ev.bind (inverse_vE _) (Ev.bind (scale_V _ _ (by unfold Small; rw [trim_length]; omega)) (Ev.some'.to ?_)))))
    have := tr_monic l
    have e : monic l = sc (inv (co l m)) (trim l) := by
      unfold monic; rw [if_neg h, hm]; rfl
    rw [← e, trim_of_tr this]
theorem common_loop : ∀ (n : Nat) (a b : List F), b.length < n → Tr b → Small a → Small b → ∃ g, Ev (fun k => poly_Common.l0 k (V a) (V b)) (V g) ∧ Gcd a b g := by
  intro n
  induction n with
  | zero => intro a b h; omega
  | succ n ih =>
    intro a b hn ht ha hb
    by_cases h : len b = 0
    · refine ⟨monic a, ?_, Gcd.done h⟩
      refine Ev.succ ?_
      simp only [poly_Common.l0]
      have hl := tr_length ht
      rw [V_length]
      exact Ev.neg (by omega) (Ev.bind (monic_V a ha) Ev.some')
    · obtain ⟨q, r, h1, h2, h3, h4, h5, h6⟩ := divide_V a b ha hb h
      have hrl := h4.2
      rw [tr_length h3, tr_length ht] at hrl
      have hl := tr_length ht
      obtain ⟨g, h7, h8⟩ := ih b r (by omega) h3 hb (by unfold Small at *; omega)
      refine ⟨g, ?_, Gcd.step h4 h8⟩
      refine Ev.succ ?_
      simp only [poly_Common.l0]
      rw [V_length]
      exact Ev.pos (by omega) (Ev.bind h1 (Ev.pos rfl h7))
theorem common_V (a b : List F) (ha : Small a) (hb : Small b) : ∃ g, Ev (fun k => poly_Common.f k (V a) (V b)) (V g) ∧ Gcd (trim a) (trim b) g := by
  have la := len_le a
  have lb := len_le b
  obtain ⟨g, h1, h2⟩ := common_loop ((trim b).length + 1) (trim a) (trim b) (by omega) (tr_trim b) (by unfold Small; rw [trim_length]; omega) (by unfold Small; rw [trim_length]; omega)
  refine ⟨g, ?_, h2⟩
  unfold poly_Common.f
  exact Ev.bind (cut_V a ha) (Ev.bind (cut_V b hb) h1)
end Go.Proofs.Ytljkbkhaamlbmaa.T
/- What the printed squares of polynomials come to. -/
set_option linter.unusedVariables false
set_option linter.unusedSimpArgs false
namespace Go.Proofs.Ytljkbkhaamlbmaa.T
open Go.RowKit Go.Proofs.YtljkbkhaamlbmaaW.PrintWords Go.Proofs.YtljkbkhaamlbmaaW.PrintLast Go.Proofs.YtljkbkhaamlbmaaW.PrintMore Go.Proofs.Ytljkbkhaamlbmaa.Bits Go.Proofs.Ytljkbkhaamlbmaa GF PolyT
theorem square_vE (a : F) : Ev (fun k => gf_Square.f k (v a)) (v (sq a)) := Ev.from' 33 (square_v a)
theorem sq_sofar (a t : List F) (h : ∀ p, co t (2 * p) = mul (co a p) (co a p) ∧ co t (2 * p + 1) = 0#32) : co t = pr a a := by
  funext j
  rcases Nat.mod_two_eq_zero_or_one j with e | e
  · obtain ⟨p, rfl⟩ : ∃ p, j = 2 * p := ⟨j / 2, by omega⟩
    rw [(h p).1, (pr_sq a p).1]
  · obtain ⟨p, rfl⟩ : ∃ p, j = 2 * p + 1 := ⟨j / 2, by omega⟩
    rw [(h p).2, (pr_sq a p).2]
theorem squared_loop (a b : List F) (ha : a.length < 2048) {R : List Int × Option Int} : ∀ (n i : Nat) (t : List F), i + n = a.length → t.length = 2 * a.length - 1 →
    (∀ p, co t (2 * p) = (if p < i then mul (co a p) (co a p) else 0#32) ∧ co t (2 * p + 1) = 0#32) →
    (∀ t, t.length = 2 * a.length - 1 → co t = pr a a → Ev (fun k => (poly_Divide.f k (V t) (V b)).bind fun bt => some (bt.2.1, bt.2.2)) R) →
    Ev (fun k => poly_Squared.l0 k (V b) (V t) (V a) (a.length : Int) (i : Int)) R := by
  intro n
  induction n with
  | zero =>
    intro i t hi ht hc hR
    refine Ev.succ ?_
    simp only [poly_Squared.l0]
    refine Ev.neg (by omega) (hR t ht (sq_sofar a t fun p => ⟨?_, (hc p).2⟩))
    rw [(hc p).1]
    by_cases h : p < i
    · rw [if_pos h]
    · rw [if_neg h, co_ge (by omega), GF.mul_zero]
  | succ n ih =>
    intro i t hi ht hc hR
    have hw2 : wrap64 ((i : Int) + 1) = ((i + 1 : Nat) : Int) := wrap_nat1 (by omega)
    have hw3 : wrap64 (2 * (i : Int)) = ((2 * i : Nat) : Int) := by rw [wrap64_small] <;> omega
    refine Ev.succ ?_
    simp only [poly_Squared.l0, V_length]
    rw [hw2, hw3, rd_Vn, Int.toNat_natCast]
    refine Ev.pos (by omega) (Ev.pos (by omega) (Ev.pos (by omega) (Ev.bind (square_vE _) (Ev.pos (by omega) (Ev.pos (by omega) ?_)))))
    rw [V_set]
    refine ih (i + 1) _ (by omega) (by rw [List.length_set]; exact ht) (fun p => ?_) hR
    rw [co_set, co_set]
    refine ⟨?_, by rw [if_neg (by omega)]; exact (hc p).2⟩
    by_cases e : p = i
    · subst e
      rw [if_pos ⟨rfl, by omega⟩, if_pos (by omega)]; rfl
    · rw [if_neg (by omega), (hc p).1]
      by_cases h : p < i
      · rw [if_pos h, if_pos (by omega)]
      · rw [if_neg h, if_neg (by omega)]
theorem squared_top (a b : List F) (ha : a.length < 2048) {R : List Int × Option Int}
    (hR : ∀ t, t.length = 2 * a.length - 1 → co t = pr a a → Ev (fun k => (poly_Divide.f k (V t) (V b)).bind fun bt => some (bt.2.1, bt.2.2)) R) :
    Ev (fun k => poly_Squared.f k (V a) (V b)) R := by
  unfold poly_Squared.f
  rw [V_length]
  have hmx : mx 0 (wrap64 (wrap64 (2 * (a.length : Int)) - 1)) = ((2 * a.length - 1 : Nat) : Int) := by
    have h1 : wrap64 (2 * (a.length : Int)) = 2 * (a.length : Int) := wrap64_small (by omega) (by omega)
    rw [h1, wrap64_small (by omega) (by omega)]
    unfold mx; split <;> omega
  rw [hmx, Int.toNat_natCast, V_replicate]
  refine Ev.pos (by omega) (Ev.pos (by omega) (squared_loop a b ha a.length 0 _ (by omega) (by simp) (fun p => ?_) hR))
  rw [co_replicate, co_replicate, if_neg (by omega)]; exact ⟨rfl, rfl⟩
theorem squared_V (a b : List F) (ha : a.length < 2048) (hb : Small b) (h : len b ≠ 0) :
    ∃ s, Ev (fun k => poly_Squared.f k (V a) (V b)) (V s, none) ∧ Tr s ∧ Small s ∧ ∃ c p, co c = pr a a ∧ Quo c b p s ∧ Tr p := by
  obtain ⟨c, hc, hl⟩ := of_fn (pr a a) (2 * a.length - 1) (fun i hi => by
    refine pr_high a a i ?_
    have := len_le a
    omega)
  obtain ⟨p, s, h1, h2, h3, h4, h5, h6⟩ := divide_V c b (by unfold Small; omega) hb h
  refine ⟨s, squared_top a b ha (fun t ht htc => ?_), h3, by unfold Small; omega, c, p, hc, h4, h2⟩
  have e : t = c := list_ext (by omega) (fun i => by rw [htc, hc])
  rw [e]
  exact Ev.bind h1 Ev.some'
end Go.Proofs.Ytljkbkhaamlbmaa.T
/- Lists of words that are the same. -/
set_option linter.unusedVariables false
set_option linter.unusedSimpArgs false
namespace Go.Proofs.Ytljkbkhaamlbmaa.T
open Go.RowKit Go.Proofs.YtljkbkhaamlbmaaW.PrintWords Go.Proofs.YtljkbkhaamlbmaaW.PrintLast Go.Proofs.YtljkbkhaamlbmaaW.PrintMore Go.Proofs.Ytljkbkhaamlbmaa.Bits Go.Proofs.Ytljkbkhaamlbmaa GF PolyT
theorem words_loop (l : List Int) (hs : l.length < 4096) : ∀ (n i : Nat), i + n = l.length → Ev (fun k => gossamernum_Words.l0 k l l (l.length : Int) (i : Int)) true := by
  intro n
  induction n with
  | zero =>
    intro i hi
    refine Ev.succ ?_
    simp only [gossamernum_Words.l0]
    exact Ev.neg (by omega) Ev.some'
  | succ n ih =>
    intro i hi
    refine Ev.succ ?_
    have hw2 : wrap64 ((i : Int) + 1) = ((i + 1 : Nat) : Int) := wrap_nat1 (by omega)
    simp only [gossamernum_Words.l0]
    rw [hw2]
    exact Ev.pos (by omega) (Ev.pos (by omega) (Ev.pos (by omega) (Ev.pos (by omega) (Ev.pos trivial (ih (i + 1) (by omega))))))
theorem words_self (l : List Int) (hs : l.length < 4096) : Ev (fun k => gossamernum_Words.f k l l) true := by
  unfold gossamernum_Words.f
  exact Ev.pos rfl (words_loop l hs l.length 0 (by omega))
theorem words_V {a b : List F} (h : a = b) (hs : Small a) : Ev (fun k => gossamernum_Words.f k (V a) (V b)) true := by
  subst h; exact words_self _ (by rw [V_length]; exact hs)
end Go.Proofs.Ytljkbkhaamlbmaa.T
/- What the printed polynomials of roots come to. -/
set_option linter.unusedVariables false
set_option linter.unusedSimpArgs false
namespace Go.Proofs.Ytljkbkhaamlbmaa.T
open Go.RowKit Go.Proofs.YtljkbkhaamlbmaaW.PrintWords Go.Proofs.YtljkbkhaamlbmaaW.PrintLast Go.Proofs.YtljkbkhaamlbmaaW.PrintMore Go.Proofs.Ytljkbkhaamlbmaa.Bits Go.Proofs.Ytljkbkhaamlbmaa GF PolyT
theorem from_loop (l : List F) (hs : Small l) (hl : l.length < 2048) : ∀ (n i : Nat) (p : List F), i + n = l.length → RootsOf (l.take i) p → ∃ q, Ev (fun k => poly_From.l0 k (V p) (V l) (l.length : Int) (i : Int)) (V q) ∧ RootsOf l q := by
  intro n
  induction n with
  | zero =>
    intro i p hi h
    rw [List.take_of_length_le (by omega)] at h
    refine ⟨p, ?_, h⟩
    refine Ev.succ ?_
    simp only [poly_From.l0]
    exact Ev.neg (by omega) Ev.some'
  | succ n ih =>
    intro i p hi h
    have hp := h.facts.2.1
    rw [List.length_take] at hp
    obtain ⟨c, c1, c2, c3, c4⟩ := mul_V p [co l i, 1#32] (by unfold Small at *; omega) (by unfold Small; simp)
    have hsn : RootsOf (l.take (i + 1)) c := by
      rw [List.take_succ_eq_append_getElem (by omega), ← co_lt (show i < l.length by omega)]
      exact .snoc h c3 c2
    obtain ⟨q, q1, q2⟩ := ih (i + 1) c (by omega) hsn
    refine ⟨q, ?_, q2⟩
    refine Ev.succ ?_
    simp only [poly_From.l0, V_length]
    rw [wrap_nat1 (by omega), rd_Vn]
    have e : [v (co l i), 1] = V [co l i, 1#32] := by
      simp only [V, List.map_cons, List.map_nil]; congr 2
    rw [e]
    exact Ev.pos (by omega) (Ev.pos (by omega) (Ev.pos (by omega) (Ev.bind c1 q1)))
theorem from_V (l : List F) (hl : l.length < 2048) : ∃ q, Ev (fun k => poly_From.f k (V l)) (V q) ∧ RootsOf l q := by
  obtain ⟨q, h1, h2⟩ := from_loop l (by unfold Small; omega) hl l.length 0 [1#32] (by omega) .nil
  refine ⟨q, ?_, h2⟩
  unfold poly_From.f
  rw [V_length]
  exact h1
end Go.Proofs.Ytljkbkhaamlbmaa.T
/- (only the trace) What the printed traces and solutions come to, at words that are spelled as bit vectors. -/
set_option linter.unusedVariables false
set_option linter.unusedSimpArgs false
namespace Go.Proofs.Ytljkbkhaamlbmaa.T
open Go.RowKit Go.Proofs.YtljkbkhaamlbmaaW.PrintWords Go.Proofs.YtljkbkhaamlbmaaW.PrintLast Go.Proofs.YtljkbkhaamlbmaaW.PrintMore Go.Proofs.Ytljkbkhaamlbmaa.Bits Go.Proofs.Ytljkbkhaamlbmaa
theorem trace_loop : ∀ (n : Nat) (a o : BitVec 32) (i : Int), n ≤ 32 → i + n = 32 → ∀ k, 33 + n < k → gf_Trace.l0 k (v a) (v o) i = some (v (GF.trN n a o)) := by
  intro n
  induction n with
  | zero =>
    intro a o i _ hi k hk
    obtain ⟨k, rfl⟩ : ∃ m, k = m + 1 := ⟨k - 1, by omega⟩
    simp only [gf_Trace.l0]; rw [if_neg (by omega)]; rfl
  | succ n ih =>
    intro a o i hn hi k hk
    obtain ⟨k, rfl⟩ : ∃ m, k = m + 1 := ⟨k - 1, by omega⟩
    have hw : wrap64 (i + 1) = i + 1 := wrap64_small (by omega) (by omega)
    simp only [gf_Trace.l0]
    rw [if_pos (by omega), square_v a k (by omega), Option.bind_some, hw, xor_v, ih (GF.sq a) (o ^^^ a) (i + 1) (by omega) (by omega) k (by omega)]; rfl
theorem trace_v (a : BitVec 32) (k : Nat) (hk : 66 ≤ k) : gf_Trace.f k (v a) = some (v (GF.tr a)) :=
  trace_loop 32 a 0#32 0 (by omega) (by omega) k (by omega)
end Go.Proofs.Ytljkbkhaamlbmaa.T
