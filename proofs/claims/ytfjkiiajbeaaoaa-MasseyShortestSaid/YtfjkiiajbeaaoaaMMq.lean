/- What the printed functions of the document's field come to, at words that are spelled as bit vectors: products. -/
import Derived.Test.YtfjkiiajbeaaoaaQx1
import Derived.Test.YtfjkiiajbeaaoaaGFRef
import Derived.Test.YtfjkiiajbeaaoaaBits
import Derived.Test.YtfjkiiajbeaaoaaQx2
set_option linter.unusedVariables false
set_option linter.unusedSimpArgs false
namespace Go.Proofs.Ytfjkiiajbeaaoaa.Q
open Go.RowKit Go.Proofs.YtfjkiiajbeaaoaaW.PrintWords Go.Proofs.YtfjkiiajbeaaoaaW.PrintLast Go.Proofs.YtfjkiiajbeaaoaaW.PrintMore Go.Proofs.Ytfjkiiajbeaaoaa.Bits Go.Proofs.Ytfjkiiajbeaaoaa
theorem tmod_q (x : BitVec 64) : Int.tmod (q x) 2 = q x % 2 := Int.tmod_eq_emod_of_nonneg (q_lt x).1
theorem tmod_v (x : BitVec 32) : Int.tmod (v x) 2 = v x % 2 := Int.tmod_eq_emod_of_nonneg (v_lt x).1
theorem wrapu_nat {n : Nat} (h : n < 18446744073709551616) : IntKind.u64.wrap (n : Int) = (n : Int) := by rw [wrap_u64]; omega
theorem bitv_q (x : BitVec 32) (i : Nat) : v (x >>> i) % 2 = if x.getLsbD i then 1 else 0 := by
  have e : v (x >>> i) % 2 = ((x.toNat / 2 ^ i % 2 : Nat) : Int) := by
    unfold v
    rw [BitVec.toNat_ushiftRight, Nat.shiftRight_eq_div_pow]
    exact emod_cast _ 2
  rw [e, BitVec.getLsbD, Nat.testBit_eq_decide_div_mod_eq]
  by_cases h : x.toNat / 2 ^ i % 2 = 1
  · simp [h]
  · have h0 : x.toNat / 2 ^ i % 2 = 0 := by omega
    simp [h0]
theorem rest_loop : ∀ (n : Nat) (a : BitVec 64) (i : Int), n ≤ 32 → i = 31 + (n : Int) → ∀ k, n < k → gossamerref01_rest.l0 k (q a) i = some (v ((GF.restH n a).setWidth 32)) := by
  intro n
  induction n with
  | zero =>
    intro a i _ hi k hk
    obtain ⟨k, rfl⟩ : ∃ m, k = m + 1 := ⟨k - 1, by omega⟩
    simp only [gossamerref01_rest.l0]; rw [if_neg (by omega)]
    congr 1
  | succ n ih =>
    intro a i hn hi k hk
    obtain ⟨k, rfl⟩ : ∃ m, k = m + 1 := ⟨k - 1, by omega⟩
    obtain rfl : i = ((32 + n : Nat) : Int) := by omega
    have hw : wrap64 (((32 + n : Nat) : Int) - 1) = 31 + (n : Int) := by rw [wrap64_small] <;> omega
    have hw2 : IntKind.u64.wrap (wrap64 (((32 + n : Nat) : Int) - 32)) = (n : Int) := by rw [wrap64_small (by omega) (by omega), wrap_u64]; omega
    have em : (4294967437 : Int) = q 4294967437#64 := by decide
    simp only [gossamerref01_rest.l0]
    rw [if_pos (by omega), wrapu_nat (n := 32 + n) (by omega), if_pos (by omega), shr_q a (32 + n) (by omega), tmod_q, bit_q, hw, hw2, em, shl_q _ n (by omega), xor_q]
    simp only [GF.restH]
    have h0 : (0 : Int) ≤ (n : Int) := by omega
    rw [if_pos h0, ih _ _ (by omega) rfl k (by omega), ih _ _ (by omega) rfl k (by omega)]
    cases a.getLsbD (32 + n)
    · rw [if_neg (by decide)]; simp
    · rw [if_pos (by decide)]; rfl
theorem rest_q (a : BitVec 64) (k : Nat) (hk : 33 ≤ k) : gossamerref01_rest.f k (q a) = some (v (GF.rest a)) :=
  rest_loop 32 a 63 (by omega) (by omega) k (by omega)
theorem wide_q (a : BitVec 32) : IntKind.u64.wrap (v a) = q (GF.wide a) := by
  rw [wrap_u64]; unfold q; rw [GF.toNat_wide]; unfold v; have := a.isLt; omega
theorem rmul_loop (a b : BitVec 32) : ∀ (n i : Nat), i + n = 32 → ∀ k, n + 33 < k → gossamerref01_Mul.l0 k (v a) (v b) (q (GF.clN a b i)) (i : Int) = some (v (GF.mul a b)) := by
  intro n
  induction n with
  | zero =>
    intro i hi k hk
    obtain ⟨k, rfl⟩ : ∃ m, k = m + 1 := ⟨k - 1, by omega⟩
    obtain rfl : i = 32 := by omega
    simp only [gossamerref01_Mul.l0]; rw [if_neg (by omega), rest_q _ k (by omega), GF.rest_cl]; rfl
  | succ n ih =>
    intro i hi k hk
    obtain ⟨k, rfl⟩ : ∃ m, k = m + 1 := ⟨k - 1, by omega⟩
    have hw : wrap64 ((i : Int) + 1) = ((i + 1 : Nat) : Int) := by rw [wrap64_small] <;> omega
    simp only [gossamerref01_Mul.l0]
    rw [if_pos (by omega), wrapu_nat (n := i) (by omega), if_pos (by omega), shr_v b i (by omega), tmod_v, bitv_q, hw, wide_q, shl_q _ i (by omega), xor_q]
    have := ih (i + 1) (by omega) k (by omega)
    simp only [GF.clN] at this
    cases hb : b.getLsbD i
    · rw [if_neg (by decide)]; rw [hb] at this; simpa using this
    · rw [if_pos (by decide)]; rw [hb] at this; exact this
theorem rmul_v (a b : BitVec 32) (k : Nat) (hk : 66 ≤ k) : gossamerref01_Mul.f k (v a) (v b) = some (v (GF.mul a b)) :=
  rmul_loop a b 32 0 (by omega) k (by omega)
theorem tdiv2 (n : Nat) : Int.tdiv (n : Int) 2 = ((n / 2 : Nat) : Int) := by rw [Int.tdiv_eq_ediv_of_nonneg (by omega)]; exact ediv_cast n 2
theorem tmod2 (n : Nat) : Int.tmod (n : Int) 2 = ((n % 2 : Nat) : Int) := by rw [Int.tmod_eq_emod_of_nonneg (by omega)]; exact emod_cast n 2
end Go.Proofs.Ytfjkiiajbeaaoaa.Q
/- What the printed functions of the document's field come to, at words that are spelled as bit vectors: inverses. -/
set_option linter.unusedVariables false
set_option linter.unusedSimpArgs false
namespace Go.Proofs.Ytfjkiiajbeaaoaa.Q
open Go.RowKit Go.Proofs.YtfjkiiajbeaaoaaW.PrintWords Go.Proofs.YtfjkiiajbeaaoaaW.PrintLast Go.Proofs.YtfjkiiajbeaaoaaW.PrintMore Go.Proofs.Ytfjkiiajbeaaoaa.Bits Go.Proofs.Ytfjkiiajbeaaoaa
/-- how many bits a number has -/
def bitlen (n : Nat) : Nat := if n = 0 then 0 else n.log2 + 1
theorem bitlen_half {n : Nat} (h : 0 < n) : bitlen n = bitlen (n / 2) + 1 := by
  unfold bitlen
  rw [if_neg (by omega)]
  by_cases h2 : n / 2 = 0
  · rw [if_pos h2]
    have : n = 1 := by omega
    subst this; decide
  · rw [if_neg h2]
    have : n.log2 = (n / 2).log2 + 1 := by rw [Nat.log2_def, if_pos (by omega)]
    rw [this]
theorem degree_loop : ∀ (m n : Nat) (j : Int), n < 2 ^ m → n < 18446744073709551616 → -1 ≤ j → j + m ≤ 1000 → ∀ k, m < k → gossamerref01_degree.l0 k (n : Int) j = some (j + bitlen n) := by
  intro m
  induction m with
  | zero =>
    intro n j hn _ h0 h1 k hk
    obtain ⟨k, rfl⟩ : ∃ m, k = m + 1 := ⟨k - 1, by omega⟩
    obtain rfl : n = 0 := by simpa using hn
    simp only [gossamerref01_degree.l0]; rw [if_neg (by omega)]; simp [bitlen]
  | succ m ih =>
    intro n j hn hb h0 h1 k hk
    obtain ⟨k, rfl⟩ : ∃ m, k = m + 1 := ⟨k - 1, by omega⟩
    simp only [gossamerref01_degree.l0]
    by_cases hz : n = 0
    · subst hz; rw [if_neg (by omega)]; simp [bitlen]
    · have hn2 : n / 2 < 2 ^ m := by rw [Nat.pow_succ] at hn; omega
      have hw : wrap64 (j + 1) = j + 1 := wrap64_small (by omega) (by omega)
      rw [if_pos (by omega), tdiv2, wrapu_nat (by omega), hw, ih (n / 2) (j + 1) hn2 (by omega) (by omega) (by omega) k (by omega), bitlen_half (n := n) (by omega)]
      congr 1; omega
theorem degree_q (x : BitVec 64) (k : Nat) (hk : 65 ≤ k) : gossamerref01_degree.f k (q x) = some (if x.toNat = 0 then -1 else (x.toNat.log2 : Int)) := by
  have := degree_loop 64 x.toNat (-1) x.isLt x.isLt (by omega) (by omega) k (by omega)
  unfold gossamerref01_degree.f q
  rw [this]; congr 1
  unfold bitlen
  split <;> omega
theorem inverse_loop {a : BitVec 32} (ha : a ≠ 0#32) : ∀ (m : Nat) (u w x y : BitVec 64), u.toNat.log2 + w.toNat.log2 < m → GF.Euc a u w x y → ∀ k, 65 + m < k →
    gossamerref01_Inverse.l0 k (q u) (q w) (q x) (q y) = some (v (GF.inv a)) := by
  intro m
  induction m with
  | zero => intro u w x y h; omega
  | succ m ih =>
    intro u w x y hm he k hk
    obtain ⟨k, rfl⟩ : ∃ m, k = m + 1 := ⟨k - 1, by omega⟩
    have hv1 := he.v1
    have htop := he.top
    have hv0 := he.v0
    have hwb : w.toNat < 2 ^ 33 := Nat.lt_of_lt_of_le (GF.lt_of_log2 (k := 32) (by omega)) (by decide)
    simp only [gossamerref01_Inverse.l0]
    rw [degree_q u k (by omega), degree_q w k (by omega)]
    simp only [Option.bind_some]
    rw [if_neg hv0]
    by_cases hu : u.toNat ≤ 1
    · have hl : u.toNat.log2 = 0 := by
        have : u.toNat = 0 ∨ u.toNat = 1 := by omega
        rcases this with e | e <;> rw [e] <;> decide
      have : ¬ ((if u.toNat = 0 then (-1 : Int) else (u.toNat.log2 : Int)) > 0) := by rw [hl]; split <;> omega
      rw [if_neg this, rest_q x k (by omega), GF.euc_last ha he hu]; rfl
    · have hu0 : u.toNat ≠ 0 := by omega
      have hu1 : 1 ≤ u.toNat.log2 := (Nat.le_log2 hu0).2 (by omega)
      have hub : u.toNat.log2 < 33 := GF.log2_lt_of he.ub hu0
      rw [if_neg hu0, if_pos (by omega)]
      by_cases hlt : u.toNat.log2 < w.toNat.log2
      · have hd : IntKind.u64.wrap (wrap64 ((w.toNat.log2 : Int) - (u.toNat.log2 : Int))) = ((w.toNat.log2 - u.toNat.log2 : Nat) : Int) := by
          rw [wrap64_small (by omega) (by omega), wrap_u64]; omega
        rw [if_pos (by omega), hd, if_pos (by omega), shl_q u _ (by omega), shl_q x _ (by omega), xor_q, xor_q]
        have st := GF.euc_step he.hv he.hu hv0 hu0 (by omega) hu1 hwb
          (.inr ⟨he.x0, htop, by
            rcases he.low with h | h | h
            · exact .inl h
            · exact absurd h hu0
            · exact .inr h⟩)
        refine ih _ _ _ _ ?_ st.1 k (by omega)
        rcases st.2.1 with h | h
        · rw [h, show Nat.log2 0 = 0 by decide]; omega
        · omega
      · have hd : IntKind.u64.wrap (wrap64 ((u.toNat.log2 : Int) - (w.toNat.log2 : Int))) = ((u.toNat.log2 - w.toNat.log2 : Nat) : Int) := by
          rw [wrap64_small (by omega) (by omega), wrap_u64]; omega
        rw [if_neg (by omega), hd, if_pos (by omega), shl_q w _ (by omega), shl_q y _ (by omega), xor_q, xor_q]
        have st := GF.euc_step he.hu he.hv hu0 hv0 (by omega) hv1 he.ub
          (.inl ⟨he.x0, htop, by
            rcases he.low with h | h | h
            · exact .inl h
            · exact absurd h hu0
            · exact .inr h⟩)
        refine ih _ _ _ _ ?_ st.1 k (by omega)
        rcases st.2.1 with h | h
        · rw [h, show Nat.log2 0 = 0 by decide]; omega
        · omega
theorem rinverse_v (a : BitVec 32) (k : Nat) (hk : 140 ≤ k) : gossamerref01_Inverse.f k (v a) = some (v (GF.inv a)) := by
  unfold gossamerref01_Inverse.f
  by_cases h : v a = 0
  · have : a = 0#32 := v_inj.mp h
    rw [if_pos h, this, GF.inv_zero]; rfl
  · have ha : a ≠ 0#32 := fun e => h (by rw [e]; rfl)
    rw [if_neg h, wide_q]
    have hm : (GF.wide a).toNat.log2 + GF.md.toNat.log2 < 65 := by
      have h1 : (GF.wide a).toNat.log2 ≤ 31 := by
        rw [GF.toNat_wide]
        by_cases e : a.toNat = 0
        · rw [e]; decide
        · have := GF.log2_lt_of a.isLt e; omega
      have h2 : GF.md.toNat.log2 = 32 := by decide +kernel
      omega
    exact inverse_loop ha 65 (GF.wide a) GF.md 1#64 0#64 hm (GF.euc_first a ha) k (by omega)
end Go.Proofs.Ytfjkiiajbeaaoaa.Q
