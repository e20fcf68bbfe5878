/- What the printed functions of the document's field come to, at words that are spelled as bit vectors: inverses. -/
import Derived.Test.YtljkbkhaamlbmaaTx8
import Derived.Test.YtljkbkhaamlbmaaCGfRefM
import Derived.Test.YtljkbkhaamlbmaaBits
set_option linter.unusedVariables false
set_option linter.unusedSimpArgs false
namespace Go.Proofs.Ytljkbkhaamlbmaa.T
open Go.RowKit Go.Proofs.YtljkbkhaamlbmaaW.PrintWords Go.Proofs.YtljkbkhaamlbmaaW.PrintLast Go.Proofs.YtljkbkhaamlbmaaW.PrintMore Go.Proofs.Ytljkbkhaamlbmaa.Bits Go.Proofs.Ytljkbkhaamlbmaa
def bitlen (n : Nat) : Nat := if n = 0 then 0 else n.log2 + 1
theorem bitlen_half {n : Nat} (h : 0 < n) : bitlen n = bitlen (n / 2) + 1 := by
  unfold bitlen
  rw [if_neg (by omega)]
  by_cases h2 : n / 2 = 0
  · rw [if_pos h2]
    have : n = 1 := by omega
    subst this; decide
  · rw [if_neg h2]
    have : n.log2 = (n / 2).log2 + 1 := by rw [Nat.log2_def, if_pos (by omega)]
    rw [this]
theorem degree_loop : ∀ (m n : Nat) (j : Int), n < 2 ^ m → n < 18446744073709551616 → -1 ≤ j → j + m ≤ 1000 → ∀ k, m < k → gossamerref01_degree.l0 k (n : Int) j = some (j + bitlen n) := by
  intro m
  induction m with
  | zero =>
    intro n j hn _ h0 h1 k hk
    obtain ⟨k, rfl⟩ : ∃ m, k = m + 1 := ⟨k - 1, by omega⟩
    obtain rfl : n = 0 := by simpa using hn
    simp only [gossamerref01_degree.l0]; rw [if_neg (by omega)]; simp [bitlen]
  | succ m ih =>
    intro n j hn hb h0 h1 k hk
    obtain ⟨k, rfl⟩ : ∃ m, k = m + 1 := ⟨k - 1, by omega⟩
    simp only [gossamerref01_degree.l0]
    by_cases hz : n = 0
    · subst hz; rw [if_neg (by omega)]; simp [bitlen]
    · have hn2 : n / 2 < 2 ^ m := by rw [Nat.pow_succ] at hn; omega
      have hw : wrap64 (j + 1) = j + 1 := wrap64_small (by omega) (by omega)
      rw [if_pos (by omega), tdiv2, wrapu_nat (by omega), hw, ih (n / 2) (j + 1) hn2 (by omega) (by omega) (by omega) k (by omega), bitlen_half (n := n) (by omega)]
      congr 1; omega
theorem degree_q (x : BitVec 64) (k : Nat) (hk : 65 ≤ k) : gossamerref01_degree.f k (q x) = some (if x.toNat = 0 then -1 else (x.toNat.log2 : Int)) := by
  have := degree_loop 64 x.toNat (-1) x.isLt x.isLt (by omega) (by omega) k (by omega)
  unfold gossamerref01_degree.f q
  rw [this]; congr 1
  unfold bitlen
  split <;> omega
theorem inverse_loop {a : BitVec 32} (ha : a ≠ 0#32) : ∀ (m : Nat) (u w x y : BitVec 64), u.toNat.log2 + w.toNat.log2 < m → GF.Euc a u w x y → ∀ k, 65 + m < k →
    gossamerref01_Inverse.l0 k (q u) (q w) (q x) (q y) = some (v (GF.inv a)) := by
  intro m
  induction m with
  | zero => intro u w x y h; omega
  | succ m ih =>
    intro u w x y hm he k hk
    obtain ⟨k, rfl⟩ : ∃ m, k = m + 1 := ⟨k - 1, by omega⟩
    have hv1 := he.v1
    have htop := he.top
    have hv0 := he.v0
    have hwb : w.toNat < 2 ^ 33 := Nat.lt_of_lt_of_le (GF.lt_of_log2 (k := 32) (by omega)) (by decide)
    simp only [gossamerref01_Inverse.l0]
    rw [degree_q u k (by omega), degree_q w k (by omega)]
    simp only [Option.bind_some]
    rw [if_neg hv0]
    by_cases hu : u.toNat ≤ 1
    · have hl : u.toNat.log2 = 0 := by
        have : u.toNat = 0 ∨ u.toNat = 1 := by omega
        rcases this with e | e <;> rw [e] <;> decide
      have : ¬ ((if u.toNat = 0 then (-1 : Int) else (u.toNat.log2 : Int)) > 0) := by rw [hl]; split <;> omega
      rw [if_neg this, rest_q x k (by omega), GF.euc_last ha he hu]; rfl
    · have hu0 : u.toNat ≠ 0 := by omega
      have hu1 : 1 ≤ u.toNat.log2 := (Nat.le_log2 hu0).2 (by omega)
      have hub : u.toNat.log2 < 33 := GF.log2_lt_of he.ub hu0
      rw [if_neg hu0, if_pos (by omega)]
      by_cases hlt : u.toNat.log2 < w.toNat.log2
      · have hd : IntKind.u64.wrap (wrap64 ((w.toNat.log2 : Int) - (u.toNat.log2 : Int))) = ((w.toNat.log2 - u.toNat.log2 : Nat) : Int) := by
          rw [wrap64_small (by omega) (by omega), wrap_u64]; omega
        rw [if_pos (by omega), hd, if_pos (by omega), shl_q u _ (by omega), shl_q x _ (by omega), xor_q, xor_q]
        have st := GF.euc_step he.hv he.hu hv0 hu0 (by omega) hu1 hwb
          (.inr ⟨he.x0, htop, by
            rcases he.low with h | h | h
            · exact .inl h
            · exact absurd h hu0
            · exact .inr h⟩)
        refine ih _ _ _ _ ?_ st.1 k (by omega)
        rcases st.2.1 with h | h
        · rw [h, show Nat.log2 0 = 0 by decide]; omega
        · omega
      · have hd : IntKind.u64.wrap (wrap64 ((u.toNat.log2 : Int) - (w.toNat.log2 : Int))) = ((u.toNat.log2 - w.toNat.log2 : Nat) : Int) := by
          rw [wrap64_small (by omega) (by omega), wrap_u64]; omega
        rw [if_neg (by omega), hd, if_pos (by omega), shl_q w _ (by omega), shl_q y _ (by omega), xor_q, xor_q]
        have st := GF.euc_step he.hu he.hv hu0 hv0 (by omega) hv1 he.ub
          (.inl ⟨he.x0, htop, by
            rcases he.low with h | h | h
            · exact .inl h
            · exact absurd h hu0
            · exact .inr h⟩)
        refine ih _ _ _ _ ?_ st.1 k (by omega)
        rcases st.2.1 with h | h
        · rw [h, show Nat.log2 0 = 0 by decide]; omega
        · omega
theorem rinverse_v (a : BitVec 32) (k : Nat) (hk : 140 ≤ k) : gossamerref01_Inverse.f k (v a) = some (v (GF.inv a)) := by
  unfold gossamerref01_Inverse.f
  by_cases h : v a = 0
  · have : a = 0#32 := v_inj.mp h
    rw [if_pos h, this, GF.inv_zero]; rfl
  · have ha : a ≠ 0#32 := fun e => h (by rw [e]; rfl)
    rw [if_neg h, wide_q]
    have hm : (GF.wide a).toNat.log2 + GF.md.toNat.log2 < 65 := by
      have h1 : (GF.wide a).toNat.log2 ≤ 31 := by
        rw [GF.toNat_wide]
        by_cases e : a.toNat = 0
        · rw [e]; decide
        · have := GF.log2_lt_of a.isLt e; omega
      have h2 : GF.md.toNat.log2 = 32 := by decide +kernel
      omega
    exact inverse_loop ha 65 (GF.wide a) GF.md 1#64 0#64 hm (GF.euc_first a ha) k (by omega)
end Go.Proofs.Ytljkbkhaamlbmaa.T
