/- What the printed functions of the document's field come to, at words that are spelled as bit vectors: products. -/
import Derived.Test.YtljkbkhaamlbmaaRx8
import Derived.Test.YtljkbkhaamlbmaaGFRef
import Derived.Test.YtljkbkhaamlbmaaBits
import Derived.Test.YtljkbkhaamlbmaaRx9
import Derived.Test.YtljkbkhaamlbmaaMCp
import Derived.Test.YtljkbkhaamlbmaaRx10
import Derived.Test.YtljkbkhaamlbmaaRx11
import Derived.Test.YtljkbkhaamlbmaaMRt
set_option linter.unusedVariables false
set_option linter.unusedSimpArgs false
namespace Go.Proofs.Ytljkbkhaamlbmaa.R
open Go.RowKit Go.Proofs.YtljkbkhaamlbmaaW.PrintWords Go.Proofs.YtljkbkhaamlbmaaW.PrintLast Go.Proofs.YtljkbkhaamlbmaaW.PrintMore Go.Proofs.Ytljkbkhaamlbmaa.Bits Go.Proofs.Ytljkbkhaamlbmaa
theorem tmod_q (x : BitVec 64) : Int.tmod (q x) 2 = q x % 2 := Int.tmod_eq_emod_of_nonneg (q_lt x).1
theorem tmod_v (x : BitVec 32) : Int.tmod (v x) 2 = v x % 2 := Int.tmod_eq_emod_of_nonneg (v_lt x).1
theorem wrapu_nat {n : Nat} (h : n < 18446744073709551616) : IntKind.u64.wrap (n : Int) = (n : Int) := by rw [wrap_u64]; omega
theorem bitv_q (x : BitVec 32) (i : Nat) : v (x >>> i) % 2 = if x.getLsbD i then 1 else 0 := by
  have e : v (x >>> i) % 2 = ((x.toNat / 2 ^ i % 2 : Nat) : Int) := by
    unfold v
    rw [BitVec.toNat_ushiftRight, Nat.shiftRight_eq_div_pow]
    exact emod_cast _ 2
  rw [e, BitVec.getLsbD, Nat.testBit_eq_decide_div_mod_eq]
  by_cases h : x.toNat / 2 ^ i % 2 = 1
  · simp [h]
  · have h0 : x.toNat / 2 ^ i % 2 = 0 := by omega
    simp [h0]
theorem rest_loop : ∀ (n : Nat) (a : BitVec 64) (i : Int), n ≤ 32 → i = 31 + (n : Int) → ∀ k, n < k → gossamerref01_rest.l0 k (q a) i = some (v ((GF.restH n a).setWidth 32)) := by
  intro n
  induction n with
  | zero =>
    intro a i _ hi k hk
    obtain ⟨k, rfl⟩ : ∃ m, k = m + 1 := ⟨k - 1, by omega⟩
    simp only [gossamerref01_rest.l0]; rw [if_neg (by omega)]
    congr 1
  | succ n ih =>
    intro a i hn hi k hk
    obtain ⟨k, rfl⟩ : ∃ m, k = m + 1 := ⟨k - 1, by omega⟩
    obtain rfl : i = ((32 + n : Nat) : Int) := by omega
    have hw : wrap64 (((32 + n : Nat) : Int) - 1) = 31 + (n : Int) := by rw [wrap64_small] <;> omega
    have hw2 : IntKind.u64.wrap (wrap64 (((32 + n : Nat) : Int) - 32)) = (n : Int) := by rw [wrap64_small (by omega) (by omega), wrap_u64]; omega
    have em : (4294967437 : Int) = q 4294967437#64 := by decide
    simp only [gossamerref01_rest.l0]
    rw [if_pos (by omega), wrapu_nat (n := 32 + n) (by omega), if_pos (by omega), shr_q a (32 + n) (by omega), tmod_q, bit_q, hw, hw2, em, shl_q _ n (by omega), xor_q]
    simp only [GF.restH]
    have h0 : (0 : Int) ≤ (n : Int) := by omega
    rw [if_pos h0, ih _ _ (by omega) rfl k (by omega), ih _ _ (by omega) rfl k (by omega)]
    cases a.getLsbD (32 + n)
    · rw [if_neg (by decide)]; simp
    · rw [if_pos (by decide)]; rfl
theorem rest_q (a : BitVec 64) (k : Nat) (hk : 33 ≤ k) : gossamerref01_rest.f k (q a) = some (v (GF.rest a)) :=
  rest_loop 32 a 63 (by omega) (by omega) k (by omega)
theorem wide_q (a : BitVec 32) : IntKind.u64.wrap (v a) = q (GF.wide a) := by
  rw [wrap_u64]; unfold q; rw [GF.toNat_wide]; unfold v; have := a.isLt; omega
theorem rmul_loop (a b : BitVec 32) : ∀ (n i : Nat), i + n = 32 → ∀ k, n + 33 < k → gossamerref01_Mul.l0 k (v a) (v b) (q (GF.clN a b i)) (i : Int) = some (v (GF.mul a b)) := by
  intro n
  induction n with
  | zero =>
    intro i hi k hk
    obtain ⟨k, rfl⟩ : ∃ m, k = m + 1 := ⟨k - 1, by omega⟩
    obtain rfl : i = 32 := by omega
    simp only [gossamerref01_Mul.l0]; rw [if_neg (by omega), rest_q _ k (by omega), GF.rest_cl]; rfl
  | succ n ih =>
    intro i hi k hk
    obtain ⟨k, rfl⟩ : ∃ m, k = m + 1 := ⟨k - 1, by omega⟩
    have hw : wrap64 ((i : Int) + 1) = ((i + 1 : Nat) : Int) := by rw [wrap64_small] <;> omega
    simp only [gossamerref01_Mul.l0]
    rw [if_pos (by omega), wrapu_nat (n := i) (by omega), if_pos (by omega), shr_v b i (by omega), tmod_v, bitv_q, hw, wide_q, shl_q _ i (by omega), xor_q]
    have := ih (i + 1) (by omega) k (by omega)
    simp only [GF.clN] at this
    cases hb : b.getLsbD i
    · rw [if_neg (by decide)]; rw [hb] at this; simpa using this
    · rw [if_pos (by decide)]; rw [hb] at this; exact this
theorem rmul_v (a b : BitVec 32) (k : Nat) (hk : 66 ≤ k) : gossamerref01_Mul.f k (v a) (v b) = some (v (GF.mul a b)) :=
  rmul_loop a b 32 0 (by omega) k (by omega)
theorem tdiv2 (n : Nat) : Int.tdiv (n : Int) 2 = ((n / 2 : Nat) : Int) := by rw [Int.tdiv_eq_ediv_of_nonneg (by omega)]; exact ediv_cast n 2
end Go.Proofs.Ytljkbkhaamlbmaa.R
/- What the printed functions of the document's field come to, at words that are spelled as bit vectors: inverses. -/
set_option linter.unusedVariables false
set_option linter.unusedSimpArgs false
namespace Go.Proofs.Ytljkbkhaamlbmaa.R
open Go.RowKit Go.Proofs.YtljkbkhaamlbmaaW.PrintWords Go.Proofs.YtljkbkhaamlbmaaW.PrintLast Go.Proofs.YtljkbkhaamlbmaaW.PrintMore Go.Proofs.Ytljkbkhaamlbmaa.Bits Go.Proofs.Ytljkbkhaamlbmaa
def bitlen (n : Nat) : Nat := if n = 0 then 0 else n.log2 + 1
theorem bitlen_half {n : Nat} (h : 0 < n) : bitlen n = bitlen (n / 2) + 1 := by
  unfold bitlen
  rw [if_neg (by omega)]
  by_cases h2 : n / 2 = 0
  · rw [if_pos h2]
    have : n = 1 := by omega
    subst this; decide
  · rw [if_neg h2]
    have : n.log2 = (n / 2).log2 + 1 := by rw [Nat.log2_def, if_pos (by omega)]
    rw [this]
theorem degree_loop : ∀ (m n : Nat) (j : Int), n < 2 ^ m → n < 18446744073709551616 → -1 ≤ j → j + m ≤ 1000 → ∀ k, m < k → gossamerref01_degree.l0 k (n : Int) j = some (j + bitlen n) := by
  intro m
  induction m with
  | zero =>
    intro n j hn _ h0 h1 k hk
    obtain ⟨k, rfl⟩ : ∃ m, k = m + 1 := ⟨k - 1, by omega⟩
    obtain rfl : n = 0 := by simpa using hn
    simp only [gossamerref01_degree.l0]; rw [if_neg (by omega)]; simp [bitlen]
  | succ m ih =>
    intro n j hn hb h0 h1 k hk
    obtain ⟨k, rfl⟩ : ∃ m, k = m + 1 := ⟨k - 1, by omega⟩
    simp only [gossamerref01_degree.l0]
    by_cases hz : n = 0
    · subst hz; rw [if_neg (by omega)]; simp [bitlen]
    · have hn2 : n / 2 < 2 ^ m := by rw [Nat.pow_succ] at hn; omega
      have hw : wrap64 (j + 1) = j + 1 := wrap64_small (by omega) (by omega)
      rw [if_pos (by omega), tdiv2, wrapu_nat (by omega), hw, ih (n / 2) (j + 1) hn2 (by omega) (by omega) (by omega) k (by omega), bitlen_half (n := n) (by omega)]
      congr 1; omega
theorem degree_q (x : BitVec 64) (k : Nat) (hk : 65 ≤ k) : gossamerref01_degree.f k (q x) = some (if x.toNat = 0 then -1 else (x.toNat.log2 : Int)) := by
  have := degree_loop 64 x.toNat (-1) x.isLt x.isLt (by omega) (by omega) k (by omega)
  unfold gossamerref01_degree.f q
  rw [this]; congr 1
  unfold bitlen
  split <;> omega
theorem inverse_loop {a : BitVec 32} (ha : a ≠ 0#32) : ∀ (m : Nat) (u w x y : BitVec 64), u.toNat.log2 + w.toNat.log2 < m → GF.Euc a u w x y → ∀ k, 65 + m < k →
    gossamerref01_Inverse.l0 k (q u) (q w) (q x) (q y) = some (v (GF.inv a)) := by
  intro m
  induction m with
  | zero => intro u w x y h; omega
  | succ m ih =>
    intro u w x y hm he k hk
    obtain ⟨k, rfl⟩ : ∃ m, k = m + 1 := ⟨k - 1, by omega⟩
    have hv1 := he.v1
    have htop := he.top
    have hv0 := he.v0
    have hwb : w.toNat < 2 ^ 33 := Nat.lt_of_lt_of_le (GF.lt_of_log2 (k := 32) (by omega)) (by decide)
    simp only [gossamerref01_Inverse.l0]
    rw [degree_q u k (by omega), degree_q w k (by omega)]
    simp only [Option.bind_some]
    rw [if_neg hv0]
    by_cases hu : u.toNat ≤ 1
    · have hl : u.toNat.log2 = 0 := by
        have : u.toNat = 0 ∨ u.toNat = 1 := by omega
        rcases this with e | e <;> rw [e] <;> decide
      have : ¬ ((if u.toNat = 0 then (-1 : Int) else (u.toNat.log2 : Int)) > 0) := by rw [hl]; split <;> omega
      rw [if_neg this, rest_q x k (by omega), GF.euc_last ha he hu]; rfl
    · have hu0 : u.toNat ≠ 0 := by omega
      have hu1 : 1 ≤ u.toNat.log2 := (Nat.le_log2 hu0).2 (by omega)
      have hub : u.toNat.log2 < 33 := GF.log2_lt_of he.ub hu0
      rw [if_neg hu0, if_pos (by omega)]
      by_cases hlt : u.toNat.log2 < w.toNat.log2
      · have hd : IntKind.u64.wrap (wrap64 ((w.toNat.log2 : Int) - (u.toNat.log2 : Int))) = ((w.toNat.log2 - u.toNat.log2 : Nat) : Int) := by
          rw [wrap64_small (by omega) (by omega), wrap_u64]; omega
        rw [if_pos (by omega), hd, if_pos (by omega), shl_q u _ (by omega), shl_q x _ (by omega), xor_q, xor_q]
        have st := GF.euc_step he.hv he.hu hv0 hu0 (by omega) hu1 hwb
          (.inr ⟨he.x0, htop, by
            rcases he.low with h | h | h
            · exact .inl h
            · exact absurd h hu0
            · exact .inr h⟩)
        refine ih _ _ _ _ ?_ st.1 k (by omega)
        rcases st.2.1 with h | h
        · rw [h, show Nat.log2 0 = 0 by decide]; omega
        · omega
      · have hd : IntKind.u64.wrap (wrap64 ((u.toNat.log2 : Int) - (w.toNat.log2 : Int))) = ((u.toNat.log2 - w.toNat.log2 : Nat) : Int) := by
          rw [wrap64_small (by omega) (by omega), wrap_u64]; omega
        rw [if_neg (by omega), hd, if_pos (by omega), shl_q w _ (by omega), shl_q y _ (by omega), xor_q, xor_q]
        have st := GF.euc_step he.hu he.hv hu0 hv0 (by omega) hv1 he.ub
          (.inl ⟨he.x0, htop, by
            rcases he.low with h | h | h
            · exact .inl h
            · exact absurd h hu0
            · exact .inr h⟩)
        refine ih _ _ _ _ ?_ st.1 k (by omega)
        rcases st.2.1 with h | h
        · rw [h, show Nat.log2 0 = 0 by decide]; omega
        · omega
theorem rinverse_v (a : BitVec 32) (k : Nat) (hk : 140 ≤ k) : gossamerref01_Inverse.f k (v a) = some (v (GF.inv a)) := by
  unfold gossamerref01_Inverse.f
  by_cases h : v a = 0
  · have : a = 0#32 := v_inj.mp h
    rw [if_pos h, this, GF.inv_zero]; rfl
  · have ha : a ≠ 0#32 := fun e => h (by rw [e]; rfl)
    rw [if_neg h, wide_q]
    have hm : (GF.wide a).toNat.log2 + GF.md.toNat.log2 < 65 := by
      have h1 : (GF.wide a).toNat.log2 ≤ 31 := by
        rw [GF.toNat_wide]
        by_cases e : a.toNat = 0
        · rw [e]; decide
        · have := GF.log2_lt_of a.isLt e; omega
      have h2 : GF.md.toNat.log2 = 32 := by decide +kernel
      omega
    exact inverse_loop ha 65 (GF.wide a) GF.md 1#64 0#64 hm (GF.euc_first a ha) k (by omega)
end Go.Proofs.Ytljkbkhaamlbmaa.R
/- What the printed functions of the plain polynomials come to. -/
set_option linter.unusedVariables false
set_option linter.unusedSimpArgs false
namespace Go.Proofs.Ytljkbkhaamlbmaa.R
open Go.RowKit Go.Proofs.YtljkbkhaamlbmaaW.PrintWords Go.Proofs.YtljkbkhaamlbmaaW.PrintLast Go.Proofs.YtljkbkhaamlbmaaW.PrintMore Go.Proofs.Ytljkbkhaamlbmaa.Bits Go.Proofs.Ytljkbkhaamlbmaa GF PolyT
theorem rmul_vE (a b : F) : Ev (fun k => gossamerref01_Mul.f k (v a) (v b)) (v (mul a b)) := Ev.from' 66 (rmul_v a b)
theorem rtr_length {l : List F} (h : Tr l) : len l = l.length := h
theorem rtrim_loop (l : List F) (hs : l.length < 8192) : ∀ n : Nat, n ≤ l.length → (∀ j, n ≤ j → co l j = 0#32) → Ev (fun k => gossamerref02_Trim.l0 k (V l) (n : Int)) (V (trim l)) := by
  intro n
  induction n with
  | zero =>
    intro _ h
    have h0 : len l = 0 := len_eq (fun i _ => h i (by omega)) (fun m hm => by omega)
    refine Ev.succ ?_
    simp only [gossamerref02_Trim.l0, V_length]
    refine Ev.neg (by omega) (Ev.bind' rfl (Ev.pos (by omega) (Ev.pos (by omega) ?_)))
    refine Ev.pos (by simp) (Ev.some'.to ?_)
    unfold trim; rw [h0]; rfl
  | succ n ih =>
    intro hn h
    have hw : wrap64 (((n + 1 : Nat) : Int) - 1) = (n : Int) := by rw [wrap64_small (by omega) (by omega)]; omega
    by_cases e : co l n = 0#32
    · refine Ev.succ ?_
      simp only [gossamerref02_Trim.l0, V_length]
      rw [hw, rd_Vn]
      refine Ev.pos (by omega) (Ev.pos (by omega) (Ev.pos (by omega) (Ev.pos (by rw [e]; rfl) ?_)))
      exact ih (by omega) (fun j hj => by
        by_cases e2 : j = n
        · rw [e2]; exact e
        · exact h j (by omega))
    · have h0 : len l = n + 1 := len_eq (fun i hi => h i hi) (fun m hm => by
        have e2 : m = n := by omega
        rw [e2]; exact e)
      refine Ev.succ ?_
      simp only [gossamerref02_Trim.l0, V_length]
      rw [hw, rd_Vn]
      refine Ev.pos (by omega) (Ev.pos (by omega) (Ev.pos (by omega) (Ev.neg (fun h => e ((v_zero_iff _).mp h)) (Ev.bind' rfl (Ev.pos (by omega) (Ev.pos (by omega) ?_))))))
      rw [Int.toNat_natCast, V_take, V_length]
      refine Ev.pos (by simp only [List.length_nil, List.length_take]; omega) (Ev.some'.to ?_)
      unfold trim; rw [h0]; rfl
theorem rtrim_V (l : List F) (hs : l.length < 8192) : Ev (fun k => gossamerref02_Trim.f k (V l)) (V (trim l)) := by
  unfold gossamerref02_Trim.f
  rw [V_length]
  exact rtrim_loop l hs l.length (Nat.le_refl _) (fun j hj => co_ge hj)
theorem coefficient_V (l : List F) (i : Nat) : gossamerref02_coefficient.f (V l) (i : Int) = some (v (co l i)) := by
  unfold gossamerref02_coefficient.f
  rw [V_length, if_neg (by omega)]
  by_cases h : l.length ≤ i
  · rw [if_pos (by omega), co_ge h]; rfl
  · rw [if_neg (by omega), if_pos (by omega), if_pos (by omega), rd_Vn]
theorem co_snoc (l : List F) (x : F) (i : Nat) : co (l ++ [x]) i = if i = l.length then x else co l i := by
  rw [co_append]
  by_cases h : i < l.length
  · rw [if_pos h, if_neg (by omega)]
  · rw [if_neg h]
    by_cases e : i = l.length
    · rw [if_pos e, e, Nat.sub_self]; rfl
    · rw [if_neg e, co_ge (by simp; omega), co_ge (by omega)]
theorem radd_loop (a b : List F) (ha : Small a) (hb : Small b) : ∀ (n : Nat) (o : List F), o.length + n = max a.length b.length → (∀ j, co o j = if j < o.length then co a j ^^^ co b j else 0#32) →
    ∃ s, Ev (fun k => gossamerref02_Add.l0 k (V a) (V b) (V o) (o.length : Int)) (V s) ∧ Tr s ∧ co s = sadd (co a) (co b) ∧ s.length ≤ max a.length b.length := by
  intro n
  induction n with
  | zero =>
    intro o ho hc
    have hco : co o = sadd (co a) (co b) := by
      funext j
      rw [hc j]; simp only [sadd]
      by_cases h : j < o.length
      · rw [if_pos h]
      · rw [if_neg h, co_ge (by omega), co_ge (by omega)]; rfl
    refine ⟨trim o, ?_, tr_trim o, by rw [← hco]; exact funext (co_trim o), by rw [trim_length]; have := len_le o; omega⟩
    refine Ev.succ ?_
    simp only [gossamerref02_Add.l0, V_length]
    refine Ev.neg (by omega) (Ev.succ ?_)
    have hd : decide ((o.length : Int) < (b.length : Int)) = false := decide_eq_false (by omega)
    simp only [gossamerref02_Add.j1]
    rw [hd]
    unfold Small at *
    exact Ev.neg (by decide) (Ev.bind (rtrim_V o (by omega)) Ev.some')
  | succ n ih =>
    intro o ho hc
    obtain ⟨s, h1, h2, h3, h4⟩ := ih (o ++ [co a o.length ^^^ co b o.length]) (by rw [List.length_append, List.length_singleton]; omega) (by
      intro j
      rw [co_snoc, hc j, List.length_append, List.length_singleton]
      by_cases e : j = o.length
      · rw [if_pos e, if_pos (by omega), e]
      · rw [if_neg e]
        by_cases h : j < o.length
        · rw [if_pos h, if_pos (by omega)]
        · rw [if_neg h, if_neg (by omega)])
    refine ⟨s, ?_, h2, h3, h4⟩
    unfold Small at *
    have hj : Ev (fun k => gossamerref02_Add.j1 k (V a) (V b) (V o) (o.length : Int) true) (V s) := by
      refine Ev.succ ?_
      simp only [gossamerref02_Add.j1]
      have hw2 : wrap64 ((o.length : Int) + 1) = ((o.length + 1 : Nat) : Int) := wrap_nat1 (by omega)
      rw [hw2, V_length]
      refine Ev.pos trivial (Ev.bind' (coefficient_V a _) (Ev.bind' (coefficient_V b _) (Ev.pos (by omega) ?_)))
      rw [xor_v]
      have e : V o ++ [v (co a o.length ^^^ co b o.length)] = V (o ++ [co a o.length ^^^ co b o.length]) := by simp [V]
      rw [e]
      rw [List.length_append, List.length_singleton] at h1
      exact h1
    refine Ev.succ ?_
    simp only [gossamerref02_Add.l0, V_length]
    by_cases h : (o.length : Int) < (a.length : Int)
    · exact Ev.pos h hj
    · refine Ev.neg h ?_
      have hd : decide ((o.length : Int) < (b.length : Int)) = true := decide_eq_true (by omega)
      rw [hd]; exact hj
theorem radd_V (a b : List F) (ha : Small a) (hb : Small b) : ∃ s, Ev (fun k => gossamerref02_Add.f k (V a) (V b)) (V s) ∧ Tr s ∧ co s = sadd (co a) (co b) ∧ s.length ≤ max a.length b.length := by
  unfold gossamerref02_Add.f
  exact radd_loop a b ha hb (max a.length b.length) [] (by simp) (fun j => by rw [co_nil, if_neg (by simp)])
theorem rscale_l1 (a : List F) (c : F) (up : Nat) (ha : Small a) (hu : up < 4096) : ∀ (n i : Nat) (o : List F), i + n = a.length → o.length = up + i → (∀ j, co o j = if j < up + i then smul c (shn up (co a)) j else 0#32) →
    ∃ s, Ev (fun k => gossamerref02_Scale.l1 k (V a) (v c) (V o) (i : Int)) (V s) ∧ Tr s ∧ co s = smul c (shn up (co a)) ∧ s.length ≤ up + a.length := by
  intro n
  induction n with
  | zero =>
    intro i o hi ho hc
    have hco : co o = smul c (shn up (co a)) := by
      funext j
      rw [hc j]
      by_cases h : j < up + i
      · rw [if_pos h]
      · rw [if_neg h]; simp only [smul, shn]; rw [if_pos (by omega), co_ge (by omega), GF.mul_zero]
    refine ⟨trim o, ?_, tr_trim o, by rw [← hco]; exact funext (co_trim o), by rw [trim_length]; have := len_le o; omega⟩
    refine Ev.succ ?_
    simp only [gossamerref02_Scale.l1, V_length]
    unfold Small at *
    exact Ev.neg (by omega) (Ev.bind (rtrim_V o (by omega)) Ev.some')
  | succ n ih =>
    intro i o hi ho hc
    obtain ⟨s, h1, h2, h3, h4⟩ := ih (i + 1) (o ++ [mul (co a i) c]) (by omega) (by rw [List.length_append, List.length_singleton]; omega) (by
      intro j
      rw [co_snoc, hc j]
      by_cases e : j = o.length
      · rw [if_pos e, if_pos (by omega)]
        simp only [smul, shn]
        rw [if_pos (by omega), GF.mul_comm]
        congr 2; omega
      · rw [if_neg e]
        by_cases h : j < up + i
        · rw [if_pos h, if_pos (by omega)]
        · rw [if_neg h, if_neg (by omega)])
    refine ⟨s, ?_, h2, h3, h4⟩
    unfold Small at *
    refine Ev.succ ?_
    have hw2 : wrap64 ((i : Int) + 1) = ((i + 1 : Nat) : Int) := wrap_nat1 (by omega)
    simp only [gossamerref02_Scale.l1, V_length]
    rw [hw2, rd_Vn]
    refine Ev.pos (by omega) (Ev.pos (by omega) (Ev.bind (rmul_vE _ _) (Ev.pos (by omega) ?_)))
    have e : V o ++ [v (mul (co a i) c)] = V (o ++ [mul (co a i) c]) := by simp [V]
    rw [e]; exact h1
theorem rscale_l0 (a : List F) (c : F) (up : Nat) (ha : Small a) (hu : up < 4096) : ∀ (n i : Nat), i + n = up →
    ∃ s, Ev (fun k => gossamerref02_Scale.l0 k (V a) (v c) (up : Int) (V (List.replicate i 0#32)) (i : Int)) (V s) ∧ Tr s ∧ co s = smul c (shn up (co a)) ∧ s.length ≤ up + a.length := by
  intro n
  induction n with
  | zero =>
    intro i hi
    obtain ⟨s, h1, h2⟩ := rscale_l1 a c up ha hu a.length 0 (List.replicate i 0#32) (by omega) (by simp; omega) (by
      intro j
      rw [co_replicate]
      by_cases h : j < up + 0
      · rw [if_pos h]; simp only [smul, shn]; rw [if_neg (by omega), GF.mul_zero]
      · rw [if_neg h])
    refine ⟨s, ?_, h2⟩
    refine Ev.succ ?_
    simp only [gossamerref02_Scale.l0]
    exact Ev.neg (by omega) h1
  | succ n ih =>
    intro i hi
    obtain ⟨s, h1, h2⟩ := ih (i + 1) (by omega)
    refine ⟨s, ?_, h2⟩
    refine Ev.succ ?_
    have hw2 : wrap64 ((i : Int) + 1) = ((i + 1 : Nat) : Int) := wrap_nat1 (by omega)
    simp only [gossamerref02_Scale.l0]
    rw [hw2, V_length, List.length_replicate]
    refine Ev.pos (by omega) (Ev.pos (by omega) ?_)
    have e : V (List.replicate i 0#32) ++ [0] = V (List.replicate (i + 1) 0#32) := by
      rw [List.replicate_succ']; simp [V]; decide
    rw [e]; exact h1
theorem rscale_V (a : List F) (c : F) (up : Nat) (ha : Small a) (hu : up < 4096) :
    ∃ s, Ev (fun k => gossamerref02_Scale.f k (V a) (v c) (up : Int)) (V s) ∧ Tr s ∧ co s = smul c (shn up (co a)) ∧ s.length ≤ up + a.length := by
  unfold gossamerref02_Scale.f
  exact rscale_l0 a c up ha hu up 0 (by omega)
theorem rmul_ploop (a b : List F) (ha : a.length < 2048) (hb : b.length < 2048) : ∀ (n i : Nat) (o : List F), i + n = a.length → o.length ≤ a.length + b.length → co o = act (a.take i) (co b) →
    ∃ s, Ev (fun k => gossamerref02_Mul.l0 k (V a) (V b) (V o) (i : Int)) (V s) ∧ Tr s ∧ co s = pr a b ∧ s.length ≤ a.length + b.length := by
  intro n
  induction n with
  | zero =>
    intro i o hi ho hc
    rw [List.take_of_length_le (by omega)] at hc
    refine ⟨trim o, ?_, tr_trim o, by rw [← (show co o = pr a b from hc)]; exact funext (co_trim o), by rw [trim_length]; have := len_le o; omega⟩
    refine Ev.succ ?_
    simp only [gossamerref02_Mul.l0, V_length]
    exact Ev.neg (by omega) (Ev.bind (rtrim_V o (by omega)) Ev.some')
  | succ n ih =>
    intro i o hi ho hc
    obtain ⟨p, p1, p2, p3, p4⟩ := rscale_V b (co a i) i (by unfold Small; omega) (by omega)
    obtain ⟨s, s1, s2, s3, s4⟩ := radd_V o p (by unfold Small; omega) (by unfold Small; omega)
    obtain ⟨t, t1, t2⟩ := ih (i + 1) s (by omega) (by omega) (by rw [s3, p3, hc, act_take_succ])
    refine ⟨t, ?_, t2⟩
    refine Ev.succ ?_
    have hw2 : wrap64 ((i : Int) + 1) = ((i + 1 : Nat) : Int) := wrap_nat1 (by omega)
    simp only [gossamerref02_Mul.l0, V_length]
    rw [hw2, rd_Vn]
    exact Ev.pos (by omega) (Ev.pos (by omega) (Ev.bind p1 (Ev.bind s1 t1)))
theorem rmul_V (a b : List F) (ha : a.length < 2048) (hb : b.length < 2048) : ∃ s, Ev (fun k => gossamerref02_Mul.f k (V a) (V b)) (V s) ∧ Tr s ∧ co s = pr a b ∧ s.length ≤ a.length + b.length := by
  unfold gossamerref02_Mul.f
  exact rmul_ploop a b ha hb a.length 0 [] (by omega) (by simp) (by funext i; rfl)
end Go.Proofs.Ytljkbkhaamlbmaa.R
/- What the printed functions of the plain polynomials come to. -/
set_option linter.unusedVariables false
set_option linter.unusedSimpArgs false
namespace Go.Proofs.Ytljkbkhaamlbmaa.R
open Go.RowKit Go.Proofs.YtljkbkhaamlbmaaW.PrintWords Go.Proofs.YtljkbkhaamlbmaaW.PrintLast Go.Proofs.YtljkbkhaamlbmaaW.PrintMore Go.Proofs.Ytljkbkhaamlbmaa.Bits Go.Proofs.Ytljkbkhaamlbmaa GF PolyT
theorem rinverse_vE (a : F) : Ev (fun k => gossamerref01_Inverse.f k (v a)) (v (inv a)) := Ev.from' 140 (rinverse_v a)
theorem rdloop (a b : List F) (m : Nat) (hb : len b = m + 1) (ht : Tr b) (hsb : Small b) : ∀ (n : Nat) (r q : List F), r.length < n → Tr r → Small r → Small q → sadd (pr q b) (co r) = co a →
    ∃ q' r', Ev (fun k => gossamerref02_Divide.l0 k (V b) (V r) (V q)) (V q', V r') ∧ Tr q' ∧ Tr r' ∧ Quo a b q' r' ∧ q'.length ≤ max q.length r.length ∧ r'.length ≤ r.length := by
  intro n
  induction n with
  | zero => intro r q h; omega
  | succ n ih =>
    intro r q hn hr hsr hsq hc
    have hbl : b.length = m + 1 := by rw [← hb]; exact (rtr_length ht).symm
    have hrl := rtr_length hr
    by_cases h : r.length < b.length
    · refine ⟨trim q, r, ?_, tr_trim q, hr, ⟨?_, by omega⟩, by rw [trim_length]; have := len_le q; omega, Nat.le_refl _⟩
      · refine Ev.succ ?_
        simp only [gossamerref02_Divide.l0, V_length]
        unfold Small at *
        exact Ev.neg (by omega) (Ev.bind (rtrim_V q (by omega)) Ev.some')
      · rw [act_congr (co_trim q)]; exact hc
    · obtain ⟨d, hd⟩ : ∃ d, r.length = d + m + 1 := ⟨r.length - m - 1, by omega⟩
      obtain ⟨t, htd⟩ : ∃ t, t = mul (co r (d + m)) (inv (co b m)) := ⟨_, rfl⟩
      have htb : mul t (co b m) = co r (d + m) := by
        rw [htd, GF.mul_assoc, GF.mul_comm (inv _), GF.mul_inv (co_top b m hb), GF.mul_one]
      obtain ⟨p, p1, p2, p3, p4⟩ := rscale_V [1#32] t d (by unfold Small; simp) (by unfold Small at *; omega)
      have hp : co p = smul t (shn d one) := by
        rw [p3]; congr 1; congr 1; funext i; cases i <;> rfl
      obtain ⟨s, s1, s2, s3, s4⟩ := radd_V q p hsq (by unfold Small at *; simp at p4; omega)
      obtain ⟨w, w1, w2, w3, w4⟩ := rscale_V b t d hsb (by unfold Small at *; omega)
      obtain ⟨u, u1, u2, u3, u4⟩ := radd_V r w hsr (by unfold Small at *; omega)
      have hul : len u ≤ d + m := by
        rcases Nat.lt_or_ge (d + m) (len u) with h1 | h1
        · exfalso
          obtain ⟨x, hx⟩ : ∃ x, len u = x + 1 := ⟨len u - 1, by omega⟩
          apply co_top u x hx
          rw [u3, w3]; simp only [sadd, smul, shn]
          rw [if_pos (by omega)]
          by_cases e : x = d + m
          · subst e
            have : d + m - d = m := by omega
            rw [this, htb, BitVec.xor_self]
          · rw [co_len r x (by omega), co_len b (x - d) (by omega), GF.mul_zero]; rfl
        · exact h1
      have hul2 := rtr_length u2
      obtain ⟨q', r', x1, x2, x3, x4, x5, x6⟩ := ih u s (by omega) u2 (by unfold Small at *; omega) (by unfold Small at *; simp at p4; omega) (by
        rw [pr_add_l b s3, pr_shn t d b p hp, u3, w3, sadd_comm4, sadd_self, sadd_zero, hc])
      refine ⟨q', r', ?_, x2, x3, x4, by simp at p4; omega, by omega⟩
      refine Ev.succ ?_
      unfold Small at *
      have hw1 : wrap64 (((d + m + 1 : Nat) : Int) - 1) = ((d + m : Nat) : Int) := by rw [wrap64_small (by omega) (by omega)]; omega
      have hw2 : wrap64 (((m + 1 : Nat) : Int) - 1) = (m : Int) := by rw [wrap64_small (by omega) (by omega)]; omega
      have hw3 : wrap64 (((d + m + 1 : Nat) : Int) - ((m + 1 : Nat) : Int)) = (d : Int) := by rw [wrap64_small (by omega) (by omega)]; omega
      simp only [gossamerref02_Divide.l0, V_length]
      rw [hd, hbl, hw1, hw2, hw3, rd_Vn, rd_Vn]
      refine Ev.pos (by omega) (Ev.pos (by omega) (Ev.pos (by omega) (Ev.pos (by omega) (Ev.pos (by omega) (Ev.bind (rinverse_vE _) (Ev.bind (rmul_vE _ _) ?_))))))
      rw [← htd]
      exact Ev.bind p1 (Ev.bind s1 (Ev.bind w1 (Ev.bind u1 x1)))
theorem rdivide_V (a b : List F) (ha : Small a) (hb : Small b) (h : len b ≠ 0) :
    ∃ q r, Ev (fun k => gossamerref02_Divide.f k (V a) (V b)) (V q, V r) ∧ Tr q ∧ Tr r ∧ Quo a b q r ∧ q.length ≤ a.length ∧ r.length ≤ a.length := by
  have la := len_le a
  have lb := len_le b
  unfold Small at *
  have ta := trim_length a
  have tb := trim_length b
  obtain ⟨q, r, h1, h2, h3, h4, h5, h6⟩ := rdloop (trim a) (trim b) (len b - 1) (by rw [len_trim]; omega) (tr_trim b) (by unfold Small; omega) (a.length + 1) (trim a) [] (by omega) (tr_trim a) (by unfold Small; omega) (by unfold Small; simp)
    (by rw [pr_zero_l _ rfl, zero_sadd])
  refine ⟨q, r, ?_, h2, h3, h4.congr (funext fun i => (co_trim a i).symm) (funext fun i => (co_trim b i).symm), by simp at h5; omega, by omega⟩
  unfold gossamerref02_Divide.f
  exact Ev.bind (rtrim_V b (by omega)) (Ev.bind (rtrim_V a (by omega)) h1)
theorem rmonic_V (l : List F) (hs : Small l) : Ev (fun k => gossamerref02_Monic.f k (V l)) (V (monic l)) := by
  have hl := len_le l
  unfold Small at *
  unfold gossamerref02_Monic.f
  refine Ev.bind (rtrim_V l (by omega)) ?_
  rw [V_length, trim_length]
  by_cases h : len l = 0
  · refine Ev.pos (by omega) (Ev.some'.to ?_)
    unfold monic; rw [if_pos h]; unfold trim; rw [h]; rfl
  · obtain ⟨m, hm⟩ : ∃ m, len l = m + 1 := ⟨len l - 1, by omega⟩
    have hw4 : wrap64 ((len l : Int) - 1) = (m : Int) := by rw [wrap64_small (by omega) (by omega)]; omega
    obtain ⟨s, h1, h2, h3, h4⟩ := rscale_V (trim l) (inv (co l m)) 0 (by unfold Small; rw [trim_length]; omega) (by omega)
    rw [hw4, rd_Vn, co_trim]
    refine Ev.neg (by omega) (Ev.pos (by omega) (Ev.pos (by omega) (Ev.bind (rinverse_vE _) (Ev.bind h1 (Ev.some'.to ?_)))))
    have e : monic l = sc (inv (co l m)) (trim l) := by
      unfold monic; rw [if_neg h, hm]; rfl
    have := tr_monic l
    rw [e] at this ⊢
    rw [tr_ext h2 this (fun i => by rw [h3, co_sc, shn_zero])]
theorem rcommon_V : ∀ (n : Nat) (a b : List F), len b < n → Small a → Small b → ∃ g, Ev (fun k => gossamerref02_Common.f k (V a) (V b)) (V g) ∧ Gcd a b g := by
  intro n
  induction n with
  | zero => intro a b h; omega
  | succ n ih =>
    intro a b hn ha hb
    by_cases h : len b = 0
    · refine ⟨monic a, ?_, Gcd.done h⟩
      refine Ev.succ ?_
      simp only [gossamerref02_Common.f]
      refine Ev.bind (rtrim_V b (by unfold Small at *; omega)) ?_
      rw [V_length, trim_length, h]
      exact Ev.pos rfl (Ev.bind (rmonic_V a ha) Ev.some')
    · obtain ⟨q, r, h1, h2, h3, h4, h5, h6⟩ := rdivide_V a b ha hb h
      obtain ⟨g, h7, h8⟩ := ih b r (by have := h4.2; omega) hb (by unfold Small at *; omega)
      refine ⟨g, ?_, Gcd.step h4 h8⟩
      refine Ev.succ ?_
      simp only [gossamerref02_Common.f]
      refine Ev.bind (rtrim_V b (by unfold Small at *; omega)) ?_
      rw [V_length, trim_length]
      exact Ev.neg (by omega) (Ev.bind h1 (Ev.bind h7 Ev.some'))
end Go.Proofs.Ytljkbkhaamlbmaa.R
/- The document's roots: what its functions come to. -/
set_option linter.unusedVariables false
set_option linter.unusedSimpArgs false
namespace Go.Proofs.Ytljkbkhaamlbmaa.R
open Go.RowKit Go.Proofs.YtljkbkhaamlbmaaW.PrintWords Go.Proofs.YtljkbkhaamlbmaaW.PrintLast Go.Proofs.YtljkbkhaamlbmaaW.PrintMore Go.Proofs.Ytljkbkhaamlbmaa.Bits Go.Proofs.Ytljkbkhaamlbmaa GF PolyT
theorem rrest_V (a p : List F) (ha : Small a) (hp : Small p) (h : len p ≠ 0) : ∃ r, Ev (fun k => gossamerref04_rest.f k (V a) (V p)) (V r) ∧ Rem p a r := by
  obtain ⟨q, r, h1, h2, h3, h4, _⟩ := rdivide_V a p ha hp h
  exact ⟨r, Ev.bind h1 Ev.some', h3, q, h4⟩
theorem rstep (a p : List F) (ha : a.length ≤ p.length) (hp : p.length ≤ 2000) (h : len p ≠ 0) : ∃ c r, Ev (fun k => gossamerref02_Mul.f k (V a) (V a)) (V c) ∧ Ev (fun k => gossamerref04_rest.f k (V c) (V p)) (V r) ∧ Step p a r := by
  obtain ⟨c, c1, c2, c3, c4⟩ := rmul_V a a (by omega) (by omega)
  obtain ⟨r, r1, r2⟩ := rrest_V c p (by unfold Small; omega) (by unfold Small; omega) h
  exact ⟨c, r, c1, r1, c, c3, r2⟩
theorem rlinear_loop (p : List F) (hp : p.length ≤ 2000) (h0 : len p ≠ 0) : ∀ (n i : Nat) (a : List F), i + n = 32 → a.length ≤ p.length →
    ∃ b s g, Iter p n a b ∧ co s = sadd (co b) (co [0#32, 1#32]) ∧ GcdP p s g ∧ Ev (fun k => gossamerref04_Linear.l0 k (V p) (V a) (i : Int)) (V g) := by
  intro n
  induction n with
  | zero =>
    intro i a hi ha
    obtain rfl : i = 32 := by omega
    obtain ⟨s, s1, s2, s3, s4⟩ := radd_V a [0#32, 1#32] (by unfold Small; omega) (by unfold Small; simp)
    simp only [List.length_cons, List.length_nil] at s4
    obtain ⟨g, g1, g2⟩ := rcommon_V _ p s (Nat.lt_succ_self _) (by unfold Small; omega) (by unfold Small; omega)
    refine ⟨a, s, g, rfl, s3, g2.p, ?_⟩
    refine Ev.succ ?_
    simp only [gossamerref04_Linear.l0]
    exact Ev.neg (by decide) (Ev.bind s1 (Ev.bind g1 Ev.some'))
  | succ n ih =>
    intro i a hi ha
    obtain ⟨c, r, c1, r1, r2⟩ := rstep a p ha hp h0
    obtain ⟨b, s, g, h1, h2, h3, h4⟩ := ih (i + 1) r (by omega) (by have := step_short r2; omega)
    refine ⟨b, s, g, ⟨r, r2, h1⟩, h2, h3, ?_⟩
    refine Ev.succ ?_
    simp only [gossamerref04_Linear.l0]
    refine Ev.pos (by omega) (Ev.bind c1 (Ev.bind r1 ?_))
    rw [up1 hi (by omega)]
    exact h4
theorem rlinear_V (p : List F) (hp : p.length ≤ 2000) (h0 : len p ≠ 0) : ∃ g, Ev (fun k => gossamerref04_Linear.f k (V p)) (V g) ∧ LinR p g := by
  obtain ⟨x, x1, x2⟩ := rrest_V [0#32, 1#32] p (by unfold Small; simp) (by unfold Small; omega) h0
  have hx := x2.len_lt
  have hl := len_le p
  obtain ⟨b, s, g, h1, h2, h3, h4⟩ := rlinear_loop p hp h0 32 0 x (by omega) (by omega)
  exact ⟨g, Ev.bind x1 h4, LinR.of x2 h1 h2 h3⟩
theorem rtraces_loop (p : List F) (hp : p.length ≤ 2000) (h0 : len p ≠ 0) : ∀ (n i : Nat) (o a : List F), i + n = 32 → o.length ≤ p.length → a.length ≤ p.length →
    ∃ t, Ev (fun k => gossamerref04_Traces.l0 k (V p) (V o) (V a) (i : Int)) (V t) ∧ TI p n a o t ∧ t.length ≤ p.length := by
  intro n
  induction n with
  | zero =>
    intro i o a hi ho ha
    obtain rfl : i = 32 := by omega
    refine ⟨o, ?_, rfl, ho⟩
    refine Ev.succ ?_
    simp only [gossamerref04_Traces.l0]
    exact Ev.neg (by decide) Ev.some'
  | succ n ih =>
    intro i o a hi ho ha
    obtain ⟨s, s1, s2, s3, s4⟩ := radd_V o a (by unfold Small; omega) (by unfold Small; omega)
    obtain ⟨c, r, c1, r1, r2⟩ := rstep a p ha hp h0
    obtain ⟨t, t1, t2, t3⟩ := ih (i + 1) s r (by omega) (by omega) (by have := step_short r2; omega)
    refine ⟨t, ?_, ⟨s, r, s2, s3, r2, t2⟩, t3⟩
    refine Ev.succ ?_
    simp only [gossamerref04_Traces.l0]
    refine Ev.pos (by omega) (Ev.bind s1 (Ev.bind c1 (Ev.bind r1 ?_)))
    rw [up1 hi (by omega)]
    exact t1
theorem rtraces_V (p : List F) (c : F) (hp : p.length ≤ 2000) (h0 : len p ≠ 0) : ∃ t, Ev (fun k => gossamerref04_Traces.f k (V p) (v c)) (V t) ∧ TrcR p c t ∧ t.length ≤ p.length := by
  obtain ⟨x, x1, x2⟩ := rrest_V [0#32, c] p (by unfold Small; simp) (by unfold Small; omega) h0
  have hx := x2.len_lt
  have hl := len_le p
  obtain ⟨t, t1, t2, t3⟩ := rtraces_loop p hp h0 32 0 [] x (by omega) (by simp) (by omega)
  exact ⟨t, Ev.bind x1 t1, ⟨x, x2, t2⟩, t3⟩
theorem mul_swap4 (a b c d : F) : mul (mul a b) (mul c d) = mul (mul a c) (mul b d) := by
  rw [GF.mul_assoc, GF.mul_assoc, ← GF.mul_assoc b c d, GF.mul_comm b c, GF.mul_assoc c b d]
theorem ev3 (c b y : F) : ev [c, b, 1#32] y = mul (y ^^^ b) y ^^^ c := by
  simp only [ev]
  rw [GF.zero_mul, BitVec.zero_xor, GF.one_mul]
theorem ev3_at {c b : F} (hb : b ≠ 0#32) (w : F) : ev [c, b, 1#32] (mul b w) = mul (sq b) ((sq w ^^^ w) ^^^ mul c (mul (inv b) (inv b))) := by
  rw [ev3, GF.mul_xor]
  have e1 : mul b w ^^^ b = mul b (w ^^^ 1#32) := by rw [GF.mul_xor, GF.mul_one]
  have e2 : mul (w ^^^ 1#32) w = sq w ^^^ w := by rw [GF.xor_mul, GF.one_mul]; rfl
  have e3 : mul (sq b) (mul c (mul (inv b) (inv b))) = c := by
    rw [← GF.mul_assoc, GF.mul_comm (sq b) c, GF.mul_assoc, sq, mul_swap4, mul_inv hb, GF.mul_one, GF.mul_one]
  rw [e1, mul_swap4, e2, e3]; rfl
theorem sq_ne {b : F} (hb : b ≠ 0#32) : sq b ≠ 0#32 := fun e => by rcases GF.mul_eq_zero e with h | h <;> exact hb h
theorem ev3_iff {c b : F} (hb : b ≠ 0#32) (w : F) : ev [c, b, 1#32] (mul b w) = 0#32 ↔ sq w ^^^ w = mul c (mul (inv b) (inv b)) := by
  rw [ev3_at hb]
  constructor
  · intro h
    rcases GF.mul_eq_zero h with h | h
    · exact absurd h (sq_ne hb)
    · exact xor_eq_zero h
  · intro h; rw [h, BitVec.xor_self, GF.mul_zero]
theorem sols_at {z y : F} (h : sq y ^^^ y = z) : RSolve.lo (RSolve.got z 32) = 0#32 ∧ sq (RSolve.sols z) ^^^ RSolve.sols z = z := by
  have h0 : RSolve.lo (RSolve.got z 32) = 0#32 := by rw [RSolve.lo_tr, ← h, tr_art, GF.zero_mul]
  refine ⟨h0, ?_⟩
  have ha := RSolve.hi_art z
  rw [h0, BitVec.xor_zero] at ha
  unfold RSolve.sols
  rw [if_pos h0, art_even, ha]
theorem rpair_V (q : List F) (b : Nat) (h : PI q b) (hl : len q = 3) : ∃ l, Ev (fun k => gossamerref04_pair.f k (v (co q 1)) (v (co q 0))) (V l) ∧ ∀ y, many l y = one01 q y := by
  obtain ⟨R, hn, hl', hr⟩ := h.spl
  have e1 : ∀ j, co q j = co [co q 0, co q 1, 1#32] j := by
    intro j
    match j with
    | 0 => rfl
    | 1 => rfl
    | 2 => have := h.mon.resolve_left h.nz; rw [hl] at this; exact this
    | j + 3 => rw [co_len q (j + 3) (by omega)]; rfl
  have hev : ∀ y, ev q y = ev [co q 0, co q 1, 1#32] y := fun y => ev_congr e1 y
  obtain ⟨r, s, rfl⟩ : ∃ r s, R = [r, s] := by
    match R, hl' with
    | [r, s], _ => exact ⟨r, s, rfl⟩
    | [], h => simp [hl] at h
    | [a], h => simp [hl] at h
    | a :: b :: c :: R, h => simp [hl] at h
  have hrs : r ≠ s := by rw [List.nodup_cons] at hn; exact fun e => hn.1 (by simp [e])
  generalize co q 0 = c at *
  generalize co q 1 = d at *
  have hd : d ≠ 0#32 := by
    intro hd
    have f1 : ∀ y, ev q y = 0#32 → sq y = c := by
      intro y hy
      rw [hev, ev3, hd, BitVec.xor_zero] at hy
      exact xor_eq_zero hy
    have h1 := f1 r ((hr r).2 (by simp))
    have h2 := f1 s ((hr s).2 (by simp))
    apply hrs
    rw [← root_sq r, ← root_sq s, h1, h2]
  have hback : ∀ y, mul d (mul (inv d) y) = y := fun y => by rw [← GF.mul_assoc, mul_inv hd, GF.one_mul]
  obtain ⟨z, hz⟩ : ∃ z, z = mul c (mul (inv d) (inv d)) := ⟨_, rfl⟩
  have hroot : ∀ w, ev q (mul d w) = 0#32 ↔ sq w ^^^ w = z := fun w => by rw [hev, ev3_iff hd, hz]
  have hsome : sq (mul (inv d) r) ^^^ mul (inv d) r = z := (hroot _).1 (by rw [hback]; exact (hr r).2 (by simp))
  obtain ⟨s0, s1⟩ := sols_at hsome
  obtain ⟨y0, hy0⟩ : ∃ y0, y0 = RSolve.sols z := ⟨_, rfl⟩
  rw [← hy0] at s1
  have hall : ∀ y, ev q y = 0#32 ↔ (y = mul d y0 ∨ y = mul d (y0 ^^^ 1#32)) := by
    intro y
    constructor
    · intro hy
      have h1 : sq (mul (inv d) y) ^^^ mul (inv d) y = z := (hroot _).1 (by rw [hback]; exact hy)
      have h2 : sq (mul (inv d) y ^^^ y0) = mul (inv d) y ^^^ y0 := by
        apply xor_eq_zero
        rw [sq_xor, xor4, h1, s1, BitVec.xor_self]
      rcases art_zero h2 with h3 | h3
      · left; rw [← xor_eq_zero h3, hback]
      · right
        have : mul (inv d) y = y0 ^^^ 1#32 := by rw [← h3, BitVec.xor_comm (mul (inv d) y), ← BitVec.xor_assoc, BitVec.xor_self, BitVec.zero_xor]
        rw [← this, hback]
    · rintro (h1 | h1)
      · rw [h1]; exact (hroot _).2 s1
      · rw [h1]
        refine (hroot _).2 ?_
        rw [sq_xor, sq_one, xor4, s1, BitVec.xor_self, BitVec.xor_zero]
  have hne : mul d y0 ≠ mul d (y0 ^^^ 1#32) := by
    intro e
    have h1 := GF.mul_left_cancel hd e
    have : y0 ^^^ (y0 ^^^ 1#32) = 0#32 := by rw [← h1, BitVec.xor_self]
    rw [← BitVec.xor_assoc, BitVec.xor_self, BitVec.zero_xor] at this
    exact one_ne_zero this
  refine ⟨[mul d y0, mul d (y0 ^^^ 1#32)], ?_, fun y => ?_⟩
  · have hz' := hz
    unfold gossamerref04_pair.f
    refine Ev.bind (rinverse_vE d) (Ev.bind (rmul_vE _ _) (Ev.bind (rmul_vE _ _) ?_))
    rw [← hz]
    have hs : gossamerref01_Solve.f (v z) = some (v y0, true) := by
      unfold gossamerref01_Solve.f
      rw [if_pos (v_lt z), ofInt_v, ← hy0, s0]; rfl
    refine Ev.bind' hs (Ev.pos rfl (Ev.bind (rmul_vE _ _) ?_))
    have hx : Go.bits .xor .u32 (v y0) 1 = v (y0 ^^^ 1#32) := xor_v y0 1#32
    simp only [hx]
    exact Ev.bind (rmul_vE _ _) Ev.some'
  · rw [many_cons, many_cons, many_nil]
    unfold one01
    by_cases hy : ev q y = 0#32
    · rw [if_pos hy]
      rcases (hall y).1 hy with h1 | h1
      · rw [if_pos h1.symm, if_neg (fun e => hne (h1.symm.trans e.symm))]
      · rw [if_pos h1.symm, if_neg (fun e => hne (e.trans h1))]
    · rw [if_neg hy, if_neg (fun e => hy ((hall y).2 (Or.inr e.symm))), if_neg (fun e => hy ((hall y).2 (Or.inl e.symm)))]
theorem rparts_V : ∀ (n b : Nat) (q : List F), b + n = 32 → PI q b → q.length ≤ 2000 → ∃ l, Ev (fun k => gossamerref04_parts.f k (V q) (b : Int)) (V l) ∧ ∀ y, many l y = one01 q y := by
  intro n
  induction n with
  | zero =>
    intro b q hb h hq
    obtain rfl : b = 32 := by omega
    have h2 := h.last
    have ql : len q = q.length := h.tr
    have qnz := h.nz
    by_cases h1 : len q = 2
    · refine ⟨[co q 0], ?_, fun y => ?_⟩
      · refine Ev.succ ?_
        simp only [gossamerref04_parts.f]
        refine Ev.neg (by rw [V_length]; omega) (Ev.pos (by rw [V_length]; omega) (Ev.pos (by rw [V_length]; omega) ?_))
        have := rd_Vn q 0
        simp only [Int.ofNat_zero, Int.natCast_zero] at this
        rw [show rd (V q) 0 = v (co q 0) from this]
        exact Ev.some'
      · rw [many_cons, many_nil]
        unfold one01
        have e1 := h.one h1 y
        by_cases hy : ev q y = 0#32
        · rw [if_pos hy, if_pos (e1.1 hy).symm]
        · rw [if_neg hy, if_neg (fun h => hy (e1.2 h.symm))]
    · refine ⟨[], ?_, fun y => by unfold one01; rw [if_neg (h.none (by omega) y)]; rfl⟩
      refine Ev.succ ?_
      simp only [gossamerref04_parts.f]
      exact Ev.pos (by rw [V_length]; omega) Ev.some'
  | succ n ih =>
    intro b q hb h hq
    have ql : len q = q.length := h.tr
    have qnz := h.nz
    by_cases h0 : len q ≤ 1
    · refine ⟨[], ?_, fun y => by unfold one01; rw [if_neg (h.none (by omega) y)]; rfl⟩
      refine Ev.succ ?_
      simp only [gossamerref04_parts.f]
      exact Ev.pos (by rw [V_length]; omega) Ev.some'
    by_cases h1 : len q = 2
    · refine ⟨[co q 0], ?_, fun y => ?_⟩
      · refine Ev.succ ?_
        simp only [gossamerref04_parts.f]
        refine Ev.neg (by rw [V_length]; omega) (Ev.pos (by rw [V_length]; omega) (Ev.pos (by rw [V_length]; omega) ?_))
        have := rd_Vn q 0
        simp only [Int.ofNat_zero, Int.natCast_zero] at this
        rw [show rd (V q) 0 = v (co q 0) from this]
        exact Ev.some'
      · rw [many_cons, many_nil]
        unfold one01
        have e1 := h.one h1 y
        by_cases hy : ev q y = 0#32
        · rw [if_pos hy, if_pos (e1.1 hy).symm]
        · rw [if_neg hy, if_neg (fun h => hy (e1.2 h.symm))]
    by_cases h2 : len q = 3
    · obtain ⟨l, l1, l2⟩ := rpair_V q b h h2
      refine ⟨l, ?_, l2⟩
      refine Ev.succ ?_
      simp only [gossamerref04_parts.f]
      refine Ev.neg (by rw [V_length]; omega) (Ev.neg (by rw [V_length]; omega) (Ev.pos (by rw [V_length]; omega) (Ev.pos (by rw [V_length]; omega) (Ev.pos (by rw [V_length]; omega) ?_))))
      have e0 := rd_Vn q 0
      have e1 := rd_Vn q 1
      simp only [Int.ofNat_zero, Int.natCast_zero, Int.natCast_one] at e0 e1
      rw [show rd (V q) 0 = v (co q 0) from e0, show rd (V q) 1 = v (co q 1) from e1]
      exact Ev.bind l1 Ev.some'
    · obtain ⟨t, t1, t2, t3⟩ := rtraces_V q (e b) hq h.nz
      obtain ⟨g, g1, g2⟩ := rcommon_V _ q t (Nat.lt_succ_self _) (by unfold Small; omega) (by unfold Small; omega)
      obtain ⟨s, s1, s2, s3, s4⟩ := radd_V t [1#32] (by unfold Small; omega) (by unfold Small; simp)
      simp only [List.length_cons, List.length_nil] at s4
      obtain ⟨m, m1, m2⟩ := rcommon_V _ q s (Nat.lt_succ_self _) (by unfold Small; omega) (by unfold Small; omega)
      obtain ⟨p1, p2⟩ := h.left t2 g2.p
      obtain ⟨p3, p4⟩ := h.right' t2 s3 m2.p
      have gl := g2.p.len_le h.nz
      have ml := m2.p.len_le h.nz
      have gt : len g = g.length := p1.tr
      have mt : len m = m.length := p3.tr
      obtain ⟨l, l1, l2⟩ := ih (b + 1) g (by omega) p1 (by omega)
      obtain ⟨l', l1', l2'⟩ := ih (b + 1) m (by omega) p3 (by omega)
      have b1 := roots_few g p1.nz l (fun y => by rw [l2]; exact Nat.le_refl _)
      have b2 := roots_few m p3.nz l' (fun y => by rw [l2']; exact Nat.le_refl _)
      refine ⟨l ++ l', ?_, fun y => ?_⟩
      · refine Ev.succ ?_
        simp only [gossamerref04_parts.f]
        have ew : IntKind.u64.wrap (b : Int) = (b : Int) := IntWalk.u64_in _ (by omega)
        rw [ew, shl_e b (by omega), wrap_nat1 (by omega)]
        refine Ev.neg (by rw [V_length]; omega) (Ev.neg (by rw [V_length]; omega) (Ev.neg (by rw [V_length]; omega) (Ev.pos (by omega) (Ev.bind t1 (Ev.bind g1 (Ev.bind s1 (Ev.bind m1 (Ev.bind l1 (Ev.bind l1' (Ev.pos (by rw [V_length, V_length]; omega) ?_))))))))))
        rw [← V_append]; exact Ev.some'
      · rw [many_append, l2, l2']
        unfold one01
        by_cases hy : ev q y = 0#32
        · by_cases ht : GF.tr (mul (e b) y) = 0#32
          · rw [if_pos hy, if_pos ((p2 y).2 ⟨hy, ht⟩), if_neg (fun h => ((p4 y).1 h).2 ht)]
          · rw [if_pos hy, if_neg (fun h => ht ((p2 y).1 h).2), if_pos ((p4 y).2 ⟨hy, ht⟩)]
        · rw [if_neg hy, if_neg (fun h => hy ((p2 y).1 h).1), if_neg (fun h => hy ((p4 y).1 h).1)]
theorem rins_down (X : List Int) (x5 : Int) : ∀ (n : Nat) (A B : List F) (x : F), A.length = n → (A ++ x :: B).length < 4096 → Asc (A ++ B) → (∀ b ∈ B, x.toNat ≤ b.toNat) →
    ∃ S : List F, S.length = A.length + 1 + B.length ∧ Asc S ∧ (∀ y, many S y = many (A ++ x :: B) y) ∧ ∀ R : List Int, Ev (fun k => gossamerref04_All.l0 k X (V S) (wrap64 (x5 + 1))) R →
    Ev (fun k => gossamerref04_All.l1 k X (V (A ++ x :: B)) x5 (A.length : Int)) R := by
  intro n
  induction n with
  | zero =>
    intro A B x hA hs ha hx
    obtain rfl := List.eq_nil_of_length_eq_zero hA
    refine ⟨x :: B, by simp; omega, asc_stop [] x B ha hx (fun A' y h => by simp at h), fun y => rfl, fun R hR => ?_⟩
    refine Ev.succ ?_
    simp only [gossamerref04_All.l1]
    exact Ev.neg (by simp) hR
  | succ n ih =>
    intro A B x hA hs ha hx
    obtain ⟨A', y, rfl⟩ := snoc_of hA
    have hA' : A'.length = n := by simpa using hA
    have el : A' ++ [y] ++ x :: B = A' ++ y :: x :: B := by simp
    have hs' : A'.length + 2 + B.length < 4096 := by rw [el] at hs; simp at hs; omega
    have e0 : (((A' ++ [y]).length : Nat) : Int) = (A'.length : Int) + 1 := by simp
    have ew : wrap64 ((A'.length : Int) + 1 - 1) = (A'.length : Int) := by rw [wrap64_small] <;> omega
    have hlen : ((V (A' ++ y :: x :: B)).length : Int) = (A'.length : Int) + 2 + B.length := by rw [V_length]; simp; omega
    have step : ∀ (R : List Int), (Ev (fun k => if v y > v x then gossamerref04_All.l1 k X (V (A' ++ x :: y :: B)) x5 (A'.length : Int) else gossamerref04_All.l0 k X (V (A' ++ y :: x :: B)) (wrap64 (x5 + 1))) R) →
        Ev (fun k => gossamerref04_All.l1 k X (V (A' ++ [y] ++ x :: B)) x5 (((A' ++ [y]).length : Nat) : Int)) R := by
      intro R h
      rw [e0, el]
      refine Ev.succ ?_
      simp only [gossamerref04_All.l1, ew]
      refine Ev.pos (by omega) (Ev.pos (by omega) (Ev.pos (by rw [hlen]; omega) (Ev.pos (by omega) (Ev.pos (by rw [hlen]; omega) ?_))))
      rw [rd_aft A' y x B _ rfl, rd_bef A' y x B _ rfl, swap_at' A' y x B _ _ rfl rfl]
      exact h
    have hv : v y > v x ↔ x.toNat < y.toNat := by unfold v; omega
    by_cases hl : x.toNat < y.toNat
    · obtain ⟨h2, h3⟩ := asc_step A' y x B ha hx hl
      obtain ⟨S, s1, s2, s3, s4⟩ := ih A' (y :: B) x hA' (by simp; omega) h2 h3
      refine ⟨S, by simp at s1 ⊢; omega, s2, fun z => by rw [s3]; simp only [many_append, many_cons, many_nil]; omega, fun R hR => step R (Ev.pos (hv.2 hl) ?_)⟩
      exact s4 R hR
    · refine ⟨A' ++ [y] ++ x :: B, by simp; omega, asc_stop _ x B ha hx (fun A2 z e => by
        have := snoc_last e
        subst this; omega), fun z => rfl, fun R hR => step R (Ev.neg (fun h => hl (hv.1 h)) ?_)⟩
      simpa using hR
theorem rins_all (X : List F) (hs : X.length < 4000) : ∀ (n i : Nat) (S : List F), i + n = X.length → S.length = i → Asc S → (∀ y, many S y = many (X.take i) y) →
    ∃ T, Ev (fun k => gossamerref04_All.l0 k (V X) (V S) (i : Int)) (V T) ∧ Asc T ∧ ∀ y, many T y = many X y := by
  intro n
  induction n with
  | zero =>
    intro i S hi hS ha hm
    refine ⟨S, ?_, ha, fun y => by rw [hm, List.take_of_length_le (by omega)]⟩
    refine Ev.succ ?_
    simp only [gossamerref04_All.l0]
    exact Ev.neg (by rw [V_length]; omega) Ev.some'
  | succ n ih =>
    intro i S hi hS ha hm
    obtain ⟨S', s1, s2, s3, s4⟩ := rins_down (V X) (i : Int) S.length S [] (co X i) rfl (by simp; omega) (by simpa using ha) (by simp)
    have htk : X.take (i + 1) = X.take i ++ [co X i] := by
      rw [List.take_add_one, co_lt (by omega), List.getElem?_eq_getElem (by omega)]; rfl
    obtain ⟨T, t1, t2, t3⟩ := ih (i + 1) S' (by omega) (by simp at s1; omega) s2 (fun y => by rw [s3, many_append, many_cons, many_nil, hm, htk, many_append, many_cons, many_nil])
    refine ⟨T, ?_, t2, t3⟩
    refine Ev.succ ?_
    simp only [gossamerref04_All.l0]
    refine Ev.pos (by rw [V_length]; omega) (Ev.pos (by omega) (Ev.pos (by rw [V_length]; omega) ?_))
    have h5 := s4 (V T) (by rw [wrap_nat1 (by omega)]; exact t1)
    rw [hS] at h5
    rw [rd_Vn, show V S ++ [v (co X i)] = V (S ++ [co X i]) by rw [V_append]; rfl]
    exact h5
theorem rall_V (p : List F) (hp : p.length ≤ 2000) (h0 : len p ≠ 0) : ∃ S, Ev (fun k => gossamerref04_All.f k (V p)) (V S) ∧ Asc S ∧ ∀ y, many S y = one01 p y := by
  obtain ⟨g, g1, g2⟩ := rlinear_V p hp h0
  obtain ⟨p1, p2, p3⟩ := g2.pi h0
  have gl : len g = g.length := p1.tr
  have pl := len_le p
  have e01 : ∀ y, one01 g y = one01 p y := fun y => by
    unfold one01
    by_cases hy : ev p y = 0#32
    · rw [if_pos hy, if_pos ((p2 y).2 hy)]
    · rw [if_neg hy, if_neg (fun h => hy ((p2 y).1 h))]
  obtain ⟨l, l1, l2⟩ := rparts_V 32 0 g rfl p1 (by omega)
  have hf := roots_few g p1.nz l (fun y => by rw [l2]; exact Nat.le_refl _)
  obtain ⟨T, t1, t2, t3⟩ := rins_all l (by omega) l.length 0 [] (by omega) rfl List.Pairwise.nil (fun y => by simp)
  refine ⟨T, ?_, t2, fun y => by rw [t3, l2, e01]⟩
  exact Ev.bind g1 (Ev.bind l1 t1)
end Go.Proofs.Ytljkbkhaamlbmaa.R
