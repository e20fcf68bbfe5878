/- The document's multiplication and inverse over the field of 2^32 elements, as bit vectors: plain mathematics, no program in sight. -/
import Derived.Test.YtljkbkhaamlbmaaGF
set_option linter.unusedVariables false
namespace Go.Proofs.Ytljkbkhaamlbmaa.GF
abbrev W := BitVec 64
theorem wxor4 (a b c d : W) : (a ^^^ b) ^^^ (c ^^^ d) = (a ^^^ c) ^^^ (b ^^^ d) := by ac_rfl
def restH : Nat → W → W
  | 0, a => a
  | n + 1, a => restH n (a ^^^ (if a.getLsbD (32 + n) then 0x10000008d#64 <<< n else 0#64))
def rest (a : W) : F := (restH 32 a).setWidth 32
theorem wite_xor (c d : Bool) (a : W) : (if (c ^^ d) then a else 0#64) = (if c then a else 0#64) ^^^ (if d then a else 0#64) := by
  cases c <;> cases d <;> simp
theorem wite_xor' (c : Bool) (a b : W) : (if c then a ^^^ b else 0#64) = (if c then a else 0#64) ^^^ (if c then b else 0#64) := by
  cases c <;> simp
theorem restH_xor (n : Nat) : ∀ a b, restH n (a ^^^ b) = restH n a ^^^ restH n b := by
  induction n with
  | zero => intro a b; rfl
  | succ n ih => intro a b; simp only [restH]; rw [← ih, BitVec.getLsbD_xor, wite_xor, wxor4]
theorem rest_xor (a b : W) : rest (a ^^^ b) = rest a ^^^ rest b := by
  unfold rest; rw [restH_xor]; exact BitVec.setWidth_xor ..
theorem rest_zero : rest 0#64 = 0#32 := by decide +kernel
def ew (i : Nat) : W := 1#64 <<< i
theorem wsplit_bit (a : W) (n : Nat) (h : a.getLsbD n = true) : ∀ i, n ≤ i → (a ^^^ ew n).getLsbD i = (if i = n then false else a.getLsbD i) := by
  intro i hi
  have hn : n < 64 := BitVec.lt_of_getLsbD h
  simp only [BitVec.getLsbD_xor, ew, BitVec.getLsbD_shiftLeft]
  by_cases e : i = n
  · subst e; simp [h, hn]
  · have : ¬ i < n := by omega
    have h2 : i - n ≠ 0 := by omega
    simp [e, this, BitVec.getLsbD_one, h2]
theorem wlin_ext (m : Nat) (f g : W → F) (hf : ∀ a b, f (a ^^^ b) = f a ^^^ f b) (hg : ∀ a b, g (a ^^^ b) = g a ^^^ g b)
    (h : ∀ i, i < m → f (ew i) = g (ew i)) : ∀ a : W, (∀ i, m ≤ i → a.getLsbD i = false) → f a = g a := by
  have h0 : ∀ (f : W → F), (∀ a b, f (a ^^^ b) = f a ^^^ f b) → f 0#64 = 0#32 := by
    intro f hf
    have := hf 0#64 0#64
    simpa using this
  have key : ∀ n, n ≤ m → ∀ a : W, (∀ i, n ≤ i → a.getLsbD i = false) → f a = g a := by
    intro n
    induction n with
    | zero =>
      intro _ a ha
      have : a = 0#64 := BitVec.eq_of_getLsbD_eq (by intro i _; rw [ha i (Nat.zero_le _)]; simp)
      rw [this, h0 f hf, h0 g hg]
    | succ n ih =>
      intro hn a ha
      cases hb : a.getLsbD n with
      | false =>
        exact ih (by omega) a (fun i hi => by
          by_cases e : i = n
          · rw [e]; exact hb
          · exact ha i (by omega))
      | true =>
        have hs := wsplit_bit a n hb
        have h1 := ih (by omega) (a ^^^ ew n) (fun i hi => by
          rw [hs i hi]
          by_cases e : i = n
          · simp [e]
          · simp [e]; exact ha i (by omega))
        have e1 : a = (a ^^^ ew n) ^^^ ew n := by rw [BitVec.xor_assoc, BitVec.xor_self, BitVec.xor_zero]
        rw [e1, hf, hg, h1, h n (by omega)]
  intro a ha
  exact key m (Nat.le_refl _) a ha
theorem bits_of_lt {a : W} {m : Nat} (h : a.toNat < 2 ^ m) : ∀ i, m ≤ i → a.getLsbD i = false := by
  intro i hi
  exact Nat.testBit_lt_two_pow (Nat.lt_of_lt_of_le h (Nat.pow_le_pow_right (by decide) hi))
theorem sl_xor (a b : W) (k : Nat) : (a ^^^ b) <<< k = a <<< k ^^^ b <<< k := BitVec.shiftLeft_xor_distrib ..
theorem rest_sl1 {a : W} (h : a.toNat < 2 ^ 63) : rest (a <<< 1) = sh (rest a) :=
  wlin_ext 63 (fun a => rest (a <<< 1)) (fun a => sh (rest a)) (fun a b => by simp only [sl_xor, rest_xor]) (fun a b => by simp only [rest_xor, sh_xor])
    (by decide +kernel) a (bits_of_lt h)
def shN : Nat → F → F
  | 0, a => a
  | k + 1, a => sh (shN k a)
theorem shN_mul (k : Nat) (a b : F) : mul (shN k a) b = shN k (mul a b) := by
  induction k with
  | zero => rfl
  | succ k ih => simp only [shN]; rw [sh_mul, ih]
theorem toNat_sl {a : W} {k : Nat} (h : a.toNat * 2 ^ k < 2 ^ 64) : (a <<< k).toNat = a.toNat * 2 ^ k := by
  rw [BitVec.toNat_shiftLeft, Nat.shiftLeft_eq, Nat.mod_eq_of_lt h]
theorem rest_sl (k : Nat) : ∀ {a : W}, a.toNat * 2 ^ k < 2 ^ 64 → rest (a <<< k) = shN k (rest a) := by
  induction k with
  | zero => intro a _; simp [shN]
  | succ k ih =>
    intro a h
    have hk : a.toNat * 2 ^ k < 2 ^ 63 := by rw [Nat.pow_succ, ← Nat.mul_assoc] at h; omega
    have e : a <<< (k + 1) = (a <<< k) <<< 1 := by rw [BitVec.shiftLeft_add]
    rw [e, rest_sl1 (by rw [toNat_sl (by omega)]; exact hk), ih (by omega)]; rfl
def wide (a : F) : W := a.setWidth 64
theorem wide_xor (a b : F) : wide (a ^^^ b) = wide a ^^^ wide b := BitVec.setWidth_xor ..
theorem rest_wide (a : F) : rest (wide a) = a :=
  lin_ext (fun a => rest (wide a)) (fun a => a) (fun a b => by simp only [wide_xor, rest_xor]) (fun _ _ => rfl) (by decide +kernel) a
theorem toNat_wide (a : F) : (wide a).toNat = a.toNat := by
  unfold wide; rw [BitVec.toNat_setWidth]; have := a.isLt; omega
theorem rest_small {a : W} (h : a.toNat < 2 ^ 32) : (rest a).toNat = a.toNat := by
  have e : a = wide (a.setWidth 32) := by
    apply BitVec.eq_of_toNat_eq; rw [toNat_wide, BitVec.toNat_setWidth, Nat.mod_eq_of_lt h]
  rw [e, rest_wide, toNat_wide]
def clN (a b : F) : Nat → W
  | 0 => 0#64
  | n + 1 => clN a b n ^^^ (if b.getLsbD n then wide a <<< n else 0#64)
theorem clN_xor_r (a b c : F) (n : Nat) : clN a (b ^^^ c) n = clN a b n ^^^ clN a c n := by
  induction n with
  | zero => simp [clN]
  | succ n ih => simp only [clN]; rw [ih, BitVec.getLsbD_xor, wite_xor, wxor4]
theorem clN_xor_l (a b c : F) (n : Nat) : clN (a ^^^ b) c n = clN a c n ^^^ clN b c n := by
  induction n with
  | zero => simp [clN]
  | succ n ih => simp only [clN]; rw [ih, wide_xor, sl_xor, wite_xor', wxor4]
theorem cl_e : ∀ i, i < 32 → ∀ j, j < 32 → rest (clN (e i) (e j) 32) = mul (e i) (e j) := by decide +kernel
theorem rest_cl (a b : F) : rest (clN a b 32) = mul a b := by
  refine lin_ext (fun a => rest (clN a b 32)) (fun a => mul a b) (fun x y => by simp only [clN_xor_l, rest_xor]) (fun x y => xor_mul x y b) ?_ a
  intro i hi
  exact lin_ext (fun b => rest (clN (e i) b 32)) (fun b => mul (e i) b) (fun x y => by simp only [clN_xor_r, rest_xor]) (fun x y => mul_xor _ x y) (fun j hj => cl_e i hi j hj) b

def md : W := 4294967437#64
theorem rest_md : rest md = 0#32 := by decide +kernel
structure Euc (a : F) (u v x y : W) : Prop where
  hu : rest u = mul (rest x) a
  hv : rest v = mul (rest y) a
  v0 : v.toNat ≠ 0
  x0 : x.toNat ≠ 0
  top : x.toNat.log2 + v.toNat.log2 = 32
  v1 : 1 ≤ v.toNat.log2
  low : y.toNat = 0 ∨ u.toNat = 0 ∨ y.toNat.log2 + u.toNat.log2 < 32
  ub : u.toNat < 2 ^ 33
theorem lt_of_log2 {n k : Nat} (h : n.log2 ≤ k) : n < 2 ^ (k + 1) := by
  by_cases h0 : n = 0
  · subst h0; exact Nat.two_pow_pos _
  · exact Nat.lt_of_lt_of_le (Nat.lt_log2_self) (Nat.pow_le_pow_right (by decide) (by omega))
theorem log2_lt_of {n k : Nat} (h : n < 2 ^ k) (h0 : n ≠ 0) : n.log2 < k := (Nat.log2_lt h0).2 h
theorem xor_low {m : Nat} {a b : Nat} (ha : a < 2 ^ m) (hb : b < 2 ^ m) : a ^^^ b < 2 ^ m := Nat.xor_lt_two_pow ha hb
theorem log2_cancel {a b : Nat} (h : a.log2 = b.log2) (ha : a ≠ 0) (hb : b ≠ 0) : a ^^^ b < 2 ^ a.log2 := by
  apply Nat.lt_pow_two_of_testBit
  intro i hi
  rw [Nat.testBit_xor]
  by_cases e : i = a.log2
  · have h1 : a.testBit a.log2 = true := Nat.testBit_log2 ha
    have h2 : b.testBit b.log2 = true := Nat.testBit_log2 hb
    rw [e, h1, h, h2]; rfl
  · have h1 : a.testBit i = false := Nat.testBit_lt_two_pow (Nat.lt_of_lt_of_le Nat.lt_log2_self (Nat.pow_le_pow_right (by decide) (by omega)))
    have h2 : b.testBit i = false := Nat.testBit_lt_two_pow (Nat.lt_of_lt_of_le Nat.lt_log2_self (Nat.pow_le_pow_right (by decide) (by omega)))
    rw [h1, h2]; rfl
theorem log2_stays {a b : Nat} (hb : b < 2 ^ a.log2) (ha : a ≠ 0) : (a ^^^ b).log2 = a.log2 ∧ a ^^^ b ≠ 0 := by
  have h1 : (a ^^^ b).testBit a.log2 = true := by
    rw [Nat.testBit_xor, Nat.testBit_log2 ha, Nat.testBit_lt_two_pow hb]; rfl
  have h0 : a ^^^ b ≠ 0 := by intro e; rw [e] at h1; simp at h1
  refine ⟨?_, h0⟩
  have lo : 2 ^ a.log2 ≤ a ^^^ b := Nat.ge_two_pow_of_testBit h1
  have hi : a ^^^ b < 2 ^ (a.log2 + 1) := xor_low Nat.lt_log2_self (Nat.lt_of_lt_of_le hb (Nat.pow_le_pow_right (by decide) (by omega)))
  have g1 := (Nat.le_log2 h0).2 lo
  have g2 := (Nat.log2_lt h0).2 hi
  omega
theorem log2_shift {a k : Nat} (h : a ≠ 0) : (a * 2 ^ k).log2 = a.log2 + k := by
  have h0 : a * 2 ^ k ≠ 0 := Nat.mul_ne_zero h (Nat.ne_of_gt (Nat.two_pow_pos _))
  have lo : 2 ^ (a.log2 + k) ≤ a * 2 ^ k := by rw [Nat.pow_add]; exact Nat.mul_le_mul_right _ (Nat.log2_self_le h)
  have hi : a * 2 ^ k < 2 ^ (a.log2 + 1 + k) := by
    rw [Nat.pow_add]; exact (Nat.mul_lt_mul_right (Nat.two_pow_pos _)).2 Nat.lt_log2_self
  have g1 := (Nat.le_log2 h0).2 lo
  have g2 := (Nat.log2_lt h0).2 hi
  omega
theorem euc_first (a : F) (h : a ≠ 0#32) : Euc a (wide a) md 1#64 0#64 := by
  refine ⟨?_, ?_, by decide, by decide, by decide +kernel, by decide +kernel, .inl (by decide), ?_⟩
  · have : rest 1#64 = 1#32 := by decide +kernel
    rw [rest_wide, this, one_mul]
  · rw [rest_md, rest_zero, zero_mul]
  · rw [toNat_wide]; have := a.isLt; omega
theorem euc_step {a : F} {u v x y : W} (hu : rest u = mul (rest x) a) (hv : rest v = mul (rest y) a) (u0 : u.toNat ≠ 0) (v0 : v.toNat ≠ 0) (hd : v.toNat.log2 ≤ u.toNat.log2)
    (v1 : 1 ≤ v.toNat.log2) (ub : u.toNat < 2 ^ 33)
    (hc : (x.toNat ≠ 0 ∧ x.toNat.log2 + v.toNat.log2 = 32 ∧ (y.toNat = 0 ∨ y.toNat.log2 + u.toNat.log2 < 32)) ∨ (y.toNat ≠ 0 ∧ y.toNat.log2 + u.toNat.log2 = 32 ∧ (x.toNat = 0 ∨ x.toNat.log2 + v.toNat.log2 < 32))) :
    Euc a (u ^^^ v <<< (u.toNat.log2 - v.toNat.log2)) v (x ^^^ y <<< (u.toNat.log2 - v.toNat.log2)) y ∧
      ((u ^^^ v <<< (u.toNat.log2 - v.toNat.log2)).toNat = 0 ∨ (u ^^^ v <<< (u.toNat.log2 - v.toNat.log2)).toNat.log2 < u.toNat.log2) ∧ (u ^^^ v <<< (u.toNat.log2 - v.toNat.log2)).toNat < 2 ^ u.toNat.log2 := by
  obtain ⟨k, hk⟩ : ∃ k, k = u.toNat.log2 - v.toNat.log2 := ⟨_, rfl⟩
  rw [← hk]
  have hul : u.toNat.log2 < 33 := log2_lt_of ub u0
  have vs : v.toNat * 2 ^ k < 2 ^ 64 := by
    have : (v.toNat * 2 ^ k).log2 ≤ 32 := by rw [log2_shift v0]; omega
    exact Nat.lt_of_lt_of_le (lt_of_log2 this) (by decide)
  have yk : y.toNat = 0 ∨ (y.toNat ≠ 0 ∧ y.toNat.log2 + u.toNat.log2 ≤ 32) := by
    rcases hc with ⟨_, _, h | h⟩ | ⟨h0, h, _⟩
    · exact .inl h
    · by_cases e : y.toNat = 0
      · exact .inl e
      · exact .inr ⟨e, by omega⟩
    · exact .inr ⟨h0, by omega⟩
  have ys : y.toNat * 2 ^ k < 2 ^ 64 := by
    rcases yk with e | ⟨e, h⟩
    · rw [e]; simp
    · have : (y.toNat * 2 ^ k).log2 ≤ 32 := by rw [log2_shift e]; omega
      exact Nat.lt_of_lt_of_le (lt_of_log2 this) (by decide)
  have e1 : (u ^^^ v <<< k).toNat = u.toNat ^^^ (v.toNat * 2 ^ k) := by rw [BitVec.toNat_xor, toNat_sl vs]
  have e2 : (x ^^^ y <<< k).toNat = x.toNat ^^^ (y.toNat * 2 ^ k) := by rw [BitVec.toNat_xor, toNat_sl ys]
  have vk0 : v.toNat * 2 ^ k ≠ 0 := Nat.mul_ne_zero v0 (Nat.ne_of_gt (Nat.two_pow_pos _))
  have hvk : (v.toNat * 2 ^ k).log2 = u.toNat.log2 := by rw [log2_shift v0]; omega
  have hsmall : (u ^^^ v <<< k).toNat < 2 ^ u.toNat.log2 := by rw [e1]; exact log2_cancel hvk.symm u0 vk0
  have hX : (x ^^^ y <<< k).toNat ≠ 0 ∧ (x ^^^ y <<< k).toNat.log2 + v.toNat.log2 = 32 := by
    rw [e2]
    rcases hc with ⟨h0, h1, h2⟩ | ⟨h0, h1, h2⟩
    · have hb : y.toNat * 2 ^ k < 2 ^ x.toNat.log2 := by
        by_cases e : y.toNat = 0
        · rw [e]; simp; exact Nat.two_pow_pos _
        · have : y.toNat.log2 + u.toNat.log2 < 32 := by rcases h2 with h | h; exact absurd h e; exact h
          have l : (y.toNat * 2 ^ k).log2 < x.toNat.log2 := by rw [log2_shift e]; omega
          exact Nat.lt_of_lt_of_le (lt_of_log2 (Nat.le_of_lt_succ (Nat.lt_succ_of_le (Nat.le_refl _)))) (Nat.pow_le_pow_right (by decide) l)
      have := log2_stays hb h0
      exact ⟨this.2, by rw [this.1]; exact h1⟩
    · have yk0 : y.toNat * 2 ^ k ≠ 0 := Nat.mul_ne_zero h0 (Nat.ne_of_gt (Nat.two_pow_pos _))
      have hyl : (y.toNat * 2 ^ k).log2 + v.toNat.log2 = 32 := by rw [log2_shift h0]; omega
      have hb : x.toNat < 2 ^ (y.toNat * 2 ^ k).log2 := by
        rcases h2 with e | h
        · rw [e]; exact Nat.two_pow_pos _
        · exact Nat.lt_of_lt_of_le (lt_of_log2 (Nat.le_refl _)) (Nat.pow_le_pow_right (by decide) (by omega))
      have := log2_stays hb yk0
      rw [Nat.xor_comm]
      exact ⟨this.2, by rw [this.1]; exact hyl⟩
  have hlow : (u ^^^ v <<< k).toNat = 0 ∨ (u ^^^ v <<< k).toNat.log2 < u.toNat.log2 := by
    by_cases e : (u ^^^ v <<< k).toNat = 0
    · exact .inl e
    · exact .inr (log2_lt_of hsmall e)
  refine ⟨⟨?_, hv, v0, hX.1, hX.2, v1, ?_, ?_⟩, hlow, hsmall⟩
  · rw [rest_xor, rest_xor, rest_sl k vs, rest_sl k ys, hu, hv, xor_mul, shN_mul]
  · rcases hlow with e | h
    · exact .inr (.inl e)
    · rcases yk with e | ⟨e, h2⟩
      · exact .inl e
      · exact .inr (.inr (by omega))
  · exact Nat.lt_of_lt_of_le hsmall (Nat.pow_le_pow_right (by decide) (by omega))
theorem euc_last {a : F} (ha : a ≠ 0#32) {u v x y : W} (h : Euc a u v x y) (hu : u.toNat ≤ 1) : rest x = inv a := by
  have hx : x.toNat < 2 ^ 32 := Nat.lt_of_lt_of_le (lt_of_log2 (k := 31) (by have := h.top; have := h.v1; omega)) (by decide)
  have hr : (rest x).toNat = x.toNat := rest_small hx
  have e01 : u.toNat = 0 ∨ u.toNat = 1 := by omega
  rcases e01 with e | e
  · have : u = 0#64 := BitVec.eq_of_toNat_eq e
    have h1 := h.hu
    rw [this, rest_zero] at h1
    rcases mul_eq_zero h1.symm with h2 | h2
    · rw [h2] at hr; exact absurd hr.symm h.x0
    · exact absurd h2 ha
  · have : u = 1#64 := BitVec.eq_of_toNat_eq e
    have h1 := h.hu
    have e1 : rest 1#64 = 1#32 := by decide +kernel
    rw [this, e1] at h1
    exact inv_unique (by rw [mul_comm]; exact h1.symm)
end Go.Proofs.Ytljkbkhaamlbmaa.GF
