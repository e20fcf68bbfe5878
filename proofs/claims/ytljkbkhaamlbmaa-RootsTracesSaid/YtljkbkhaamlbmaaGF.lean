/- The field of 2^32 elements, as bit vectors: plain mathematics, no program in sight. -/
set_option linter.unusedVariables false
namespace Go.Proofs.Ytljkbkhaamlbmaa.GF
abbrev F := BitVec 32
def sh (a : F) : F := (a <<< 1) ^^^ (if a.getLsbD 31 then 0x8d#32 else 0#32)
def mulH (a b : F) : Nat → F
  | 0 => 0#32
  | n + 1 => sh (mulH a b n) ^^^ (if b.getLsbD (31 - n) then a else 0#32)
def mul (a b : F) : F := mulH a b 32

theorem xor4 (a b c d : F) : (a ^^^ b) ^^^ (c ^^^ d) = (a ^^^ c) ^^^ (b ^^^ d) := by ac_rfl
theorem sh_xor (a b : F) : sh (a ^^^ b) = sh a ^^^ sh b := by
  unfold sh
  rw [BitVec.shiftLeft_xor_distrib, xor4, BitVec.getLsbD_xor]
  cases a.getLsbD 31 <;> cases b.getLsbD 31 <;> simp
theorem sh_zero : sh 0#32 = 0#32 := by decide
theorem ite_xor (c d : Bool) (a : F) : (if (c ^^ d) then a else 0#32) = (if c then a else 0#32) ^^^ (if d then a else 0#32) := by
  cases c <;> cases d <;> simp
theorem ite_xor' (c : Bool) (a b : F) : (if c then a ^^^ b else 0#32) = (if c then a else 0#32) ^^^ (if c then b else 0#32) := by
  cases c <;> simp
theorem mulH_xor_r (a b c : F) (n : Nat) : mulH a (b ^^^ c) n = mulH a b n ^^^ mulH a c n := by
  induction n with
  | zero => simp [mulH]
  | succ n ih => simp only [mulH]; rw [ih, sh_xor, BitVec.getLsbD_xor, ite_xor, xor4]
theorem mulH_xor_l (a b c : F) (n : Nat) : mulH (a ^^^ b) c n = mulH a c n ^^^ mulH b c n := by
  induction n with
  | zero => simp [mulH]
  | succ n ih => simp only [mulH]; rw [ih, sh_xor, ite_xor', xor4]
theorem mulH_sh (a b : F) (n : Nat) : mulH (sh a) b n = sh (mulH a b n) := by
  induction n with
  | zero => simp [mulH, sh_zero]
  | succ n ih =>
    simp only [mulH]; rw [ih, sh_xor]; congr 1
    cases b.getLsbD (31 - n) <;> simp [sh_zero]
theorem mul_xor (a b c : F) : mul a (b ^^^ c) = mul a b ^^^ mul a c := mulH_xor_r a b c 32
theorem xor_mul (a b c : F) : mul (a ^^^ b) c = mul a c ^^^ mul b c := mulH_xor_l a b c 32
theorem sh_mul (a b : F) : mul (sh a) b = sh (mul a b) := mulH_sh a b 32
def e (i : Nat) : F := 1#32 <<< i
theorem split_bit (a : F) (n : Nat) (h : a.getLsbD n = true) : ∀ i, n ≤ i → (a ^^^ e n).getLsbD i = (if i = n then false else a.getLsbD i) := by
  intro i hi
  have hn : n < 32 := BitVec.lt_of_getLsbD h
  simp only [BitVec.getLsbD_xor, e, BitVec.getLsbD_shiftLeft]
  by_cases e : i = n
  · subst e; simp [h, hn]
  · have : ¬ i < n := by omega
    have h2 : i - n ≠ 0 := by omega
    simp [e, this, BitVec.getLsbD_one, h2]
theorem lin_ext {m : Nat} (f g : F → BitVec m) (hf : ∀ a b, f (a ^^^ b) = f a ^^^ f b) (hg : ∀ a b, g (a ^^^ b) = g a ^^^ g b)
    (h : ∀ i, i < 32 → f (e i) = g (e i)) : ∀ a, f a = g a := by
  have h0 : ∀ (f : F → BitVec m), (∀ a b, f (a ^^^ b) = f a ^^^ f b) → f 0#32 = 0#m := by
    intro f hf
    have := hf 0#32 0#32
    simpa using this
  have key : ∀ n, n ≤ 32 → ∀ a : F, (∀ i, n ≤ i → a.getLsbD i = false) → f a = g a := by
    intro n
    induction n with
    | zero =>
      intro _ a ha
      have : a = 0#32 := BitVec.eq_of_getLsbD_eq (by intro i _; simp [ha i (Nat.zero_le _)])
      rw [this, h0 f hf, h0 g hg]
    | succ n ih =>
      intro hn a ha
      cases hb : a.getLsbD n with
      | false =>
        exact ih (by omega) a (fun i hi => by
          by_cases e : i = n
          · rw [e]; exact hb
          · exact ha i (by omega))
      | true =>
        have hs := split_bit a n hb
        have h1 := ih (by omega) (a ^^^ e n) (fun i hi => by
          rw [hs i hi]
          by_cases e : i = n
          · simp [e]
          · simp [e]; exact ha i (by omega))
        have e1 : a = (a ^^^ e n) ^^^ e n := by rw [BitVec.xor_assoc, BitVec.xor_self, BitVec.xor_zero]
        rw [e1, hf, hg, h1, h n (by omega)]
  intro a
  exact key 32 (Nat.le_refl _) a (fun i hi => BitVec.getLsbD_of_ge a i hi)
theorem mul_e_comm : ∀ i, i < 32 → ∀ j, j < 32 → mul (e i) (e j) = mul (e j) (e i) := by decide +kernel
theorem mul_comm (a b : F) : mul a b = mul b a := by
  refine lin_ext (fun a => mul a b) (fun a => mul b a) (fun x y => xor_mul x y b) (fun x y => mul_xor b x y) ?_ a
  intro i hi
  exact lin_ext (fun b => mul (e i) b) (fun b => mul b (e i)) (fun x y => mul_xor _ x y) (fun x y => xor_mul x y _) (fun j hj => mul_e_comm i hi j hj) b
theorem e_succ : ∀ i, i < 31 → e (i + 1) = sh (e i) := by decide +kernel
theorem one_mul (b : F) : mul 1#32 b = b := by
  exact lin_ext (fun b => mul 1#32 b) (fun b => b) (fun x y => mul_xor _ x y) (fun x y => rfl) (by decide +kernel) b
theorem mul_one (a : F) : mul a 1#32 = a := by rw [mul_comm, one_mul]
theorem mul_assoc (a b c : F) : mul (mul a b) c = mul a (mul b c) := by
  refine lin_ext (fun a => mul (mul a b) c) (fun a => mul a (mul b c)) (fun x y => by simp only [xor_mul]) (fun x y => xor_mul x y _) ?_ a
  intro i
  induction i with
  | zero => intro _; have : e 0 = 1#32 := by decide
            simp only [this, one_mul]
  | succ i ih =>
    intro hi
    have := ih (by omega)
    simp only [e_succ i (by omega), sh_mul]
    exact congrArg sh this
theorem mul_zero (a : F) : mul a 0#32 = 0#32 := by have := mul_xor a 0#32 0#32; simpa using this
theorem zero_mul (a : F) : mul 0#32 a = 0#32 := by rw [mul_comm, mul_zero]
def sq (a : F) : F := mul a a
theorem sq_xor (a b : F) : sq (a ^^^ b) = sq a ^^^ sq b := by
  unfold sq
  rw [mul_xor, xor_mul, xor_mul, mul_comm b a]
  have : ∀ x y z : F, (x ^^^ y) ^^^ (y ^^^ z) = x ^^^ z := by
    intro x y z; rw [BitVec.xor_assoc, ← BitVec.xor_assoc y y z, BitVec.xor_self, BitVec.zero_xor]
  exact this _ _ _
def sqN : Nat → F → F
  | 0, a => a
  | n + 1, a => sqN n (sq a)
theorem sqN_xor (n : Nat) : ∀ a b, sqN n (a ^^^ b) = sqN n a ^^^ sqN n b := by
  induction n with
  | zero => intro a b; rfl
  | succ n ih => intro a b; simp only [sqN]; rw [sq_xor, ih]
theorem sqN_32 (a : F) : sqN 32 a = a :=
  lin_ext (sqN 32) (fun a => a) (sqN_xor 32) (fun _ _ => rfl) (by decide +kernel) a
def pow (a : F) : Nat → F
  | 0 => 1#32
  | n + 1 => mul (pow a n) a
theorem pow_add (a : F) (m n : Nat) : pow a (m + n) = mul (pow a m) (pow a n) := by
  induction n with
  | zero => simp [pow, mul_one]
  | succ n ih => rw [← Nat.add_assoc]; simp only [pow]; rw [ih, mul_assoc]
theorem pow_one (a : F) : pow a 1 = a := by simp [pow, one_mul]
theorem pow_mul (a : F) (m n : Nat) : pow a (m * n) = pow (pow a m) n := by
  induction n with
  | zero => simp [pow]
  | succ n ih => rw [Nat.mul_succ, pow_add, ih]; rfl
theorem pow_sq (a : F) (n : Nat) : pow a (2 * n) = pow (sq a) n := by
  rw [pow_mul]; congr 1; simp [pow, one_mul, sq]
theorem pow_sqN (n : Nat) : ∀ a, pow a (2 ^ n) = sqN n a := by
  induction n with
  | zero => intro a; exact pow_one a
  | succ n ih => intro a; rw [Nat.pow_succ, Nat.mul_comm, pow_sq, ih]; rfl
theorem pow_all (a : F) : pow a 4294967296 = a := by
  have := pow_sqN 32 a
  rw [sqN_32] at this
  exact this

theorem xor_and (a b c : F) : (a ^^^ b) &&& c = (a &&& c) ^^^ (b &&& c) := by
  apply BitVec.eq_of_getLsbD_eq; intro i _
  simp only [BitVec.getLsbD_and, BitVec.getLsbD_xor]
  cases a.getLsbD i <;> cases b.getLsbD i <;> cases c.getLsbD i <;> rfl
def trN : Nat → F → F → F
  | 0, _, o => o
  | n + 1, a, o => trN n (sq a) (o ^^^ a)
def tr (a : F) : F := trN 32 a 0#32
theorem trN_xor (n : Nat) : ∀ a b o p, trN n (a ^^^ b) (o ^^^ p) = trN n a o ^^^ trN n b p := by
  induction n with
  | zero => intro a b o p; rfl
  | succ n ih => intro a b o p; simp only [trN]; rw [sq_xor, xor4, ih]
theorem tr_xor (a b : F) : tr (a ^^^ b) = tr a ^^^ tr b := by
  have := trN_xor 32 a b 0#32 0#32
  simpa [tr] using this
theorem tr_bit (a : F) : tr a &&& 1#32 = tr a :=
  lin_ext (fun a => tr a &&& 1#32) tr (fun a b => by simp only [tr_xor, xor_and]) tr_xor (by decide +kernel) a
theorem and_one (x : F) : x &&& 1#32 = 0#32 ∨ x &&& 1#32 = 1#32 := by
  have : ∀ x : F, (x &&& 1#32).toNat = x.toNat % 2 := by intro x; rw [BitVec.toNat_and]; exact Nat.and_one_is_mod _
  have h := this x
  rcases Nat.mod_two_eq_zero_or_one x.toNat with e | e
  · left; apply BitVec.eq_of_toNat_eq; rw [h, e]; rfl
  · right; apply BitVec.eq_of_toNat_eq; rw [h, e]; rfl
theorem tr_01 (a : F) : tr a = 0#32 ∨ tr a = 1#32 := by
  have := and_one (tr a); rwa [tr_bit] at this
def solN : Nat → F → F → F → F → F
  | 0, _, _, y, _ => y
  | n + 1, c, t, y, s => solN n (sq c) (sq t) (y ^^^ mul (s ^^^ t) c) (s ^^^ t)
def sol (c : F) : F := solN 32 c 0x2000000#32 0#32 0#32
theorem solN_xor (n : Nat) : ∀ c d t y z s, solN n (c ^^^ d) t (y ^^^ z) s = solN n c t y s ^^^ solN n d t z s := by
  induction n with
  | zero => intro c d t y z s; rfl
  | succ n ih => intro c d t y z s; simp only [solN]; rw [sq_xor, mul_xor, xor4, ih]
theorem sol_xor (c d : F) : sol (c ^^^ d) = sol c ^^^ sol d := by
  have := solN_xor 32 c d 0x2000000#32 0#32 0#32 0#32
  simpa [sol] using this
theorem sol_art (y : F) : sol (sq y ^^^ y) &&& 0xfffffffe#32 = y &&& 0xfffffffe#32 :=
  lin_ext (fun y => sol (sq y ^^^ y) &&& 0xfffffffe#32) (fun y => y &&& 0xfffffffe#32)
    (fun a b => by simp only [sq_xor]; rw [xor4, sol_xor, xor_and]) (fun a b => (xor_and _ _ _)) (by decide +kernel) y
theorem and_even (x : F) : x &&& 0xfffffffe#32 = x ^^^ (x &&& 1#32) := by
  have h : (0xfffffffe#32 : F) = 1#32 ^^^ 0xffffffff#32 := by decide
  have h2 : ∀ x : F, x &&& 0xffffffff#32 = x := by intro x; have : (0xffffffff#32 : F) = BitVec.allOnes 32 := by decide
                                                   rw [this, BitVec.and_allOnes]
  rw [BitVec.and_comm, h, xor_and, BitVec.and_comm, BitVec.and_comm _ x, h2, BitVec.xor_comm]
theorem xor_eq_zero {a b : F} (h : a ^^^ b = 0#32) : a = b := by
  have : (a ^^^ b) ^^^ b = b := by rw [h, BitVec.zero_xor]
  rwa [BitVec.xor_assoc, BitVec.xor_self, BitVec.xor_zero] at this
theorem art_zero {y : F} (h : sq y = y) : y = 0#32 ∨ y = 1#32 := by
  have h1 := sol_art y
  rw [h, BitVec.xor_self] at h1
  have h2 : sol 0#32 &&& 0xfffffffe#32 = 0#32 := by decide +kernel
  rw [h2, and_even] at h1
  have := xor_eq_zero h1.symm
  rw [this]; exact and_one y
def inv (a : F) : F := pow a 4294967294
theorem zero_pow (n : Nat) : pow 0#32 (n + 1) = 0#32 := by simp only [pow]; exact mul_zero _
theorem inv_zero : inv 0#32 = 0#32 := zero_pow 4294967293
theorem one_ne_zero : (1#32 : F) ≠ 0#32 := by decide
theorem mul_inv {a : F} (h : a ≠ 0#32) : mul a (inv a) = 1#32 := by
  have hi : mul a (inv a) = pow a 4294967295 := by
    unfold inv; rw [mul_comm]; rfl
  have hu : mul (pow a 4294967295) a = a := by
    have := pow_all a
    exact this
  have hs : sq (pow a 4294967295) = pow a 4294967295 := by
    have h1 : sq (pow a 4294967295) = pow a (4294967294 + 4294967296) := by
      unfold sq; rw [← pow_add]
    rw [h1, pow_add, pow_all]; rfl
  rw [hi]
  rcases art_zero hs with e | e
  · rw [e, zero_mul] at hu; exact absurd hu.symm h
  · exact e
theorem inv_mul {a : F} (h : a ≠ 0#32) : mul (inv a) a = 1#32 := by rw [mul_comm, mul_inv h]
theorem mul_eq_zero {a b : F} (h : mul a b = 0#32) : a = 0#32 ∨ b = 0#32 := by
  by_cases ha : a = 0#32
  · exact .inl ha
  · right
    have : mul (inv a) (mul a b) = b := by rw [← mul_assoc, inv_mul ha, one_mul]
    rw [h, mul_zero] at this; exact this.symm
theorem mul_left_cancel {a b c : F} (ha : a ≠ 0#32) (h : mul a b = mul a c) : b = c := by
  have h1 : mul (inv a) (mul a b) = mul (inv a) (mul a c) := by rw [h]
  rwa [← mul_assoc, ← mul_assoc, inv_mul ha, one_mul, one_mul] at h1
theorem inv_unique {a b : F} (h : mul a b = 1#32) : b = inv a := by
  have ha : a ≠ 0#32 := by intro e; rw [e, zero_mul] at h; exact one_ne_zero h.symm
  exact mul_left_cancel ha (h.trans (mul_inv ha).symm)
def root (a : F) : F := sqN 31 a
theorem sq_sqN (n : Nat) : ∀ a, sq (sqN n a) = sqN (n + 1) a := by
  induction n with
  | zero => intro a; rfl
  | succ n ih => intro a; exact ih (sq a)
end Go.Proofs.Ytljkbkhaamlbmaa.GF
