/- Division, common divisors and squares of polynomials: plain mathematics, no program in sight. -/
import Derived.Test.YtfjkiiajbeaaoaaPolyT
set_option linter.unusedVariables false
set_option linter.unusedSimpArgs false
namespace Go.Proofs.Ytfjkiiajbeaaoaa.PolyT
open Go.Proofs.Ytfjkiiajbeaaoaa GF
/-- a function, moved up by n places -/
def shn (n : Nat) (f : S) : S := fun j => if n ≤ j then f (j - n) else 0#32
theorem shn_zero (f : S) : shn 0 f = f := by funext j; simp [shn]
theorem X_shn (n : Nat) (f : S) : X (shn n f) = shn (n + 1) f := by
  funext j
  cases j with
  | zero => simp [X, shn]
  | succ j =>
    simp only [X, shn]
    by_cases h : n ≤ j
    · rw [if_pos h, if_pos (by omega)]; congr 1; omega
    · rw [if_neg h, if_neg (by omega)]
theorem sadd_assoc (f g h : S) : sadd (sadd f g) h = sadd f (sadd g h) := by funext i; simp only [sadd]; rw [BitVec.xor_assoc]
theorem sadd_comm (f g : S) : sadd f g = sadd g f := by funext i; simp only [sadd]; rw [BitVec.xor_comm]
theorem zero_sadd (f : S) : sadd (fun _ => 0#32) f = f := by funext i; simp [sadd]
theorem sadd_self (f : S) : sadd f f = fun _ => 0#32 := by funext i; simp [sadd]
/-- a list with given coefficients -/
theorem of_fn (f : S) (n : Nat) (h : ∀ i, n ≤ i → f i = 0#32) : ∃ l : List F, co l = f ∧ l.length = n := by
  refine ⟨(List.range n).map f, funext fun i => ?_, by simp⟩
  by_cases hi : i < n
  · rw [co_lt (by simpa using hi)]; simp
  · rw [co_ge (by simpa using Nat.le_of_not_lt hi), h i (Nat.le_of_not_lt hi)]
theorem ex_pr (a b : List F) : ∃ c, co c = pr a b := by
  obtain ⟨l, h, _⟩ := of_fn (pr a b) (len a + len b) (fun i hi => pr_high a b i (by omega))
  exact ⟨l, h⟩
theorem ex_add (a b : List F) : ∃ c, co c = sadd (co a) (co b) := by
  obtain ⟨l, h, _⟩ := of_fn (sadd (co a) (co b)) (max a.length b.length) (fun i hi => by simp only [sadd]; rw [co_ge (by omega), co_ge (by omega)]; rfl)
  exact ⟨l, h⟩
/-- b divides a -/
def Dv (b a : List F) : Prop := ∃ q, co a = pr q b
theorem Dv.congr {a b c : List F} (h : Dv b a) (e : co c = co a) : Dv b c := by
  obtain ⟨q, hq⟩ := h; exact ⟨q, by rw [e, hq]⟩
theorem Dv.congr_l {a b c : List F} (h : Dv b a) (e : co c = co b) : Dv c a := by
  obtain ⟨q, hq⟩ := h; exact ⟨q, by rw [hq]; unfold pr; rw [e]⟩
theorem Dv.zero {a b : List F} (h : len a = 0) : Dv b a := ⟨[], by rw [pr_zero_l b rfl]; exact funext (len_zero h)⟩
theorem Dv.mul {a b c : List F} (q : List F) (h : Dv c b) (e : co a = pr q b) : Dv c a := by
  obtain ⟨p, hp⟩ := h
  obtain ⟨m, hm⟩ := ex_pr q p
  exact ⟨m, by rw [e]; exact (pr_assoc hm hp).symm⟩
theorem Dv.add {a b c d : List F} (h1 : Dv c a) (h2 : Dv c b) (e : co d = sadd (co a) (co b)) : Dv c d := by
  obtain ⟨p, hp⟩ := h1
  obtain ⟨q, hq⟩ := h2
  obtain ⟨m, hm⟩ := ex_add p q
  exact ⟨m, by rw [e, hp, hq, pr_add_l c hm]⟩
theorem Dv.mul_r (a b c : List F) (e : co c = pr a b) : Dv b c := ⟨a, e⟩
theorem Dv.of_zero {a b : List F} (h : Dv b a) (hb : len b = 0) : len a = 0 := by
  obtain ⟨q, hq⟩ := h
  refine len_eq (fun i _ => ?_) (fun m hm => by omega)
  rw [hq, pr_zero_r q hb]
/-- scaling a list -/
def sc (c : F) (l : List F) : List F := l.map (mul c)
theorem co_sc (c : F) (l : List F) : co (sc c l) = smul c (co l) := by
  funext i
  by_cases h : i < l.length
  · simp only [sc, smul]; rw [co_lt (by simpa [sc] using h), co_lt h]; simp
  · simp only [sc, smul]; rw [co_ge (by simpa [sc] using Nat.le_of_not_lt h), co_ge (Nat.le_of_not_lt h), GF.mul_zero]
theorem sc_length (c : F) (l : List F) : (sc c l).length = l.length := by simp [sc]
theorem len_sc {c : F} (hc : c ≠ 0#32) (l : List F) : len (sc c l) = len l :=
  len_eq (fun i hi => by rw [co_sc]; simp only [smul]; rw [co_len l i hi, GF.mul_zero]) (fun m hm => by
    rw [co_sc]; simp only [smul]; intro h
    rcases GF.mul_eq_zero h with h | h
    · exact hc h
    · exact co_top l m hm h)
theorem Dv.sc {c : F} (hc : c ≠ 0#32) {a : List F} : Dv (sc c a) a ∧ Dv a (PolyT.sc c a) := by
  constructor
  · refine ⟨[inv c], ?_⟩
    show _ = sadd (smul (inv c) (co (PolyT.sc c a))) (X (fun _ => 0#32))
    rw [X_zero, sadd_zero, co_sc]
    funext i; simp only [smul]
    rw [← GF.mul_assoc, GF.mul_comm (inv c) c, GF.mul_inv hc, GF.mul_comm, GF.mul_one]
  · refine ⟨[c], ?_⟩
    show _ = sadd (smul c (co a)) (X (fun _ => 0#32))
    rw [X_zero, sadd_zero, co_sc]
/-- what is monic of it -/
def monic (l : List F) : List F := if len l = 0 then [] else sc (inv (co l (len l - 1))) (trim l)
theorem monic_congr {a b : List F} (h : co a = co b) : monic a = monic b := by
  unfold monic; rw [len_congr (congrFun h), h, trim_congr (congrFun h)]
theorem inv_ne {c : F} (h : c ≠ 0#32) : inv c ≠ 0#32 := by
  intro e
  have := GF.mul_inv h
  rw [e, GF.mul_zero] at this
  exact absurd this (by decide)
theorem top_ne {l : List F} (h : len l ≠ 0) : co l (len l - 1) ≠ 0#32 := co_top l _ (by omega)
theorem tr_monic (l : List F) : Tr (monic l) := by
  unfold monic Tr
  by_cases h : len l = 0
  · rw [if_pos h]; rfl
  · rw [if_neg h, len_sc (inv_ne (top_ne h)), sc_length, len_trim, trim_length]
theorem len_monic (l : List F) : len (monic l) = len l := by
  unfold monic
  by_cases h : len l = 0
  · rw [if_pos h, h]; rfl
  · rw [if_neg h, len_sc (inv_ne (top_ne h)), len_trim]
theorem monic_top {l : List F} (h : len l ≠ 0) : co (monic l) (len l - 1) = 1#32 := by
  unfold monic
  rw [if_neg h, co_sc]; simp only [smul]
  rw [co_trim, GF.mul_comm, GF.mul_inv (top_ne h)]
theorem Dv.monic (l : List F) : Dv (monic l) l ∧ Dv l (PolyT.monic l) := by
  by_cases h : len l = 0
  · exact ⟨Dv.zero h, Dv.zero (by rw [len_monic, h])⟩
  · unfold PolyT.monic
    rw [if_neg h]
    have := Dv.sc (inv_ne (top_ne h)) (a := trim l)
    have e : co (trim l) = co l := funext (co_trim l)
    exact ⟨this.1.congr e.symm, this.2.congr_l e.symm⟩
/-- a quotient and a rest -/
def Quo (a b q r : List F) : Prop := sadd (pr q b) (co r) = co a ∧ len r < len b
theorem Quo.eq {a b q r q' r' : List F} (h : Quo a b q r) (h' : Quo a b q' r') (t : Tr q) (t' : Tr q') (u : Tr r) (u' : Tr r') : q = q' ∧ r = r' := by
  have := div_unique (b := b) (by have := h.2; omega) (h.1.trans h'.1.symm) h.2 h'.2
  exact ⟨tr_ext t t' (congrFun this.1), tr_ext u u' (congrFun this.2)⟩
theorem Quo.congr {a a' b b' q r : List F} (h : Quo a b q r) (e : co a' = co a) (e2 : co b' = co b) : Quo a' b' q r := by
  refine ⟨?_, by rw [len_congr (congrFun e2)]; exact h.2⟩
  rw [e, ← h.1]; unfold pr; rw [e2]
/-- the last that is not nought, of what is divided again and again -/
inductive Gcd : List F → List F → List F → Prop
  | done {a b : List F} : len b = 0 → Gcd a b (monic a)
  | step {a b q r g : List F} : Quo a b q r → Gcd b r g → Gcd a b g
theorem Gcd.tr {a b g : List F} (h : Gcd a b g) : Tr g := by
  induction h with
  | done _ => exact tr_monic _
  | step _ _ ih => exact ih
theorem Gcd.eq {a b g : List F} (h : Gcd a b g) : ∀ {a' b' g' : List F}, Gcd a' b' g' → co a = co a' → co b = co b' → g = g' := by
  induction h with
  | done h0 =>
    intro a' b' g' h' e e2
    cases h' with
    | done _ => exact monic_congr e
    | step h1 _ => have := h1.2; rw [← len_congr (congrFun e2), h0] at this; omega
  | step h0 _ ih =>
    intro a' b' g' h' e e2
    cases h' with
    | done h1 => have := h0.2; rw [len_congr (congrFun e2), h1] at this; omega
    | step h1 h2 =>
      have h1' := h1.congr e e2
      refine ih h2 e2 ?_
      exact (div_unique (by have := h0.2; omega) (h0.1.trans h1'.1.symm) h0.2 h1'.2).2
theorem Gcd.dv {a b g : List F} (h : Gcd a b g) : Dv g a ∧ Dv g b := by
  induction h with
  | done h0 => exact ⟨(Dv.monic _).1, Dv.zero h0⟩
  | @step a b q r g h0 _ ih =>
    obtain ⟨m, hm⟩ := ex_pr q b
    exact ⟨(ih.1.mul q hm).add ih.2 (by rw [hm]; exact h0.1.symm), ih.1⟩
theorem Gcd.greatest {a b g c : List F} (h : Gcd a b g) : Dv c a → Dv c b → Dv c g := by
  induction h with
  | @done a b h0 =>
    intro h1 h2
    obtain ⟨q, hq⟩ := (Dv.monic a).2
    exact h1.mul q hq
  | @step a b q r g h0 _ ih =>
    intro h1 h2
    obtain ⟨m, hm⟩ := ex_pr q b
    refine ih h2 (h1.add (h2.mul q hm) ?_)
    rw [hm, ← h0.1]
    funext i; simp only [sadd]
    rw [BitVec.xor_comm (pr q b i), BitVec.xor_assoc, BitVec.xor_self, BitVec.xor_zero]
/-- an exact division leaves nothing -/
theorem Quo.exact {a b q r : List F} (h : Quo a b q r) (hr : Tr r) (hd : Dv b a) : r = [] := by
  obtain ⟨p, hp⟩ := hd
  have h2 : Quo a b p [] := ⟨by rw [hp]; exact sadd_zero _, by have := h.2; show 0 < _; omega⟩
  have := (div_unique (by have := h.2; omega) (h.1.trans h2.1.symm) h.2 h2.2).2
  exact tr_ext hr tr_nil (congrFun this)
/-! ### squares -/
theorem pr_cons_sq (x : F) (a : List F) : pr (x :: a) (x :: a) = sadd (smul (mul x x) one) (X (X (pr a a))) := by
  have e : co (x :: a) = sadd (smul x one) (X (co a)) := by rw [← act_one (x :: a)]; simp only [act]; rw [act_one]
  show sadd (smul x (co (x :: a))) (X (act a (co (x :: a)))) = _
  rw [e, act_add, act_smul, act_one, act_X, smul_add, X_add, X_smul]
  funext i
  simp only [sadd]
  have : smul x (smul x one) i = smul (mul x x) one i := by simp only [smul]; rw [GF.mul_assoc]
  rw [this]
  show _ ^^^ smul x (X (co a)) i ^^^ (smul x (X (co a)) i ^^^ X (X (act a (co a))) i) = _ ^^^ X (X (act a (co a))) i
  rw [BitVec.xor_assoc, ← BitVec.xor_assoc (smul x (X (co a)) i), BitVec.xor_self, BitVec.zero_xor]
theorem pr_sq (a : List F) : ∀ i, pr a a (2 * i) = mul (co a i) (co a i) ∧ pr a a (2 * i + 1) = 0#32 := by
  induction a with
  | nil => intro i; exact ⟨by rw [pr_zero_l _ rfl, co_nil, GF.mul_zero], by rw [pr_zero_l _ rfl]⟩
  | cons x a ih =>
    intro i
    rw [pr_cons_sq]
    cases i with
    | zero =>
      refine ⟨?_, ?_⟩
      · show mul (mul x x) (1#32) ^^^ 0#32 = _
        rw [GF.mul_one, BitVec.xor_zero, co_cons_zero]
      · show mul (mul x x) (0#32) ^^^ 0#32 = _
        rw [GF.mul_zero, BitVec.xor_zero]
    | succ i =>
      have e1 : 2 * (i + 1) = 2 * i + 1 + 1 := by omega
      rw [e1, co_cons_succ]
      refine ⟨?_, ?_⟩
      · show mul (mul x x) (0#32) ^^^ pr a a (2 * i) = _
        rw [GF.mul_zero, BitVec.zero_xor, (ih i).1]
      · show mul (mul x x) (0#32) ^^^ pr a a (2 * i + 1) = _
        rw [GF.mul_zero, BitVec.zero_xor, (ih i).2]
/-! ### setting one coefficient -/
theorem pr_set (b : List F) (t : F) : ∀ (q : List F) (i : Nat), i < q.length → co q i = 0#32 → pr (q.set i t) b = sadd (pr q b) (smul t (shn i (co b))) := by
  intro q
  induction q with
  | nil => intro i h; simp at h
  | cons x q ih =>
    intro i h h0
    cases i with
    | zero =>
      rw [co_cons_zero] at h0
      subst h0
      show sadd (smul t (co b)) (X (act q (co b))) = sadd (sadd (smul 0#32 (co b)) (X (act q (co b)))) _
      rw [shn_zero]
      funext j; simp only [sadd, smul]
      rw [GF.zero_mul, BitVec.zero_xor, BitVec.xor_comm]
    | succ i =>
      rw [co_cons_succ] at h0
      show sadd (smul x (co b)) (X (pr (q.set i t) b)) = sadd (sadd (smul x (co b)) (X (pr q b))) _
      rw [ih i (by simpa using h) h0, X_add, X_smul, X_shn, sadd_assoc]
theorem pr_shn (t : F) (n : Nat) (b q : List F) (h : co q = smul t (shn n one)) : pr q b = smul t (shn n (co b)) := by
  have h1 : pr q b = pr ((List.replicate (n + 1) 0#32).set n t) b := act_congr (fun i => by
    rw [h, co_set, List.length_replicate]; simp only [smul, shn]
    by_cases e : i = n
    · subst e; rw [if_pos (Nat.le_refl _), Nat.sub_self, if_pos ⟨rfl, by omega⟩]; exact GF.mul_one t
    · have e0 : (if i = n ∧ n < n + 1 then t else co (List.replicate (n + 1) 0#32) i) = 0#32 := by rw [if_neg (fun hh => e hh.1), co_replicate]
      rw [e0]
      by_cases h : n ≤ i
      · rw [if_pos h]
        obtain ⟨m, hm⟩ : ∃ m, i - n = m + 1 := ⟨i - n - 1, by omega⟩
        rw [hm]; exact GF.mul_zero t
      · rw [if_neg h, GF.mul_zero]) b
  have h2 : len (List.replicate (n + 1) 0#32) = 0 := len_eq (fun i _ => co_replicate _ _) (fun m hm => by omega)
  rw [h1, pr_set b t (List.replicate (n + 1) 0#32) n (by simp) (co_replicate _ _), pr_zero_l b h2, zero_sadd]
end Go.Proofs.Ytfjkiiajbeaaoaa.PolyT
