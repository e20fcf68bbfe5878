/- Polynomials over the field of 2^32 elements, as lists of coefficients: plain mathematics, no program in sight. -/
import Derived.Test.YtljkbkhaamlbmaaGF
set_option linter.unusedVariables false
set_option linter.unusedSimpArgs false
namespace Go.Proofs.Ytljkbkhaamlbmaa.PolyT
open Go.Proofs.Ytljkbkhaamlbmaa GF
def co (l : List F) (i : Nat) : F := l.getD i 0#32
theorem co_nil (i : Nat) : co [] i = 0#32 := rfl
theorem co_cons_zero (a : F) (l : List F) : co (a :: l) 0 = a := rfl
theorem co_cons_succ (a : F) (l : List F) (i : Nat) : co (a :: l) (i + 1) = co l i := rfl
theorem co_ge {l : List F} {i : Nat} (h : l.length ≤ i) : co l i = 0#32 := by
  unfold co; rw [List.getD_eq_getElem?_getD, List.getElem?_eq_none h]; rfl
theorem co_lt {l : List F} {i : Nat} (h : i < l.length) : co l i = l[i] := by
  unfold co; rw [List.getD_eq_getElem?_getD, List.getElem?_eq_getElem h]; rfl
theorem co_take {l : List F} {n i : Nat} : co (l.take n) i = if i < n then co l i else 0#32 := by
  unfold co
  rw [List.getD_eq_getElem?_getD, List.getD_eq_getElem?_getD, List.getElem?_take]
  split <;> rfl
theorem co_append {a b : List F} {i : Nat} : co (a ++ b) i = if i < a.length then co a i else co b (i - a.length) := by
  unfold co
  rw [List.getD_eq_getElem?_getD, List.getD_eq_getElem?_getD, List.getD_eq_getElem?_getD, List.getElem?_append]
  split <;> rfl
theorem co_replicate (n i : Nat) : co (List.replicate n 0#32) i = 0#32 := by
  by_cases h : i < n
  · rw [co_lt (by simpa using h)]; simp
  · exact co_ge (by simpa using Nat.le_of_not_lt h)
theorem co_set {l : List F} {n : Nat} {x : F} {i : Nat} : co (l.set n x) i = if i = n ∧ n < l.length then x else co l i := by
  by_cases h : i < l.length
  · rw [co_lt (by simpa using h), co_lt h, List.getElem_set]
    by_cases e : n = i
    · subst e; simp [h]
    · rw [if_neg e, if_neg (by intro c; exact e c.1.symm)]
  · rw [co_ge (by simpa using Nat.le_of_not_lt h), co_ge (Nat.le_of_not_lt h), if_neg (by intro c; omega)]
theorem list_ext {a b : List F} (hl : a.length = b.length) (h : ∀ i, co a i = co b i) : a = b := by
  apply List.ext_getElem hl
  intro i h1 h2
  have := h i
  rwa [co_lt h1, co_lt h2] at this
def len : List F → Nat
  | [] => 0
  | a :: l => if len l = 0 then (if a = 0#32 then 0 else 1) else len l + 1
theorem len_le (l : List F) : len l ≤ l.length := by
  induction l with
  | nil => exact Nat.le_refl _
  | cons a l ih => simp only [len, List.length_cons]; split; split <;> omega; omega
theorem co_len (l : List F) : ∀ i, len l ≤ i → co l i = 0#32 := by
  induction l with
  | nil => intro i _; rfl
  | cons a l ih =>
    intro i hi
    simp only [len] at hi
    by_cases h : len l = 0
    · rw [if_pos h] at hi
      cases i with
      | zero =>
        by_cases h2 : a = 0#32
        · rw [h2]; rfl
        · rw [if_neg h2] at hi; omega
      | succ i => rw [co_cons_succ]; exact ih i (by omega)
    · rw [if_neg h] at hi
      cases i with
      | zero => omega
      | succ i => rw [co_cons_succ]; exact ih i (by omega)
theorem co_top (l : List F) : ∀ n, len l = n + 1 → co l n ≠ 0#32 := by
  induction l with
  | nil => intro n h; simp [len] at h
  | cons a l ih =>
    intro n h
    simp only [len] at h
    by_cases h1 : len l = 0
    · rw [if_pos h1] at h
      by_cases h2 : a = 0#32
      · rw [if_pos h2] at h; omega
      · rw [if_neg h2] at h
        obtain rfl : n = 0 := by omega
        exact h2
    · rw [if_neg h1] at h
      obtain ⟨m, rfl⟩ : ∃ m, n = m + 1 := ⟨n - 1, by omega⟩
      rw [co_cons_succ]; exact ih m (by omega)
theorem len_eq {l : List F} {n : Nat} (h0 : ∀ i, n ≤ i → co l i = 0#32) (h1 : ∀ m, n = m + 1 → co l m ≠ 0#32) : len l = n := by
  rcases Nat.lt_trichotomy (len l) n with h | h | h
  · obtain ⟨m, rfl⟩ : ∃ m, n = m + 1 := ⟨n - 1, by omega⟩
    exact absurd (co_len l m (by omega)) (h1 m rfl)
  · exact h
  · obtain ⟨m, hm⟩ : ∃ m, len l = m + 1 := ⟨len l - 1, by omega⟩
    exact absurd (h0 m (by omega)) (co_top l m hm)
theorem len_congr {a b : List F} (h : ∀ i, co a i = co b i) : len a = len b :=
  len_eq (fun i hi => by rw [h]; exact co_len b i hi) (fun m hm => by rw [h]; exact co_top b m hm)
theorem len_zero {l : List F} (h : len l = 0) : ∀ i, co l i = 0#32 := fun i => co_len l i (by omega)
def trim (l : List F) : List F := l.take (len l)
theorem trim_length (l : List F) : (trim l).length = len l := by unfold trim; rw [List.length_take]; have := len_le l; omega
theorem co_trim (l : List F) (i : Nat) : co (trim l) i = co l i := by
  unfold trim; rw [co_take]
  by_cases h : i < len l
  · rw [if_pos h]
  · rw [if_neg h, co_len l i (by omega)]
theorem len_trim (l : List F) : len (trim l) = len l := len_congr (co_trim l)
def Tr (l : List F) : Prop := len l = l.length
theorem tr_trim (l : List F) : Tr (trim l) := by unfold Tr; rw [len_trim, trim_length]
theorem tr_ext {a b : List F} (ha : Tr a) (hb : Tr b) (h : ∀ i, co a i = co b i) : a = b :=
  list_ext (by rw [← ha, ← hb]; exact len_congr h) h
theorem trim_of_tr {l : List F} (h : Tr l) : trim l = l := tr_ext (tr_trim l) h (co_trim l)
theorem tr_nil : Tr [] := rfl
theorem trim_congr {a b : List F} (h : ∀ i, co a i = co b i) : trim a = trim b := tr_ext (tr_trim a) (tr_trim b) (fun i => by rw [co_trim, co_trim, h])
abbrev S := Nat → F
def sadd (f g : S) : S := fun i => f i ^^^ g i
def smul (c : F) (f : S) : S := fun i => mul c (f i)
def X (f : S) : S
  | 0 => 0#32
  | i + 1 => f i
def one : S
  | 0 => 1#32
  | _ + 1 => 0#32
def act : List F → S → S
  | [], _ => fun _ => 0#32
  | a :: l, f => sadd (smul a f) (X (act l f))
theorem X_add (f g : S) : X (sadd f g) = sadd (X f) (X g) := by
  funext i; cases i with
  | zero => simp [X, sadd]
  | succ i => rfl
theorem X_smul (c : F) (f : S) : X (smul c f) = smul c (X f) := by
  funext i; cases i with
  | zero => simp [X, smul, GF.mul_zero]
  | succ i => rfl
theorem X_zero : X (fun _ => 0#32) = fun _ => 0#32 := by funext i; cases i <;> rfl
theorem smul_add (c : F) (f g : S) : smul c (sadd f g) = sadd (smul c f) (smul c g) := by funext i; simp [smul, sadd, mul_xor]
theorem smul_smul (c d : F) (f : S) : smul c (smul d f) = smul d (smul c f) := by
  funext i; simp only [smul]; rw [← GF.mul_assoc, GF.mul_comm c d, GF.mul_assoc]
theorem sadd_comm4 (a b c d : S) : sadd (sadd a b) (sadd c d) = sadd (sadd a c) (sadd b d) := by funext i; exact xor4 _ _ _ _
theorem smul_zero (c : F) : smul c (fun _ => 0#32) = fun _ => 0#32 := by funext i; exact GF.mul_zero c
theorem sadd_zero (f : S) : sadd f (fun _ => 0#32) = f := by funext i; simp [sadd]
theorem act_zero (l : List F) : act l (fun _ => 0#32) = fun _ => 0#32 := by
  induction l with
  | nil => rfl
  | cons a l ih => simp only [act]; rw [ih, X_zero, smul_zero, sadd_zero]
theorem act_add (l : List F) (f g : S) : act l (sadd f g) = sadd (act l f) (act l g) := by
  induction l with
  | nil => funext i; simp [act, sadd]
  | cons a l ih => simp only [act]; rw [ih, X_add, smul_add, sadd_comm4]
theorem act_smul (l : List F) (c : F) (f : S) : act l (smul c f) = smul c (act l f) := by
  induction l with
  | nil => exact (smul_zero c).symm
  | cons a l ih => simp only [act]; rw [ih, X_smul, smul_add, smul_smul]
theorem act_X (l : List F) (f : S) : act l (X f) = X (act l f) := by
  induction l with
  | nil => exact X_zero.symm
  | cons a l ih => simp only [act]; rw [ih, X_add, X_smul]
theorem act_act (a b : List F) (f : S) : act a (act b f) = act b (act a f) := by
  induction a with
  | nil => exact (act_zero b).symm
  | cons x a ih => simp only [act]; rw [ih, ← act_X, ← act_smul, ← act_add]
theorem act_one (l : List F) : act l one = co l := by
  induction l with
  | nil => funext i; rfl
  | cons a l ih =>
    simp only [act]; rw [ih]
    funext i
    cases i with
    | zero => simp [sadd, smul, one, X, GF.mul_one, co_cons_zero]
    | succ i => simp [sadd, smul, one, X, GF.mul_zero, co_cons_succ]
def pr (a b : List F) : S := act a (co b)
theorem pr_comm (a b : List F) : pr a b = pr b a := by unfold pr; rw [← act_one b, ← act_one a, act_act]
theorem pr_assoc {a b c ab bc : List F} (h1 : co ab = pr a b) (h2 : co bc = pr b c) : pr ab c = pr a bc := by
  rw [pr_comm]; unfold pr
  rw [h1, h2]; unfold pr
  rw [act_act c a, ← act_one b, act_act c b, act_one c]
theorem act_congr {a b : List F} (h : ∀ i, co a i = co b i) (c : List F) : pr a c = pr b c := by
  rw [pr_comm a, pr_comm b]; unfold pr; rw [show co a = co b from funext h]
theorem len_tail_zero {x : F} {a : List F} (h : len (x :: a) = 0) : x = 0#32 ∧ len a = 0 := by
  refine ⟨len_zero h 0, ?_⟩
  simp only [len] at h
  by_cases h4 : len a = 0
  · exact h4
  · rw [if_neg h4] at h; omega
theorem act_of_zero (a : List F) (f : S) (h : len a = 0) : act a f = fun _ => 0#32 := by
  induction a with
  | nil => rfl
  | cons y a ih =>
    obtain ⟨hy, h3⟩ := len_tail_zero h
    simp only [act]; rw [ih h3, X_zero, hy]
    funext i; simp [sadd, smul, GF.zero_mul]
theorem act_high (a : List F) (f : S) (n : Nat) (hf : ∀ i, n ≤ i → f i = 0#32) : ∀ i, len a + n ≤ i + 1 → act a f i = 0#32 := by
  induction a with
  | nil => intro i _; rfl
  | cons x a ih =>
    intro i hi
    by_cases h0 : len (x :: a) = 0
    · rw [act_of_zero _ _ h0]
    · simp only [act, sadd, smul]
      rw [hf i (by omega), GF.mul_zero, BitVec.zero_xor]
      cases i with
      | zero => rfl
      | succ i =>
        simp only [X]
        by_cases h2 : len a = 0
        · rw [act_of_zero _ _ h2]
        · have h3 : len (x :: a) = len a + 1 := by simp only [len]; rw [if_neg h2]
          exact ih i (by omega)
theorem act_top (a : List F) (f : S) (n : Nat) (hf : ∀ i, n + 1 ≤ i → f i = 0#32) : ∀ p, len a = p + 1 → act a f (p + n) = mul (co a p) (f n) := by
  induction a with
  | nil => intro p h; simp [len] at h
  | cons x a ih =>
    intro p hp
    simp only [act, sadd, smul]
    by_cases h2 : len a = 0
    · have hp0 : p = 0 := by
        simp only [len] at hp; rw [if_pos h2] at hp
        by_cases h3 : x = 0#32
        · rw [if_pos h3] at hp; omega
        · rw [if_neg h3] at hp; omega
      subst hp0
      rw [act_of_zero _ _ h2, X_zero, Nat.zero_add, BitVec.xor_zero]; rfl
    · have h3 : len (x :: a) = len a + 1 := by simp only [len]; rw [if_neg h2]
      obtain ⟨q, rfl⟩ : ∃ q, p = q + 1 := ⟨p - 1, by omega⟩
      rw [hf (q + 1 + n) (by omega), GF.mul_zero, BitVec.zero_xor]
      have e : q + 1 + n = (q + n) + 1 := by omega
      rw [e]; simp only [X]
      exact ih q (by omega)
theorem pr_high (a b : List F) : ∀ i, len a + len b ≤ i + 1 → pr a b i = 0#32 := act_high a (co b) (len b) (co_len b)
theorem pr_top {a b : List F} {p q : Nat} (ha : len a = p + 1) (hb : len b = q + 1) : pr a b (p + q) ≠ 0#32 := by
  unfold pr
  rw [act_top a (co b) q (fun i hi => co_len b i (by omega)) p ha]
  intro h
  rcases GF.mul_eq_zero h with h1 | h1
  · exact co_top a p ha h1
  · exact co_top b q hb h1
theorem len_pr {a b c : List F} (h : co c = pr a b) (ha : len a ≠ 0) (hb : len b ≠ 0) : len c + 1 = len a + len b := by
  obtain ⟨p, hp⟩ : ∃ p, len a = p + 1 := ⟨len a - 1, by omega⟩
  obtain ⟨q, hq⟩ : ∃ q, len b = q + 1 := ⟨len b - 1, by omega⟩
  have : len c = p + q + 1 := len_eq (fun i hi => by rw [h]; exact pr_high a b i (by omega)) (fun m hm => by
    obtain rfl : m = p + q := by omega
    rw [h]; exact pr_top hp hq)
  omega
theorem pr_zero_l {a : List F} (b : List F) (h : len a = 0) : pr a b = fun _ => 0#32 := act_of_zero a _ h
theorem pr_zero_r (a : List F) {b : List F} (h : len b = 0) : pr a b = fun _ => 0#32 := by rw [pr_comm]; exact act_of_zero b _ h
theorem pr_add_r (a : List F) {b c d : List F} (h : co d = sadd (co b) (co c)) : pr a d = sadd (pr a b) (pr a c) := by unfold pr; rw [h, act_add]
theorem pr_add_l {a b d : List F} (c : List F) (h : co d = sadd (co a) (co b)) : pr d c = sadd (pr a c) (pr b c) := by rw [pr_comm, pr_add_r c h, pr_comm c, pr_comm c]
theorem div_unique {b q1 r1 q2 r2 : List F} (hb : len b ≠ 0) (h : sadd (pr q1 b) (co r1) = sadd (pr q2 b) (co r2)) (h1 : len r1 < len b) (h2 : len r2 < len b) :
    co q1 = co q2 ∧ co r1 = co r2 := by
  let n := max q1.length q2.length
  let d : List F := (List.range n).map fun i => co q1 i ^^^ co q2 i
  have hd : co d = sadd (co q1) (co q2) := by
    funext i
    by_cases hi : i < n
    · rw [co_lt (by simpa [d] using hi)]; simp [d, sadd]
    · rw [co_ge (by simpa [d] using Nat.le_of_not_lt hi)]
      simp only [sadd]
      have : q1.length ≤ i ∧ q2.length ≤ i := by simp only [n] at hi; omega
      rw [co_ge this.1, co_ge this.2]; rfl
  have hp : pr d b = sadd (co r1) (co r2) := by
    rw [pr_add_l b hd]
    funext i
    have := congrFun h i
    simp only [sadd] at this ⊢
    have e : ∀ x y z w : F, x ^^^ y = z ^^^ w → x ^^^ z = y ^^^ w := by
      intro x y z w hh
      have h3 : x = (z ^^^ w) ^^^ y := by rw [← hh, BitVec.xor_assoc, BitVec.xor_self, BitVec.xor_zero]
      rw [h3]
      have : ((z ^^^ w) ^^^ y) ^^^ z = (z ^^^ z) ^^^ (y ^^^ w) := by ac_rfl
      rw [this, BitVec.xor_self, BitVec.zero_xor]
    exact e _ _ _ _ this
  have hz : len d = 0 := by
    rcases Nat.eq_zero_or_pos (len d) with h0 | h0
    · exact h0
    · exfalso
      obtain ⟨p, hp1⟩ : ∃ p, len d = p + 1 := ⟨len d - 1, by omega⟩
      obtain ⟨q, hq1⟩ : ∃ q, len b = q + 1 := ⟨len b - 1, by omega⟩
      apply pr_top hp1 hq1
      rw [hp]; simp only [sadd]
      rw [co_len r1 _ (by omega), co_len r2 _ (by omega)]; rfl
  constructor
  · funext i
    have := congrFun hd i
    rw [len_zero hz i] at this
    exact xor_eq_zero this.symm
  · funext i
    have := congrFun hp i
    rw [pr_zero_l b hz] at this
    exact xor_eq_zero this.symm
def ev : List F → F → F
  | [], _ => 0#32
  | c :: l, x => mul (ev l x) x ^^^ c
theorem ev_zero {l : List F} (h : len l = 0) (x : F) : ev l x = 0#32 := by
  induction l with
  | nil => rfl
  | cons a l ih =>
    obtain ⟨ha, hl⟩ := len_tail_zero h
    simp only [ev]; rw [ih hl, ha, GF.zero_mul]; rfl
theorem ev_congr {a b : List F} (h : ∀ i, co a i = co b i) (x : F) : ev a x = ev b x := by
  induction a generalizing b with
  | nil =>
    have : len b = 0 := by rw [← len_congr h]; rfl
    rw [ev_zero this]; rfl
  | cons c a ih =>
    cases b with
    | nil =>
      have : len (c :: a) = 0 := by rw [len_congr h]; rfl
      rw [ev_zero this]; rfl
    | cons d b =>
      simp only [ev]
      rw [ih (fun i => h (i + 1))]
      have := h 0
      simp only [co_cons_zero] at this
      rw [this]
end Go.Proofs.Ytljkbkhaamlbmaa.PolyT
/- Division, common divisors and squares of polynomials: plain mathematics, no program in sight. -/
set_option linter.unusedVariables false
set_option linter.unusedSimpArgs false
namespace Go.Proofs.Ytljkbkhaamlbmaa.PolyT
open Go.Proofs.Ytljkbkhaamlbmaa GF
def shn (n : Nat) (f : S) : S := fun j => if n ≤ j then f (j - n) else 0#32
theorem shn_zero (f : S) : shn 0 f = f := by funext j; simp [shn]
theorem X_shn (n : Nat) (f : S) : X (shn n f) = shn (n + 1) f := by
  funext j
  cases j with
  | zero => simp [X, shn]
  | succ j =>
    simp only [X, shn]
    by_cases h : n ≤ j
    · rw [if_pos h, if_pos (by omega)]; congr 1; omega
    · rw [if_neg h, if_neg (by omega)]
theorem sadd_assoc (f g h : S) : sadd (sadd f g) h = sadd f (sadd g h) := by funext i; simp only [sadd]; rw [BitVec.xor_assoc]
theorem sadd_comm (f g : S) : sadd f g = sadd g f := by funext i; simp only [sadd]; rw [BitVec.xor_comm]
theorem zero_sadd (f : S) : sadd (fun _ => 0#32) f = f := by funext i; simp [sadd]
theorem sadd_self (f : S) : sadd f f = fun _ => 0#32 := by funext i; simp [sadd]
theorem of_fn (f : S) (n : Nat) (h : ∀ i, n ≤ i → f i = 0#32) : ∃ l : List F, co l = f ∧ l.length = n := by
  refine ⟨(List.range n).map f, funext fun i => ?_, by simp⟩
  by_cases hi : i < n
  · rw [co_lt (by simpa using hi)]; simp
  · rw [co_ge (by simpa using Nat.le_of_not_lt hi), h i (Nat.le_of_not_lt hi)]
theorem ex_pr (a b : List F) : ∃ c, co c = pr a b := by
  obtain ⟨l, h, _⟩ := of_fn (pr a b) (len a + len b) (fun i hi => pr_high a b i (by omega))
  exact ⟨l, h⟩
theorem ex_add (a b : List F) : ∃ c, co c = sadd (co a) (co b) := by
  obtain ⟨l, h, _⟩ := of_fn (sadd (co a) (co b)) (max a.length b.length) (fun i hi => by simp only [sadd]; rw [co_ge (by omega), co_ge (by omega)]; rfl)
  exact ⟨l, h⟩
def Dv (b a : List F) : Prop := ∃ q, co a = pr q b
theorem Dv.congr {a b c : List F} (h : Dv b a) (e : co c = co a) : Dv b c := by
  obtain ⟨q, hq⟩ := h; exact ⟨q, by rw [e, hq]⟩
theorem Dv.congr_l {a b c : List F} (h : Dv b a) (e : co c = co b) : Dv c a := by
  obtain ⟨q, hq⟩ := h; exact ⟨q, by rw [hq]; unfold pr; rw [e]⟩
theorem Dv.zero {a b : List F} (h : len a = 0) : Dv b a := ⟨[], by rw [pr_zero_l b rfl]; exact funext (len_zero h)⟩
theorem Dv.mul {a b c : List F} (q : List F) (h : Dv c b) (e : co a = pr q b) : Dv c a := by
  obtain ⟨p, hp⟩ := h
  obtain ⟨m, hm⟩ := ex_pr q p
  exact ⟨m, by rw [e]; exact (pr_assoc hm hp).symm⟩
theorem Dv.add {a b c d : List F} (h1 : Dv c a) (h2 : Dv c b) (e : co d = sadd (co a) (co b)) : Dv c d := by
  obtain ⟨p, hp⟩ := h1
  obtain ⟨q, hq⟩ := h2
  obtain ⟨m, hm⟩ := ex_add p q
  exact ⟨m, by rw [e, hp, hq, pr_add_l c hm]⟩
theorem Dv.of_zero {a b : List F} (h : Dv b a) (hb : len b = 0) : len a = 0 := by
  obtain ⟨q, hq⟩ := h
  refine len_eq (fun i _ => ?_) (fun m hm => by omega)
  rw [hq, pr_zero_r q hb]
def sc (c : F) (l : List F) : List F := l.map (mul c)
theorem co_sc (c : F) (l : List F) : co (sc c l) = smul c (co l) := by
  funext i
  by_cases h : i < l.length
  · simp only [sc, smul]; rw [co_lt (by simpa [sc] using h), co_lt h]; simp
  · simp only [sc, smul]; rw [co_ge (by simpa [sc] using Nat.le_of_not_lt h), co_ge (Nat.le_of_not_lt h), GF.mul_zero]
theorem sc_length (c : F) (l : List F) : (sc c l).length = l.length := by simp [sc]
theorem len_sc {c : F} (hc : c ≠ 0#32) (l : List F) : len (sc c l) = len l :=
  len_eq (fun i hi => by rw [co_sc]; simp only [smul]; rw [co_len l i hi, GF.mul_zero]) (fun m hm => by
    rw [co_sc]; simp only [smul]; intro h
    rcases GF.mul_eq_zero h with h | h
    · exact hc h
    · exact co_top l m hm h)
theorem Dv.sc {c : F} (hc : c ≠ 0#32) {a : List F} : Dv (sc c a) a ∧ Dv a (PolyT.sc c a) := by
  constructor
  · refine ⟨[inv c], ?_⟩
    show _ = sadd (smul (inv c) (co (PolyT.sc c a))) (X (fun _ => 0#32))
    rw [X_zero, sadd_zero, co_sc]
    funext i; simp only [smul]
    rw [← GF.mul_assoc, GF.mul_comm (inv c) c, GF.mul_inv hc, GF.mul_comm, GF.mul_one]
  · refine ⟨[c], ?_⟩
    show _ = sadd (smul c (co a)) (X (fun _ => 0#32))
    rw [X_zero, sadd_zero, co_sc]
def monic (l : List F) : List F := if len l = 0 then [] else sc (inv (co l (len l - 1))) (trim l)
theorem monic_congr {a b : List F} (h : co a = co b) : monic a = monic b := by
  unfold monic; rw [len_congr (congrFun h), h, trim_congr (congrFun h)]
theorem inv_ne {c : F} (h : c ≠ 0#32) : inv c ≠ 0#32 := by
  intro e
  have := GF.mul_inv h
  rw [e, GF.mul_zero] at this
  exact absurd this (by decide)
theorem top_ne {l : List F} (h : len l ≠ 0) : co l (len l - 1) ≠ 0#32 := co_top l _ (by omega)
theorem tr_monic (l : List F) : Tr (monic l) := by
  unfold monic Tr
  by_cases h : len l = 0
  · rw [if_pos h]; rfl
  · rw [if_neg h, len_sc (inv_ne (top_ne h)), sc_length, len_trim, trim_length]
theorem len_monic (l : List F) : len (monic l) = len l := by
  unfold monic
  by_cases h : len l = 0
  · rw [if_pos h, h]; rfl
  · rw [if_neg h, len_sc (inv_ne (top_ne h)), len_trim]
theorem monic_top {l : List F} (h : len l ≠ 0) : co (monic l) (len l - 1) = 1#32 := by
  unfold monic
  rw [if_neg h, co_sc]; simp only [smul]
  rw [co_trim, GF.mul_comm, GF.mul_inv (top_ne h)]
theorem Dv.monic (l : List F) : Dv (monic l) l ∧ Dv l (PolyT.monic l) := by
  by_cases h : len l = 0
  · exact ⟨Dv.zero h, Dv.zero (by rw [len_monic, h])⟩
  · unfold PolyT.monic
    rw [if_neg h]
    have := Dv.sc (inv_ne (top_ne h)) (a := trim l)
    have e : co (trim l) = co l := funext (co_trim l)
    exact ⟨this.1.congr e.symm, this.2.congr_l e.symm⟩
def Quo (a b q r : List F) : Prop := sadd (pr q b) (co r) = co a ∧ len r < len b
theorem Quo.eq {a b q r q' r' : List F} (h : Quo a b q r) (h' : Quo a b q' r') (t : Tr q) (t' : Tr q') (u : Tr r) (u' : Tr r') : q = q' ∧ r = r' := by
  have := div_unique (b := b) (by have := h.2; omega) (h.1.trans h'.1.symm) h.2 h'.2
  exact ⟨tr_ext t t' (congrFun this.1), tr_ext u u' (congrFun this.2)⟩
theorem Quo.congr {a a' b b' q r : List F} (h : Quo a b q r) (e : co a' = co a) (e2 : co b' = co b) : Quo a' b' q r := by
  refine ⟨?_, by rw [len_congr (congrFun e2)]; exact h.2⟩
  rw [e, ← h.1]; unfold pr; rw [e2]
inductive Gcd : List F → List F → List F → Prop
  | done {a b : List F} : len b = 0 → Gcd a b (monic a)
  | step {a b q r g : List F} : Quo a b q r → Gcd b r g → Gcd a b g
theorem Gcd.tr {a b g : List F} (h : Gcd a b g) : Tr g := by
  induction h with
  | done _ => exact tr_monic _
  | step _ _ ih => exact ih
theorem Gcd.eq {a b g : List F} (h : Gcd a b g) : ∀ {a' b' g' : List F}, Gcd a' b' g' → co a = co a' → co b = co b' → g = g' := by
  induction h with
  | done h0 =>
    intro a' b' g' h' e e2
    cases h' with
    | done _ => exact monic_congr e
    | step h1 _ => have := h1.2; rw [← len_congr (congrFun e2), h0] at this; omega
  | step h0 _ ih =>
    intro a' b' g' h' e e2
    cases h' with
    | done h1 => have := h0.2; rw [len_congr (congrFun e2), h1] at this; omega
    | step h1 h2 =>
      have h1' := h1.congr e e2
      refine ih h2 e2 ?_
      exact (div_unique (by have := h0.2; omega) (h0.1.trans h1'.1.symm) h0.2 h1'.2).2
theorem Gcd.dv {a b g : List F} (h : Gcd a b g) : Dv g a ∧ Dv g b := by
  induction h with
  | done h0 => exact ⟨(Dv.monic _).1, Dv.zero h0⟩
  | @step a b q r g h0 _ ih =>
    obtain ⟨m, hm⟩ := ex_pr q b
    exact ⟨(ih.1.mul q hm).add ih.2 (by rw [hm]; exact h0.1.symm), ih.1⟩
theorem Gcd.greatest {a b g c : List F} (h : Gcd a b g) : Dv c a → Dv c b → Dv c g := by
  induction h with
  | @done a b h0 =>
    intro h1 h2
    obtain ⟨q, hq⟩ := (Dv.monic a).2
    exact h1.mul q hq
  | @step a b q r g h0 _ ih =>
    intro h1 h2
    obtain ⟨m, hm⟩ := ex_pr q b
    refine ih h2 (h1.add (h2.mul q hm) ?_)
    rw [hm, ← h0.1]
    funext i; simp only [sadd]
    rw [BitVec.xor_comm (pr q b i), BitVec.xor_assoc, BitVec.xor_self, BitVec.xor_zero]
theorem Quo.exact {a b q r : List F} (h : Quo a b q r) (hr : Tr r) (hd : Dv b a) : r = [] := by
  obtain ⟨p, hp⟩ := hd
  have h2 : Quo a b p [] := ⟨by rw [hp]; exact sadd_zero _, by have := h.2; show 0 < _; omega⟩
  have := (div_unique (by have := h.2; omega) (h.1.trans h2.1.symm) h.2 h2.2).2
  exact tr_ext hr tr_nil (congrFun this)
theorem pr_cons_sq (x : F) (a : List F) : pr (x :: a) (x :: a) = sadd (smul (mul x x) one) (X (X (pr a a))) := by
  have e : co (x :: a) = sadd (smul x one) (X (co a)) := by rw [← act_one (x :: a)]; simp only [act]; rw [act_one]
  show sadd (smul x (co (x :: a))) (X (act a (co (x :: a)))) = _
  rw [e, act_add, act_smul, act_one, act_X, smul_add, X_add, X_smul]
  funext i
  simp only [sadd]
  have : smul x (smul x one) i = smul (mul x x) one i := by simp only [smul]; rw [GF.mul_assoc]
  rw [this]
  show _ ^^^ smul x (X (co a)) i ^^^ (smul x (X (co a)) i ^^^ X (X (act a (co a))) i) = _ ^^^ X (X (act a (co a))) i
  rw [BitVec.xor_assoc, ← BitVec.xor_assoc (smul x (X (co a)) i), BitVec.xor_self, BitVec.zero_xor]
theorem pr_sq (a : List F) : ∀ i, pr a a (2 * i) = mul (co a i) (co a i) ∧ pr a a (2 * i + 1) = 0#32 := by
  induction a with
  | nil => intro i; exact ⟨by rw [pr_zero_l _ rfl, co_nil, GF.mul_zero], by rw [pr_zero_l _ rfl]⟩
  | cons x a ih =>
    intro i
    rw [pr_cons_sq]
    cases i with
    | zero =>
      refine ⟨?_, ?_⟩
      · show mul (mul x x) (1#32) ^^^ 0#32 = _
        rw [GF.mul_one, BitVec.xor_zero, co_cons_zero]
      · show mul (mul x x) (0#32) ^^^ 0#32 = _
        rw [GF.mul_zero, BitVec.xor_zero]
    | succ i =>
      have e1 : 2 * (i + 1) = 2 * i + 1 + 1 := by omega
      rw [e1, co_cons_succ]
      refine ⟨?_, ?_⟩
      · show mul (mul x x) (0#32) ^^^ pr a a (2 * i) = _
        rw [GF.mul_zero, BitVec.zero_xor, (ih i).1]
      · show mul (mul x x) (0#32) ^^^ pr a a (2 * i + 1) = _
        rw [GF.mul_zero, BitVec.zero_xor, (ih i).2]
theorem pr_set (b : List F) (t : F) : ∀ (q : List F) (i : Nat), i < q.length → co q i = 0#32 → pr (q.set i t) b = sadd (pr q b) (smul t (shn i (co b))) := by
  intro q
  induction q with
  | nil => intro i h; simp at h
  | cons x q ih =>
    intro i h h0
    cases i with
    | zero =>
      rw [co_cons_zero] at h0
      subst h0
      show sadd (smul t (co b)) (X (act q (co b))) = sadd (sadd (smul 0#32 (co b)) (X (act q (co b)))) _
      rw [shn_zero]
      funext j; simp only [sadd, smul]
      rw [GF.zero_mul, BitVec.zero_xor, BitVec.xor_comm]
    | succ i =>
      rw [co_cons_succ] at h0
      show sadd (smul x (co b)) (X (pr (q.set i t) b)) = sadd (sadd (smul x (co b)) (X (pr q b))) _
      rw [ih i (by simpa using h) h0, X_add, X_smul, X_shn, sadd_assoc]
theorem pr_shn (t : F) (n : Nat) (b q : List F) (h : co q = smul t (shn n one)) : pr q b = smul t (shn n (co b)) := by
  have h1 : pr q b = pr ((List.replicate (n + 1) 0#32).set n t) b := act_congr (fun i => by
    rw [h, co_set, List.length_replicate]; simp only [smul, shn]
    by_cases e : i = n
    · subst e; rw [if_pos (Nat.le_refl _), Nat.sub_self, if_pos ⟨rfl, by omega⟩]; exact GF.mul_one t
    · have e0 : (if i = n ∧ n < n + 1 then t else co (List.replicate (n + 1) 0#32) i) = 0#32 := by rw [if_neg (fun hh => e hh.1), co_replicate]
      rw [e0]
      by_cases h : n ≤ i
      · rw [if_pos h]
        obtain ⟨m, hm⟩ : ∃ m, i - n = m + 1 := ⟨i - n - 1, by omega⟩
        rw [hm]; exact GF.mul_zero t
      · rw [if_neg h, GF.mul_zero]) b
  have h2 : len (List.replicate (n + 1) 0#32) = 0 := len_eq (fun i _ => co_replicate _ _) (fun m hm => by omega)
  rw [h1, pr_set b t (List.replicate (n + 1) 0#32) n (by simp) (co_replicate _ _), pr_zero_l b h2, zero_sadd]
end Go.Proofs.Ytljkbkhaamlbmaa.PolyT
/- Values of polynomials: sums and products. -/
set_option linter.unusedVariables false
set_option linter.unusedSimpArgs false
namespace Go.Proofs.Ytljkbkhaamlbmaa.PolyT
open Go.Proofs.Ytljkbkhaamlbmaa GF
theorem ev_add (x : F) : ∀ (a b c : List F), co c = sadd (co a) (co b) → ev c x = ev a x ^^^ ev b x := by
  intro a
  induction a with
  | nil =>
    intro b c h
    have : ev c x = ev b x := ev_congr (fun i => by rw [h]; simp only [sadd]; rw [co_nil, BitVec.zero_xor]) x
    rw [this]; simp [ev]
  | cons y a ih =>
    intro b c h
    cases b with
    | nil =>
      have : ev c x = ev (y :: a) x := ev_congr (fun i => by rw [h]; simp only [sadd]; rw [co_nil, BitVec.xor_zero]) x
      rw [this]; simp [ev]
    | cons z b =>
      cases c with
      | nil =>
        have : ev (y :: a) x = ev (z :: b) x := ev_congr (fun i => by
          have := congrFun h i
          rw [co_nil] at this
          exact xor_eq_zero this.symm) x
        rw [this, BitVec.xor_self]; rfl
      | cons u c =>
        have h0 : u = y ^^^ z := congrFun h 0
        have h1 : co c = sadd (co a) (co b) := funext fun i => congrFun h (i + 1)
        simp only [ev]
        rw [ih b c h1, h0, GF.xor_mul, xor4]
theorem ev_sc (c x : F) (l : List F) : ev (sc c l) x = mul c (ev l x) := by
  induction l with
  | nil => exact (GF.mul_zero c).symm
  | cons a l ih =>
    show mul (ev (sc c l) x) x ^^^ mul c a = mul c (mul (ev l x) x ^^^ a)
    rw [ih, GF.mul_xor, GF.mul_assoc]
theorem ev_mul (x : F) (b : List F) : ∀ (a c : List F), co c = pr a b → ev c x = mul (ev a x) (ev b x) := by
  intro a
  induction a with
  | nil =>
    intro c h
    have : len c = 0 := len_eq (fun i _ => by rw [h, pr_zero_l b rfl]) (fun m hm => by omega)
    rw [ev_zero this]; exact (GF.zero_mul _).symm
  | cons y a ih =>
    intro c h
    obtain ⟨d, hd⟩ := ex_pr a b
    have h2 : co (0#32 :: d) = X (pr a b) := by
      rw [← hd]; funext i; cases i <;> rfl
    have h1 : co c = sadd (co (sc y b)) (co (0#32 :: d)) := by rw [h, co_sc, h2]; rfl
    rw [ev_add x _ _ _ h1, ev_sc]
    simp only [ev]
    rw [ih d hd, BitVec.xor_zero, GF.xor_mul, BitVec.xor_comm]
    congr 1
    rw [GF.mul_assoc, GF.mul_assoc, GF.mul_comm (ev b x) x]
end Go.Proofs.Ytljkbkhaamlbmaa.PolyT
/- The polynomial of roots: where it and its derivative are 0. Plain mathematics, no program in sight. -/
set_option linter.unusedVariables false
set_option linter.unusedSimpArgs false
namespace Go.Proofs.Ytljkbkhaamlbmaa.PolyT
open Go.Proofs.Ytljkbkhaamlbmaa GF
def dS (l : List F) : S := fun i => if i % 2 = 0 then co l (i + 1) else 0#32
def dl (l : List F) : List F := (List.range l.length).map (dS l)
theorem co_dl (l : List F) : co (dl l) = dS l := by
  funext i
  by_cases h : i < l.length
  · rw [co_lt (by simpa [dl] using h)]; simp [dl]
  · rw [co_ge (by simpa [dl] using Nat.le_of_not_lt h)]; unfold dS
    rw [co_ge (by omega)]; split <;> rfl
theorem pr_lin (a : List F) (r : F) : pr a [r, 1#32] = sadd (smul r (co a)) (X (co a)) := by
  rw [pr_comm]
  show sadd (smul r (co a)) (X (sadd (smul 1#32 (co a)) (X (fun _ => 0#32)))) = _
  rw [X_zero, sadd_zero]
  congr 2
  funext i; exact GF.one_mul _
theorem dS_lin (a c : List F) (r : F) (h : co c = pr a [r, 1#32]) : dS c = sadd (pr (dl a) [r, 1#32]) (co a) := by
  rw [pr_lin] at h; rw [pr_lin, co_dl]
  funext i
  simp only [dS, sadd, smul]
  rw [h]
  by_cases hi : i % 2 = 0
  · rw [if_pos hi, if_pos hi]
    simp only [sadd, smul, X]
    cases i with
    | zero => simp [X]
    | succ i => simp only [X, dS]; rw [if_neg (by omega), BitVec.xor_zero]
  · rw [if_neg hi, if_neg hi, GF.mul_zero]
    cases i with
    | zero => omega
    | succ i => simp only [X, dS]; rw [if_pos (by omega), BitVec.zero_xor, BitVec.xor_self]
theorem ev_lin (r y : F) : ev [r, 1#32] y = y ^^^ r := by
  simp only [ev]
  rw [GF.zero_mul, BitVec.zero_xor, GF.one_mul]
inductive RootsOf : List F → List F → Prop
  | nil : RootsOf [] [1#32]
  | snoc {l p c : List F} {r : F} : RootsOf l p → co c = pr p [r, 1#32] → Tr c → RootsOf (l ++ [r]) c
theorem RootsOf.facts {l p : List F} (h : RootsOf l p) : Tr p ∧ p.length = l.length + 1 ∧ co p l.length = 1#32 := by
  induction h with
  | nil => exact ⟨rfl, rfl, rfl⟩
  | @snoc l p c r h hc ht ih =>
    obtain ⟨h1, h2, h3⟩ := ih
    have hlp : len p = l.length + 1 := by rw [← h2]; exact h1
    have hl2 : len [r, 1#32] = 2 := by
      simp [len]
    have hl := len_pr hc (by omega) (by omega)
    have hcl : len c = c.length := ht
    refine ⟨ht, by rw [List.length_append, List.length_singleton]; omega, ?_⟩
    rw [List.length_append, List.length_singleton, hc, pr_lin]
    simp only [sadd, smul, X]
    rw [co_ge (show p.length ≤ l.length + 1 by omega), GF.mul_zero, h3]; rfl
theorem xor_ne {a b : F} (h : a ≠ b) : a ^^^ b ≠ 0#32 := fun e => h (xor_eq_zero e)
def many (l : List F) (y : F) : Nat := (l.filter fun r => r == y).length
theorem many_snoc (l : List F) (r y : F) : many (l ++ [r]) y = many l y + if r = y then 1 else 0 := by
  unfold many
  rw [List.filter_append, List.length_append]
  by_cases h : r = y
  · rw [if_pos h]; simp [h]
  · rw [if_neg h]; simp [h]
theorem RootsOf.at {l p : List F} (h : RootsOf l p) (y : F) : (ev p y = 0#32 ↔ 0 < many l y) ∧ (many l y = 1 → ev (dl p) y ≠ 0#32) ∧ (2 ≤ many l y → ev (dl p) y = 0#32) := by
  induction h with
  | nil =>
    have e1 : ev [1#32] y = 1#32 := by simp only [ev]; rw [GF.zero_mul]; rfl
    have e2 : many ([] : List F) y = 0 := rfl
    rw [e1, e2]
    exact ⟨⟨fun h => absurd h one_ne_zero, fun h => by omega⟩, fun h => by omega, fun h => by omega⟩
  | @snoc l p c r h hc ht ih =>
    obtain ⟨h1, h2, h3⟩ := ih
    have e1 : ev c y = mul (ev p y) (y ^^^ r) := by rw [ev_mul y [r, 1#32] p c hc, ev_lin]
    obtain ⟨q, hq⟩ := ex_pr (dl p) [r, 1#32]
    have e2 : ev (dl c) y = mul (ev (dl p) y) (y ^^^ r) ^^^ ev p y := by
      rw [ev_add y q p (dl c) (by rw [co_dl, dS_lin p c r hc, hq]), ev_mul y [r, 1#32] (dl p) q hq, ev_lin]
    rw [many_snoc, e1, e2]
    by_cases hr : r = y
    · subst hr
      rw [if_pos rfl, BitVec.xor_self, GF.mul_zero, GF.mul_zero, BitVec.zero_xor]
      refine ⟨⟨fun _ => by omega, fun _ => rfl⟩, fun hm hz => ?_, fun hm => h1.2 (by omega)⟩
      have := h1.1 hz
      omega
    · rw [if_neg hr, Nat.add_zero]
      have hne : y ^^^ r ≠ 0#32 := xor_ne (fun e => hr e.symm)
      refine ⟨⟨fun hz => ?_, fun hm => by rw [h1.2 hm, GF.zero_mul]⟩, fun hm => ?_, fun hm => by rw [h3 hm, h1.2 (by omega), GF.zero_mul]; rfl⟩
      · rcases GF.mul_eq_zero hz with e | e
        · exact h1.1 e
        · exact absurd e hne
      · rw [h1.2 (by omega), BitVec.xor_zero]
        intro e
        rcases GF.mul_eq_zero e with e | e
        · exact h2 hm e
        · exact hne e
end Go.Proofs.Ytljkbkhaamlbmaa.PolyT
/- Polynomials that split: how many roots one has, which roots a common divisor has. Plain mathematics, no program in sight. -/
set_option linter.unusedVariables false
set_option linter.unusedSimpArgs false
namespace Go.Proofs.Ytljkbkhaamlbmaa.PolyT
open Go.Proofs.Ytljkbkhaamlbmaa GF
theorem len_lin (r : F) : len [r, 1#32] = 2 := by simp [len]
theorem by_lin (r : F) : ∀ p : List F, ∃ q, co p = sadd (pr q [r, 1#32]) (smul (ev p r) one) := by
  intro p
  induction p with
  | nil => exact ⟨[], by funext i; simp [pr, act, sadd, smul, ev, GF.zero_mul, co_nil]⟩
  | cons c p ih =>
    obtain ⟨q, hq⟩ := ih
    refine ⟨ev p r :: q, ?_⟩
    have h1 : pr (ev p r :: q) [r, 1#32] = sadd (smul (ev p r) (co [r, 1#32])) (X (pr q [r, 1#32])) := rfl
    rw [h1]
    funext i
    cases i with
    | zero =>
      show c = _
      simp only [sadd, smul, X, one, ev, co_cons_zero]
      rw [GF.mul_one, BitVec.xor_zero, ← BitVec.xor_assoc, BitVec.xor_self, BitVec.zero_xor]
    | succ i =>
      show co p i = _
      rw [hq]
      simp only [sadd, smul, X, one, co_cons_succ]
      rw [GF.mul_zero (ev (c :: p) r), BitVec.xor_zero, BitVec.xor_comm]
      congr 1
      cases i with
      | zero => rfl
      | succ i => rw [GF.mul_zero]; show _ = mul _ 0#32; rw [GF.mul_zero]
theorem factor {p : List F} {r : F} (h : ev p r = 0#32) : ∃ q, co p = pr q [r, 1#32] := by
  obtain ⟨q, hq⟩ := by_lin r p
  refine ⟨q, ?_⟩
  rw [hq, h]
  funext i; simp [sadd, smul, GF.zero_mul]
theorem len_nz {a b c : List F} (h : co c = pr a b) (hc : len c ≠ 0) : len a ≠ 0 ∧ len b ≠ 0 := by
  constructor
  · intro e; apply hc; exact len_eq (fun i _ => by rw [h, pr_zero_l b e]) (fun m hm => by omega)
  · intro e; apply hc; exact len_eq (fun i _ => by rw [h, pr_zero_r a e]) (fun m hm => by omega)
theorem roots_le : ∀ (R : List F) (n : Nat) (p : List F), len p = n + 1 → R.Nodup → (∀ r ∈ R, ev p r = 0#32) → R.length ≤ n := by
  intro R
  induction R with
  | nil => intros; simp
  | cons r R ih =>
    intro n p hp hn hr
    obtain ⟨q, hq⟩ := factor (hr r (by simp))
    have hz := len_nz hq (by omega)
    have hl := len_pr hq hz.1 hz.2
    rw [len_lin] at hl
    rw [List.nodup_cons] at hn
    obtain ⟨m, rfl⟩ : ∃ m, n = m + 1 := ⟨n - 1, by omega⟩
    have := ih m q (by omega) hn.2 (fun s hs => by
      have e := hr s (by simp [hs])
      rw [ev_mul s [r, 1#32] q p hq, ev_lin] at e
      rcases GF.mul_eq_zero e with e | e
      · exact e
      · have : s = r := xor_eq_zero e
        subst this; exact absurd hs hn.1)
    simp; omega
def Spl (p : List F) : Prop := ∃ R : List F, R.Nodup ∧ len p = R.length + 1 ∧ ∀ y, ev p y = 0#32 ↔ y ∈ R
theorem filter_two (R : List F) (f : F → Bool) : (R.filter f).length + (R.filter fun x => !f x).length = R.length := by
  induction R with
  | nil => rfl
  | cons a R ih => cases h : f a <;> simp [h] <;> omega
theorem Spl.dvd {a d : List F} (h : Spl a) (hd : Dv d a) : Spl d := by
  obtain ⟨R, hn, hl, hr⟩ := h
  obtain ⟨e, he⟩ := hd
  have hz := len_nz he (by omega)
  have hs := len_pr he hz.1 hz.2
  have hev : ∀ y, ev a y = mul (ev e y) (ev d y) := fun y => ev_mul y d e a he
  have f2 := filter_two R (fun y => ev d y == 0#32)
  have l1 := roots_le (R.filter fun y => ev d y == 0#32) (len d - 1) d (by omega) (hn.filter _) (fun r hr => by simpa using (List.mem_filter.1 hr).2)
  have l2 := roots_le (R.filter fun y => !(ev d y == 0#32)) (len e - 1) e (by omega) (hn.filter _) (fun r hr' => by
    obtain ⟨h1, h2⟩ := List.mem_filter.1 hr'
    have h3 := (hr r).2 h1
    rw [hev] at h3
    rcases GF.mul_eq_zero h3 with e | e
    · exact e
    · rw [e] at h2; simp at h2)
  refine ⟨R.filter fun y => ev d y == 0#32, hn.filter _, by omega, fun y => ?_⟩
  rw [List.mem_filter]
  constructor
  · intro h; exact ⟨(hr y).1 (by rw [hev, h, GF.mul_zero]), by simp [h]⟩
  · intro h; simpa using h.2
theorem dv_ev {a d : List F} {y : F} (h : Dv d a) (hd : ev d y = 0#32) : ev a y = 0#32 := by
  obtain ⟨e, he⟩ := h
  rw [ev_mul y d e a he, hd, GF.mul_zero]
theorem Gcd.roots {a b g : List F} (h : Gcd a b g) (y : F) : ev g y = 0#32 ↔ ev a y = 0#32 ∧ ev b y = 0#32 := by
  constructor
  · intro e; exact ⟨dv_ev h.dv.1 e, dv_ev h.dv.2 e⟩
  · rintro ⟨ha, hb⟩
    refine dv_ev (h.greatest (c := [y, 1#32]) (factor ha) (factor hb)) ?_
    rw [ev_lin, BitVec.xor_self]
theorem Spl.once {p q d : List F} (h : Spl p) (e : co p = pr q d) (y : F) : ev q y = 0#32 ↔ (ev p y = 0#32 ∧ ev d y ≠ 0#32) := by
  have hev : ∀ y, ev p y = mul (ev q y) (ev d y) := fun y => ev_mul y d q p e
  constructor
  · intro hq
    refine ⟨by rw [hev, hq, GF.zero_mul], fun hd => ?_⟩
    obtain ⟨R, hn, hl, hr⟩ := h
    have hz := len_nz e (by omega)
    have hs := len_pr e hz.1 hz.2
    obtain ⟨d', hd'⟩ := factor hd
    have hz' := len_nz hd' hz.2
    have hs' := len_pr hd' hz'.1 hz'.2
    rw [len_lin] at hs'
    obtain ⟨m, hm⟩ := ex_pr q d'
    have hz2 : len m + 1 = len q + len d' := len_pr hm hz.1 hz'.1
    have hm1 := roots_le R (len m - 1) m (by omega) hn (fun r hr' => by
      rw [ev_mul r d' q m hm]
      have h1 := (hr r).2 hr'
      rw [hev, ev_mul r [y, 1#32] d' d hd', ev_lin] at h1
      rcases GF.mul_eq_zero h1 with h1 | h1
      · rw [h1, GF.zero_mul]
      · rcases GF.mul_eq_zero h1 with h1 | h1
        · rw [h1, GF.mul_zero]
        · have : r = y := xor_eq_zero h1
          subst this; rw [hq, GF.zero_mul])
    omega
  · rintro ⟨hp, hd⟩
    rw [hev] at hp
    rcases GF.mul_eq_zero hp with h | h
    · exact h
    · exact absurd h hd
def Cg (p a b : List F) : Prop := ∃ k, sadd (co a) (co b) = pr k p
theorem Cg.refl (p a : List F) : Cg p a a := ⟨[], by rw [sadd_self]; rfl⟩
theorem Cg.symm {p a b : List F} (h : Cg p a b) : Cg p b a := by
  obtain ⟨k, hk⟩ := h; exact ⟨k, by rw [sadd_comm, hk]⟩
theorem Cg.trans {p a b c : List F} (h : Cg p a b) (h' : Cg p b c) : Cg p a c := by
  obtain ⟨k, hk⟩ := h; obtain ⟨l, hl⟩ := h'
  obtain ⟨m, hm⟩ := ex_add k l
  refine ⟨m, ?_⟩
  rw [pr_add_l p hm, ← hk, ← hl]
  funext i; simp only [sadd]
  rw [← BitVec.xor_assoc, BitVec.xor_assoc (co a i), BitVec.xor_self, BitVec.xor_zero]
theorem Cg.add {p a b c d e f : List F} (h : Cg p a b) (h' : Cg p c d) (he : co e = sadd (co a) (co c)) (hf : co f = sadd (co b) (co d)) : Cg p e f := by
  obtain ⟨k, hk⟩ := h; obtain ⟨l, hl⟩ := h'
  obtain ⟨m, hm⟩ := ex_add k l
  refine ⟨m, ?_⟩
  rw [pr_add_l p hm, ← hk, ← hl, he, hf, sadd_comm4]
theorem Cg.sq {p a b c d : List F} (h : Cg p a b) (hc : co c = pr a a) (hd : co d = pr b b) : Cg p c d := by
  obtain ⟨k, hk⟩ := h
  obtain ⟨s, hs⟩ := ex_add a b
  obtain ⟨m, hm⟩ := ex_pr s k
  refine ⟨m, ?_⟩
  have h1 : pr s s = sadd (co c) (co d) := by
    rw [pr_add_l s hs, pr_add_r a hs, pr_add_r b hs, hc, hd, pr_comm b a]
    funext i; simp only [sadd]
    rw [BitVec.xor_assoc, ← BitVec.xor_assoc (pr a b i), BitVec.xor_self, BitVec.zero_xor]
  have h2 : co s = pr k p := hs.trans hk
  rw [← h1, pr_assoc hm h2]
theorem Quo.cg {a p q r : List F} (h : Quo a p q r) : Cg p a r := ⟨q, by
  rw [← h.1]; funext i; simp only [sadd]; rw [BitVec.xor_assoc, BitVec.xor_self, BitVec.xor_zero]⟩
theorem Cg.ev {p a b : List F} {y : F} (h : Cg p a b) (hy : ev p y = 0#32) : PolyT.ev a y = PolyT.ev b y := by
  obtain ⟨k, hk⟩ := h
  obtain ⟨s, hs⟩ := ex_add a b
  have h1 := ev_mul y p k s (hs.trans hk)
  rw [ev_add y a b s hs, hy, GF.mul_zero] at h1
  exact xor_eq_zero h1
theorem Cg.dv {p a b g : List F} (h : Cg p a b) (hg : Dv g p) (ha : Dv g a) : Dv g b := by
  obtain ⟨k, hk⟩ := h
  obtain ⟨s, hs⟩ := ex_add a b
  have h1 : Dv g s := hg.mul k (hs.trans hk)
  refine ha.add h1 ?_
  rw [hs]; funext i; simp only [sadd]; rw [← BitVec.xor_assoc, BitVec.xor_self, BitVec.zero_xor]
theorem mono_ex (n : Nat) : ∃ l : List F, co l = shn (2 ^ n) one ∧ len l = 2 ^ n + 1 ∧ ∀ y, ev l y = sqN n y := by
  induction n with
  | zero => exact ⟨[0#32, 1#32], by funext i; match i with | 0 => rfl | 1 => rfl | i + 2 => (simp [co, shn, one]), by simp [len], fun y => by
      rw [ev_lin, BitVec.xor_zero]; rfl⟩
  | succ n ih =>
    obtain ⟨l, h1, h2, h3⟩ := ih
    obtain ⟨c, hc⟩ := ex_pr l l
    refine ⟨c, ?_, ?_, fun y => ?_⟩
    · rw [hc]
      have := pr_shn 1#32 (2 ^ n) l l (by rw [h1]; funext i; simp [smul, GF.one_mul])
      rw [this, h1]
      funext i
      simp only [smul, shn, GF.one_mul]
      have hp : 2 ^ (n + 1) = 2 ^ n + 2 ^ n := by rw [Nat.pow_succ]; omega
      by_cases ha : 2 ^ n ≤ i
      · rw [if_pos ha]
        by_cases hb : 2 ^ (n + 1) ≤ i
        · have hc' : 2 ^ n ≤ i - 2 ^ n := by omega
          rw [if_pos hb, if_pos hc', show i - 2 ^ n - 2 ^ n = i - 2 ^ (n + 1) by omega]
        · have hc' : ¬ 2 ^ n ≤ i - 2 ^ n := by omega
          rw [if_neg hb, if_neg hc']
      · have hb : ¬ 2 ^ (n + 1) ≤ i := by omega
        rw [if_neg ha, if_neg hb]
    · have hnz : len l ≠ 0 := by rw [h2]; exact Nat.succ_ne_zero _
      have := len_pr hc hnz hnz
      rw [Nat.pow_succ]; omega
    · rw [ev_mul y l l c hc, h3]
      show GF.sq (sqN n y) = sqN (n + 1) y
      exact sq_sqN n y
theorem all_ex (n : Nat) : ∃ R : List (BitVec n), R.Nodup ∧ R.length = 2 ^ n ∧ ∀ y, y ∈ R := by
  refine ⟨(List.range (2 ^ n)).map (BitVec.ofNat n), ?_, by simp, fun y => ?_⟩
  · rw [List.Nodup, List.pairwise_map]
    refine List.Pairwise.imp_of_mem (R := fun a b => a ≠ b) (fun {a b} ha hb hab e => ?_) List.nodup_range
    rw [List.mem_range] at ha hb
    have := congrArg BitVec.toNat e
    rw [BitVec.toNat_ofNat, BitVec.toNat_ofNat, Nat.mod_eq_of_lt ha, Nat.mod_eq_of_lt hb] at this
    exact hab this
  · rw [List.mem_map]
    exact ⟨y.toNat, List.mem_range.2 y.isLt, by simp⟩
theorem xn_ex (n : Nat) (hn : n = 32) : ∃ l m : List F, co l = sadd (co m) (co [0#32, 1#32]) ∧ co m = shn (2 ^ n) one ∧ Spl l := by
  obtain ⟨m, h1, h2, h3⟩ := mono_ex n
  obtain ⟨l, hl⟩ := ex_add m [0#32, 1#32]
  have hpos : 1 < 2 ^ n := Nat.one_lt_two_pow (by omega)
  refine ⟨l, m, hl, h1, ?_⟩
  obtain ⟨R, r1, r2, r3⟩ := all_ex n
  have e32 : (∃ R : List F, R.Nodup ∧ R.length = 2 ^ n ∧ ∀ y, y ∈ R) := by subst hn; exact ⟨R, r1, r2, r3⟩
  obtain ⟨R, r1, r2, r3⟩ := e32
  refine ⟨R, r1, ?_, fun y => ⟨fun _ => r3 y, fun _ => ?_⟩⟩
  · rw [r2]
    refine len_eq (fun i hi => ?_) (fun k hk => ?_)
    · rw [hl]; simp only [sadd]
      rw [co_len m i (by omega), co_ge (show [0#32, 1#32].length ≤ i by simp; omega)]; rfl
    · have : k = 2 ^ n := by omega
      subst this
      rw [hl]; simp only [sadd]
      rw [co_ge (show [0#32, 1#32].length ≤ 2 ^ n by simp; omega), BitVec.xor_zero]
      exact co_top m _ h2
  · rw [ev_add y m [0#32, 1#32] l hl, h3, ev_lin, BitVec.xor_zero]
    have : sqN n y = y := by rw [hn]; exact sqN_32 y
    rw [this, BitVec.xor_self]
end Go.Proofs.Ytljkbkhaamlbmaa.PolyT
/- Roots parted by traces: plain mathematics, no program in sight. -/
set_option linter.unusedVariables false
set_option linter.unusedSimpArgs false
namespace Go.Proofs.Ytljkbkhaamlbmaa.PolyT
open Go.Proofs.Ytljkbkhaamlbmaa GF
def Rem (p a b : List F) : Prop := Tr b ∧ ∃ q, Quo a p q b
theorem Rem.uniq {p a a' b b' : List F} (h : Rem p a b) (h' : Rem p a' b') (e : co a = co a') : b = b' := by
  obtain ⟨t, q, hq⟩ := h; obtain ⟨t', q', hq'⟩ := h'
  have := (div_unique (b := p) (by have := hq.2; omega) (hq.1.trans (e.trans hq'.1.symm)) hq.2 hq'.2).2
  exact tr_ext t t' (congrFun this)
theorem Rem.cg {p a b : List F} (h : Rem p a b) : Cg p a b := by obtain ⟨t, q, hq⟩ := h; exact hq.cg
theorem Rem.len_lt {p a b : List F} (h : Rem p a b) : b.length < len p := by
  obtain ⟨t, q, hq⟩ := h; have := hq.2; unfold Tr at t; omega
def Step (p a b : List F) : Prop := ∃ c, co c = pr a a ∧ Rem p c b
theorem Step.uniq {p a b b' : List F} (h : Step p a b) (h' : Step p a b') : b = b' := by
  obtain ⟨c, hc, hr⟩ := h; obtain ⟨c', hc', hr'⟩ := h'
  exact hr.uniq hr' (hc.trans hc'.symm)
theorem Step.cg {p a b l m : List F} (h : Step p a b) (hl : Cg p a l) (hm : co m = pr l l) : Cg p b m := by
  obtain ⟨c, hc, hr⟩ := h
  exact hr.cg.symm.trans (hl.sq hc hm)
theorem Step.ev {p a b : List F} {y : F} (h : Step p a b) (hy : ev p y = 0#32) : PolyT.ev b y = sq (PolyT.ev a y) := by
  obtain ⟨c, hc, hr⟩ := h
  rw [← hr.cg.ev hy, ev_mul y a a c hc]; rfl
def Iter (p : List F) : Nat → List F → List F → Prop
  | 0, a, b => b = a
  | n + 1, a, b => ∃ c, Step p a c ∧ Iter p n c b
theorem Iter.uniq {p : List F} : ∀ (n : Nat) {a b b' : List F}, Iter p n a b → Iter p n a b' → b = b' := by
  intro n
  induction n with
  | zero => intro a b b' h h'; exact Eq.trans h h'.symm
  | succ n ih =>
    rintro a b b' ⟨c, h1, h2⟩ ⟨c', h1', h2'⟩
    obtain rfl := h1.uniq h1'
    exact ih h2 h2'
theorem Iter.snoc {p : List F} : ∀ (n : Nat) {a b c : List F}, Iter p n a b → Step p b c → Iter p (n + 1) a c := by
  intro n
  induction n with
  | zero => intro a b c h h'; obtain rfl := h; exact ⟨c, h', rfl⟩
  | succ n ih => rintro a b c ⟨d, h1, h2⟩ h'; exact ⟨d, h1, ih h2 h'⟩
theorem Iter.cg {p : List F} : ∀ (n k : Nat) {a b l m : List F}, Iter p n a b → Cg p a l → co l = shn (2 ^ k) one → co m = shn (2 ^ (k + n)) one → Cg p b m := by
  intro n
  induction n with
  | zero =>
    intro k a b l m h hl h1 h2
    obtain rfl := h
    obtain ⟨d, hd⟩ := hl
    exact ⟨d, by rw [← hd, h2, h1]; rfl⟩
  | succ n ih =>
    rintro k a b l m ⟨c, h1, h2⟩ hl e1 e2
    obtain ⟨l', hl'⟩ := ex_pr l l
    refine ih (k + 1) h2 (h1.cg hl hl') ?_ (by rw [e2]; congr 2; omega)
    rw [hl']
    have := pr_shn 1#32 (2 ^ k) l l (by rw [e1]; funext i; simp [smul, GF.one_mul])
    rw [this, e1]
    funext i
    simp only [smul, shn, GF.one_mul]
    have hp : 2 ^ (k + 1) = 2 ^ k + 2 ^ k := by rw [Nat.pow_succ]; omega
    by_cases ha : 2 ^ k ≤ i
    · rw [if_pos ha]
      by_cases hb : 2 ^ (k + 1) ≤ i
      · have hc' : 2 ^ k ≤ i - 2 ^ k := by omega
        rw [if_pos hb, if_pos hc', show i - 2 ^ k - 2 ^ k = i - 2 ^ (k + 1) by omega]
      · have hc' : ¬ 2 ^ k ≤ i - 2 ^ k := by omega
        rw [if_neg hb, if_neg hc']
    · have hb : ¬ 2 ^ (k + 1) ≤ i := by omega
      rw [if_neg ha, if_neg hb]
theorem Iter.ev {p : List F} {y : F} (hy : ev p y = 0#32) : ∀ (n : Nat) {a b : List F}, Iter p n a b → PolyT.ev b y = sqN n (PolyT.ev a y) := by
  intro n
  induction n with
  | zero => intro a b h; obtain rfl := h; rfl
  | succ n ih => rintro a b ⟨c, h1, h2⟩; rw [ih h2, h1.ev hy]; rfl
def Mon (g : List F) : Prop := len g = 0 ∨ co g (len g - 1) = 1#32
structure GcdP (a b g : List F) : Prop where
  tr : Tr g
  mon : Mon g
  l : Dv g a
  r : Dv g b
  gr : ∀ c, Dv c a → Dv c b → Dv c g
theorem mon_monic (l : List F) : Mon (monic l) := by
  by_cases h : len l = 0
  · left; rw [len_monic, h]
  · right; rw [len_monic]; exact monic_top h
theorem Gcd.mon {a b g : List F} (h : Gcd a b g) : Mon g := by
  induction h with
  | done _ => exact mon_monic _
  | step _ _ ih => exact ih
theorem Gcd.p {a b g : List F} (h : Gcd a b g) : GcdP a b g := ⟨h.tr, h.mon, h.dv.1, h.dv.2, fun c h1 h2 => h.greatest h1 h2⟩
theorem GcdP.congr {a a' b b' g : List F} (h : GcdP a b g) (ea : co a' = co a) (eb : co b' = co b) : GcdP a' b' g :=
  ⟨h.tr, h.mon, h.l.congr ea, h.r.congr eb, fun c h1 h2 => h.gr c (h1.congr ea.symm) (h2.congr eb.symm)⟩
theorem GcdP.swap {a b b' g : List F} (h : GcdP a b g) (hc : Cg a b b') : GcdP a b' g :=
  ⟨h.tr, h.mon, h.l, hc.dv h.l h.r, fun c h1 h2 => h.gr c h1 (hc.symm.dv h1 h2)⟩
theorem dv_eq {g g' : List F} (t : Tr g) (t' : Tr g') (m : Mon g) (m' : Mon g') (h : Dv g g') (h' : Dv g' g) : g = g' := by
  by_cases hz : len g = 0
  · have hz' := h.of_zero hz
    exact tr_ext t t' (fun i => by rw [len_zero hz, len_zero hz'])
  · obtain ⟨u, hu⟩ := h'
    obtain ⟨w, hw⟩ := h
    have hz' : len g' ≠ 0 := (len_nz hu hz).2
    have l1 := len_pr hu (len_nz hu hz).1 hz'
    have l2 := len_pr hw (len_nz hw hz').1 hz
    have hul : len u = 0 + 1 := by have := (len_nz hu hz).1; have := (len_nz hw hz').1; omega
    have mg : co g (len g - 1) = 1#32 := m.resolve_left hz
    have mg' : co g' (len g' - 1) = 1#32 := m'.resolve_left hz'
    have htop : co g (0 + (len g' - 1)) = mul (co u 0) (co g' (len g' - 1)) := by
      rw [hu]; exact act_top u (co g') (len g' - 1) (fun i hi => co_len g' i (by omega)) 0 hul
    rw [mg', GF.mul_one, Nat.zero_add, show len g' - 1 = len g - 1 by omega, mg] at htop
    refine tr_ext t t' (fun i => ?_)
    have e1 : ∀ j, co u j = co [1#32] j := by
      intro j
      cases j with
      | zero => exact htop.symm
      | succ j => rw [co_len u (j + 1) (by omega)]; rfl
    rw [hu, act_congr e1 g']
    show sadd (smul 1#32 (co g')) (X (fun _ => 0#32)) i = _
    rw [X_zero, sadd_zero]; exact GF.one_mul _
theorem GcdP.uniq {a b g g' : List F} (h : GcdP a b g) (h' : GcdP a b g') : g = g' :=
  dv_eq h.tr h'.tr h.mon h'.mon (h'.gr g h.l h.r) (h.gr g' h'.l h'.r)
theorem GcdP.roots {a b g : List F} (h : GcdP a b g) (y : F) : ev g y = 0#32 ↔ ev a y = 0#32 ∧ ev b y = 0#32 := by
  constructor
  · intro e; exact ⟨dv_ev h.l e, dv_ev h.r e⟩
  · rintro ⟨ha, hb⟩
    refine dv_ev (h.gr [y, 1#32] (factor ha) (factor hb)) ?_
    rw [ev_lin, BitVec.xor_self]
theorem GcdP.nz {a b g : List F} (h : GcdP a b g) (ha : len a ≠ 0) : len g ≠ 0 := fun e => ha (h.l.of_zero e)
theorem GcdP.len_le {a b g : List F} (h : GcdP a b g) (ha : len a ≠ 0) : len g ≤ len a := by
  obtain ⟨q, hq⟩ := h.l
  have hz := len_nz hq ha
  have := len_pr hq hz.1 hz.2
  omega
def LinR (p g : List F) : Prop := ∃ x a s, Rem p [0#32, 1#32] x ∧ Iter p 32 x a ∧ co s = sadd (co a) (co x) ∧ GcdP p s g
theorem ev_x (c y : F) : ev [0#32, c] y = mul c y := by
  simp only [ev]; rw [GF.zero_mul, BitVec.zero_xor, BitVec.xor_zero]
theorem LinR.uniq {p g g' : List F} (h : LinR p g) (h' : LinR p g') : g = g' := by
  obtain ⟨x, a, s, h1, h2, h3, h4⟩ := h; obtain ⟨x', a', s', h1', h2', h3', h4'⟩ := h'
  obtain rfl := h1.uniq h1' rfl
  obtain rfl := h2.uniq 32 h2'
  exact h4.uniq (h4'.congr rfl (h3.trans h3'.symm))
theorem LinR.of {p g x a s : List F} (h1 : Rem p [0#32, 1#32] x) (h2 : Iter p 32 x a) (h3 : co s = sadd (co a) (co [0#32, 1#32])) (h4 : GcdP p s g) : LinR p g := by
  obtain ⟨s', hs'⟩ := ex_add a x
  refine ⟨x, a, s', h1, h2, hs', h4.swap ?_⟩
  exact (Cg.refl p a).add h1.cg h3 hs'
structure PI (q : List F) (b : Nat) : Prop where
  tr : Tr q
  mon : Mon q
  nz : len q ≠ 0
  spl : Spl q
  same : ∀ r s, ev q r = 0#32 → ev q s = 0#32 → ∀ i, i < b → GF.tr (mul (e i) r) = GF.tr (mul (e i) s)
theorem LinR.pi {p g : List F} (h : LinR p g) (hp : len p ≠ 0) : PI g 0 ∧ (∀ y, ev g y = 0#32 ↔ ev p y = 0#32) ∧ len g ≤ len p := by
  obtain ⟨x, a, s, h1, h2, h3, h4⟩ := h
  have hev : ∀ y, ev p y = 0#32 → ev s y = 0#32 := by
    intro y hy
    have hx : ev x y = y := by rw [← h1.cg.ev hy, ev_x, GF.one_mul]
    rw [ev_add y a x s h3, h2.ev hy 32, hx, sqN_32, BitVec.xor_self]
  obtain ⟨l, m, hl, hm, hs⟩ := xn_ex 32 rfl
  refine ⟨⟨h4.tr, h4.mon, h4.nz hp, ?_, fun r s _ _ i hi => absurd hi (Nat.not_lt_zero i)⟩, fun y => ?_, h4.len_le hp⟩
  · refine hs.dvd ?_
    have c1 : Cg p x [0#32, 1#32] := h1.cg.symm
    have c2 : Cg p a m := h2.cg 32 0 c1 (by funext i; match i with | 0 => rfl | 1 => rfl | i + 2 => (simp [co, shn, one])) (by rw [hm])
    exact (c2.add c1 h3 hl).dv h4.l h4.r
  · rw [h4.roots]
    exact ⟨fun h => h.1, fun h => ⟨h, hev y h⟩⟩
def TI (p : List F) : Nat → List F → List F → List F → Prop
  | 0, a, o, t => t = o
  | n + 1, a, o, t => ∃ o' a', Tr o' ∧ co o' = sadd (co o) (co a) ∧ Step p a a' ∧ TI p n a' o' t
theorem TI.uniq {p : List F} : ∀ (n : Nat) {a o t t' : List F}, TI p n a o t → TI p n a o t' → t = t' := by
  intro n
  induction n with
  | zero => intro a o t t' h h'; exact Eq.trans h h'.symm
  | succ n ih =>
    rintro a o t t' ⟨o1, a1, h1, h2, h3, h4⟩ ⟨o2, a2, h1', h2', h3', h4'⟩
    obtain rfl := h3.uniq h3'
    obtain rfl := tr_ext h1 h1' (congrFun (h2.trans h2'.symm))
    exact ih h4 h4'
theorem TI.ev {p : List F} {y : F} (hy : ev p y = 0#32) : ∀ (n : Nat) {a o t : List F}, TI p n a o t → PolyT.ev t y = trN n (PolyT.ev a y) (PolyT.ev o y) := by
  intro n
  induction n with
  | zero => intro a o t h; obtain rfl := h; rfl
  | succ n ih =>
    rintro a o t ⟨o', a', h1, h2, h3, h4⟩
    rw [ih h4, h3.ev hy, ev_add y o a o' h2]; rfl
def TrcR (p : List F) (by_ : F) (t : List F) : Prop := ∃ a, Rem p [0#32, by_] a ∧ TI p 32 a [] t
theorem TrcR.uniq {p t t' : List F} {c : F} (h : TrcR p c t) (h' : TrcR p c t') : t = t' := by
  obtain ⟨a, h1, h2⟩ := h; obtain ⟨a', h1', h2'⟩ := h'
  obtain rfl := h1.uniq h1' rfl
  exact h2.uniq 32 h2'
theorem TrcR.ev {p t : List F} {c y : F} (h : TrcR p c t) (hy : ev p y = 0#32) : PolyT.ev t y = GF.tr (mul c y) := by
  obtain ⟨a, h1, h2⟩ := h
  rw [h2.ev hy 32, ← h1.cg.ev hy, ev_x]; rfl
theorem tr_e25 : GF.tr (e 25) = 1#32 := by decide +kernel
theorem tr_apart {r s : F} (h : ∀ i, i < 32 → GF.tr (mul (e i) r) = GF.tr (mul (e i) s)) : r = s := by
  apply Classical.byContradiction
  intro hne
  have hd : r ^^^ s ≠ 0#32 := xor_ne hne
  have h0 : ∀ y, GF.tr (mul y (r ^^^ s)) = 0#32 := lin_ext (fun y => GF.tr (mul y (r ^^^ s))) (fun _ => 0#32) (fun a b => by rw [GF.xor_mul, tr_xor]) (fun a b => by simp) (fun i hi => by
    rw [GF.mul_xor, tr_xor, h i hi, BitVec.xor_self])
  have := h0 (mul (e 25) (inv (r ^^^ s)))
  rw [GF.mul_assoc, inv_mul hd, GF.mul_one, tr_e25] at this
  exact one_ne_zero this
theorem PI.last {q : List F} (h : PI q 32) : len q ≤ 2 := by
  obtain ⟨R, hn, hl, hr⟩ := h.spl
  match R, hn, hl, hr with
  | [], _, hl, _ => rw [hl]; simp
  | [a], _, hl, _ => rw [hl]; simp
  | a :: b :: R, hn, hl, hr =>
    have : a = b := tr_apart (fun i hi => h.same a b ((hr a).2 (by simp)) ((hr b).2 (by simp)) i hi)
    subst this
    rw [List.nodup_cons] at hn
    exact absurd (by simp) hn.1
theorem PI.one {q : List F} {b : Nat} (h : PI q b) (hl : len q = 2) (y : F) : ev q y = 0#32 ↔ y = co q 0 := by
  have e1 : ∀ j, co q j = co [co q 0, 1#32] j := by
    intro j
    match j with
    | 0 => rfl
    | 1 => have := h.mon.resolve_left h.nz; rw [hl] at this; exact this
    | j + 2 => rw [co_len q (j + 2) (by omega)]; rfl
  rw [ev_congr e1, ev_lin]
  exact ⟨fun h => xor_eq_zero h, fun h => by rw [h, BitVec.xor_self]⟩
theorem PI.none {q : List F} {b : Nat} (h : PI q b) (hl : len q ≤ 1) (y : F) : ev q y ≠ 0#32 := by
  obtain ⟨R, hn, hl', hr⟩ := h.spl
  obtain rfl : R = [] := List.eq_nil_of_length_eq_zero (by omega)
  intro e
  exact absurd ((hr y).1 e) (by simp)
theorem tr_ne {x : F} : GF.tr x ≠ 0#32 ↔ GF.tr x = 1#32 := by
  rcases tr_01 x with h | h <;> rw [h] <;> simp
theorem PI.left {q t g : List F} {b : Nat} (h : PI q b) (ht : TrcR q (e b) t) (hg : GcdP q t g) : PI g (b + 1) ∧ (∀ y, ev g y = 0#32 ↔ ev q y = 0#32 ∧ GF.tr (mul (e b) y) = 0#32) := by
  have hr : ∀ y, ev g y = 0#32 ↔ ev q y = 0#32 ∧ GF.tr (mul (e b) y) = 0#32 := by
    intro y
    rw [hg.roots]
    exact ⟨fun ⟨h1, h2⟩ => ⟨h1, by rw [← ht.ev h1]; exact h2⟩, fun ⟨h1, h2⟩ => ⟨h1, by rw [ht.ev h1]; exact h2⟩⟩
  refine ⟨⟨hg.tr, hg.mon, hg.nz h.nz, h.spl.dvd hg.l, fun r s e1 e2 i hi => ?_⟩, hr⟩
  by_cases hib : i < b
  · exact h.same r s ((hr r).1 e1).1 ((hr s).1 e2).1 i hib
  · obtain rfl : i = b := by omega
    rw [((hr r).1 e1).2, ((hr s).1 e2).2]
theorem PI.right_of {q m : List F} {b : Nat} (h : PI q b) (tm : Tr m) (mm : Mon m) (nz : len m ≠ 0) (hd : Dv m q) (hr : ∀ y, ev m y = 0#32 ↔ ev q y = 0#32 ∧ GF.tr (mul (e b) y) ≠ 0#32) : PI m (b + 1) := by
  refine ⟨tm, mm, nz, h.spl.dvd hd, fun r s e1 e2 i hi => ?_⟩
  by_cases hib : i < b
  · exact h.same r s ((hr r).1 e1).1 ((hr s).1 e2).1 i hib
  · obtain rfl : i = b := by omega
    rw [tr_ne.1 ((hr r).1 e1).2, tr_ne.1 ((hr s).1 e2).2]
theorem PI.right {q t g o r : List F} {b : Nat} (h : PI q b) (ht : TrcR q (e b) t) (hg : GcdP q t g) (ho : Quo q g o r) (tr' : Tr r) :
    PI (monic o) (b + 1) ∧ (∀ y, ev (monic o) y = 0#32 ↔ ev q y = 0#32 ∧ GF.tr (mul (e b) y) ≠ 0#32) := by
  obtain ⟨hl, hroots⟩ := h.left ht hg
  obtain rfl := ho.exact tr' hg.l
  have e0 : co q = pr o g := by rw [← ho.1]; exact sadd_zero _
  have hz := len_nz e0 h.nz
  have hon := h.spl.once e0
  have hmo : ∀ y, ev (monic o) y = 0#32 ↔ ev o y = 0#32 := fun y => ⟨fun e => dv_ev (Dv.monic o).1 e, fun e => dv_ev (Dv.monic o).2 e⟩
  have hr : ∀ y, ev (monic o) y = 0#32 ↔ ev q y = 0#32 ∧ GF.tr (mul (e b) y) ≠ 0#32 := by
    intro y
    rw [hmo, hon]
    constructor
    · rintro ⟨h1, h2⟩; exact ⟨h1, fun e => h2 ((hroots y).2 ⟨h1, e⟩)⟩
    · rintro ⟨h1, h2⟩; exact ⟨h1, fun e => h2 ((hroots y).1 e).2⟩
  refine ⟨h.right_of (tr_monic o) (mon_monic o) (by rw [len_monic]; exact hz.1) ?_ hr, hr⟩
  have d1 : Dv o q := ⟨g, by rw [e0, pr_comm]⟩
  obtain ⟨w, hw⟩ := d1
  exact (Dv.monic o).1.mul w hw
end Go.Proofs.Ytljkbkhaamlbmaa.PolyT
