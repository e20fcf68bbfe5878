/- Polynomials over the field of 2^32 elements, as lists of coefficients: plain mathematics, no program in sight. -/
import Derived.Test.YtfjkiiajbeaaoaaGF
set_option linter.unusedVariables false
set_option linter.unusedSimpArgs false
namespace Go.Proofs.Ytfjkiiajbeaaoaa.PolyT
open Go.Proofs.Ytfjkiiajbeaaoaa GF
/-- the coefficient at a place -/
def co (l : List F) (i : Nat) : F := l.getD i 0#32
theorem co_nil (i : Nat) : co [] i = 0#32 := rfl
theorem co_cons_zero (a : F) (l : List F) : co (a :: l) 0 = a := rfl
theorem co_cons_succ (a : F) (l : List F) (i : Nat) : co (a :: l) (i + 1) = co l i := rfl
theorem co_ge {l : List F} {i : Nat} (h : l.length ≤ i) : co l i = 0#32 := by
  unfold co; rw [List.getD_eq_getElem?_getD, List.getElem?_eq_none h]; rfl
theorem co_lt {l : List F} {i : Nat} (h : i < l.length) : co l i = l[i] := by
  unfold co; rw [List.getD_eq_getElem?_getD, List.getElem?_eq_getElem h]; rfl
theorem co_take {l : List F} {n i : Nat} : co (l.take n) i = if i < n then co l i else 0#32 := by
  unfold co
  rw [List.getD_eq_getElem?_getD, List.getD_eq_getElem?_getD, List.getElem?_take]
  split <;> rfl
theorem co_append {a b : List F} {i : Nat} : co (a ++ b) i = if i < a.length then co a i else co b (i - a.length) := by
  unfold co
  rw [List.getD_eq_getElem?_getD, List.getD_eq_getElem?_getD, List.getD_eq_getElem?_getD, List.getElem?_append]
  split <;> rfl
theorem co_replicate (n i : Nat) : co (List.replicate n 0#32) i = 0#32 := by
  by_cases h : i < n
  · rw [co_lt (by simpa using h)]; simp
  · exact co_ge (by simpa using Nat.le_of_not_lt h)
theorem co_set {l : List F} {n : Nat} {x : F} {i : Nat} : co (l.set n x) i = if i = n ∧ n < l.length then x else co l i := by
  by_cases h : i < l.length
  · rw [co_lt (by simpa using h), co_lt h, List.getElem_set]
    by_cases e : n = i
    · subst e; simp [h]
    · rw [if_neg e, if_neg (by intro c; exact e c.1.symm)]
  · rw [co_ge (by simpa using Nat.le_of_not_lt h), co_ge (Nat.le_of_not_lt h), if_neg (by intro c; omega)]
theorem list_ext {a b : List F} (hl : a.length = b.length) (h : ∀ i, co a i = co b i) : a = b := by
  apply List.ext_getElem hl
  intro i h1 h2
  have := h i
  rwa [co_lt h1, co_lt h2] at this
/-- one more than the degree; 0 of nought -/
def len : List F → Nat
  | [] => 0
  | a :: l => if len l = 0 then (if a = 0#32 then 0 else 1) else len l + 1
theorem len_le (l : List F) : len l ≤ l.length := by
  induction l with
  | nil => exact Nat.le_refl _
  | cons a l ih => simp only [len, List.length_cons]; split; split <;> omega; omega
theorem co_len (l : List F) : ∀ i, len l ≤ i → co l i = 0#32 := by
  induction l with
  | nil => intro i _; rfl
  | cons a l ih =>
    intro i hi
    simp only [len] at hi
    by_cases h : len l = 0
    · rw [if_pos h] at hi
      cases i with
      | zero =>
        by_cases h2 : a = 0#32
        · rw [h2]; rfl
        · rw [if_neg h2] at hi; omega
      | succ i => rw [co_cons_succ]; exact ih i (by omega)
    · rw [if_neg h] at hi
      cases i with
      | zero => omega
      | succ i => rw [co_cons_succ]; exact ih i (by omega)
theorem co_top (l : List F) : ∀ n, len l = n + 1 → co l n ≠ 0#32 := by
  induction l with
  | nil => intro n h; simp [len] at h
  | cons a l ih =>
    intro n h
    simp only [len] at h
    by_cases h1 : len l = 0
    · rw [if_pos h1] at h
      by_cases h2 : a = 0#32
      · rw [if_pos h2] at h; omega
      · rw [if_neg h2] at h
        obtain rfl : n = 0 := by omega
        exact h2
    · rw [if_neg h1] at h
      obtain ⟨m, rfl⟩ : ∃ m, n = m + 1 := ⟨n - 1, by omega⟩
      rw [co_cons_succ]; exact ih m (by omega)
/-- the length is what its two facts say -/
theorem len_eq {l : List F} {n : Nat} (h0 : ∀ i, n ≤ i → co l i = 0#32) (h1 : ∀ m, n = m + 1 → co l m ≠ 0#32) : len l = n := by
  rcases Nat.lt_trichotomy (len l) n with h | h | h
  · obtain ⟨m, rfl⟩ : ∃ m, n = m + 1 := ⟨n - 1, by omega⟩
    exact absurd (co_len l m (by omega)) (h1 m rfl)
  · exact h
  · obtain ⟨m, hm⟩ : ∃ m, len l = m + 1 := ⟨len l - 1, by omega⟩
    exact absurd (h0 m (by omega)) (co_top l m hm)
theorem len_congr {a b : List F} (h : ∀ i, co a i = co b i) : len a = len b :=
  len_eq (fun i hi => by rw [h]; exact co_len b i hi) (fun m hm => by rw [h]; exact co_top b m hm)
theorem len_zero {l : List F} (h : len l = 0) : ∀ i, co l i = 0#32 := fun i => co_len l i (by omega)
theorem len_pos {l : List F} {i : Nat} (h : co l i ≠ 0#32) : i < len l := by
  rcases Nat.lt_or_ge i (len l) with h1 | h1
  · exact h1
  · exact absurd (co_len l i h1) h
/-- without the noughts at the end -/
def trim (l : List F) : List F := l.take (len l)
theorem trim_length (l : List F) : (trim l).length = len l := by unfold trim; rw [List.length_take]; have := len_le l; omega
theorem co_trim (l : List F) (i : Nat) : co (trim l) i = co l i := by
  unfold trim; rw [co_take]
  by_cases h : i < len l
  · rw [if_pos h]
  · rw [if_neg h, co_len l i (by omega)]
theorem len_trim (l : List F) : len (trim l) = len l := len_congr (co_trim l)
/-- no nought at the end -/
def Tr (l : List F) : Prop := len l = l.length
theorem tr_trim (l : List F) : Tr (trim l) := by unfold Tr; rw [len_trim, trim_length]
theorem tr_ext {a b : List F} (ha : Tr a) (hb : Tr b) (h : ∀ i, co a i = co b i) : a = b :=
  list_ext (by rw [← ha, ← hb]; exact len_congr h) h
theorem trim_of_tr {l : List F} (h : Tr l) : trim l = l := tr_ext (tr_trim l) h (co_trim l)
theorem tr_nil : Tr [] := rfl
theorem trim_congr {a b : List F} (h : ∀ i, co a i = co b i) : trim a = trim b := tr_ext (tr_trim a) (tr_trim b) (fun i => by rw [co_trim, co_trim, h])
/-! ### functions from places to elements -/
abbrev S := Nat → F
def sadd (f g : S) : S := fun i => f i ^^^ g i
def smul (c : F) (f : S) : S := fun i => mul c (f i)
/-- moved up by one place -/
def X (f : S) : S
  | 0 => 0#32
  | i + 1 => f i
def one : S
  | 0 => 1#32
  | _ + 1 => 0#32
/-- a list acts on functions: the sum of its elements times the moved function -/
def act : List F → S → S
  | [], _ => fun _ => 0#32
  | a :: l, f => sadd (smul a f) (X (act l f))
theorem X_add (f g : S) : X (sadd f g) = sadd (X f) (X g) := by
  funext i; cases i with
  | zero => simp [X, sadd]
  | succ i => rfl
theorem X_smul (c : F) (f : S) : X (smul c f) = smul c (X f) := by
  funext i; cases i with
  | zero => simp [X, smul, GF.mul_zero]
  | succ i => rfl
theorem X_zero : X (fun _ => 0#32) = fun _ => 0#32 := by funext i; cases i <;> rfl
theorem smul_add (c : F) (f g : S) : smul c (sadd f g) = sadd (smul c f) (smul c g) := by funext i; simp [smul, sadd, mul_xor]
theorem smul_smul (c d : F) (f : S) : smul c (smul d f) = smul d (smul c f) := by
  funext i; simp only [smul]; rw [← GF.mul_assoc, GF.mul_comm c d, GF.mul_assoc]
theorem sadd_comm4 (a b c d : S) : sadd (sadd a b) (sadd c d) = sadd (sadd a c) (sadd b d) := by funext i; exact xor4 _ _ _ _
theorem smul_zero (c : F) : smul c (fun _ => 0#32) = fun _ => 0#32 := by funext i; exact GF.mul_zero c
theorem sadd_zero (f : S) : sadd f (fun _ => 0#32) = f := by funext i; simp [sadd]
theorem act_zero (l : List F) : act l (fun _ => 0#32) = fun _ => 0#32 := by
  induction l with
  | nil => rfl
  | cons a l ih => simp only [act]; rw [ih, X_zero, smul_zero, sadd_zero]
theorem act_add (l : List F) (f g : S) : act l (sadd f g) = sadd (act l f) (act l g) := by
  induction l with
  | nil => funext i; simp [act, sadd]
  | cons a l ih => simp only [act]; rw [ih, X_add, smul_add, sadd_comm4]
theorem act_smul (l : List F) (c : F) (f : S) : act l (smul c f) = smul c (act l f) := by
  induction l with
  | nil => exact (smul_zero c).symm
  | cons a l ih => simp only [act]; rw [ih, X_smul, smul_add, smul_smul]
theorem act_X (l : List F) (f : S) : act l (X f) = X (act l f) := by
  induction l with
  | nil => exact X_zero.symm
  | cons a l ih => simp only [act]; rw [ih, X_add, X_smul]
theorem act_act (a b : List F) (f : S) : act a (act b f) = act b (act a f) := by
  induction a with
  | nil => exact (act_zero b).symm
  | cons x a ih => simp only [act]; rw [ih, ← act_X, ← act_smul, ← act_add]
theorem act_one (l : List F) : act l one = co l := by
  induction l with
  | nil => funext i; rfl
  | cons a l ih =>
    simp only [act]; rw [ih]
    funext i
    cases i with
    | zero => simp [sadd, smul, one, X, GF.mul_one, co_cons_zero]
    | succ i => simp [sadd, smul, one, X, GF.mul_zero, co_cons_succ]
/-- the product's coefficients -/
def pr (a b : List F) : S := act a (co b)
theorem pr_comm (a b : List F) : pr a b = pr b a := by unfold pr; rw [← act_one b, ← act_one a, act_act]
theorem pr_assoc {a b c ab bc : List F} (h1 : co ab = pr a b) (h2 : co bc = pr b c) : pr ab c = pr a bc := by
  rw [pr_comm]; unfold pr
  rw [h1, h2]; unfold pr
  rw [act_act c a, ← act_one b, act_act c b, act_one c]
theorem act_congr {a b : List F} (h : ∀ i, co a i = co b i) (c : List F) : pr a c = pr b c := by
  rw [pr_comm a, pr_comm b]; unfold pr; rw [show co a = co b from funext h]
theorem len_tail_zero {x : F} {a : List F} (h : len (x :: a) = 0) : x = 0#32 ∧ len a = 0 := by
  refine ⟨len_zero h 0, ?_⟩
  simp only [len] at h
  by_cases h4 : len a = 0
  · exact h4
  · rw [if_neg h4] at h; omega
theorem act_of_zero (a : List F) (f : S) (h : len a = 0) : act a f = fun _ => 0#32 := by
  induction a with
  | nil => rfl
  | cons y a ih =>
    obtain ⟨hy, h3⟩ := len_tail_zero h
    simp only [act]; rw [ih h3, X_zero, hy]
    funext i; simp [sadd, smul, GF.zero_mul]
theorem act_high (a : List F) (f : S) (n : Nat) (hf : ∀ i, n ≤ i → f i = 0#32) : ∀ i, len a + n ≤ i + 1 → act a f i = 0#32 := by
  induction a with
  | nil => intro i _; rfl
  | cons x a ih =>
    intro i hi
    by_cases h0 : len (x :: a) = 0
    · rw [act_of_zero _ _ h0]
    · simp only [act, sadd, smul]
      rw [hf i (by omega), GF.mul_zero, BitVec.zero_xor]
      cases i with
      | zero => rfl
      | succ i =>
        simp only [X]
        by_cases h2 : len a = 0
        · rw [act_of_zero _ _ h2]
        · have h3 : len (x :: a) = len a + 1 := by simp only [len]; rw [if_neg h2]
          exact ih i (by omega)
theorem act_top (a : List F) (f : S) (n : Nat) (hf : ∀ i, n + 1 ≤ i → f i = 0#32) : ∀ p, len a = p + 1 → act a f (p + n) = mul (co a p) (f n) := by
  induction a with
  | nil => intro p h; simp [len] at h
  | cons x a ih =>
    intro p hp
    simp only [act, sadd, smul]
    by_cases h2 : len a = 0
    · have hp0 : p = 0 := by
        simp only [len] at hp; rw [if_pos h2] at hp
        by_cases h3 : x = 0#32
        · rw [if_pos h3] at hp; omega
        · rw [if_neg h3] at hp; omega
      subst hp0
      rw [act_of_zero _ _ h2, X_zero, Nat.zero_add, BitVec.xor_zero]; rfl
    · have h3 : len (x :: a) = len a + 1 := by simp only [len]; rw [if_neg h2]
      obtain ⟨q, rfl⟩ : ∃ q, p = q + 1 := ⟨p - 1, by omega⟩
      rw [hf (q + 1 + n) (by omega), GF.mul_zero, BitVec.zero_xor]
      have e : q + 1 + n = (q + n) + 1 := by omega
      rw [e]; simp only [X]
      exact ih q (by omega)
/-- the length of a product -/
theorem pr_high (a b : List F) : ∀ i, len a + len b ≤ i + 1 → pr a b i = 0#32 := act_high a (co b) (len b) (co_len b)
theorem pr_top {a b : List F} {p q : Nat} (ha : len a = p + 1) (hb : len b = q + 1) : pr a b (p + q) ≠ 0#32 := by
  unfold pr
  rw [act_top a (co b) q (fun i hi => co_len b i (by omega)) p ha]
  intro h
  rcases GF.mul_eq_zero h with h1 | h1
  · exact co_top a p ha h1
  · exact co_top b q hb h1
theorem len_pr {a b c : List F} (h : co c = pr a b) (ha : len a ≠ 0) (hb : len b ≠ 0) : len c + 1 = len a + len b := by
  obtain ⟨p, hp⟩ : ∃ p, len a = p + 1 := ⟨len a - 1, by omega⟩
  obtain ⟨q, hq⟩ : ∃ q, len b = q + 1 := ⟨len b - 1, by omega⟩
  have : len c = p + q + 1 := len_eq (fun i hi => by rw [h]; exact pr_high a b i (by omega)) (fun m hm => by
    obtain rfl : m = p + q := by omega
    rw [h]; exact pr_top hp hq)
  omega
theorem pr_zero_l {a : List F} (b : List F) (h : len a = 0) : pr a b = fun _ => 0#32 := act_of_zero a _ h
theorem pr_zero_r (a : List F) {b : List F} (h : len b = 0) : pr a b = fun _ => 0#32 := by rw [pr_comm]; exact act_of_zero b _ h
/-- sums of lists: what their coefficients are -/
theorem pr_add_r (a : List F) {b c d : List F} (h : co d = sadd (co b) (co c)) : pr a d = sadd (pr a b) (pr a c) := by unfold pr; rw [h, act_add]
theorem pr_add_l {a b d : List F} (c : List F) (h : co d = sadd (co a) (co b)) : pr d c = sadd (pr a c) (pr b c) := by rw [pr_comm, pr_add_r c h, pr_comm c, pr_comm c]
/-- a quotient and a rest: there is just one -/
theorem div_unique {b q1 r1 q2 r2 : List F} (hb : len b ≠ 0) (h : sadd (pr q1 b) (co r1) = sadd (pr q2 b) (co r2)) (h1 : len r1 < len b) (h2 : len r2 < len b) :
    co q1 = co q2 ∧ co r1 = co r2 := by
  -- the difference of the quotients
  let n := max q1.length q2.length
  let d : List F := (List.range n).map fun i => co q1 i ^^^ co q2 i
  have hd : co d = sadd (co q1) (co q2) := by
    funext i
    by_cases hi : i < n
    · rw [co_lt (by simpa [d] using hi)]; simp [d, sadd]
    · rw [co_ge (by simpa [d] using Nat.le_of_not_lt hi)]
      simp only [sadd]
      have : q1.length ≤ i ∧ q2.length ≤ i := by simp only [n] at hi; omega
      rw [co_ge this.1, co_ge this.2]; rfl
  have hp : pr d b = sadd (co r1) (co r2) := by
    rw [pr_add_l b hd]
    funext i
    have := congrFun h i
    simp only [sadd] at this ⊢
    have e : ∀ x y z w : F, x ^^^ y = z ^^^ w → x ^^^ z = y ^^^ w := by
      intro x y z w hh
      have h3 : x = (z ^^^ w) ^^^ y := by rw [← hh, BitVec.xor_assoc, BitVec.xor_self, BitVec.xor_zero]
      rw [h3]
      have : ((z ^^^ w) ^^^ y) ^^^ z = (z ^^^ z) ^^^ (y ^^^ w) := by ac_rfl
      rw [this, BitVec.xor_self, BitVec.zero_xor]
    exact e _ _ _ _ this
  have hz : len d = 0 := by
    rcases Nat.eq_zero_or_pos (len d) with h0 | h0
    · exact h0
    · exfalso
      obtain ⟨p, hp1⟩ : ∃ p, len d = p + 1 := ⟨len d - 1, by omega⟩
      obtain ⟨q, hq1⟩ : ∃ q, len b = q + 1 := ⟨len b - 1, by omega⟩
      apply pr_top hp1 hq1
      rw [hp]; simp only [sadd]
      rw [co_len r1 _ (by omega), co_len r2 _ (by omega)]; rfl
  constructor
  · funext i
    have := congrFun hd i
    rw [len_zero hz i] at this
    exact xor_eq_zero this.symm
  · funext i
    have := congrFun hp i
    rw [pr_zero_l b hz] at this
    exact xor_eq_zero this.symm
/-! ### values -/
def ev : List F → F → F
  | [], _ => 0#32
  | c :: l, x => mul (ev l x) x ^^^ c
theorem ev_zero {l : List F} (h : len l = 0) (x : F) : ev l x = 0#32 := by
  induction l with
  | nil => rfl
  | cons a l ih =>
    obtain ⟨ha, hl⟩ := len_tail_zero h
    simp only [ev]; rw [ih hl, ha, GF.zero_mul]; rfl
theorem ev_congr {a b : List F} (h : ∀ i, co a i = co b i) (x : F) : ev a x = ev b x := by
  induction a generalizing b with
  | nil =>
    have : len b = 0 := by rw [← len_congr h]; rfl
    rw [ev_zero this]; rfl
  | cons c a ih =>
    cases b with
    | nil =>
      have : len (c :: a) = 0 := by rw [len_congr h]; rfl
      rw [ev_zero this]; rfl
    | cons d b =>
      simp only [ev]
      rw [ih (fun i => h (i + 1))]
      have := h 0
      simp only [co_cons_zero] at this
      rw [this]
end Go.Proofs.Ytfjkiiajbeaaoaa.PolyT
