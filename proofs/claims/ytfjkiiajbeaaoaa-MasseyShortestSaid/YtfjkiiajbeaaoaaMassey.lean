/- The shortest recurrence of a sequence, step by step: plain mathematics, no program in sight. -/
import Derived.Test.YtfjkiiajbeaaoaaPolyG
set_option linter.unusedVariables false
set_option linter.unusedSimpArgs false
namespace Go.Proofs.Ytfjkiiajbeaaoaa.Massey
open Go.Proofs.Ytfjkiiajbeaaoaa GF PolyT
/-- what a list gives of a function that is nought at a window -/
theorem act_window : ∀ (c : List F) (l : Nat) (g : S) (n : Nat), c.length ≤ l + 1 → (∀ i, n ≤ i + l → i < n → g i = 0#32) → act c g n = mul (co c 0) (g n) := by
  intro c
  induction c with
  | nil => intro l g n _ _; show (0#32 : F) = mul 0#32 (g n); rw [GF.zero_mul]
  | cons a t ih =>
    intro l g n hl h
    have e : act (a :: t) g n = mul a (g n) ^^^ X (act t g) n := rfl
    rw [e]
    have hx : X (act t g) n = 0#32 := by
      cases n with
      | zero => rfl
      | succ n =>
        show act t g n = 0#32
        cases t with
        | nil => rfl
        | cons b t =>
          simp only [List.length_cons] at hl
          rw [ih (l - 1) g n (by simp only [List.length_cons]; omega) (fun i h1 h2 => h i (by omega) (by omega)), h n (by omega) (by omega), GF.mul_zero]
    rw [hx, BitVec.xor_zero]; rfl
/-- a recurrence of length l of the first n of a sequence -/
def Rec (f : S) (n : Nat) (c : List F) (l : Nat) : Prop := c.length ≤ l + 1 ∧ co c 0 = 1#32 ∧ ∀ i, l ≤ i → i < n → act c f i = 0#32
theorem Rec.less {f : S} {n m : Nat} {c : List F} {l : Nat} (h : Rec f n c l) (hm : m ≤ n) : Rec f m c l := ⟨h.1, h.2.1, fun i a b => h.2.2 i a (by omega)⟩
/-- two recurrences, of which the first one falls at n -/
theorem Rec.fall {f : S} {n : Nat} {c d : List F} {l m : Nat} (h : Rec f n c l) (hf : act c f n ≠ 0#32) (h2 : Rec f (n + 1) d m) : n + 1 ≤ l + m := by
  rcases Nat.lt_or_ge n (l + m) with h3 | h3
  · exact h3
  exfalso
  have e1 : act d (act c f) n = act c f n := by
    rw [act_window d m (act c f) n h2.1 (fun i a b => h.2.2 i (by omega) b), h2.2.1, GF.one_mul]
  have e2 : act c (act d f) n = 0#32 := by
    rw [act_window c l (act d f) n h.1 (fun i a b => h2.2.2 i (by omega) (by omega)), h2.2.2 n (by omega) (by omega), GF.mul_zero]
  rw [act_act] at e1
  exact hf (e1.symm.trans e2)
/-- the recurrence, put right by the old one -/
def mend (now old : List F) (gap : Nat) (by_ : F) : List F := (List.range (max now.length (gap + old.length))).map fun i => co now i ^^^ mul by_ (shn gap (co old) i)
theorem mend_length (now old : List F) (gap : Nat) (b : F) : (mend now old gap b).length = max now.length (gap + old.length) := by simp [mend]
theorem co_mend (now old : List F) (gap : Nat) (b : F) : co (mend now old gap b) = sadd (co now) (smul b (shn gap (co old))) := by
  funext i
  by_cases h : i < max now.length (gap + old.length)
  · rw [co_lt (by rw [mend_length]; exact h)]; simp [mend, sadd, smul]
  · rw [co_ge (by rw [mend_length]; omega)]
    simp only [sadd, smul, shn]
    rw [co_ge (by omega)]
    by_cases h2 : gap ≤ i
    · rw [if_pos h2, co_ge (by omega), GF.mul_zero]; rfl
    · rw [if_neg h2, GF.mul_zero]; rfl
theorem shn_succ (n : Nat) (f : S) : shn (n + 1) f = shn n (X f) := by
  funext i
  simp only [shn]
  by_cases h : n + 1 ≤ i
  · rw [if_pos h, if_pos (by omega)]
    obtain ⟨k, rfl⟩ : ∃ k, i = n + k + 1 := ⟨i - n - 1, by omega⟩
    have e1 : n + k + 1 - (n + 1) = k := by omega
    have e2 : n + k + 1 - n = k + 1 := by omega
    rw [e1, e2]; rfl
  · rw [if_neg h]
    by_cases h2 : n ≤ i
    · rw [if_pos h2]
      have : i - n = 0 := by omega
      rw [this]; rfl
    · rw [if_neg h2]
theorem act_shn (l : List F) (n : Nat) : ∀ f : S, act l (shn n f) = shn n (act l f) := by
  induction n with
  | zero => intro f; rw [shn_zero, shn_zero]
  | succ n ih => intro f; rw [shn_succ, ih, act_X, ← shn_succ]
theorem shn_smul (n : Nat) (c : F) (f : S) : shn n (smul c f) = smul c (shn n f) := by
  funext i; simp only [shn, smul]
  by_cases h : n ≤ i
  · rw [if_pos h, if_pos h]
  · rw [if_neg h, if_neg h, GF.mul_zero]
/-- any function on the first places is a list's -/
theorem fn_list (f : S) (n : Nat) : ∃ l : List F, l.length = n ∧ ∀ i, i < n → co l i = f i := by
  refine ⟨(List.range n).map f, by simp, fun i hi => ?_⟩
  rw [co_lt (by simpa using hi)]; simp
theorem act_local (c : List F) : ∀ (f g : S) (n : Nat), (∀ i, i ≤ n → f i = g i) → act c f n = act c g n := by
  induction c with
  | nil => intro f g n _; rfl
  | cons a t ih =>
    intro f g n h
    show mul a (f n) ^^^ X (act t f) n = mul a (g n) ^^^ X (act t g) n
    rw [h n (Nat.le_refl _)]
    congr 1
    cases n with
    | zero => rfl
    | succ n => exact ih f g n (fun i hi => h i (by omega))
theorem act_mend (now old : List F) (gap : Nat) (b : F) (f : S) (n : Nat) : act (mend now old gap b) f n = act now f n ^^^ mul b (shn gap (act old f) n) := by
  obtain ⟨l, hl, hf⟩ := fn_list f (n + 1)
  have h1 := act_local (mend now old gap b) f (co l) n (fun i hi => (hf i (by omega)).symm)
  have h2 := act_local now f (co l) n (fun i hi => (hf i (by omega)).symm)
  have h3 : shn gap (act old f) n = shn gap (act old (co l)) n := by
    simp only [shn]
    by_cases h : gap ≤ n
    · rw [if_pos h, if_pos h]; exact act_local old f (co l) _ (fun i hi => (hf i (by omega)).symm)
    · rw [if_neg h, if_neg h]
  rw [h1, h2, h3]
  have h4 : act (mend now old gap b) (co l) = sadd (act now (co l)) (smul b (shn gap (act old (co l)))) := by
    show pr _ _ = sadd (pr now l) (smul b (shn gap (pr old l)))
    rw [pr_comm, pr_comm now, pr_comm old]
    unfold pr
    rw [co_mend, act_add, act_smul, act_shn]
  rw [h4]; rfl
/-- what is under way -/
structure St where
  now : List F
  old : List F
  len : Nat
  gap : Nat
  was : F
def St.nxt (f : S) (at_ : Nat) (x : St) : St :=
  if act x.now f at_ = 0#32 then { x with gap := x.gap + 1 }
  else if 2 * x.len ≤ at_ then ⟨mend x.now x.old (x.gap + 1) (mul (act x.now f at_) (inv x.was)), x.now, at_ + 1 - x.len, 0, act x.now f at_⟩
  else { x with now := mend x.now x.old (x.gap + 1) (mul (act x.now f at_) (inv x.was)), gap := x.gap + 1 }
def run (f : S) : Nat → St
  | 0 => ⟨[1#32], [1#32], 0, 0, 1#32⟩
  | n + 1 => (run f n).nxt f n
/-- what holds of what is under way -/
structure Inv (f : S) (n : Nat) (x : St) : Prop where
  rec_ : Rec f n x.now x.len
  was : x.was ≠ 0#32
  len : x.len ≤ n
  pos : 1 ≤ x.now.length
  old : (x.len = 0 ∧ x.gap = n ∧ x.old = [1#32]) ∨ ∃ m l, m < n ∧ l ≤ m ∧ x.gap + 1 + m = n ∧ x.len + l = m + 1 ∧ x.old.length ≤ l + 1 ∧ (∀ i, l ≤ i → i < m → act x.old f i = 0#32) ∧ act x.old f m = x.was
  least : ∀ c l, Rec f n c l → x.len ≤ l
theorem inv_zero (f : S) : Inv f 0 (run f 0) :=
  ⟨⟨Nat.le_refl _, rfl, fun i _ h => absurd h (Nat.not_lt_zero _)⟩, one_ne_zero, Nat.le_refl _, Nat.le_refl _, .inl ⟨rfl, rfl, rfl⟩, fun _ _ _ => Nat.zero_le _⟩
theorem Inv.mended {f : S} {n : Nat} {x : St} (h : Inv f n x) (hd : act x.now f n ≠ 0#32) (l : Nat) (hl : x.len ≤ l) (hl2 : n + 1 ≤ x.len + l) :
    Rec f (n + 1) (mend x.now x.old (x.gap + 1) (mul (act x.now f n) (inv x.was))) l := by
  have hb : mul (mul (act x.now f n) (inv x.was)) x.was = act x.now f n := by rw [GF.mul_assoc, GF.inv_mul h.was, GF.mul_one]
  obtain ⟨k1, k2, k3⟩ := h.rec_
  refine ⟨?_, ?_, ?_⟩
  · rw [mend_length]
    rcases h.old with ⟨a, b, c⟩ | ⟨m, lo, a, b, c, d, e, _⟩
    · rw [c, b]; simp only [List.length_singleton]; omega
    · omega
  · rw [co_mend]
    show co x.now 0 ^^^ mul _ (shn (x.gap + 1) (co x.old) 0) = 1#32
    rw [k2]
    simp only [shn]; rw [if_neg (by omega), GF.mul_zero, BitVec.xor_zero]
  · intro i hi1 hi2
    rw [act_mend]
    rcases h.old with ⟨a, b, c⟩ | ⟨m, lo, a, b, c, d, e, g1, g2⟩
    · omega
    · simp only [shn]
      by_cases hin : i = n
      · subst hin
        rw [if_pos (by omega)]
        have : i - (x.gap + 1) = m := by omega
        rw [this, g2, hb, BitVec.xor_self]
      · rw [k3 i (by omega) (by omega)]
        by_cases hg : x.gap + 1 ≤ i
        · rw [if_pos hg, g1 _ (by omega) (by omega), GF.mul_zero]; rfl
        · rw [if_neg hg, GF.mul_zero]; rfl
theorem Inv.next {f : S} {n : Nat} {x : St} (h : Inv f n x) : Inv f (n + 1) (x.nxt f n) := by
  unfold St.nxt
  by_cases hd : act x.now f n = 0#32
  · rw [if_pos hd]
    refine ⟨⟨h.rec_.1, h.rec_.2.1, fun i a b => ?_⟩, h.was, by have := h.len; show x.len ≤ n + 1; omega, h.pos, ?_, fun c l hc => h.least c l (hc.less (by omega))⟩
    · by_cases e : i = n
      · rw [e]; exact hd
      · exact h.rec_.2.2 i a (by omega)
    · rcases h.old with ⟨a, b, c⟩ | ⟨m, l, a, b, c, d⟩
      · exact .inl ⟨a, by show x.gap + 1 = n + 1; omega, c⟩
      · exact .inr ⟨m, l, by omega, b, by show x.gap + 1 + 1 + m = n + 1; omega, d⟩
  rw [if_neg hd]
  have hlen := h.len
  have hmp : ∀ b, 1 ≤ (mend x.now x.old (x.gap + 1) b).length := fun b => by rw [mend_length]; have := h.pos; omega
  by_cases h2 : 2 * x.len ≤ n
  · rw [if_pos h2]
    refine ⟨h.mended hd (n + 1 - x.len) (by omega) (by omega), hd, ?_, hmp _, .inr ⟨n, x.len, by omega, by omega, ?_, ?_, h.rec_.1, h.rec_.2.2, rfl⟩, fun c l hc => ?_⟩
    · show n + 1 - x.len ≤ n + 1; omega
    · show 0 + 1 + n = n + 1; omega
    · show n + 1 - x.len + x.len = n + 1; omega
    · have := h.rec_.fall hd hc
      show n + 1 - x.len ≤ l; omega
  · rw [if_neg h2]
    refine ⟨h.mended hd x.len (Nat.le_refl _) (by omega), h.was, by show x.len ≤ n + 1; omega, hmp _, ?_, fun c l hc => h.least c l (hc.less (by omega))⟩
    rcases h.old with ⟨a, b, c⟩ | ⟨m, l, a, b, c, d⟩
    · omega
    · exact .inr ⟨m, l, by omega, b, by show x.gap + 1 + 1 + m = n + 1; omega, d⟩
theorem inv_run (f : S) : ∀ n, Inv f n (run f n)
  | 0 => inv_zero f
  | n + 1 => (inv_run f n).next
theorem run_local (f g : S) : ∀ n, (∀ i, i < n → f i = g i) → run f n = run g n := by
  intro n
  induction n with
  | zero => intro _; rfl
  | succ n ih =>
    intro h
    simp only [run]
    rw [ih (fun i hi => h i (by omega))]
    have : act (run g n).now f n = act (run g n).now g n := act_local _ f g n (fun i hi => h i (by omega))
    unfold St.nxt; rw [this]
/-- the length: how it grows -/
theorem len_step (f : S) (n : Nat) : (run f (n + 1)).len = (run f n).len ∨ ((run f (n + 1)).len + (run f n).len = n + 1 ∧ (run f n).len < (run f (n + 1)).len) := by
  have hl := (inv_run f n).len
  show ((run f n).nxt f n).len = _ ∨ _
  have e : (run f (n + 1)).len = ((run f n).nxt f n).len := rfl
  rw [e]
  unfold St.nxt
  by_cases hd : act (run f n).now f n = 0#32
  · rw [if_pos hd]; exact .inl rfl
  rw [if_neg hd]
  by_cases h2 : 2 * (run f n).len ≤ n
  · rw [if_pos h2]; right
    show n + 1 - (run f n).len + (run f n).len = n + 1 ∧ (run f n).len < n + 1 - (run f n).len
    omega
  · rw [if_neg h2]; exact .inl rfl
theorem len_later (f : S) (p : Nat) : ∀ d, (run f (p + d)).len = (run f p).len ∨ p + 1 ≤ (run f (p + d)).len + (run f p).len := by
  intro d
  induction d with
  | zero => exact .inl rfl
  | succ d ih =>
    have h := len_step f (p + d)
    have e : p + (d + 1) = p + d + 1 := rfl
    rw [e]
    omega
/-- another recurrence of the least length: none, where the sequence is long enough -/
theorem just_one (f : S) (n k : Nat) (by_ : F) (hb : by_ ≠ 0#32) (c d : List F) (h1 : 1 ≤ k) (h2 : k ≤ (run f n).len) (h3 : 2 * (run f n).len ≤ n) (hc : Rec f n c (run f n).len) (hd : Rec f n d (run f n).len)
    (e : ∀ i, k ≤ i → act d f i = act c f i ^^^ mul by_ (f (i - k))) : False := by
  have hz : ∀ t, (run f n).len - k ≤ t → t < n - k → f t = 0#32 := by
    intro t a b
    have := e (t + k) (by omega)
    rw [hd.2.2 (t + k) (by omega) (by omega), hc.2.2 (t + k) (by omega) (by omega), BitVec.zero_xor] at this
    have h4 : t + k - k = t := by omega
    rw [h4] at this
    rcases GF.mul_eq_zero this.symm with h5 | h5
    · exact absurd h5 hb
    · exact h5
  have hr : Rec f (n - k) [1#32] ((run f n).len - k) := by
    refine ⟨by simp, rfl, fun i a b => ?_⟩
    show mul 1#32 (f i) ^^^ X (fun _ => 0#32) i = 0#32
    rw [X_zero, GF.one_mul, hz i a b]; exact BitVec.xor_zero
  have hl := (inv_run f (n - k)).least _ _ hr
  have hk := len_later f (n - k) k
  have e2 : n - k + k = n := by omega
  rw [e2] at hk
  omega
end Go.Proofs.Ytfjkiiajbeaaoaa.Massey
