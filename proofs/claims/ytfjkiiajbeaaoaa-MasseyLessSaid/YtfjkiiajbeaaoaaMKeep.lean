/- Recurrences that are kept, and sequences that go on by them. -/
import Derived.Test.YtfjkiiajbeaaoaaMShort
set_option linter.unusedVariables false
set_option linter.unusedSimpArgs false
namespace Go.Proofs.Ytfjkiiajbeaaoaa.Massey
open Go.RowKit GF PolyT MV MW
/-- the recurrence is kept by the sequence -/
def Keep (c s : List F) : Prop := 1 ≤ c.length ∧ co c 0 = 1#32 ∧ ∀ i, c.length ≤ i + 1 → i < s.length → act c (co s) i = 0#32
theorem Keep.rec {c s : List F} (h : Keep c s) : Rec (co s) s.length c (c.length - 1) := ⟨by omega, h.2.1, fun i a b => h.2.2 i (by omega) b⟩
theorem act_append (f : S) : ∀ a b : List F, act (a ++ b) f = sadd (act a f) (shn a.length (act b f))
  | [], b => by funext i; simp [act, sadd, shn_zero]
  | x :: a, b => by
    show sadd (smul x f) (X (act (a ++ b) f)) = sadd (sadd (smul x f) (X (act a f))) _
    rw [act_append f a b, X_add, X_shn]
    funext i; simp only [sadd, List.length_cons]; ac_rfl
theorem act_noughts (f : S) : ∀ n, act (List.replicate n 0#32) f = fun _ => 0#32
  | 0 => rfl
  | n + 1 => by
    show sadd (smul 0#32 f) (X (act (List.replicate n 0#32) f)) = _
    rw [act_noughts f n, X_zero]
    funext i; simp [sadd, smul, GF.zero_mul]
theorem short_length (f : S) (n : Nat) : (short f n).length = (run f n).len + 1 := by
  have := (inv_run f n).rec_.1
  unfold short; rw [List.length_append, List.length_replicate]; omega
theorem act_short (f g : S) (n : Nat) : act (short f n) g = act (run f n).now g := by
  unfold short
  rw [act_append, act_noughts]
  funext i; simp [sadd, shn]
theorem co_short (f : S) (n : Nat) : co (short f n) 0 = 1#32 := by
  have h := inv_run f n
  unfold short
  rw [co_append, if_pos (by have := h.pos; omega)]; exact h.rec_.2.1
theorem short_rec (f : S) (n : Nat) : Rec f n (short f n) (run f n).len :=
  ⟨by rw [short_length]; exact Nat.le_refl _, co_short f n, fun i a b => by rw [act_short]; exact (inv_run f n).rec_.2.2 i a b⟩
theorem short_keep (s : List F) : Keep (short (co s) s.length) s :=
  ⟨by rw [short_length]; omega, co_short _ _, fun i a b => (short_rec (co s) s.length).2.2 i (by rw [short_length] at a; omega) b⟩
theorem act_set (f : S) (b : F) : ∀ (c : List F) (k : Nat), k < c.length → act (c.set k (co c k ^^^ b)) f = sadd (act c f) (smul b (shn k f))
  | [], k, h => absurd h (Nat.not_lt_zero _)
  | x :: l, 0, _ => by
    show sadd (smul (x ^^^ b) f) (X (act l f)) = sadd (sadd (smul x f) (X (act l f))) (smul b (shn 0 f))
    rw [shn_zero]
    funext i; simp only [sadd, smul, xor_mul]; ac_rfl
  | x :: l, k + 1, h => by
    have hk : k < l.length := by simp at h; omega
    show sadd (smul x f) (X (act (l.set k (co l k ^^^ b)) f)) = sadd (sadd (smul x f) (X (act l f))) (smul b (shn (k + 1) f))
    rw [act_set f b l k hk, X_add, X_smul, X_shn]
    funext i; simp only [sadd]; ac_rfl
/-- another one of the same length is not kept -/
theorem one_only (s : List F) (k : Nat) (b : F) (hb : b ≠ 0#32) (h1 : 1 ≤ k) (h2 : k ≤ (run (co s) s.length).len) (h3 : 2 * (run (co s) s.length).len ≤ s.length) :
    ¬ Keep ((short (co s) s.length).set k (co (short (co s) s.length) k ^^^ b)) s := by
  intro h
  have hl := short_length (co s) s.length
  have hr := h.rec
  rw [List.length_set, hl, Nat.add_sub_cancel] at hr
  refine just_one (co s) s.length k b hb _ _ h1 h2 h3 (short_rec _ _) hr (fun i hi => ?_)
  rw [act_set _ _ _ _ (by omega)]
  show _ ^^^ mul b (shn k (co s) i) = _
  unfold shn; rw [if_pos hi]
/-- no shorter one than the shortest -/
theorem short_least {c s : List F} (h : Keep c s) : (run (co s) s.length).len + 1 ≤ c.length := by
  have := (inv_run (co s) s.length).least c _ h.rec
  have := h.1
  omega
/-- the next element -/
def nextOf (c o : List F) : F := act c (co (o ++ [0#32])) o.length
/-- the sequence goes on by n elements -/
def goes (c o : List F) : Nat → List F
  | 0 => o
  | n + 1 => goes c (o ++ [nextOf c o]) n
theorem act_last (c o : List F) (x : F) (h : co c 0 = 1#32) : act c (co (o ++ [x])) o.length = x ^^^ nextOf c o := by
  have e : co (o ++ [x]) = sadd (co (o ++ [0#32])) (shn o.length (co [x])) := by
    funext i
    show _ = _ ^^^ shn o.length (co [x]) i
    rw [co_append, co_append]; unfold shn
    by_cases hi : i < o.length
    · rw [if_pos hi, if_pos hi, if_neg (by omega)]; simp
    · rw [if_neg hi, if_neg hi, if_pos (by omega)]
      have : co [0#32] (i - o.length) = 0#32 := co_replicate 1 _
      rw [this]; simp
  rw [e, act_add]
  show nextOf c o ^^^ act c (shn o.length (co [x])) o.length = _
  rw [act_shn]
  have : shn o.length (act c (co [x])) o.length = x := by
    unfold shn; rw [if_pos (Nat.le_refl _), Nat.sub_self]
    cases c with
    | nil => cases h
    | cons a l =>
      have ha : a = 1#32 := h
      show mul a (co [x] 0) ^^^ 0#32 = x
      rw [ha, GF.one_mul]; simp [co_cons_zero]
  rw [this]; exact BitVec.xor_comm _ _
theorem act_early (c o p : List F) (i : Nat) (h : i < o.length) : act c (co (o ++ p)) i = act c (co o) i :=
  act_local c _ _ i (fun j hj => by rw [co_append, if_pos (by omega)])
theorem Keep.next {c o : List F} (h : Keep c o) : Keep c (o ++ [nextOf c o]) :=
  ⟨h.1, h.2.1, fun i a b => by
    by_cases hi : i < o.length
    · rw [act_early _ _ _ _ hi]; exact h.2.2 i a hi
    · have : i = o.length := by simp at b; omega
      subst this
      rw [act_last _ _ _ h.2.1]; simp⟩
theorem goes_length (c : List F) : ∀ (n : Nat) (o : List F), (goes c o n).length = o.length + n
  | 0, o => rfl
  | n + 1, o => by simp only [goes]; rw [goes_length c n]; simp; omega
theorem Keep.goes {c : List F} : ∀ (n : Nat) {o : List F}, Keep c o → Keep c (goes c o n)
  | 0, _, h => h
  | n + 1, _, h => Keep.goes n h.next
/-- what is kept goes on so -/
theorem goes_again {c s : List F} (h : Keep c s) : ∀ (n m : Nat), m + n = s.length → c.length ≤ m + 1 → Massey.goes c (s.take m) n = s
  | 0, m, e, _ => by show s.take m = s; exact List.take_of_length_le (by omega)
  | n + 1, m, e, hm => by
    have ht : s.take (m + 1) = s.take m ++ [s[m]'(by omega)] := List.take_succ_eq_append_getElem (by omega)
    have hl : (s.take m).length = m := by rw [List.length_take]; omega
    have h0 : act c (co s) m = 0#32 := h.2.2 m hm (by omega)
    have h1 : act c (co (s.take (m + 1))) m = 0#32 := by
      rw [← h0]; exact act_local c _ _ m (fun j hj => by rw [PolyT.co_take, if_pos (by omega)])
    have hx : nextOf c (s.take m) = s[m]'(by omega) := by
      have := act_last c (s.take m) (s[m]'(by omega)) h.2.1
      rw [← ht, hl, h1] at this
      have h2 := congrArg (fun z => s[m]'(by omega) ^^^ z) this
      simp only [BitVec.xor_zero, ← BitVec.xor_assoc, BitVec.xor_self, BitVec.zero_xor] at h2
      exact h2.symm
    simp only [Massey.goes]
    rw [hx, ← ht]
    exact goes_again h n (m + 1) (by omega) (by omega)
/-- a beginning that is too short to be looked at -/
theorem keep_begin {c o : List F} (h : 1 ≤ c.length) (h0 : co c 0 = 1#32) (hl : o.length + 1 ≤ c.length) : Keep c o :=
  ⟨h, h0, fun i a b => by omega⟩
end Go.Proofs.Ytfjkiiajbeaaoaa.Massey
