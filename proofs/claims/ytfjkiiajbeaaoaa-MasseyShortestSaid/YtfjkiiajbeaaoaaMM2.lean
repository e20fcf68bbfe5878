/- Elimination over equations of a recurrence: what it answers. Plain mathematics, no program in sight. -/
import Derived.Test.YtfjkiiajbeaaoaaPolyT
import Derived.Test.YtfjkiiajbeaaoaaMM1
import Derived.Test.YtfjkiiajbeaaoaaArrK
set_option linter.unusedVariables false
set_option linter.unusedSimpArgs false
namespace Go.Proofs.Ytfjkiiajbeaaoaa.MSolv
open Go.Proofs.Ytfjkiiajbeaaoaa GF PolyT
def At (M : List (List F)) (i j : Nat) : F := co (M.getD i []) j
def dot (r y : Nat → F) : Nat → Nat → F
  | 0, _ => 0#32
  | n + 1, c => mul (r c) (y c) ^^^ dot r y n (c + 1)
theorem dot_lin (a p y : Nat → F) (b : F) : ∀ n c, dot (fun j => a j ^^^ mul b (p j)) y n c = dot a y n c ^^^ mul b (dot p y n c) := by
  intro n
  induction n with
  | zero => intro c; simp [dot, GF.mul_zero]
  | succ n ih =>
    intro c
    simp only [dot]
    rw [ih, GF.xor_mul, GF.mul_xor, GF.mul_assoc]
    exact GF.xor4 _ _ _ _
theorem dot_y (r y z : Nat → F) : ∀ n c, (∀ j, c ≤ j → y j = z j) → dot r y n c = dot r z n c := by
  intro n
  induction n with
  | zero => intro c _; rfl
  | succ n ih => intro c h; simp only [dot]; rw [h c (Nat.le_refl _), ih (c + 1) (fun j hj => h j (by omega))]
theorem dot_r (r s y : Nat → F) : ∀ n c, (∀ j, r j = s j) → dot r y n c = dot s y n c := by
  intro n c h
  rw [show r = s from funext h]
/-- the last of the rows from u on that is not 0 in the column -/
def pk (M : List (List F)) (c u : Nat) : Nat → Option Nat
  | 0 => none
  | n + 1 => if At M (u + n) c = 0#32 then pk M c u n else some (u + n)
theorem pk_some (M : List (List F)) (c u : Nat) : ∀ n k, pk M c u n = some k → u ≤ k ∧ k < u + n ∧ At M k c ≠ 0#32 := by
  intro n
  induction n with
  | zero => intro k h; cases h
  | succ n ih =>
    intro k h
    rw [pk] at h
    by_cases q : At M (u + n) c = 0#32
    · rw [if_pos q] at h; have := ih k h; exact ⟨this.1, by omega, this.2.2⟩
    · rw [if_neg q] at h; injection h with h; subst h; exact ⟨by omega, by omega, q⟩
theorem pk_none (M : List (List F)) (c u : Nat) : ∀ n, pk M c u n = none → ∀ i, u ≤ i → i < u + n → At M i c = 0#32 := by
  intro n
  induction n with
  | zero => intro _ i h1 h2; omega
  | succ n ih =>
    intro h i h1 h2
    rw [pk] at h
    by_cases q : At M (u + n) c = 0#32
    · rw [if_pos q] at h
      by_cases e : i = u + n
      · subst e; exact q
      · exact ih h i h1 (by omega)
    · rw [if_neg q] at h; cases h
def swp (M : List (List F)) (u k : Nat) : List (List F) := (M.set u (M.getD k [])).set k (M.getD u [])
theorem swp_length (M : List (List F)) (u k : Nat) : (swp M u k).length = M.length := by simp [swp]
theorem getD_set (M : List (List F)) (i : Nat) (r : List F) (j : Nat) (h : i < M.length) : (M.set i r).getD j [] = if j = i then r else M.getD j [] := by
  by_cases e : j = i
  · subst e; rw [if_pos rfl]; simp [List.getD_eq_getElem?_getD, h]
  · rw [if_neg e]; simp [List.getD_eq_getElem?_getD, List.getElem?_set_ne (Ne.symm e)]
theorem swp_get (M : List (List F)) (u k i : Nat) (hu : u < M.length) (hk : k < M.length) : (swp M u k).getD i [] = if i = k then M.getD u [] else if i = u then M.getD k [] else M.getD i [] := by
  unfold swp
  rw [getD_set _ _ _ _ (by simpa using hk), getD_set _ _ _ _ hu]
/-- one row less so many times another -/
def rsub (r p : List F) (b : F) : List F := (List.range r.length).map fun j => co r j ^^^ mul b (co p j)
theorem rsub_length (r p : List F) (b : F) : (rsub r p b).length = r.length := by simp [rsub]
theorem co_rsub (r p : List F) (b : F) (h : p.length = r.length) (j : Nat) : co (rsub r p b) j = co r j ^^^ mul b (co p j) := by
  by_cases q : j < r.length
  · rw [co_lt (by rw [rsub_length]; exact q)]; simp [rsub]
  · rw [co_ge (by rw [rsub_length]; omega), co_ge (by omega), co_ge (by omega), GF.mul_zero]; simp
/-- m rows below u, cleared in the column -/
def elN (M : List (List F)) (u c : Nat) : Nat → List (List F)
  | 0 => M
  | m + 1 => (elN M u c m).set (u + 1 + m) (rsub ((elN M u c m).getD (u + 1 + m) []) ((elN M u c m).getD u []) (mul (At (elN M u c m) (u + 1 + m) c) (inv (At M u c))))
theorem elN_length (M : List (List F)) (u c : Nat) : ∀ m, (elN M u c m).length = M.length := by
  intro m
  induction m with
  | zero => rfl
  | succ m ih => rw [elN, List.length_set, ih]
theorem elN_get (M : List (List F)) (u c : Nat) : ∀ m, u + m < M.length → ∀ i, (elN M u c m).getD i [] = if u < i ∧ i ≤ u + m then rsub (M.getD i []) (M.getD u []) (mul (At M i c) (inv (At M u c))) else M.getD i [] := by
  intro m
  induction m with
  | zero => intro _ i; rw [if_neg (by omega)]; rfl
  | succ m ih =>
    intro h i
    have e1 : (elN M u c m).getD (u + 1 + m) [] = M.getD (u + 1 + m) [] := by rw [ih (by omega), if_neg (by omega)]
    have e2 : (elN M u c m).getD u [] = M.getD u [] := by rw [ih (by omega), if_neg (by omega)]
    rw [elN, getD_set _ _ _ _ (by rw [elN_length]; omega)]
    unfold At
    rw [e1, e2]
    by_cases q : i = u + 1 + m
    · rw [if_pos q, if_pos (by omega), q]
    · rw [if_neg q, ih (by omega)]
      by_cases z : u < i ∧ i ≤ u + m
      · rw [if_pos z, if_pos (by omega)]; rfl
      · rw [if_neg z, if_neg (by omega)]
def elim (M : List (List F)) (c u k : Nat) : List (List F) := elN (swp M u k) u c (M.length - (u + 1))
theorem elim_length (M : List (List F)) (c u k : Nat) : (elim M c u k).length = M.length := by rw [elim, elN_length, swp_length]
/-- the columns from c on; what is answered at last -/
def go : Nat → Nat → List (List F) → Nat → Bool
  | 0, c, M, u => decide (∀ i, i < M.length → u ≤ i → At M i c = 0#32)
  | n + 1, c, M, u => match pk M c u (M.length - u) with
    | none => go n (c + 1) M u
    | some k => go n (c + 1) (elim M c u k) (u + 1)
def Wid (M : List (List F)) (w : Nat) : Prop := ∀ i, i < M.length → (M.getD i []).length = w
theorem wid_elim {M : List (List F)} {w : Nat} (h : Wid M w) (c u k : Nat) (hu : u < M.length) (hk : k < M.length) : Wid (elim M c u k) w := by
  intro i hi
  rw [elim_length] at hi
  have hs : ∀ i, i < M.length → ((swp M u k).getD i []).length = w := fun i hi => by
    rw [swp_get M u k i hu hk]
    split
    · exact h u hu
    · split
      · exact h k hk
      · exact h i hi
  unfold elim
  rw [elN_get _ _ _ _ (by rw [swp_length]; omega)]
  split
  · rw [rsub_length]; exact hs i hi
  · exact hs i hi
theorem at_elim {M : List (List F)} {w : Nat} (h : Wid M w) (c u k : Nat) (hu : u < M.length) (hk : k < M.length) (i : Nat) (hi : u < i) (hil : i < M.length) (j : Nat) :
    At (elim M c u k) i j = At (swp M u k) i j ^^^ mul (mul (At (swp M u k) i c) (inv (At M k c))) (At M k j) := by
  have hp : (swp M u k).getD u [] = M.getD k [] := by
    rw [swp_get M u k u hu hk]
    by_cases e : u = k
    · rw [if_pos e, e]
    · rw [if_neg e, if_pos rfl]
  have hl : ((swp M u k).getD i []).length = w := by
    rw [swp_get M u k i hu hk]
    split
    · exact h u hu
    · split
      · exact h k hk
      · exact h i hil
  have e0 : At (swp M u k) u c = At M k c := by unfold At; rw [hp]
  have e1 : At (elim M c u k) i j = co (rsub ((swp M u k).getD i []) ((swp M u k).getD u []) (mul (At (swp M u k) i c) (inv (At (swp M u k) u c)))) j := by
    unfold elim
    show co ((elN (swp M u k) u c (M.length - (u + 1))).getD i []) j = _
    rw [elN_get _ _ _ _ (by rw [swp_length]; omega), if_pos (by omega)]
  rw [e1, e0, hp, co_rsub _ _ _ (by rw [hl]; exact h k hk)]
  rfl
theorem at_swp {M : List (List F)} (u k : Nat) (hu : u < M.length) (hk : k < M.length) (i j : Nat) : At (swp M u k) i j = if i = k then At M u j else if i = u then At M k j else At M i j := by
  unfold At
  rw [swp_get M u k i hu hk]
  split
  · rfl
  · split <;> rfl
/-- just then it answers yes, when the equations that are left have a solution -/
theorem go_iff : ∀ (n c : Nat) (M : List (List F)) (u w : Nat), Wid M w → u ≤ M.length → (go n c M u = true ↔ ∃ y : Nat → F, ∀ i, u ≤ i → i < M.length → dot (At M i) y n c = At M i (c + n)) := by
  intro n
  induction n with
  | zero =>
    intro c M u w hw hu
    simp only [go, decide_eq_true_eq, dot, Nat.add_zero]
    constructor
    · intro h; exact ⟨fun _ => 0#32, fun i h1 h2 => (h i h2 h1).symm⟩
    · rintro ⟨y, h⟩ i h1 h2; exact (h i h2 h1).symm
  | succ n ih =>
    intro c M u w hw hu
    have ec : c + (n + 1) = c + 1 + n := by omega
    rw [ec]
    simp only [go]
    cases hp : pk M c u (M.length - u) with
    | none =>
      have hz := pk_none M c u _ hp
      simp only
      rw [ih (c + 1) M u w hw hu]
      constructor
      · rintro ⟨y, h⟩
        exact ⟨y, fun i h1 h2 => by simp only [dot]; rw [hz i h1 (by omega), GF.zero_mul, BitVec.zero_xor]; exact h i h1 h2⟩
      · rintro ⟨y, h⟩
        refine ⟨y, fun i h1 h2 => ?_⟩
        have := h i h1 h2
        simp only [dot] at this
        rwa [hz i h1 (by omega), GF.zero_mul, BitVec.zero_xor] at this
    | some k =>
      obtain ⟨hk1, hk2, hk3⟩ := pk_some M c u _ k hp
      have hkl : k < M.length := by omega
      have hul : u < M.length := by omega
      simp only
      rw [ih (c + 1) (elim M c u k) (u + 1) w (wid_elim hw c u k hul hkl) (by rw [elim_length]; omega)]
      simp only [elim_length]
      have hE := at_elim hw c u k hul hkl
      have hS := at_swp (M := M) u k hul hkl
      -- the equations, reordered
      have key : ∀ y : Nat → F, (∀ i, u ≤ i → i < M.length → dot (At M i) y (n + 1) c = At M i (c + 1 + n)) ↔ (∀ i, u ≤ i → i < M.length → dot (At (swp M u k) i) y (n + 1) c = At (swp M u k) i (c + 1 + n)) := by
        intro y
        have hfun : ∀ i, At (swp M u k) i = if i = k then At M u else if i = u then At M k else At M i := fun i => by
          funext j; rw [hS]; split
          · rfl
          · split <;> rfl
        constructor
        · intro h i h1 h2
          rw [hfun]
          split
          · exact h u (Nat.le_refl _) hul
          · split
            · exact h k hk1 hkl
            · exact h i h1 h2
        · intro h i h1 h2
          by_cases e : i = u
          · subst e
            have := h k hk1 hkl
            rw [hfun, if_pos rfl] at this; exact this
          · by_cases e2 : i = k
            · subst e2
              have := h u (Nat.le_refl _) hul
              rw [hfun] at this
              rw [if_neg (Ne.symm e), if_pos rfl] at this; exact this
            · have := h i h1 h2
              rw [hfun, if_neg e2, if_neg e] at this; exact this
      have hpu : At (swp M u k) u = At M k := by
        funext j; rw [hS]
        by_cases e : u = k
        · rw [if_pos e, e]
        · rw [if_neg e, if_pos rfl]
      have hdE : ∀ y i, u < i → i < M.length → dot (At (elim M c u k) i) y n (c + 1) = dot (At (swp M u k) i) y n (c + 1) ^^^ mul (mul (At (swp M u k) i c) (inv (At M k c))) (dot (At M k) y n (c + 1)) := by
        intro y i h1 h2
        rw [← dot_lin]
        exact dot_r _ _ _ _ _ (fun j => hE i h1 h2 j)
      have hinv : ∀ a : F, mul (mul a (inv (At M k c))) (At M k c) = a := fun a => by rw [GF.mul_assoc, GF.inv_mul hk3, GF.mul_one]
      constructor
      · rintro ⟨y, h⟩
        refine ⟨fun j => if j = c then mul (inv (At M k c)) (At M k (c + 1 + n) ^^^ dot (At M k) y n (c + 1)) else y j, (key _).2 (fun i h1 h2 => ?_)⟩
        have hy : ∀ r, dot r (fun j => if j = c then mul (inv (At M k c)) (At M k (c + 1 + n) ^^^ dot (At M k) y n (c + 1)) else y j) n (c + 1) = dot r y n (c + 1) := fun r => dot_y _ _ _ _ _ (fun j hj => if_neg (by omega))
        simp only [dot]
        rw [hy, if_pos trivial]
        by_cases e : i = u
        · subst e
          rw [hpu, ← GF.mul_assoc, GF.mul_inv hk3, GF.one_mul, BitVec.xor_assoc, BitVec.xor_self, BitVec.xor_zero]
        · have h3 := h i (by omega) h2
          rw [hdE y i (by omega) h2, hE i (by omega) h2] at h3
          rw [← GF.mul_assoc, GF.mul_xor]
          generalize mul (At (swp M u k) i c) (inv (At M k c)) = b at *
          generalize dot (At (swp M u k) i) y n (c + 1) = d1 at *
          generalize dot (At M k) y n (c + 1) = d2 at *
          generalize At M k (c + 1 + n) = t at *
          generalize At (swp M u k) i (c + 1 + n) = s at *
          -- d1 ^ b d2 = s ^ b t
          have : mul b t ^^^ mul b d2 ^^^ d1 = mul b t ^^^ (d1 ^^^ mul b d2) := by ac_rfl
          rw [this, h3]
          have : mul b t ^^^ (s ^^^ mul b t) = s ^^^ (mul b t ^^^ mul b t) := by ac_rfl
          rw [this, BitVec.xor_self, BitVec.xor_zero]
      · rintro ⟨y, h⟩
        have h := (key y).1 h
        refine ⟨y, fun i h1 h2 => ?_⟩
        have h3 := h i (by omega) h2
        have h4 := h u (Nat.le_refl _) hul
        rw [hpu] at h4
        simp only [dot] at h3 h4
        rw [hdE y i (by omega) h2, hE i (by omega) h2, ← h3, ← h4]
        generalize dot (At (swp M u k) i) y n (c + 1) = d1 at *
        generalize dot (At M k) y n (c + 1) = d2 at *
        rw [GF.mul_xor, ← GF.mul_assoc, hinv]
        generalize mul (mul (At (swp M u k) i c) (inv (At M k c))) d2 = e at *
        generalize mul (At (swp M u k) i c) (y c) = f at *
        have : f ^^^ d1 ^^^ (f ^^^ e) = (f ^^^ f) ^^^ (d1 ^^^ e) := by ac_rfl
        rw [this, BitVec.xor_self, BitVec.zero_xor]
end Go.Proofs.Ytfjkiiajbeaaoaa.MSolv
/- When the equations of a recurrence can be solved: just where there is a recurrence of that length. Plain mathematics. -/
set_option linter.unusedVariables false
set_option linter.unusedSimpArgs false
namespace Go.Proofs.Ytfjkiiajbeaaoaa.MSolv
open Go.Proofs.Ytfjkiiajbeaaoaa GF PolyT Massey
theorem dot_congr (r s y z : Nat → F) : ∀ n c, (∀ j, c ≤ j → j < c + n → r j = s j ∧ y j = z j) → dot r y n c = dot s z n c := by
  intro n
  induction n with
  | zero => intro c _; rfl
  | succ n ih => intro c h; simp only [dot]; rw [(h c (Nat.le_refl _) (by omega)).1, (h c (Nat.le_refl _) (by omega)).2, ih (c + 1) (fun j h1 h2 => h j (by omega) (by omega))]
theorem act_dot (f : S) : ∀ (l : List F) (i c : Nat), l.length ≤ i + 1 → act l f i = dot (fun j => f (i + c - j)) (fun j => co l (j - c)) l.length c := by
  intro l
  induction l with
  | nil => intro i c _; rfl
  | cons a l ih =>
    intro i c h
    have e1 : act (a :: l) f i = mul a (f i) ^^^ X (act l f) i := rfl
    rw [e1, List.length_cons]
    simp only [dot]
    rw [show i + c - c = i by omega, Nat.sub_self, co_cons_zero, GF.mul_comm (f i) a]
    congr 1
    cases l with
    | nil => cases i <;> rfl
    | cons b l =>
      cases i with
      | zero => simp at h
      | succ i =>
        show act (b :: l) f i = _
        rw [ih i (c + 1) (by simpa using h)]
        refine dot_congr _ _ _ _ _ _ (fun j h1 h2 => ⟨by rw [show i + (c + 1) - j = i + 1 + c - j by omega], ?_⟩)
        rw [show j - c = (j - (c + 1)) + 1 by omega, co_cons_succ]
/-- the equation of the place i -/
def row (s : List F) (L i : Nat) : List F := (List.range L).map (fun j => co s (i - (j + 1))) ++ [co s i]
theorem row_length (s : List F) (L i : Nat) : (row s L i).length = L + 1 := by simp [row]
theorem co_row (s : List F) (L i j : Nat) (h : j < L) : co (row s L i) j = co s (i - (j + 1)) := by
  unfold row
  rw [co_append, if_pos (by simpa using h), co_lt (by simpa using h)]; simp
theorem co_row_last (s : List F) (L i : Nat) : co (row s L i) L = co s i := by
  unfold row
  rw [co_append, if_neg (by simp)]; simp [co]
/-- the first n equations -/
def rowsN (s : List F) (L n : Nat) : List (List F) := (List.range n).map fun t => row s L (L + t)
theorem rowsN_length (s : List F) (L n : Nat) : (rowsN s L n).length = n := by simp [rowsN]
theorem rowsN_get (s : List F) (L n t : Nat) (h : t < n) : (rowsN s L n).getD t [] = row s L (L + t) := by
  simp [rowsN, List.getD_eq_getElem?_getD, h]
theorem rowsN_succ (s : List F) (L n : Nat) : rowsN s L (n + 1) = rowsN s L n ++ [row s L (L + n)] := by simp [rowsN, List.range_succ]
/-- is there a recurrence of this length? -/
def solv (s : List F) (L : Nat) : Bool := go L 0 (rowsN s L (s.length - L)) 0
theorem act_row (s ys : List F) (i : Nat) (h : ys.length ≤ i) : act (1#32 :: ys) (co s) i = co s i ^^^ dot (co (row s ys.length i)) (co ys) ys.length 0 := by
  have e1 : act (1#32 :: ys) (co s) i = mul 1#32 (co s i) ^^^ X (act ys (co s)) i := rfl
  rw [e1, GF.one_mul]
  congr 1
  cases i with
  | zero =>
    have : ys = [] := List.length_eq_zero_iff.1 (by omega)
    subst this; rfl
  | succ i =>
    show act ys (co s) i = _
    rw [act_dot (co s) ys i 0 (by omega)]
    exact dot_congr _ _ _ _ _ _ (fun j h1 h2 => ⟨by rw [co_row _ _ _ _ (by omega)]; rw [show i + 0 - j = i + 1 - (j + 1) by omega], by rw [Nat.sub_zero]⟩)
theorem solv_iff (s : List F) (L : Nat) : solv s L = true ↔ ∃ c : List F, c.length = L + 1 ∧ Keep c s := by
  have hw : Wid (rowsN s L (s.length - L)) (L + 1) := fun i hi => by
    rw [rowsN_length] at hi
    rw [rowsN_get _ _ _ _ hi, row_length]
  unfold solv
  rw [go_iff L 0 _ 0 (L + 1) hw (Nat.zero_le _)]
  simp only [rowsN_length, Nat.zero_add]
  have hA : ∀ t, t < s.length - L → At (rowsN s L (s.length - L)) t = co (row s L (L + t)) := fun t ht => by funext j; unfold At; rw [rowsN_get _ _ _ _ ht]
  constructor
  · rintro ⟨y, h⟩
    have hyl : ((List.range L).map y).length = L := by simp
    refine ⟨1#32 :: (List.range L).map y, by simp, by simp, rfl, fun i h1 h2 => ?_⟩
    have h1 : L ≤ i := by simpa using h1
    have h3 := h (i - L) (Nat.zero_le _) (by omega)
    rw [hA _ (by omega), show L + (i - L) = i by omega, co_row_last] at h3
    rw [act_row _ _ _ (by rw [hyl]; exact h1), hyl, ← h3]
    rw [dot_congr (co (row s L i)) (co (row s L i)) (co ((List.range L).map y)) y L 0 (fun j _ hj => ⟨rfl, by rw [co_lt (by simp; omega)]; simp⟩)]
    exact BitVec.xor_self
  · rintro ⟨c, hc, h1, h0, hk⟩
    cases c with
    | nil => simp at hc
    | cons a ys =>
      rw [co_cons_zero] at h0
      subst h0
      have hyl : ys.length = L := by simpa using hc
      refine ⟨co ys, fun t _ ht => ?_⟩
      have h3 := hk (L + t) (by simp; omega) (by omega)
      rw [act_row _ _ _ (by omega), hyl] at h3
      rw [hA t ht, co_row_last]
      exact (GF.xor_eq_zero h3).symm
/-- the least length is the run's -/
theorem solv_run (s : List F) : solv s (run (co s) s.length).len = true := (solv_iff s _).2 ⟨_, short_length _ _, short_keep s⟩
theorem solv_less (s : List F) (n : Nat) (h : n < (run (co s) s.length).len) : solv s n = false := by
  cases e : solv s n with
  | false => rfl
  | true =>
    obtain ⟨c, hc, hk⟩ := (solv_iff s n).1 e
    have := short_least hk
    omega
end Go.Proofs.Ytfjkiiajbeaaoaa.MSolv
/- Rows of words in memory: a slice of slices whose own arrays are apart. -/
set_option linter.unusedVariables false
set_option linter.unusedSimpArgs false
namespace Go.Proofs.Ytfjkiiajbeaaoaa.MRws
open Go.RowKit Go.Proofs.YtfjkiiajbeaaoaaW.PrintWords Go.Proofs.YtfjkiiajbeaaoaaW.PrintLast Go.Proofs.YtfjkiiajbeaaoaaW.PrintMore Go.Proofs.Ytfjkiiajbeaaoaa.Bits Go.Proofs.Ytfjkiiajbeaaoaa GF PolyT MV MSolv
def flat {α : Type} (n : Nat) (R : α → List Value → Prop) (hl : ∀ x cs, R x cs → cs.length = n) (h1 : ∀ x cs, R x cs → ∀ u ∈ cs, u.oneCell' = true) : Kd α where
  sz := n
  E := []
  K := fun _ x cs => R x cs
  M := fun _ _ _ x cs => R x cs
  K_len := fun h => hl _ _ h
  K_one := fun h => h1 _ _ h
  K_below := fun _ h => h
  K_of_M := fun h => h
  M_mono := fun _ h => h
  M_bound := fun h => h
  M_move := fun _ h => h
  M_lower := fun _ h => h
abbrev hdr (wd : Nat) (h : Nat × Nat) : Value := .slice (some ⟨h.1, 0, none⟩) wd h.2
/-- a row's header -/
def kH (wd : Nat) : Kd (Nat × Nat) := flat 1 (fun h cs => cs = [hdr wd h]) (fun h cs e => by rw [e]; rfl) (fun h cs e => by rw [e]; intro u hu; simp at hu; subst hu; rfl)
/-- a row's own array -/
def IR (W : World) (g : Nat) (r : List F) : Prop := ∃ cells : Array Value, W.heap[g]? = some (.cells cells 30 (0, 0)) ∧ ∀ j, j < r.length → cells[j]? = some (.int .u32 (v (co r j)))
variable {W W1 : World} {base g wd : Nat} {r : List F} {va : Value} {hs : List (Nat × Nat)} {M : List (List F)}
theorem IR.lt (h : IR W g r) : g < W.heap.size := by obtain ⟨c, h1, _⟩ := h; exact blk_lt h1
theorem IR.below (h : IR W g r) (hb : Below W.heap.size W W1) : IR W1 g r := by
  have := h.lt
  obtain ⟨c, h1, h2⟩ := h
  exact ⟨c, by rw [hb.block g this]; exact h1, h2⟩
theorem IR.grown (h : IR W g r) {row : Option Nat} (hg : W.grownBy W1 row) (hne : some g ≠ row) : IR W1 g r := by
  obtain ⟨c, h1, h2⟩ := h
  exact ⟨c, blk_grown h1 hg hne, h2⟩
theorem IR.at (h : IR W g r) (j : Nat) (hj : j < r.length) : W.cell? ⟨g, j, none⟩ = some (.int .u32 (v (co r j))) := by
  obtain ⟨c, h1, h2⟩ := h
  rw [blk_cell h1]; exact h2 j hj
theorem IR.fz (h : IR W g r) (j : Nat) : W.frozen? ⟨g, j, none⟩ = false := by obtain ⟨c, h1, _⟩ := h; exact blk_frozen h1 j
theorem IR.put (h : IR W g r) (j : Nat) (hj : j < r.length) (x : F) : IR (W.setCell ⟨g, j, none⟩ (.int .u32 (v x))) g (r.set j x) := by
  obtain ⟨c, h1, h2⟩ := h
  refine ⟨_, blk_set h1 j _, fun i hi => ?_⟩
  rw [List.length_set] at hi
  have hc := h2 i hi
  rw [Array.getElem?_setIfInBounds]
  by_cases e : j = i
  · subst e
    rw [if_pos rfl, if_pos (Array.getElem?_eq_some_iff.1 hc).1, co_set, if_pos ⟨rfl, hj⟩]
  · rw [if_neg e, hc, co_set, if_neg (fun q => e q.1.symm)]
theorem IR.far (h : IR W g r) {p : Addr} (hp : g ≠ p.block) (u : Value) : IR (W.setCell p u) g r := by
  obtain ⟨c, h1, h2⟩ := h
  exact ⟨c, blk_far h1 hp u, h2⟩
theorem IR.ne {α : Type} (h : IR W g r) {d : Kd α} {ok : Nat → Prop} {b' : Nat} {xs : List α} (hR : d.R 22 W b' ok va xs) : some g ≠ va.ownBlock := by
  obtain ⟨c, h1, _⟩ := h
  exact Kd.R_ne hR h1 (by decide)
theorem IR_of {b : Nat} {ok : Nat → Prop} (h : Kd.R (Kd.int .u32) 30 W b ok va (V r)) (h0 : 0 < r.length) : ∃ g cap, va = .slice (some ⟨g, 0, none⟩) r.length cap ∧ b ≤ g ∧ IR W g r := by
  obtain ⟨g, cap, hv, hb, -, cells, hc⟩ := Kd.R_form h (by rw [V_length]; exact h0)
  rw [V_length] at hv
  subst hv
  refine ⟨g, cap, rfl, hb, cells, hc, fun j hj => ?_⟩
  have h2 := Kd.foot_int (Kd.R_reads' h).2.2 (j : Int) (by omega) (by rw [V_length]; omega)
  rw [rd_Vn, Int.toNat_natCast, add_plain, blk_cell hc] at h2
  exact h2
/-- rows: their headers hs, what they hold M -/
structure Rws (base : Nat) (W : World) (va : Value) (wd : Nat) (hs : List (Nat × Nat)) (M : List (List F)) : Prop where
  own : (kH wd).R 22 W base (fun _ => True) va hs
  len : hs.length = M.length
  row : ∀ i, i < M.length → base ≤ (hs.getD i (0, 0)).1 ∧ IR W (hs.getD i (0, 0)).1 (M.getD i []) ∧ (M.getD i []).length = wd
  apart : ∀ i j, i < M.length → j < M.length → (hs.getD i (0, 0)).1 = (hs.getD j (0, 0)).1 → i = j
theorem Rws.below (h : Rws base W va wd hs M) (hb : Below W.heap.size W W1) : Rws base W1 va wd hs M :=
  ⟨Kd.R_below h.own hb, h.len, fun i hi => ⟨(h.row i hi).1, (h.row i hi).2.1.below hb, (h.row i hi).2.2⟩, h.apart⟩
theorem Rws.nil (W : World) (base wd : Nat) : Rws base W (.slice none 0 0) wd [] [] :=
  ⟨Kd.R_nil _ _ _ _ _, rfl, fun i h => absurd h (by simp), fun i j h => absurd h (by simp)⟩
theorem getD_push {α : Type} (l : List α) (x d : α) (i : Nat) (h : i < l.length + 1) : (l ++ [x]).getD i d = if i = l.length then x else l.getD i d := by
  by_cases e : i = l.length
  · subst e; simp
  · rw [if_neg e]; simp [List.getD_eq_getElem?_getD, List.getElem?_append_left (show i < l.length by omega)]
/-- a row more; the world has grown by the rows' own block -/
theorem Rws.push (h : Rws base W va wd hs M) {vb : Value} {g cap : Nat} {r : List F} (hr : IR W g r) (hrl : r.length = wd) (hb : base ≤ g) (hnew : ∀ i, i < M.length → (hs.getD i (0, 0)).1 ≠ g)
    (hg : W.grownBy W1 va.ownBlock) (hR : (kH wd).R 22 W1 base (fun _ => True) vb (hs ++ [(g, cap)])) : Rws base W1 vb wd (hs ++ [(g, cap)]) (M ++ [r]) := by
  have hl := h.len
  refine ⟨hR, by simp [hl], fun i hi => ?_, fun i j hi hj e => ?_⟩
  · rw [List.length_append, List.length_singleton] at hi
    rw [getD_push hs _ _ _ (by omega), getD_push M _ _ _ (by omega), hl]
    by_cases e : i = M.length
    · rw [if_pos e, if_pos e]; exact ⟨hb, hr.grown hg (hr.ne h.own), hrl⟩
    · rw [if_neg e, if_neg e]
      obtain ⟨a, b, c⟩ := h.row i (by omega)
      exact ⟨a, b.grown hg (b.ne h.own), c⟩
  · rw [List.length_append, List.length_singleton] at hi hj
    rw [getD_push hs _ _ _ (by omega), getD_push hs _ _ _ (by omega), hl] at e
    by_cases e1 : i = M.length
    · by_cases e2 : j = M.length
      · omega
      · rw [if_pos e1, if_neg e2] at e; exact absurd e.symm (hnew j (by omega))
    · by_cases e2 : j = M.length
      · rw [if_neg e1, if_pos e2] at e; exact absurd e (hnew i (by omega))
      · rw [if_neg e1, if_neg e2] at e; exact h.apart i j (by omega) (by omega) e
theorem Rws.hd {B n c : Nat} (h : Rws base W (.slice (some ⟨B, 0, none⟩) n c) wd hs M) (i : Nat) (hi : i < M.length) : W.cell? ⟨B, i, none⟩ = some (hdr wd (hs.getD i (0, 0))) := by
  have hn : n = M.length := (Kd.R_reads' h.own).1.trans h.len
  obtain ⟨c', hcl, hM, hcc, _⟩ := Kd.R_elem h.own (0, 0) (i : Int) (by omega) (by omega)
  have hM : c' = [hdr wd (hs.getD (i : Int).toNat (0, 0))] := hM
  rw [Int.toNat_natCast] at hM hcc
  have := hcc 0 (hdr wd (hs.getD i (0, 0))) (by rw [hM]; rfl)
  have hsz : (kH wd).sz = 1 := rfl
  rwa [hsz, Nat.mul_one, Nat.add_zero] at this
theorem Rws.word (h : Rws base W va wd hs M) (i j : Nat) (hi : i < M.length) (hj : j < wd) : W.cell? ⟨(hs.getD i (0, 0)).1, j, none⟩ = some (.int .u32 (v (At M i j))) := by
  obtain ⟨_, b, c⟩ := h.row i hi
  exact b.at j (by omega)
theorem getD_set' {α : Type} (l : List α) (i : Nat) (x d : α) (j : Nat) (h : i < l.length) : (l.set i x).getD j d = if j = i then x else l.getD j d := by
  by_cases e : j = i
  · subst e; rw [if_pos rfl]; simp [List.getD_eq_getElem?_getD, h]
  · rw [if_neg e]; simp [List.getD_eq_getElem?_getD, List.getElem?_set_ne (Ne.symm e)]
/-- a word put into a row -/
theorem Rws.put (h : Rws base W va wd hs M) (i j : Nat) (hi : i < M.length) (hj : j < wd) (x : F) : Rws base (W.setCell ⟨(hs.getD i (0, 0)).1, j, none⟩ (.int .u32 (v x))) va wd hs (M.set i ((M.getD i []).set j x)) := by
  obtain ⟨a, b, c⟩ := h.row i hi
  have hg : W.grownBy (W.setCell ⟨(hs.getD i (0, 0)).1, j, none⟩ (.int .u32 (v x))) (some (hs.getD i (0, 0)).1) := ⟨rfl, rfl, rfl, by simp [World.setCell], fun k hk hne => Below.heap_setCell _ _ _ _ (fun e => hne (by rw [e]))⟩
  refine ⟨?_, by rw [List.length_set]; exact h.len, fun k hk => ?_, fun k l hk hl => h.apart k l (by simpa using hk) (by simpa using hl)⟩
  · obtain ⟨cells, hc, _⟩ := b
    exact Kd.R_mono (Kd.R_grown (Kd.R_types h.own hc (by intro q hq; simp [kH, flat] at hq; subst hq; decide)) hg (fun k hk e => hk.2 (Option.some.inj e))) (fun _ _ => trivial)
  · rw [List.length_set] at hk
    obtain ⟨a', b', c'⟩ := h.row k hk
    rw [getD_set' _ _ _ _ _ hi]
    by_cases e : k = i
    · subst e; rw [if_pos rfl]; exact ⟨a', b.put j (by omega) x, by rw [List.length_set]; exact c⟩
    · rw [if_neg e]; exact ⟨a', b'.far (fun q => e (h.apart k i hk hi q)) _, c'⟩
/-- one header put anew -/
theorem RH_put {B n c : Nat} (h : (kH wd).R 22 W base (fun _ => True) (.slice (some ⟨B, 0, none⟩) n c) hs) (k : Nat) (hk : k < n) (x : Nat × Nat) :
    (kH wd).R 22 (W.setCell ⟨B, k, none⟩ (hdr wd x)) base (fun _ => True) (.slice (some ⟨B, 0, none⟩) n c) (hs.set k x) ∧ W.grownBy (W.setCell ⟨B, k, none⟩ (hdr wd x)) (some B) ∧ (∃ u, W.cell? ⟨B, k, none⟩ = some u) ∧ W.frozen? ⟨B, k, none⟩ = false ∧ base ≤ B := by
  obtain ⟨c', hcl, hM, hcc, hfz⟩ := Kd.R_elem h (0, 0) (k : Int) (by omega) (by omega)
  have hM : c' = [hdr wd (hs.getD (k : Int).toNat (0, 0))] := hM
  have hseg := Kd.R_seg (d := kH wd) (okp := fun _ => False) h (k : Int) (by omega) (by omega) (seg := [hdr wd x]) (j := 0) hcl hcc (by show 0 + 1 ≤ 1; omega) (x' := x) (by show _ = [hdr wd x]; rw [hM]; rfl) (fun _ h => h.elim)
  have hsz : (kH wd).sz = 1 := rfl
  simp only [Int.toNat_natCast, hsz, Nat.mul_one, Nat.add_zero] at hseg hcc hfz
  exact ⟨hseg.1, hseg.2, ⟨_, by have := hcc 0 _ (by rw [hM]; rfl); simpa using this⟩, by have := hfz 0; simpa using this, Kd.R_base h B (by simp [Value.ownBlock])⟩
theorem IR.hset (h : IR W g r) {B n c : Nat} (hR : (kH wd).R 22 W base (fun _ => True) (.slice (some ⟨B, 0, none⟩) n c) hs) (k : Nat) (u : Value) : IR (W.setCell ⟨B, k, none⟩ u) g r :=
  h.far (fun e => h.ne hR (show some g = some B from congrArg some e)) u
/-- two rows' headers changed for each other -/
theorem Rws.swap {B n c : Nat} (h : Rws base W (.slice (some ⟨B, 0, none⟩) n c) wd hs M) (u k : Nat) (hu : u < M.length) (hk : k < M.length)
    (hR : (kH wd).R 22 W1 base (fun _ => True) (.slice (some ⟨B, 0, none⟩) n c) ((hs.set u (hs.getD k (0, 0))).set k (hs.getD u (0, 0)))) (hI : ∀ i, i < M.length → IR W1 (hs.getD i (0, 0)).1 (M.getD i [])) :
    Rws base W1 (.slice (some ⟨B, 0, none⟩) n c) wd ((hs.set u (hs.getD k (0, 0))).set k (hs.getD u (0, 0))) (swp M u k) := by
  have hl := h.len
  have hg : ∀ i, ((hs.set u (hs.getD k (0, 0))).set k (hs.getD u (0, 0))).getD i (0, 0) = if i = k then hs.getD u (0, 0) else if i = u then hs.getD k (0, 0) else hs.getD i (0, 0) := fun i => by
    rw [getD_set' _ _ _ _ _ (by simp; omega), getD_set' _ _ _ _ _ (by omega)]
  refine ⟨hR, by rw [List.length_set, List.length_set, swp_length]; exact hl, fun i hi => ?_, fun i j hi hj => ?_⟩
  · rw [swp_length] at hi
    rw [hg, swp_get M u k i hu hk]
    split
    · exact ⟨(h.row u hu).1, hI u hu, (h.row u hu).2.2⟩
    · split
      · exact ⟨(h.row k hk).1, hI k hk, (h.row k hk).2.2⟩
      · exact ⟨(h.row i hi).1, hI i hi, (h.row i hi).2.2⟩
  · rw [swp_length] at hi hj
    rw [hg, hg]
    have ap := h.apart
    intro e
    by_cases a1 : i = k <;> by_cases a2 : j = k
    · omega
    · rw [if_pos a1, if_neg a2] at e
      by_cases a3 : j = u
      · rw [if_pos a3] at e; have := ap u k hu hk e; omega
      · rw [if_neg a3] at e; have := ap u j hu hj e; omega
    · rw [if_neg a1, if_pos a2] at e
      by_cases a3 : i = u
      · rw [if_pos a3] at e; have := ap k u hk hu e; omega
      · rw [if_neg a3] at e; have := ap i u hi hu e; omega
    · rw [if_neg a1, if_neg a2] at e
      by_cases a3 : i = u <;> by_cases a4 : j = u
      · omega
      · rw [if_pos a3, if_neg a4] at e; have := ap k j hk hj e; omega
      · rw [if_neg a3, if_pos a4] at e; have := ap i k hi hk e; omega
      · rw [if_neg a3, if_neg a4] at e; exact ap i j hi hj e
end Go.Proofs.Ytfjkiiajbeaaoaa.MRws
