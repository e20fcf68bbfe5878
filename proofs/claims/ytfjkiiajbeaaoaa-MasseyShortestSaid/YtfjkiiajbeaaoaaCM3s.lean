/- What massey's printed functions, and the document's, answer. -/
import Derived.Test.YtfjkiiajbeaaoaaRx1
import Derived.Test.YtfjkiiajbeaaoaaRx2
import Derived.Test.YtfjkiiajbeaaoaaMM1
import Derived.Test.YtfjkiiajbeaaoaaCGfRefM
import Derived.Test.YtfjkiiajbeaaoaaEv
set_option linter.unusedVariables false
set_option linter.unusedSimpArgs false
namespace Go.Proofs.Ytfjkiiajbeaaoaa.R
open Go.RowKit Go.Proofs.YtfjkiiajbeaaoaaW.PrintWords Go.Proofs.YtfjkiiajbeaaoaaW.PrintLast Go.Proofs.YtfjkiiajbeaaoaaW.PrintMore Go.Proofs.Ytfjkiiajbeaaoaa.Bits Go.Proofs.Ytfjkiiajbeaaoaa GF PolyT MV Massey
abbrev Small (l : List F) : Prop := l.length < 4096
theorem in_V (l : List F) (h : l.length < 50000) : MW.In (V l) := ⟨V_in l, by rw [V_length]; exact h⟩
theorem length_V (s : List F) (h : s.length < 50000) : massey_Length.f (V s) = some ((Massey.run (co s) s.length).len : Int) := by
  unfold massey_Length.f
  rw [if_pos (in_V s h), ofInts_V, V_length]
theorem shortest_V (s : List F) (h : s.length < 50000) : massey_Shortest.f (V s) = some (V (MW.short (co s) s.length)) := by
  unfold massey_Shortest.f
  rw [if_pos (in_V s h), ofInts_V, V_length]
theorem off_V (c s : List F) (i : Nat) (hi : i < s.length) (hc : Small c) (hs : Small s) : massey_off.f (V c) (V s) (i : Int) = some (v (act c (co s) i)) := by
  unfold massey_off.f
  rw [if_pos ⟨⟨V_in c, by rw [V_length]; unfold Small at hc; omega⟩, ⟨V_in s, by rw [V_length]; unfold Small at hs; omega⟩, by omega, by rw [V_length]; omega⟩, ofInts_V, ofInts_V, Int.toNat_natCast]
theorem rmul_vE (a b : F) : Ev (fun k => gossamerref01_Mul.f k (v a) (v b)) (v (mul a b)) := Ev.from' 66 (fun k hk => rmul_v a b k hk)
theorem v_one_iff (x : F) : v x = 1 ↔ x = 1#32 := by rw [show (1 : Int) = v 1#32 by decide]; exact v_inj
/-! ### words -/
theorem words_loop (l : List Int) (hs : l.length < 4096) : ∀ (n i : Nat), i + n = l.length → Ev (fun k => gossamernum_Words.l0 k l l (l.length : Int) (i : Int)) true := by
  intro n
  induction n with
  | zero =>
    intro i hi
    refine Ev.succ ?_
    simp only [gossamernum_Words.l0]
    exact Ev.neg (by omega) Ev.some'
  | succ n ih =>
    intro i hi
    refine Ev.succ ?_
    have hw2 : wrap64 ((i : Int) + 1) = ((i + 1 : Nat) : Int) := wrap_nat1 (by omega)
    simp only [gossamernum_Words.l0]
    rw [hw2]
    exact Ev.pos (by omega) (Ev.pos (by omega) (Ev.pos (by omega) (Ev.pos (by omega) (Ev.pos trivial (ih (i + 1) (by omega))))))
theorem words_V {a b : List F} (h : a = b) (hs : Small a) : Ev (fun k => gossamernum_Words.f k (V a) (V b)) true := by
  subst h
  unfold gossamernum_Words.f
  exact Ev.pos rfl (words_loop (V a) (by rw [V_length]; exact hs) (V a).length 0 (by omega))
/-! ### the chapter's example -/
theorem inv_one : GF.inv 1#32 = 1#32 := (GF.inv_unique (GF.one_mul 1#32)).symm
theorem nxt_zero (f : S) (n : Nat) (x : St) (h : act x.now f n = 0#32) : x.nxt f n = { x with gap := x.gap + 1 } := by unfold St.nxt; rw [if_pos h]
theorem nxt_grow (f : S) (n : Nat) (now old : List F) (len gap : Nat) (h : act now f n ≠ 0#32) (h2 : 2 * len ≤ n) : St.nxt f n ⟨now, old, len, gap, 1#32⟩ = ⟨mend now old (gap + 1) (act now f n), now, n + 1 - len, 0, act now f n⟩ := by
  unfold St.nxt; rw [if_neg h, if_pos h2]; show (⟨mend now old (gap + 1) (mul (act now f n) (GF.inv 1#32)), _, _, _, _⟩ : St) = _; rw [inv_one, GF.mul_one]
theorem nxt_more (f : S) (n : Nat) (now old : List F) (len gap : Nat) (h : act now f n ≠ 0#32) (h2 : ¬ 2 * len ≤ n) : St.nxt f n ⟨now, old, len, gap, 1#32⟩ = ⟨mend now old (gap + 1) (act now f n), old, len, gap + 1, 1#32⟩ := by
  unfold St.nxt; rw [if_neg h, if_neg h2]; show (⟨mend now old (gap + 1) (mul (act now f n) (GF.inv 1#32)), _, _, _, _⟩ : St) = _; rw [inv_one, GF.mul_one]
theorem run_a : Massey.run (co [1#32, 2#32, 4#32, 8#32]) 4 = ⟨[1#32, 2#32], [1#32], 1, 2 + 1, 1#32⟩ := by
  have e1 : Massey.run (co [1#32, 2#32, 4#32, 8#32]) 1 = ⟨[1#32, 1#32], [1#32], 1, 0, 1#32⟩ := by
    show St.nxt _ 0 ⟨[1#32], [1#32], 0, 0, 1#32⟩ = _
    rw [nxt_grow _ _ _ _ _ _ (by decide +kernel) (by decide +kernel)]
    rw [show act [1#32] (co [1#32, 2#32, 4#32, 8#32]) 0 = 1#32 by decide +kernel, show mend [1#32] [1#32] (0 + 1) 1#32 = [1#32, 1#32] by decide +kernel]
  have e2 : Massey.run (co [1#32, 2#32, 4#32, 8#32]) 2 = ⟨[1#32, 2#32], [1#32], 1, 1, 1#32⟩ := by
    show St.nxt _ 1 (Massey.run _ 1) = _
    rw [e1, nxt_more _ _ _ _ _ _ (by decide +kernel) (by decide +kernel)]
    rw [show act [1#32, 1#32] (co [1#32, 2#32, 4#32, 8#32]) 1 = 3#32 by decide +kernel, show mend [1#32, 1#32] [1#32] (0 + 1) 3#32 = [1#32, 2#32] by decide +kernel]
  show St.nxt _ 3 (St.nxt _ 2 (Massey.run _ 2)) = _
  rw [e2, nxt_zero _ 2 _ (by decide +kernel), nxt_zero _ 3 _ (by decide +kernel)]
theorem run_b : (Massey.run (co [0#32, 0#32]) 2).len = 0 := by
  show (St.nxt _ 1 (St.nxt _ 0 ⟨[1#32], [1#32], 0, 0, 1#32⟩)).len = 0
  rw [nxt_zero _ 0 _ (by decide +kernel), nxt_zero _ 1 _ (by decide +kernel)]
theorem run_c : (Massey.run (co [0#32, 1#32]) 2).len = 2 := by
  show (St.nxt _ 1 (St.nxt _ 0 ⟨[1#32], [1#32], 0, 0, 1#32⟩)).len = 2
  rw [nxt_zero _ 0 _ (by decide +kernel), nxt_grow _ _ _ _ _ _ (by decide +kernel) (by decide +kernel)]
  show (1 + 1 - 0 : Nat) = 2; rfl
theorem alive_E : Ev (fun k => gossamerlaw03_alive.f k) true := by
  unfold gossamerlaw03_alive.f
  have s1 := shortest_V [1#32, 2#32, 4#32, 8#32] (by decide)
  have s2 := length_V [0#32, 0#32] (by decide)
  have s3 := length_V [0#32, 1#32] (by decide)
  have e1 : MW.short (co [1#32, 2#32, 4#32, 8#32]) [1#32, 2#32, 4#32, 8#32].length = [1#32, 2#32] := by
    show MW.short _ 4 = _
    unfold MW.short; rw [run_a]; rfl
  rw [e1] at s1
  rw [show [0#32, 0#32].length = 2 from rfl, run_b] at s2
  rw [show [0#32, 1#32].length = 2 from rfl, run_c] at s3
  have hw := words_V (a := [1#32, 2#32]) (b := [1#32, 2#32]) rfl (by decide)
  exact Ev.bind' (by exact s1) (Ev.bind hw (Ev.pos rfl (Ev.bind' (by exact s2) (Ev.pos rfl (Ev.bind' (by exact s3) (Ev.some'.to (by decide)))))))
/-! ### kept, or not -/
theorem good_V (c : List F) : massey_good.f (V c) = some (decide (1 ≤ c.length ∧ co c 0 = 1#32)) := by
  unfold massey_good.f
  rw [V_length]
  by_cases h : 1 ≤ c.length
  · rw [if_pos (by omega), if_pos (by omega)]
    have := rd_Vn c 0
    rw [show ((0 : Nat) : Int) = 0 from rfl] at this
    rw [this]
    congr 1
    by_cases h1 : co c 0 = 1#32
    · rw [decide_eq_true ⟨h, h1⟩, h1]; decide
    · rw [decide_eq_false (fun e => h1 e.2)]
      exact beq_eq_false_iff_ne.2 (fun e => h1 ((v_one_iff _).1 e))
  · rw [if_neg (by omega), decide_eq_false (fun e => h e.1)]
theorem keeps_loop (c s : List F) (hc : Small c) (hs : Small s) : ∀ (n i : Nat), s.length - i = n → i < 100000 → ∃ b : Bool, (b = true ↔ ∀ j, i ≤ j → j < s.length → act c (co s) j = 0#32) ∧ Ev (fun k => massey_Keeps.l0 k (V c) (V s) (i : Int)) b := by
  intro n
  induction n with
  | zero =>
    intro i hi _
    refine ⟨true, ⟨fun _ j a b => by omega, fun _ => rfl⟩, Ev.succ ?_⟩
    simp only [massey_Keeps.l0]
    exact Ev.neg (by rw [V_length]; omega) Ev.some'
  | succ n ih =>
    intro i hi hb
    have hw2 : wrap64 ((i : Int) + 1) = ((i + 1 : Nat) : Int) := wrap_nat1 (by omega)
    have ho := off_V c s i (by omega) hc hs
    by_cases h : act c (co s) i = 0#32
    · obtain ⟨b, hb1, hb2⟩ := ih (i + 1) (by omega) (by omega)
      refine ⟨b, hb1.trans ⟨fun q j a d => ?_, fun q j a d => q j (by omega) d⟩, Ev.succ ?_⟩
      · rcases Nat.lt_or_ge i j with e | e
        · exact q j e d
        · rw [show j = i by omega]; exact h
      · simp only [massey_Keeps.l0]
        rw [hw2]
        exact Ev.pos (by rw [V_length]; omega) (Ev.bind' ho (Ev.pos ((v_zero_iff _).2 h) hb2))
    · refine ⟨false, ⟨fun q => (Bool.noConfusion q), fun q => absurd (q i (Nat.le_refl _) (by omega)) h⟩, Ev.succ ?_⟩
      simp only [massey_Keeps.l0]
      exact Ev.pos (by rw [V_length]; omega) (Ev.bind' ho (Ev.neg (fun e => h ((v_zero_iff _).1 e)) Ev.some'))
theorem keeps_V (c s : List F) (hc : Small c) (hs : Small s) : ∃ b : Bool, (b = true ↔ Keep c s) ∧ Ev (fun k => massey_Keeps.f k (V c) (V s)) b := by
  unfold massey_Keeps.f
  by_cases hg : 1 ≤ c.length ∧ co c 0 = 1#32
  · obtain ⟨b, h1, h2⟩ := keeps_loop c s hc hs _ (c.length - 1) rfl (by unfold Small at hc; omega)
    refine ⟨b, h1.trans ⟨fun q => ⟨hg.1, hg.2, fun i a d => q i (by omega) d⟩, fun q j a d => q.2.2 j (by omega) d⟩, ?_⟩
    have hw : wrap64 (((V c).length : Int) - 1) = ((c.length - 1 : Nat) : Int) := by rw [V_length]; exact wrap_sub (a := c.length) (b := 1) hg.1 (by unfold Small at hc; omega)
    rw [hw]
    exact Ev.bind' (good_V c) (Ev.pos (decide_eq_true hg) h2)
  · exact ⟨false, ⟨fun q => Bool.noConfusion q, fun q => absurd ⟨q.1, q.2.1⟩ hg⟩, Ev.bind' (good_V c) (Ev.neg (by rw [decide_eq_false hg]; decide) Ev.some')⟩
/-! ### the document's -/
theorem rkeeps_inner (c s : List F) (hc : Small c) (hs : Small s) (i : Nat) (hi : i < s.length) (hci : c.length ≤ i + 1) (b : Bool)
    (h : Ev (fun k => if v (act c (co s) i) = 0 then gossamerref03_Keeps.l0 k (V c) (V s) (wrap64 ((i : Int) + 1)) else some false) b) :
    ∀ (m j : Nat), j + m = c.length → Ev (fun k => gossamerref03_Keeps.l1 k (V c) (V s) (i : Int) (v (act (c.take j) (co s) i)) (j : Int)) b := by
  intro m
  induction m with
  | zero =>
    intro j hj
    refine Ev.succ ?_
    simp only [gossamerref03_Keeps.l1]
    rw [List.take_of_length_le (by omega)]
    exact Ev.neg (by rw [V_length]; omega) h
  | succ m ih =>
    intro j hj
    refine Ev.succ ?_
    have hw2 : wrap64 ((j : Int) + 1) = ((j + 1 : Nat) : Int) := wrap_nat1 (by unfold Small at hc; omega)
    have hw3 : wrap64 ((i : Int) - (j : Int)) = ((i - j : Nat) : Int) := wrap_sub (by omega) (by unfold Small at hs; omega)
    simp only [gossamerref03_Keeps.l1]
    rw [hw2, hw3, rd_Vn, rd_Vn]
    refine Ev.pos (by rw [V_length]; omega) (Ev.pos (by omega) (Ev.pos (by omega) (Ev.pos (by rw [V_length]; omega) (Ev.bind (rmul_vE _ _) ?_))))
    rw [xor_v, ← MW.act_step c s i j (by omega)]
    exact ih (j + 1) (by omega)
theorem rkeeps_loop (c s : List F) (hc : Small c) (hs : Small s) : ∀ (n i : Nat), s.length - i = n → i < 100000 → c.length ≤ i + 1 → ∃ b : Bool, (b = true ↔ ∀ j, i ≤ j → j < s.length → act c (co s) j = 0#32) ∧ Ev (fun k => gossamerref03_Keeps.l0 k (V c) (V s) (i : Int)) b := by
  intro n
  induction n with
  | zero =>
    intro i hi _ _
    refine ⟨true, ⟨fun _ j a b => by omega, fun _ => rfl⟩, Ev.succ ?_⟩
    simp only [gossamerref03_Keeps.l0]
    exact Ev.neg (by rw [V_length]; omega) Ev.some'
  | succ n ih =>
    intro i hi hb hci
    have hw2 : wrap64 ((i : Int) + 1) = ((i + 1 : Nat) : Int) := wrap_nat1 (by omega)
    by_cases h : act c (co s) i = 0#32
    · obtain ⟨b, hb1, hb2⟩ := ih (i + 1) (by omega) (by omega) (by omega)
      refine ⟨b, hb1.trans ⟨fun q j a d => ?_, fun q j a d => q j (by omega) d⟩, Ev.succ ?_⟩
      · rcases Nat.lt_or_ge i j with e | e
        · exact q j e d
        · rw [show j = i by omega]; exact h
      · simp only [gossamerref03_Keeps.l0]
        refine Ev.pos (by rw [V_length]; omega) (rkeeps_inner c s hc hs i (by omega) hci b ?_ c.length 0 (by omega))
        rw [hw2]
        exact Ev.pos ((v_zero_iff _).2 h) hb2
    · refine ⟨false, ⟨fun q => (Bool.noConfusion q), fun q => absurd (q i (Nat.le_refl _) (by omega)) h⟩, Ev.succ ?_⟩
      simp only [gossamerref03_Keeps.l0]
      exact Ev.pos (by rw [V_length]; omega) (rkeeps_inner c s hc hs i (by omega) hci false (Ev.neg (fun e => h ((v_zero_iff _).1 e)) Ev.some') c.length 0 (by omega))
theorem rkeeps_V (c s : List F) (hc : Small c) (hs : Small s) : ∃ b : Bool, (b = true ↔ Keep c s) ∧ Ev (fun k => gossamerref03_Keeps.f k (V c) (V s)) b := by
  unfold gossamerref03_Keeps.f
  rw [V_length]
  by_cases h0 : 1 ≤ c.length
  · have hr : rd (V c) 0 = v (co c 0) := by have := rd_Vn c 0; rwa [show ((0 : Nat) : Int) = 0 from rfl] at this
    rw [hr]
    by_cases h1 : co c 0 = 1#32
    · obtain ⟨b, k1, k2⟩ := rkeeps_loop c s hc hs _ (c.length - 1) rfl (by unfold Small at hc; omega) (by omega)
      refine ⟨b, k1.trans ⟨fun q => ⟨h0, h1, fun i a d => q i (by omega) d⟩, fun q j a d => q.2.2 j (by omega) d⟩, ?_⟩
      have hw : wrap64 (((V c).length : Int) - 1) = ((c.length - 1 : Nat) : Int) := by rw [V_length]; exact wrap_sub (a := c.length) (b := 1) h0 (by unfold Small at hc; omega)
      refine Ev.neg (by omega) (Ev.pos (by omega) (Ev.succ ?_))
      simp only [gossamerref03_Keeps.j0]
      rw [hw, h1]
      exact Ev.neg (by decide) k2
    · refine ⟨false, ⟨fun q => Bool.noConfusion q, fun q => absurd q.2.1 h1⟩, Ev.neg (by omega) (Ev.pos (by omega) (Ev.succ ?_))⟩
      simp only [gossamerref03_Keeps.j0]
      exact Ev.pos (by rw [bne_iff_ne]; exact fun e => h1 ((v_one_iff _).1 e)) Ev.some'
  · refine ⟨false, ⟨fun q => Bool.noConfusion q, fun q => absurd q.1 h0⟩, Ev.pos (by omega) (Ev.succ ?_)⟩
    simp only [gossamerref03_Keeps.j0]
    exact Ev.pos trivial Ev.some'
end Go.Proofs.Ytfjkiiajbeaaoaa.R
