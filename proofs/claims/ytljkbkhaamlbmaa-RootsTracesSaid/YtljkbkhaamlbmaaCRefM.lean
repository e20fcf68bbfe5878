/- What the printed functions of the plain polynomials come to. -/
import Derived.Test.YtljkbkhaamlbmaaTx7
import Derived.Test.YtljkbkhaamlbmaaTx8
import Derived.Test.YtljkbkhaamlbmaaTx9
import Derived.Test.YtljkbkhaamlbmaaCGfRefM
import Derived.Test.YtljkbkhaamlbmaaMCp
set_option linter.unusedVariables false
set_option linter.unusedSimpArgs false
namespace Go.Proofs.Ytljkbkhaamlbmaa.T
open Go.RowKit Go.Proofs.YtljkbkhaamlbmaaW.PrintWords Go.Proofs.YtljkbkhaamlbmaaW.PrintLast Go.Proofs.YtljkbkhaamlbmaaW.PrintMore Go.Proofs.Ytljkbkhaamlbmaa.Bits Go.Proofs.Ytljkbkhaamlbmaa GF PolyT
theorem rmul_vE (a b : F) : Ev (fun k => gossamerref01_Mul.f k (v a) (v b)) (v (mul a b)) := Ev.from' 66 (rmul_v a b)
theorem rtr_length {l : List F} (h : Tr l) : len l = l.length := h
theorem rtrim_loop (l : List F) (hs : l.length < 8192) : ∀ n : Nat, n ≤ l.length → (∀ j, n ≤ j → co l j = 0#32) → Ev (fun k => gossamerref02_Trim.l0 k (V l) (n : Int)) (V (trim l)) := by
  intro n
  induction n with
  | zero =>
    intro _ h
    have h0 : len l = 0 := len_eq (fun i _ => h i (by omega)) (fun m hm => by omega)
    refine Ev.succ ?_
    simp only [gossamerref02_Trim.l0, V_length]
    refine Ev.neg (by omega) (Ev.bind' rfl (Ev.pos (by omega) (Ev.pos (by omega) ?_)))
    refine Ev.pos (by simp) (Ev.some'.to ?_)
    unfold trim; rw [h0]; rfl
  | succ n ih =>
    intro hn h
    have hw : wrap64 (((n + 1 : Nat) : Int) - 1) = (n : Int) := by rw [wrap64_small (by omega) (by omega)]; omega
    by_cases e : co l n = 0#32
    · refine Ev.succ ?_
      simp only [gossamerref02_Trim.l0, V_length]
      rw [hw, rd_Vn]
      refine Ev.pos (by omega) (Ev.pos (by omega) (Ev.pos (by omega) (Ev.pos (by rw [e]; rfl) ?_)))
      exact ih (by omega) (fun j hj => by
        by_cases e2 : j = n
        · rw [e2]; exact e
        · exact h j (by omega))
    · have h0 : len l = n + 1 := len_eq (fun i hi => h i hi) (fun m hm => by
        have e2 : m = n := by omega
        rw [e2]; exact e)
      refine Ev.succ ?_
      simp only [gossamerref02_Trim.l0, V_length]
      rw [hw, rd_Vn]
      refine Ev.pos (by omega) (Ev.pos (by omega) (Ev.pos (by omega) (Ev.neg (fun h => e ((v_zero_iff _).mp h)) (Ev.bind' rfl (Ev.pos (by omega) (Ev.pos (by omega) ?_))))))
      rw [Int.toNat_natCast, V_take, V_length]
      refine Ev.pos (by simp only [List.length_nil, List.length_take]; omega) (Ev.some'.to ?_)
      unfold trim; rw [h0]; rfl
theorem rtrim_V (l : List F) (hs : l.length < 8192) : Ev (fun k => gossamerref02_Trim.f k (V l)) (V (trim l)) := by
  unfold gossamerref02_Trim.f
  rw [V_length]
  exact rtrim_loop l hs l.length (Nat.le_refl _) (fun j hj => co_ge hj)
theorem coefficient_V (l : List F) (i : Nat) : gossamerref02_coefficient.f (V l) (i : Int) = some (v (co l i)) := by
  unfold gossamerref02_coefficient.f
  rw [V_length, if_neg (by omega)]
  by_cases h : l.length ≤ i
  · rw [if_pos (by omega), co_ge h]; rfl
  · rw [if_neg (by omega), if_pos (by omega), if_pos (by omega), rd_Vn]
theorem co_snoc (l : List F) (x : F) (i : Nat) : co (l ++ [x]) i = if i = l.length then x else co l i := by
  rw [co_append]
  by_cases h : i < l.length
  · rw [if_pos h, if_neg (by omega)]
  · rw [if_neg h]
    by_cases e : i = l.length
    · rw [if_pos e, e, Nat.sub_self]; rfl
    · rw [if_neg e, co_ge (by simp; omega), co_ge (by omega)]
theorem radd_loop (a b : List F) (ha : Small a) (hb : Small b) : ∀ (n : Nat) (o : List F), o.length + n = max a.length b.length → (∀ j, co o j = if j < o.length then co a j ^^^ co b j else 0#32) →
    ∃ s, Ev (fun k => gossamerref02_Add.l0 k (V a) (V b) (V o) (o.length : Int)) (V s) ∧ Tr s ∧ co s = sadd (co a) (co b) ∧ s.length ≤ max a.length b.length := by
  intro n
  induction n with
  | zero =>
    intro o ho hc
    have hco : co o = sadd (co a) (co b) := by
      funext j
      rw [hc j]; simp only [sadd]
      by_cases h : j < o.length
      · rw [if_pos h]
      · rw [if_neg h, co_ge (by omega), co_ge (by omega)]; rfl
    refine ⟨trim o, ?_, tr_trim o, by rw [← hco]; exact funext (co_trim o), by rw [trim_length]; have := len_le o; omega⟩
    refine Ev.succ ?_
    simp only [gossamerref02_Add.l0, V_length]
    refine Ev.neg (by omega) (Ev.succ ?_)
    have hd : decide ((o.length : Int) < (b.length : Int)) = false := decide_eq_false (by omega)
    simp only [gossamerref02_Add.j1]
    rw [hd]
    unfold Small at *
    exact Ev.neg (by decide) (Ev.bind (rtrim_V o (by omega)) Ev.some')
  | succ n ih =>
    intro o ho hc
    obtain ⟨s, h1, h2, h3, h4⟩ := ih (o ++ [co a o.length ^^^ co b o.length]) (by rw [List.length_append, List.length_singleton]; omega) (by
      intro j
      rw [co_snoc, hc j, List.length_append, List.length_singleton]
      by_cases e : j = o.length
      · rw [if_pos e, if_pos (by omega), e]
      · rw [if_neg e]
        by_cases h : j < o.length
        · rw [if_pos h, if_pos (by omega)]
        · rw [if_neg h, if_neg (by omega)])
    refine ⟨s, ?_, h2, h3, h4⟩
    unfold Small at *
    have hj : Ev (fun k => gossamerref02_Add.j1 k (V a) (V b) (V o) (o.length : Int) true) (V s) := by
      refine Ev.succ ?_
      simp only [gossamerref02_Add.j1]
      have hw2 : wrap64 ((o.length : Int) + 1) = ((o.length + 1 : Nat) : Int) := wrap_nat1 (by omega)
      rw [hw2, V_length]
      refine Ev.pos trivial (Ev.bind' (coefficient_V a _) (Ev.bind' (coefficient_V b _) (Ev.pos (by omega) ?_)))
      rw [xor_v]
      have e : V o ++ [v (co a o.length ^^^ co b o.length)] = V (o ++ [co a o.length ^^^ co b o.length]) := by simp [V]
      rw [e]
      rw [List.length_append, List.length_singleton] at h1
      exact h1
    refine Ev.succ ?_
    simp only [gossamerref02_Add.l0, V_length]
    by_cases h : (o.length : Int) < (a.length : Int)
    · exact Ev.pos h hj
    · refine Ev.neg h ?_
      have hd : decide ((o.length : Int) < (b.length : Int)) = true := decide_eq_true (by omega)
      rw [hd]; exact hj
theorem radd_V (a b : List F) (ha : Small a) (hb : Small b) : ∃ s, Ev (fun k => gossamerref02_Add.f k (V a) (V b)) (V s) ∧ Tr s ∧ co s = sadd (co a) (co b) ∧ s.length ≤ max a.length b.length := by
  unfold gossamerref02_Add.f
  exact radd_loop a b ha hb (max a.length b.length) [] (by simp) (fun j => by rw [co_nil, if_neg (by simp)])
theorem rscale_l1 (a : List F) (c : F) (up : Nat) (ha : Small a) (hu : up < 4096) : ∀ (n i : Nat) (o : List F), i + n = a.length → o.length = up + i → (∀ j, co o j = if j < up + i then smul c (shn up (co a)) j else 0#32) →
    ∃ s, Ev (fun k => gossamerref02_Scale.l1 k (V a) (v c) (V o) (i : Int)) (V s) ∧ Tr s ∧ co s = smul c (shn up (co a)) ∧ s.length ≤ up + a.length := by
  intro n
  induction n with
  | zero =>
    intro i o hi ho hc
    have hco : co o = smul c (shn up (co a)) := by
      funext j
      rw [hc j]
      by_cases h : j < up + i
      · rw [if_pos h]
      · rw [if_neg h]; simp only [smul, shn]; rw [if_pos (by omega), co_ge (by omega), GF.mul_zero]
    refine ⟨trim o, ?_, tr_trim o, by rw [← hco]; exact funext (co_trim o), by rw [trim_length]; have := len_le o; omega⟩
    refine Ev.succ ?_
    simp only [gossamerref02_Scale.l1, V_length]
    unfold Small at *
    exact Ev.neg (by omega) (Ev.bind (rtrim_V o (by omega)) Ev.some')
  | succ n ih =>
    intro i o hi ho hc
    obtain ⟨s, h1, h2, h3, h4⟩ := ih (i + 1) (o ++ [mul (co a i) c]) (by omega) (by rw [List.length_append, List.length_singleton]; omega) (by
      intro j
      rw [co_snoc, hc j]
      by_cases e : j = o.length
      · rw [if_pos e, if_pos (by omega)]
        simp only [smul, shn]
        rw [if_pos (by omega), GF.mul_comm]
        congr 2; omega
      · rw [if_neg e]
        by_cases h : j < up + i
        · rw [if_pos h, if_pos (by omega)]
        · rw [if_neg h, if_neg (by omega)])
    refine ⟨s, ?_, h2, h3, h4⟩
    unfold Small at *
    refine Ev.succ ?_
    have hw2 : wrap64 ((i : Int) + 1) = ((i + 1 : Nat) : Int) := wrap_nat1 (by omega)
    simp only [gossamerref02_Scale.l1, V_length]
    rw [hw2, rd_Vn]
    refine Ev.pos (by omega) (Ev.pos (by omega) (Ev.bind (rmul_vE _ _) (Ev.pos (by omega) ?_)))
    have e : V o ++ [v (mul (co a i) c)] = V (o ++ [mul (co a i) c]) := by simp [V]
    rw [e]; exact h1
theorem rscale_l0 (a : List F) (c : F) (up : Nat) (ha : Small a) (hu : up < 4096) : ∀ (n i : Nat), i + n = up →
    ∃ s, Ev (fun k => gossamerref02_Scale.l0 k (V a) (v c) (up : Int) (V (List.replicate i 0#32)) (i : Int)) (V s) ∧ Tr s ∧ co s = smul c (shn up (co a)) ∧ s.length ≤ up + a.length := by
  intro n
  induction n with
  | zero =>
    intro i hi
    obtain ⟨s, h1, h2⟩ := rscale_l1 a c up ha hu a.length 0 (List.replicate i 0#32) (by omega) (by simp; omega) (by
      intro j
      rw [co_replicate]
      by_cases h : j < up + 0
      · rw [if_pos h]; simp only [smul, shn]; rw [if_neg (by omega), GF.mul_zero]
      · rw [if_neg h])
    refine ⟨s, ?_, h2⟩
    refine Ev.succ ?_
    simp only [gossamerref02_Scale.l0]
    exact Ev.neg (by omega) h1
  | succ n ih =>
    intro i hi
    obtain ⟨s, h1, h2⟩ := ih (i + 1) (by omega)
    refine ⟨s, ?_, h2⟩
    refine Ev.succ ?_
    have hw2 : wrap64 ((i : Int) + 1) = ((i + 1 : Nat) : Int) := wrap_nat1 (by omega)
    simp only [gossamerref02_Scale.l0]
    rw [hw2, V_length, List.length_replicate]
    refine Ev.pos (by omega) (Ev.pos (by omega) ?_)
    have e : V (List.replicate i 0#32) ++ [0] = V (List.replicate (i + 1) 0#32) := by
      rw [List.replicate_succ']; simp [V]; decide
    rw [e]; exact h1
theorem rscale_V (a : List F) (c : F) (up : Nat) (ha : Small a) (hu : up < 4096) :
    ∃ s, Ev (fun k => gossamerref02_Scale.f k (V a) (v c) (up : Int)) (V s) ∧ Tr s ∧ co s = smul c (shn up (co a)) ∧ s.length ≤ up + a.length := by
  unfold gossamerref02_Scale.f
  exact rscale_l0 a c up ha hu up 0 (by omega)
theorem rmul_ploop (a b : List F) (ha : a.length < 2048) (hb : b.length < 2048) : ∀ (n i : Nat) (o : List F), i + n = a.length → o.length ≤ a.length + b.length → co o = act (a.take i) (co b) →
    ∃ s, Ev (fun k => gossamerref02_Mul.l0 k (V a) (V b) (V o) (i : Int)) (V s) ∧ Tr s ∧ co s = pr a b ∧ s.length ≤ a.length + b.length := by
  intro n
  induction n with
  | zero =>
    intro i o hi ho hc
    rw [List.take_of_length_le (by omega)] at hc
    refine ⟨trim o, ?_, tr_trim o, by rw [← (show co o = pr a b from hc)]; exact funext (co_trim o), by rw [trim_length]; have := len_le o; omega⟩
    refine Ev.succ ?_
    simp only [gossamerref02_Mul.l0, V_length]
    exact Ev.neg (by omega) (Ev.bind (rtrim_V o (by omega)) Ev.some')
  | succ n ih =>
    intro i o hi ho hc
    obtain ⟨p, p1, p2, p3, p4⟩ := rscale_V b (co a i) i (by unfold Small; omega) (by omega)
    obtain ⟨s, s1, s2, s3, s4⟩ := radd_V o p (by unfold Small; omega) (by unfold Small; omega)
    obtain ⟨t, t1, t2⟩ := ih (i + 1) s (by omega) (by omega) (by rw [s3, p3, hc, act_take_succ])
    refine ⟨t, ?_, t2⟩
    refine Ev.succ ?_
    have hw2 : wrap64 ((i : Int) + 1) = ((i + 1 : Nat) : Int) := wrap_nat1 (by omega)
    simp only [gossamerref02_Mul.l0, V_length]
    rw [hw2, rd_Vn]
    exact Ev.pos (by omega) (Ev.pos (by omega) (Ev.bind p1 (Ev.bind s1 t1)))
theorem rmul_V (a b : List F) (ha : a.length < 2048) (hb : b.length < 2048) : ∃ s, Ev (fun k => gossamerref02_Mul.f k (V a) (V b)) (V s) ∧ Tr s ∧ co s = pr a b ∧ s.length ≤ a.length + b.length := by
  unfold gossamerref02_Mul.f
  exact rmul_ploop a b ha hb a.length 0 [] (by omega) (by simp) (by funext i; rfl)
end Go.Proofs.Ytljkbkhaamlbmaa.T
