/- What the printed functions of polynomials come to, at lists of coefficients that are spelled as bit vectors. -/
import Derived.Test.YtcamaleanlblfaaQx1
import Derived.Test.YtcamaleanlblfaaCGf
import Derived.Test.YtcamaleanlblfaaPolyG
import Derived.Test.YtcamaleanlblfaaEv
set_option linter.unusedVariables false
set_option linter.unusedSimpArgs false
namespace Go.Proofs.Ytcamaleanlblfaa.Q
open Go.RowKit Go.Proofs.YtcamaleanlblfaaW.PrintWords Go.Proofs.YtcamaleanlblfaaW.PrintLast Go.Proofs.YtcamaleanlblfaaW.PrintMore Go.Proofs.Ytcamaleanlblfaa.Bits Go.Proofs.Ytcamaleanlblfaa GF PolyT
/-- a list of words, as Go's numbers -/
def V (l : List F) : List Int := l.map v
theorem V_length (l : List F) : (V l).length = l.length := List.length_map _
theorem rd_V (l : List F) (i : Int) : rd (V l) i = v (co l i.toNat) := by
  unfold rd V co
  rw [List.getD_eq_getElem?_getD, List.getD_eq_getElem?_getD, List.getElem?_map]
  cases l[i.toNat]? <;> rfl
theorem rd_Vn (l : List F) (i : Nat) : rd (V l) (i : Int) = v (co l i) := by rw [rd_V, Int.toNat_natCast]
theorem V_of (l : List Int) (h : ∀ x ∈ l, (Lit.int .u32 x).wf = true) : ∃ m, l = V m := by
  induction l with
  | nil => exact ⟨[], rfl⟩
  | cons a l ih =>
    obtain ⟨m, rfl⟩ := ih (fun x hx => h x (by simp [hx]))
    obtain ⟨x, rfl⟩ := v_of (wf_u32 (h a (by simp))).1 (wf_u32 (h a (by simp))).2
    exact ⟨x :: m, rfl⟩
theorem V_inj {a b : List F} (h : V a = V b) : a = b := by
  induction a generalizing b with
  | nil => cases b with
    | nil => rfl
    | cons x b => simp [V] at h
  | cons y a ih => cases b with
    | nil => simp [V] at h
    | cons x b =>
      simp only [V, List.map_cons, List.cons.injEq] at h
      rw [v_inj.mp h.1, ih h.2]
theorem V_take (l : List F) (n : Nat) : (V l).take n = V (l.take n) := by simp [V]
theorem V_set (l : List F) (n : Nat) (x : F) : (V l).set n (v x) = V (l.set n x) := by simp [V, List.map_set]
theorem V_replicate (n : Nat) : List.replicate n (0 : Int) = V (List.replicate n 0#32) := by
  unfold V; rw [List.map_replicate]; rfl
theorem v_zero_iff (x : F) : v x = 0 ↔ x = 0#32 := ⟨fun h => v_inj.mp h, fun h => by rw [h]; rfl⟩
theorem wrap_nat {a b : Nat} (h : a + b < 9223372036854775808) : wrap64 ((a : Int) + (b : Int)) = ((a + b : Nat) : Int) := by rw [wrap64_small] <;> omega
theorem wrap_nat1 {a : Nat} (h : a + 1 < 9223372036854775808) : wrap64 ((a : Int) + 1) = ((a + 1 : Nat) : Int) := by rw [wrap64_small] <;> omega
/-- lists are short enough that no number wraps -/
abbrev Small (l : List F) : Prop := l.length < 4096
theorem pdegree_loop (l : List F) (hs : Small l) : ∀ n : Nat, n ≤ l.length → (∀ j, n ≤ j → co l j = 0#32) → (∃ K, ∀ k, K ≤ k → poly_Degree.l0 k (V l) ((n : Int) - 1) = some ((len l : Int) - 1)) := by
  intro n
  induction n with
  | zero =>
    intro _ h
    refine ⟨1, fun k hk => ?_⟩
    obtain ⟨k, rfl⟩ : ∃ m, k = m + 1 := ⟨k - 1, by omega⟩
    have h0 : len l = 0 := len_eq (fun i _ => h i (by omega)) (fun m hm => by omega)
    simp only [poly_Degree.l0]; rw [if_neg (by omega), h0]
  | succ n ih =>
    intro hn h
    by_cases e : co l n = 0#32
    · obtain ⟨K, hK⟩ := ih (by omega) (fun j hj => by
        by_cases e2 : j = n
        · rw [e2]; exact e
        · exact h j (by omega))
      refine ⟨K + 1, fun k hk => ?_⟩
      obtain ⟨k, rfl⟩ : ∃ m, k = m + 1 := ⟨k - 1, by omega⟩
      have e1 : ((n + 1 : Nat) : Int) - 1 = (n : Int) := by omega
      have hw : wrap64 ((n : Int) - 1) = (n : Int) - 1 := wrap64_small (by omega) (by omega)
      have g0 : (n : Int) ≥ 0 := by omega
      have g1 : (n : Int) < (l.length : Int) := by omega
      simp only [poly_Degree.l0, V_length]
      rw [e1, if_pos g0, if_pos g0, if_pos g1, rd_Vn, if_pos (by rw [e]; rfl), hw]
      exact hK k (by omega)
    · refine ⟨1, fun k hk => ?_⟩
      obtain ⟨k, rfl⟩ : ∃ m, k = m + 1 := ⟨k - 1, by omega⟩
      have e1 : ((n + 1 : Nat) : Int) - 1 = (n : Int) := by omega
      have h0 : len l = n + 1 := len_eq (fun i hi => h i hi) (fun m hm => by
        have e2 : m = n := by omega
        rw [e2]; exact e)
      have g0 : (n : Int) ≥ 0 := by omega
      have g1 : (n : Int) < (l.length : Int) := by omega
      simp only [poly_Degree.l0, V_length]
      rw [e1, if_pos g0, if_pos g0, if_pos g1, rd_Vn, if_neg (fun h => e ((v_zero_iff _).mp h)), h0, ← e1]
theorem degree_V (l : List F) (hs : Small l) : (∃ K, ∀ k, K ≤ k → poly_Degree.f k (V l) = some ((len l : Int) - 1)) := by
  obtain ⟨K, hK⟩ := pdegree_loop l hs l.length (Nat.le_refl _) (fun j hj => co_ge hj)
  refine ⟨K, fun k hk => ?_⟩
  unfold poly_Degree.f
  rw [V_length, wrap64_small (by omega) (by omega)]
  exact hK k hk
theorem cut_V (l : List F) (hs : Small l) : (∃ K, ∀ k, K ≤ k → poly_cut.f k (V l) = some (V (trim l))) := by
  obtain ⟨K, hK⟩ := degree_V l hs
  refine ⟨K, fun k hk => ?_⟩
  have hl := len_le l
  unfold poly_cut.f
  rw [hK k hk, Option.bind_some]
  have hw : wrap64 ((len l : Int) - 1 + 1) = (len l : Int) := by rw [wrap64_small (by omega) (by omega)]; omega
  rw [hw, V_length, if_pos (by omega), if_pos (by omega), Int.toNat_natCast, V_take]; rfl
/-! ### put -/
theorem put_loop (a : List F) (c : F) (up : Nat) (ha : Small a) (hu : up < 4096) : ∀ (n i : Nat) (t : List F), i + n = a.length → up + a.length ≤ t.length →
    ∃ t', (∃ K, ∀ k, K ≤ k → poly_put.l0 k (V t) (v c) (up : Int) (V a) (a.length : Int) (i : Int) = some (V t')) ∧ t'.length = t.length ∧
      ∀ j, co t' j = co t j ^^^ (if up + i ≤ j then mul (co a (j - up)) c else 0#32) := by
  intro n
  induction n with
  | zero =>
    intro i t hi ht
    refine ⟨t, ⟨1, fun k hk => ?_⟩, rfl, fun j => ?_⟩
    · obtain ⟨k, rfl⟩ : ∃ m, k = m + 1 := ⟨k - 1, by omega⟩
      simp only [poly_put.l0]; rw [if_neg (by omega)]
    · by_cases h : up + i ≤ j
      · have e0 : co a (j - up) = 0#32 := co_ge (by omega)
        rw [if_pos h, e0, GF.zero_mul, BitVec.xor_zero]
      · rw [if_neg h, BitVec.xor_zero]
  | succ n ih =>
    intro i t hi ht
    obtain ⟨t', ⟨K, hK⟩, hl, hc⟩ := ih (i + 1) (t.set (up + i) (co t (up + i) ^^^ mul (co a i) c)) (by omega) (by rw [List.length_set]; exact ht)
    refine ⟨t', ⟨K + 40, fun k hk => ?_⟩, by rw [hl, List.length_set], fun j => ?_⟩
    · obtain ⟨k, rfl⟩ : ∃ m, k = m + 1 := ⟨k - 1, by omega⟩
      have g0 : (0 : Int) ≤ (i : Int) := by omega
      have g1 : (i : Int) < (a.length : Int) := by omega
      have g2 : (0 : Int) ≤ ((up + i : Nat) : Int) := by omega
      have g3 : ((up + i : Nat) : Int) < (t.length : Int) := by omega
      have hk33 : 33 ≤ k := by omega
      have hkK : K ≤ k := by omega
      have hw : wrap64 ((up : Int) + (i : Int)) = ((up + i : Nat) : Int) := wrap_nat (by omega)
      have hw2 : wrap64 ((i : Int) + 1) = ((i + 1 : Nat) : Int) := wrap_nat1 (by omega)
      simp only [poly_put.l0, V_length]
      rw [if_pos g1, if_pos g0, if_pos g1, hw, if_pos g2, if_pos g3, rd_Vn, mul_v _ _ k hk33, Option.bind_some, rd_Vn, xor_v, Int.toNat_natCast, V_set, hw2]
      exact hK k hkK
    · rw [hc j, co_set]
      by_cases e : j = up + i
      · subst e
        rw [if_pos ⟨rfl, by omega⟩, if_neg (by omega), if_pos (by omega), BitVec.xor_zero]
        have : up + i - up = i := by omega
        rw [this]
      · rw [if_neg (fun h => e h.1)]
        by_cases h : up + i ≤ j
        · rw [if_pos (by omega), if_pos h]
        · rw [if_neg (by omega), if_neg h]
theorem put_V (t a : List F) (c : F) (up : Nat) (ha : Small a) (hu : up < 4096) (ht : up + a.length ≤ t.length) :
    ∃ t', (∃ K, ∀ k, K ≤ k → poly_put.f k (V t) (V a) (v c) (up : Int) = some (V t')) ∧ t'.length = t.length ∧ co t' = sadd (co t) (smul c (shn up (co a))) := by
  obtain ⟨t', ⟨K, hK⟩, hl, hc⟩ := put_loop a c up ha hu a.length 0 t (by omega) ht
  refine ⟨t', ⟨K, fun k hk => ?_⟩, hl, funext fun j => ?_⟩
  · unfold poly_put.f; rw [V_length]; exact hK k hk
  · rw [hc j]; simp only [sadd, smul, shn, Nat.add_zero]
    by_cases h : up ≤ j
    · rw [if_pos h, if_pos h, GF.mul_comm]
    · rw [if_neg h, if_neg h, GF.mul_zero]
/-! ### products -/
theorem act_take_succ (a : List F) (f : S) : ∀ i, act (a.take (i + 1)) f = sadd (act (a.take i) f) (smul (co a i) (shn i f)) := by
  induction a with
  | nil =>
    intro i; simp only [List.take_nil, co_nil]
    funext j; simp [act, sadd, smul, GF.zero_mul]
  | cons x a ih =>
    intro i
    cases i with
    | zero =>
      simp only [List.take_succ_cons, List.take_zero, act, X_zero]
      funext j; simp [sadd, smul, shn, co_cons_zero]
    | succ i =>
      rw [List.take_succ_cons, List.take_succ_cons]
      simp only [act]
      rw [ih i, X_add, X_smul, X_shn, co_cons_succ]
      funext j; simp only [sadd]; rw [BitVec.xor_assoc]
theorem mul_ploop (a b : List F) (ha : Small a) (hb : Small b) : ∀ (n i : Nat) (t : List F), i + n = a.length → (a.length ≠ 0 → a.length + b.length ≤ t.length + 1) → co t = act (a.take i) (co b) →
    ∃ t', (∃ K, ∀ k, K ≤ k → poly_Mul.l0 k (V b) (V t) (V a) (a.length : Int) (i : Int) = some (V t')) ∧ t'.length = t.length ∧ co t' = pr a b := by
  intro n
  induction n with
  | zero =>
    intro i t hi ht hc
    refine ⟨t, ⟨1, fun k hk => ?_⟩, rfl, ?_⟩
    · obtain ⟨k, rfl⟩ : ∃ m, k = m + 1 := ⟨k - 1, by omega⟩
      simp only [poly_Mul.l0]; rw [if_neg (by omega)]
    · rw [hc, List.take_of_length_le (by omega)]; rfl
  | succ n ih =>
    intro i t hi ht hc
    obtain ⟨t1, ⟨K1, hK1⟩, hl1, hc1⟩ := put_V t b (co a i) i hb (by omega) (by have := ht (by omega); omega)
    obtain ⟨t', ⟨K, hK⟩, hl, hc'⟩ := ih (i + 1) t1 (by omega) (by rw [hl1]; exact ht) (by rw [hc1, hc, act_take_succ])
    refine ⟨t', ⟨K + K1 + 1, fun k hk => ?_⟩, by rw [hl, hl1], hc'⟩
    obtain ⟨k, rfl⟩ : ∃ m, k = m + 1 := ⟨k - 1, by omega⟩
    have g0 : (0 : Int) ≤ (i : Int) := by omega
    have g1 : (i : Int) < (a.length : Int) := by omega
    have hkK : K ≤ k := by omega
    have hkK1 : K1 ≤ k := by omega
    have hw2 : wrap64 ((i : Int) + 1) = ((i + 1 : Nat) : Int) := wrap_nat1 (by omega)
    simp only [poly_Mul.l0, V_length]
    rw [if_pos g1, if_pos g0, if_pos g1, rd_Vn, hK1 k hkK1, Option.bind_some, hw2]
    exact hK k hkK
theorem mul_V (a b : List F) (ha : Small a) (hb : Small b) : ∃ c, (∃ K, ∀ k, K ≤ k → poly_Mul.f k (V a) (V b) = some (V c)) ∧ Tr c ∧ co c = pr a b ∧ c.length ≤ a.length + b.length := by
  obtain ⟨K1, h1⟩ := cut_V a ha
  obtain ⟨K2, h2⟩ := cut_V b hb
  have la := len_le a
  have lb := len_le b
  have pe : pr (trim a) (trim b) = pr a b := by
    rw [act_congr (co_trim a), pr_comm, act_congr (co_trim b), pr_comm]
  by_cases za : len a = 0
  · refine ⟨[], ⟨K1 + K2 + 2, fun k hk => ?_⟩, rfl, ?_, by simp⟩
    · unfold poly_Mul.f
      rw [h1 k (by omega), Option.bind_some, h2 k (by omega), Option.bind_some, V_length, trim_length, if_pos (by omega)]
      obtain ⟨k, rfl⟩ : ∃ m, k = m + 1 := ⟨k - 1, by omega⟩
      simp only [poly_Mul.j0]; rfl
    · rw [pr_zero_l b za]; funext i; rfl
  · by_cases zb : len b = 0
    · refine ⟨[], ⟨K1 + K2 + 2, fun k hk => ?_⟩, rfl, ?_, by simp⟩
      · unfold poly_Mul.f
        rw [h1 k (by omega), Option.bind_some, h2 k (by omega), Option.bind_some, V_length, trim_length, if_neg (by omega), V_length, trim_length, zb]
        obtain ⟨k, rfl⟩ : ∃ m, k = m + 1 := ⟨k - 1, by omega⟩
        simp only [poly_Mul.j0]; rfl
      · rw [pr_zero_r a zb]; funext i; rfl
    · obtain ⟨c, ⟨K, hK⟩, hl, hc⟩ := mul_ploop (trim a) (trim b) (by unfold Small; rw [trim_length]; omega) (by unfold Small; rw [trim_length]; omega) (trim a).length 0 (List.replicate (len a + len b - 1) 0#32) (by omega)
        (by intro _; rw [trim_length, trim_length, List.length_replicate]; omega) (by funext i; rw [co_replicate]; rfl)
      rw [List.length_replicate] at hl
      rw [pe] at hc
      refine ⟨c, ⟨K1 + K2 + K + 2, fun k hk => ?_⟩, ?_, hc, by omega⟩
      · unfold poly_Mul.f
        rw [h1 k (by omega), Option.bind_some, h2 k (by omega), Option.bind_some, V_length, trim_length, if_neg (by omega), V_length, trim_length]
        have hb0 : (((len b : Nat) : Int) == 0) = false := beq_eq_false_iff_ne.mpr (by omega)
        rw [hb0]
        obtain ⟨k, rfl⟩ : ∃ m, k = m + 1 := ⟨k - 1, by omega⟩
        have g0 : (0 : Int) ≤ ((len a + len b - 1 : Nat) : Int) := by omega
        have g1 : len a + len b - 1 ≤ 70368744177664 := by omega
        have hkK : K ≤ k := by omega
        have hw : wrap64 (wrap64 ((len a : Int) + (len b : Int)) - 1) = ((len a + len b - 1 : Nat) : Int) := by
          rw [wrap64_small (n := (len a : Int) + (len b : Int)) (by omega) (by omega), wrap64_small (by omega) (by omega)]; omega
        simp only [poly_Mul.j0, V_length, trim_length]
        rw [if_neg (by decide), hw, if_pos g0, Int.toNat_natCast, if_pos g1, V_replicate]
        have := hK k hkK
        rw [trim_length] at this
        exact this
      · unfold Tr
        have := len_pr hc za zb
        omega
end Go.Proofs.Ytcamaleanlblfaa.Q
