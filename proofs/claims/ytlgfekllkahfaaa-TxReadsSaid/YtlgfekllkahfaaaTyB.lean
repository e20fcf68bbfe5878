/- Counts, texts and digests written behind each other (pack.Out). -/
import Derived.Test.YtlgfekllkahfaaaTyA
set_option linter.unusedVariables false
set_option linter.unusedSimpArgs false
namespace Go.Proofs.Ytlgfekllkahfaaa.Pack
open Go.RowKit Go.Proofs.YtlgfekllkahfaaaW.PrintWords Go.Proofs.YtlgfekllkahfaaaW.PrintMore Go.Proofs.Ytlgfekllkahfaaa Go.Proofs.Ytlgfekllkahfaaa.Bits Sha ArrK ShaW
open Go.Proofs.Ytlgfekllkahfaaa.InRound (op_at)
theorem form1 (n : Int) (h0 : 0 ≤ n) (h : n < 253) (w : World) : Calls Try.prog 68 #[.int .u64 n] w fun e w' => e = .returned (.tuple #[.int .u8 0, .int .i64 1]) ∧ w = w' := by
  go_enter Try.func68, Try.ntmps68
  go_wp2
  go_ret2
  exact ⟨rfl, rfl⟩
theorem form2 (n : Int) (h0 : 253 ≤ n) (h : n ≤ 65535) (w : World) : Calls Try.prog 68 #[.int .u64 n] w fun e w' => e = .returned (.tuple #[.int .u8 253, .int .i64 2]) ∧ w = w' := by
  go_enter Try.func68, Try.ntmps68
  go_wp2
  go_ret2
  exact ⟨rfl, rfl⟩
theorem form3 (n : Int) (h0 : 65536 ≤ n) (h : n ≤ 1000000) (w : World) : Calls Try.prog 68 #[.int .u64 n] w fun e w' => e = .returned (.tuple #[.int .u8 254, .int .i64 4]) ∧ w = w' := by
  go_enter Try.func68, Try.ntmps68
  go_wp2
  go_ret2
  exact ⟨rfl, rfl⟩
set_option maxRecDepth 100000 in
set_option maxHeartbeats 400000 in
theorem count_case (base B : Nat) (l : List Int) (n : Nat) (m : Int) (k : Nat) (w : World) (hk : k = 2 ∨ k = 4) (hm : (m = 253 ∨ m = 254)) (hn : n ≤ 1000000) (hf : ∀ W : World, Calls Try.prog 68 #[.int .u64 (n : Int)] W (fun e w' => e = .returned (.tuple #[.int .u8 m, .int .i64 (k : Int)]) ∧ W = w')) (hO : OutP base w B l) (hb : base ≤ B) (hl : l.length ≤ 100000000) :
    Calls Try.prog 62 #[.pointer (some ⟨B, 0, none⟩), .int .i64 (n : Int)] w fun e w' => (∃ v, e = .returned v) ∧ OutP base w' B (l ++ (m :: numb n k)) ∧ Kp8 B w w' ∧ Below base w w' := by
  obtain ⟨v, hX, hR⟩ := hO
  have hlt := hX.lt
  have hXc := hX.get 0 v rfl
  have hXf := hX.fz 0
  have d1 : (m != 0) = true := by rcases hm with rfl | rfl <;> rfl
  have d2 : ¬ m = 0 := by omega
  have d3 : ¬ (n : Int) < 0 := by omega
  have e1 : IntKind.u64.wrap (n : Int) = (n : Int) := by rw [wrap_u64]; omega
  have hfA := Aside0.mk hf; have hXA := Aside0.mk hX; have hRA := Aside0.mk hR
  have hkA := Aside0.mk (show k = 1 ∨ k = 2 ∨ k = 4 ∨ k = 8 by omega)
  obtain ⟨l2, hl2⟩ : ∃ l2, l ++ [m] = l2 := ⟨_, rfl⟩
  have hll : l2.length ≤ 100000001 := by rw [← hl2]; simp; omega
  have hl2A := Aside0.mk hl2
  clear hf hX hR hk hm hl2
  go_enter Try.func62, Try.ntmps62
  go_wp2_with (first | (go_at_call 68; with_reducible refine (hfA.out _).mono ?_; rintro e w1 ⟨rfl, rfl⟩) | ((with_reducible refine gate_dst (N := 27) rfl ?_); at_builtin; refine Kd.R_append (Kd.int .u8) (w0 := w) base rfl (.tmp 24) (.tmp 26) 49 5 (.int .u8 0) 1 rfl Try.underlying49 info_u8 rfl (by decide) (by omega) v l m [.int .u8 m] (fun _ => True) (fun _ => False) rfl rfl rfl (fun _ hk => hk.elim) (fun _ _ => trivial) hRA.out (Below.refl _ _) (by omega) (by omega) ?_; intro v1 w1 hR1 hB1 hg1 _; rw [hl2A.out] at hR1; have hX1 := Aside0.mk (hXA.out.grown hg1 (Kd.R_ne hRA.out hXA.out (by decide))); have hK1 := Aside0.mk ((Kp8.refl B w).grown hRA.out hg1); have hR1A := Aside0.mk hR1; have hB1A := Aside0.mk hB1; obtain ⟨A1, c1, hv1⟩ := Kd.R_slice hR1; subst hv1; clear hXc hXf hR1 hB1 hg1; have hXc := hX1.out.get 0 _ rfl; have hXf := hX1.out.fz 0; have hO2 : OutP base (w1.setCell ⟨B, 0, none⟩ (.slice A1 l2.length c1)) B l2 := ⟨_, hX1.out.set 0 (.slice A1 l2.length c1), Kd.R_set hR1A.out hX1.out (by decide) 0 _⟩; have hNm := Aside0.mk (num_calls base B l2 (n : Int) k _ (by omega) hkA.out hO2 hb (by omega)); have hK2 := Aside0.mk (hK1.out.set 0 (.slice A1 l2.length c1)); have hB2 := Aside0.mk (hB1A.out.setCell (p := ⟨B, 0, none⟩) hb (.slice A1 l2.length c1)); clear hO2) | (go_at_call 64; with_reducible refine hNm.out.mono ?_; rintro e w2 ⟨⟨v2, rfl⟩, hO3, hK3, hB3⟩; have hF := Aside0.mk (⟨hO3, hK2.out.trans hK3, hB2.out.trans hB3⟩ : OutP base w2 B (l2 ++ numb n k) ∧ Kp8 B w w2 ∧ Below base w w2); clear hO3 hK3 hB3))
  have hlist : l ++ (m :: numb n k) = l2 ++ numb n k := by rw [← hl2A.out]; simp
  rw [hlist]
  exact bodyPost_end (results_none rfl _ _ _) rfl ⟨⟨_, rfl⟩, hF.out⟩
theorem num1_calls (base B : Nat) (l : List Int) (n : Int) (w : World) (hn : 0 ≤ n ∧ n < 18446744073709551616) (hO : OutP base w B l) (hb : base ≤ B) (hl : l.length ≤ 1000000000) :
    Calls Try.prog 64 #[.pointer (some ⟨B, 0, none⟩), .int .u64 n, .int .i64 1] w fun e w' => (∃ v, e = .returned v) ∧ OutP base w' B (l ++ numb n 1) ∧ Kp8 B w w' ∧ Below base w w' := num_calls base B l n 1 w hn (by omega) hO hb hl
theorem num4_calls (base B : Nat) (l : List Int) (n : Int) (w : World) (hn : 0 ≤ n ∧ n < 18446744073709551616) (hO : OutP base w B l) (hb : base ≤ B) (hl : l.length ≤ 1000000000) :
    Calls Try.prog 64 #[.pointer (some ⟨B, 0, none⟩), .int .u64 n, .int .i64 4] w fun e w' => (∃ v, e = .returned v) ∧ OutP base w' B (l ++ numb n 4) ∧ Kp8 B w w' ∧ Below base w w' := num_calls base B l n 4 w hn (by omega) hO hb hl
theorem num8_calls (base B : Nat) (l : List Int) (n : Int) (w : World) (hn : 0 ≤ n ∧ n < 18446744073709551616) (hO : OutP base w B l) (hb : base ≤ B) (hl : l.length ≤ 1000000000) :
    Calls Try.prog 64 #[.pointer (some ⟨B, 0, none⟩), .int .u64 n, .int .i64 8] w fun e w' => (∃ v, e = .returned v) ∧ OutP base w' B (l ++ numb n 8) ∧ Kp8 B w w' ∧ Below base w w' := num_calls base B l n 8 w hn (by omega) hO hb hl
set_option maxRecDepth 100000 in
set_option maxHeartbeats 400000 in
theorem count_small (base B : Nat) (l : List Int) (n : Nat) (w : World) (hn : n < 253) (hO : OutP base w B l) (hb : base ≤ B) (hl : l.length ≤ 100000000) :
    Calls Try.prog 62 #[.pointer (some ⟨B, 0, none⟩), .int .i64 (n : Int)] w fun e w' => (∃ v, e = .returned v) ∧ OutP base w' B (l ++ numb n 1) ∧ Kp8 B w w' ∧ Below base w w' := by
  have d3 : ¬ (n : Int) < 0 := by omega
  have e1 : IntKind.u64.wrap (n : Int) = (n : Int) := by rw [wrap_u64]; omega
  have hNm := Aside0.mk (num1_calls base B l (n : Int) w (by omega) hO hb (by omega))
  clear hO
  go_enter Try.func62, Try.ntmps62
  go_wp2_with (first | (go_at_call 68; with_reducible refine (form1 (n : Int) (by omega) (by omega) _).mono ?_; rintro e w1 ⟨rfl, rfl⟩) | (go_at_call 64; (with_reducible refine hNm.out.mono ?_; rintro e w2 ⟨⟨v2, rfl⟩, hF⟩; have hFA := Aside0.mk hF; clear hF)))
  exact bodyPost_end (results_none rfl _ _ _) rfl ⟨⟨_, rfl⟩, hFA.out⟩
theorem count_calls (base B : Nat) (l : List Int) (n : Nat) (w : World) (hn : n ≤ 1000000) (hO : OutP base w B l) (hb : base ≤ B) (hl : l.length ≤ 100000000) :
    Calls Try.prog 62 #[.pointer (some ⟨B, 0, none⟩), .int .i64 (n : Int)] w fun e w' => (∃ v, e = .returned v) ∧ OutP base w' B (l ++ cnt n) ∧ Kp8 B w w' ∧ Below base w w' := by
  unfold cnt
  by_cases h1 : n < 253
  · rw [if_pos h1]; exact count_small base B l n w h1 hO hb hl
  · rw [if_neg h1]
    by_cases h2 : n ≤ 65535
    · rw [if_pos h2]; exact count_case base B l n 253 2 w (.inl rfl) (.inl rfl) hn (fun W => form2 n (by omega) (by omega) W) hO hb hl
    · rw [if_neg h2]; exact count_case base B l n 254 4 w (.inr rfl) (.inr rfl) hn (fun W => form3 n (by omega) (by omega) W) hO hb hl
end Go.Proofs.Ytlgfekllkahfaaa.Pack
