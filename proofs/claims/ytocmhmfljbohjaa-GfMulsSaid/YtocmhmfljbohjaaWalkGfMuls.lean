/- The products, squares and sums of all elements, by tables, too, are the document's.
   Conditions: none. -/
import Derived.Test.YtocmhmfljbohjaaQx1
import Derived.Test.YtocmhmfljbohjaaQx2
import Derived.Test.YtocmhmfljbohjaaQx3
import Derived.Test.YtocmhmfljbohjaaCGf
import Derived.Test.YtocmhmfljbohjaaCGfRef
import Derived.Test.YtocmhmfljbohjaaETabV
set_option linter.unusedVariables false
set_option linter.unusedSimpArgs false
namespace Go.Proofs.Ytocmhmfljbohjaa.Walk
open Go.RowKit Go.Proofs.Ytocmhmfljbohjaa.Q Go.Proofs.YtocmhmfljbohjaaW.PrintWords Go.Proofs.YtocmhmfljbohjaaW.PrintLast Go.Proofs.YtocmhmfljbohjaaW.PrintMore Go.Proofs.Ytocmhmfljbohjaa.Bits Go.Proofs.Ytocmhmfljbohjaa ETab EMul
theorem malive : gossamerlaw01_alive.f 33 = some true := by
  unfold gossamerlaw01_alive.f
  have h : gf_Mul.f 33 2 2147483648 = some (v (GF.mul 2#32 2147483648#32)) := mul_v 2#32 2147483648#32 33 (by omega)
  rw [h]; decide +kernel
/-- the sum of the first i -/
def sums (l : List Int) : Nat → Int
  | 0 => 0
  | i + 1 => Go.bits .xor .u32 (sums l i) (rd l (i : Int))
theorem sum_loop (l : List Int) (hl : l.length ≤ 9223372036854775806) : ∀ (n i : Nat), i + n = l.length → ∀ k, n < k → gf_Sum.l0 k (sums l i) l (l.length : Int) (i : Int) = some (sums l l.length) := by
  intro n
  induction n with
  | zero =>
    intro i hi k hk
    obtain ⟨k, rfl⟩ : ∃ m, k = m + 1 := ⟨k - 1, by omega⟩
    simp only [gf_Sum.l0]; rw [if_neg (by omega)]
    have : i = l.length := by omega
    rw [this]
  | succ n ih =>
    intro i hi k hk
    obtain ⟨k, rfl⟩ : ∃ m, k = m + 1 := ⟨k - 1, by omega⟩
    have hw : wrap64 ((i : Int) + 1) = ((i + 1 : Nat) : Int) := by rw [wrap64_small] <;> omega
    simp only [gf_Sum.l0]
    rw [if_pos (by omega), if_pos (by omega), if_pos (by omega), hw]
    exact ih (i + 1) (by omega) k (by omega)
theorem sum_all (l : List Int) (hl : l.length ≤ 100) : gf_Sum.f (l.length + 1) l = some (sums l l.length) :=
  sum_loop l (by omega) l.length 0 (by omega) (l.length + 1) (by omega)
theorem sums_v (l : List Int) (hw : ∀ x ∈ l, (Lit.int .u32 x).wf = true) : ∀ i, i ≤ l.length → ∃ s, sums l i = v s := by
  intro i
  induction i with
  | zero => intro _; exact ⟨0#32, rfl⟩
  | succ i ih =>
    intro hi
    obtain ⟨s, hs⟩ := ih (by omega)
    have hx : rd l (i : Int) ∈ l := by unfold rd; simp [show i < l.length by omega]
    obtain ⟨x, hx2⟩ := v_of (wf_u32 (hw _ hx)).1 (wf_u32 (hw _ hx)).2
    exact ⟨s ^^^ x, by simp only [sums]; rw [hs, hx2, xor_v]⟩
theorem drawn_below' {B : Nat} {W W1 : World} (h : Below B W W1) (n : Nat) : Below B W (W1.drewN n) := h.trans ⟨rfl, rfl, rfl, Nat.le_refl _, fun _ _ => rfl⟩
set_option maxRecDepth 100000 in
set_option maxHeartbeats 2000000 in
theorem muls_in (a b : BitVec 32) (A2 : Option Addr) (c2 : Nat) (l2 : List Int) (w : World) (hr : Kd.C (Kd.int .u32) w A2 l2.length l2) (hc : l2.length ≤ c2) (hw2 : ∀ x ∈ l2, (Lit.int .u32 x).wf = true) :
    Calls Try.prog 7 #[.int .u32 (v a), .int .u32 (v b), .slice A2 l2.length c2] w fun e w' => e = .returned (.bool true) ∧ Below w.heap.size w w' := by
  by_cases hlen : 100 < l2.length
  · have hd : decide ((l2.length : Int) > 100) = true := decide_eq_true (by omega)
    go_enter Try.func7, Try.ntmps7
    go_wp2_with fail
    refine (gossamerlaw01_alive.calls 33 true _ malive).mono ?_
    rintro e w1 ⟨rfl, ⟨n1, rfl⟩⟩
    go_wp2
    go_ret
    exact ⟨rfl, drawn_below' (Below.refl _ _) _⟩
  · have hd : decide ((l2.length : Int) > 100) = false := decide_eq_false (by omega)
    have hd2 : decide ((100 : Int) < (l2.length : Int)) = false := decide_eq_false (by omega)
    obtain ⟨s, hs⟩ := sums_v l2 hw2 l2.length (Nat.le_refl _)
    have hS := sum_all l2 (by omega)
    go_enter Try.func7, Try.ntmps7
    go_wp2_with fail
    refine (gossamerlaw01_alive.calls 33 true _ malive).mono ?_
    rintro e w1 ⟨rfl, ⟨n1, rfl⟩⟩
    have hr1 : Kd.C (Kd.int .u32) (w.drewN n1) A2 l2.length l2 := Kd.C_drewN hr _
    clear hS
    go_wp2
    go_loop [7, 18] (fun o i => ∃ (k : Nat), k ≤ l2.length ∧ i = .int .i64 k ∧ o = .int .u32 (sums l2 k)) (fun _ i => l2.length - (intOf i).toNat)
    case atStart => exact ⟨0, Nat.zero_le _, by simp, rfl⟩
    case round =>
      obtain ⟨k, hk, rfl, rfl⟩ := hrel
      by_cases hlt : k < l2.length
      · obtain ⟨ad, hA, hcell⟩ := Kd.at_int hr1 (k : Int) (by omega) (by omega)
        subst hA
        have hb4 : decide ((k : Int) < (l2.length : Int)) = true := decide_eq_true (by omega)
        have g1 : (k : Int) < (l2.length : Int) := by omega
        have g0 : (0 : Int) ≤ (k : Int) := by omega
        have hcell2 : (w.drewN n1).cell? (ad.add k) = some (.int .u32 (rd l2 (k : Int))) := by simpa using hcell
        have hk3 : (k : Int) < 100 := by omega
        clear hd hd2 hlen
        go_wp2
        go_round
        case rel => exact ⟨k + 1, by omega, by go_num, rfl⟩
        case measure => simp [intOf]; omega
      · obtain rfl : k = l2.length := by omega
        have hb4 : decide ((l2.length : Int) < (l2.length : Int)) = false := decide_eq_false (by omega)
        rw [hs]
        go_wp2_with fail
        refine (by_calls mulI mul_still (v a) _).mono ?_
        rintro e w4 ⟨rfl, hg4, hb4'⟩
        have hB4 : Below w.heap.size w w4 := ⟨hb4'.os, hb4'.tape, hb4'.output, hb4'.size, hb4'.block⟩
        have hr4 : Kd.C (Kd.int .u32) w4 A2 l2.length l2 := Kd.C_below hr hB4
        go_wp2_with fail
        refine (gf_Mul.calls 33 (v a) (v b) _ _ (mul_v a b 33 (by omega))).mono ?_
        rintro e w5 ⟨rfl, ⟨n5, rfl⟩⟩
        go_wp2_with fail
        refine (gossamerref01_Mul.calls 66 (v a) (v b) _ _ (rmul_v a b 66 (by omega))).mono ?_
        rintro e w6 ⟨rfl, ⟨n6, rfl⟩⟩
        go_wp2_with fail
        refine (gf_Square.calls 33 (v a) _ _ (square_v a 33 (by omega))).mono ?_
        rintro e w7 ⟨rfl, ⟨n7, rfl⟩⟩
        go_wp2_with fail
        refine (gossamerref01_Mul.calls 66 (v a) (v a) _ _ (rmul_v a a 66 (by omega))).mono ?_
        rintro e w8 ⟨rfl, ⟨n8, rfl⟩⟩
        have hq : GF.sq a = GF.mul a a := rfl
        rw [hq]
        clear hq
        go_wp2_with fail
        refine (gf_Sum.calls (l2.length + 1) A2 c2 l2 (v s) _ (Kd.C_drewN hr4 _) hc (by rw [← hs]; exact sum_all l2 (by omega))).mono ?_
        rintro e w9 ⟨rfl, ⟨n9, rfl⟩⟩
        go_wp2_with fail
        refine (tmul_calls mulI (v a) (v b) w.heap.size (w4.drewN (n5 + n6 + n7 + n8 + n9)) hg4).mono ?_
        rintro e w10 ⟨rfl, ⟨n10, rfl⟩⟩
        rw [tm_v]
        go_wp2_with fail
        refine (gossamerref01_Mul.calls 66 (v a) (v b) _ _ (rmul_v a b 66 (by omega))).mono ?_
        rintro e w11 ⟨rfl, ⟨n11, rfl⟩⟩
        go_wp2_with fail
        refine (tmul_calls mulI (v a) (v s) w.heap.size (w4.drewN (n5 + n6 + n7 + n8 + n9 + n10 + n11)) hg4).mono ?_
        rintro e w12 ⟨rfl, ⟨n12, rfl⟩⟩
        rw [tm_v]
        go_wp2_with fail
        refine (gossamerref01_Mul.calls 66 (v a) (v s) _ _ (rmul_v a s 66 (by omega))).mono ?_
        rintro e w13 ⟨rfl, ⟨n13, rfl⟩⟩
        go_wp2
        go_ret
        exact ⟨rfl, drawn_below' hB4 _⟩
theorem GfMuls (a0 a1 : Int) (a2 : Option Addr) (len2 cap2 : Nat) (z2 : List Int) (w : World) (w0 : (Lit.int .u32 a0).wf = true) (w1 : (Lit.int .u32 a1).wf = true)
    (w2 : (a2 = none ∧ len2 = 0 ∧ cap2 = 0 ∧ z2 = []) ∨ ∃ x, a2 = some x ∧ len2 ≤ cap2 ∧ cap2 ≤ maxLen ∧ z2.length = cap2 ∧ (∀ i, i < z2.length → w.cell? (x.add i) = some (.int .u32 (z2.getD i 0))) ∧ ∀ n ∈ z2, (Lit.int .u32 n).wf = true) (y2 : len2 * 4 ≤ 140737488351232) :
    Calls Try.prog 7 #[.int .u32 a0, .int .u32 a1, .slice a2 len2 cap2] w fun e w' => e = .returned (.bool true) ∧ Below w.heap.size w w' := by
  obtain ⟨a, rfl⟩ := v_of (wf_u32 w0).1 (wf_u32 w0).2
  obtain ⟨b, rfl⟩ := v_of (wf_u32 w1).1 (wf_u32 w1).2
  obtain ⟨l2, rfl, hr2, hm2, hw2, hc2⟩ := ReadsInt.ofRowC w2
  exact muls_in a b a2 cap2 l2 w (Kd.C_of_reads (d := (0 : Int)) (h1 := fun _ => rfl) hr2) hc2 hw2
end Go.Proofs.Ytocmhmfljbohjaa.Walk
