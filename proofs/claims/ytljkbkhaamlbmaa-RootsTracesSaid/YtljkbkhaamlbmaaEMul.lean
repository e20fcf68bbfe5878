/- The product of the field (gf.Mul), for whatever numbers: it leaves the world alone. -/
import Derived.WalkKit
import Derived.Test.YtljkbkhaamlbmaaProg
import Derived.Test.YtljkbkhaamlbmaaWMore
import Derived.Test.YtljkbkhaamlbmaaBits
import Derived.Test.YtljkbkhaamlbmaaGF
set_option linter.unusedVariables false
set_option linter.unusedSimpArgs false
namespace Go.Proofs.Ytljkbkhaamlbmaa.EMul
open Go.RowKit Go.Proofs.YtljkbkhaamlbmaaW.PrintWords Go.Proofs.YtljkbkhaamlbmaaW.PrintMore Go.Proofs.Ytljkbkhaamlbmaa.Bits Go.Proofs.Ytljkbkhaamlbmaa
def shI (a : Int) : Int := if Go.bits .and .u32 a 2147483648 = 0 then (a * 2) % 4294967296 else Go.bits .xor .u32 ((a * 2) % 4294967296) 141
def stepI (a b : Int) (i : Nat) (o : Int) : Int := if Go.bits .and .u32 (b / 2 ^ i) 1 = 1 then Go.bits .xor .u32 (shI o) a else shI o
def mulN (a b : Int) : Nat → Int → Int
  | 0, o => o
  | n + 1, o => mulN a b n (stepI a b n o)
def mulI (a b : Int) : Int := mulN a b 32 0
theorem shift_calls (a : Int) (w : World) : Calls Try.prog 48 #[.int .u32 a] w fun e w' => e = .returned (.int .u32 (shI a)) ∧ w = w' := by
  by_cases c : Go.bits .and .u32 a 2147483648 = 0
  · have c0 : ((Go.bits .and .u32 a 2147483648) == 0) = true := beq_iff_eq.mpr c
    have c1 : ((Go.bits .and .u32 a 2147483648) != 0) = false := bne_eq_false_iff_eq.mpr c
    have e : (a * 2) % 4294967296 = shI a := by unfold shI; rw [if_pos c]
    clear c
    go_enter Try.func48, Try.ntmps48
    go_wp2
    go_ret
    exact ⟨by first | rfl | (simp [e]; done) | (rw [e]), rfl⟩
  · have c0 : ((Go.bits .and .u32 a 2147483648) == 0) = false := beq_eq_false_iff_ne.mpr c
    have c1 : ((Go.bits .and .u32 a 2147483648) != 0) = true := bne_iff_ne.mpr c
    have e : Go.bits .xor .u32 ((a * 2) % 4294967296) 141 = shI a := by unfold shI; rw [if_neg c]
    clear c
    go_enter Try.func48, Try.ntmps48
    go_wp2
    go_ret
    exact ⟨by first | rfl | (simp [e]; done) | (rw [e]), rfl⟩
def Left (a b : Int) (n : Nat) (x : Int) : Prop := mulN a b n x = mulI a b
theorem mul_calls (a b : Int) (w : World) : Calls Try.prog 29 #[.int .u32 a, .int .u32 b] w fun e w' => e = .returned (.int .u32 (mulI a b)) ∧ w = w' := by
  have h0 : Left a b 32 0 := rfl
  go_enter Try.func29, Try.ntmps29
  go_wp2
  go_loop [5, 6] (fun o i => ∃ (n : Nat) (x : Int), n ≤ 32 ∧ i = .int .i64 ((n : Int) - 1) ∧ o = .int .u32 x ∧ Left a b n x) (fun _ i => (intOf i + 1).toNat)
  case atStart => exact ⟨32, 0, Nat.le_refl _, by simp, rfl, h0⟩
  case round =>
    obtain ⟨n, x, hn, rfl, rfl, hl⟩ := hrel
    cases n with
    | zero =>
      have hx : x = mulI a b := hl
      go_wp2
      go_ret
      exact ⟨by first | rfl | (rw [hx]), rfl⟩
    | succ m =>
      have hm : ((m + 1 : Nat) : Int) - 1 = (m : Int) := by omega
      rw [hm]
      clear hm
      have hl2 : Left a b m (stepI a b m x) := hl
      clear hl
      by_cases c : Go.bits .and .u32 (b / 2 ^ m) 1 = 1
      · have c0 : ((Go.bits .and .u32 (b / 2 ^ m) 1) == 1) = true := beq_iff_eq.mpr c
        have e : stepI a b m x = Go.bits .xor .u32 (shI x) a := by unfold stepI; rw [if_pos c]
        rw [e] at hl2
        clear c e
        go_wp2_with (go_at_call 48; refine (shift_calls _ _).mono ?_; rintro e w' ⟨rfl, rfl⟩)
        go_round
        case rel => exact ⟨m, _, by omega, by go_num, rfl, hl2⟩
        case measure => simp [intOf]
      · have c0 : ((Go.bits .and .u32 (b / 2 ^ m) 1) == 1) = false := beq_eq_false_iff_ne.mpr c
        have e : stepI a b m x = shI x := by unfold stepI; rw [if_neg c]
        rw [e] at hl2
        clear c e
        go_wp2_with (go_at_call 48; refine (shift_calls _ _).mono ?_; rintro e w' ⟨rfl, rfl⟩)
        go_round
        case rel => exact ⟨m, _, by omega, by go_num, rfl, hl2⟩
        case measure => simp [intOf]
theorem mul_still (a b : Int) (w : World) : Calls Try.prog 29 #[.int .u32 a, .int .u32 b] w fun e w' => e = .returned (.int .u32 (mulI a b)) ∧ w' = w :=
  (mul_calls a b w).mono fun _ _ h => ⟨h.1, h.2.symm⟩
theorem mul_drawn (a b : Int) (w : World) : Calls Try.prog 29 #[.int .u32 a, .int .u32 b] w fun e w' => e = .returned (.int .u32 (mulI a b)) ∧ Drawn0 w w' :=
  (mul_calls a b w).mono fun _ _ h => ⟨h.1, h.2 ▸ Drawn0.refl _⟩
theorem and31 (x : BitVec 32) : Go.bits .and .u32 (v x) 2147483648 = if x.getLsbD 31 then 2147483648 else 0 := by
  have : (2147483648 : Int) = v (1#32 <<< 31) := by decide
  rw [this, and_v]
  have h2 : x &&& (1#32 <<< 31) = if x.getLsbD 31 then (1#32 <<< 31) else 0#32 := by
    apply BitVec.eq_of_getLsbD_eq; intro i hi
    by_cases e : i = 31
    · subst e
      have h31 : ((1#32 <<< 31 : BitVec 32)).getLsbD 31 = true := by decide
      rw [BitVec.getLsbD_and, h31, Bool.and_true]
      cases x.getLsbD 31
      · rfl
      · exact h31.symm
    · have h31 : ((1#32 <<< 31 : BitVec 32)).getLsbD i = false := by
        rw [BitVec.getLsbD_shiftLeft]; have : i < 31 := by omega
        simp [this]
      rw [BitVec.getLsbD_and, h31, Bool.and_false]
      cases x.getLsbD 31
      · exact (BitVec.getLsbD_zero ..).symm
      · exact h31.symm
  rw [h2]
  cases x.getLsbD 31 <;> rfl
theorem shI_v (x : BitVec 32) : shI (v x) = v (GF.sh x) := by
  unfold shI
  have h3 : (v x * (2 : Int)) % (4294967296 : Int) = v (x <<< 1) := by
    unfold v; rw [BitVec.toNat_shiftLeft, Nat.shiftLeft_eq]
    exact (congrArg (· % (4294967296 : Int)) (mul_cast x.toNat 2)).trans (emod_cast _ 4294967296)
  rw [and31, h3]
  unfold GF.sh
  cases x.getLsbD 31
  · simp
  · have : (141 : Int) = v 0x8d#32 := by decide
    rw [if_neg (by decide), this, xor_v]; rfl
theorem bit_div (b : BitVec 32) (i : Nat) (h : i ≤ 32) : Go.bits .and .u32 (v b / 2 ^ i) 1 = if b.getLsbD i then 1 else 0 := by
  have e1 : (1 : Int) = v 1#32 := by decide
  have e2 : v b / 2 ^ i = v (b >>> i) := by
    unfold v
    rw [pow_cast, ediv_cast, BitVec.toNat_ushiftRight, Nat.shiftRight_eq_div_pow]
  rw [e2, show Go.bits .and .u32 (v (b >>> i)) 1 = Go.bits .and .u32 (v (b >>> i)) (v 1#32) by rw [← e1], and_v, bit_v]
theorem mulN_v (a b : BitVec 32) : ∀ n, n ≤ 32 → mulN (v a) (v b) n (v (GF.mulH a b (32 - n))) = v (GF.mul a b) := by
  intro n
  induction n with
  | zero => intro _; rfl
  | succ n ih =>
    intro hn
    have := ih (by omega)
    rw [← this]
    simp only [mulN]
    congr 1
    have e2 : 32 - n = (32 - (n + 1)) + 1 := by omega
    rw [e2]; simp only [GF.mulH]
    have e3 : 31 - (32 - (n + 1)) = n := by omega
    rw [e3]
    unfold stepI
    rw [bit_div b n (by omega), shI_v]
    cases b.getLsbD n
    · simp
    · rw [if_pos (by decide), xor_v]; rfl
theorem mulI_v (a b : BitVec 32) : mulI (v a) (v b) = v (GF.mul a b) := mulN_v a b 32 (Nat.le_refl _)
end Go.Proofs.Ytljkbkhaamlbmaa.EMul
