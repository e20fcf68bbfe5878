import Derived.Test.YtljkbkhaamlbmaaProg
import Derived.Below
import Derived.Deep.Draws
import Derived.Deep.AppendLies
import Derived.Maps.AppendAt
import Derived.OwnWalk
import Derived.Laws.BytesArg
import Derived.Laws.MakeOwn
import Derived.Laws.OwnMore
import Derived.Deep.OwnRows
import Derived.Tactics
import Derived.Lib.ConvBytes
import Derived.Laws.Slices
import Derived.WalkKit
import Derived.KernelRfl
import Derived.RowKit3
import Derived.Deep.LoopGhost
import Derived.Deep.QuietTactic
import Derived.BigQuiet
import Derived.WideLaws
import Derived.Deep.DeepCutAuto
import Derived.Deep.CutBlock
import Derived.Deep.RegionHeld3
import Derived.Laws.Rows
import Derived.Lib.AppendStr
import Derived.ArgAppend
import Derived.Laws.IdiomCopy
import Derived.OrdersHeld
import Derived.Laws.BitsLemmas
import Derived.RowKit
import Derived.Lib.LazyBuf
import Derived.Test.YtljkbkhaamlbmaaEAt
import Derived.Test.YtljkbkhaamlbmaaEMul
import Derived.Test.YtljkbkhaamlbmaaETab
import Derived.Test.YtljkbkhaamlbmaaWWords
import Derived.Test.YtljkbkhaamlbmaaWLast
import Derived.Test.YtljkbkhaamlbmaaWTab
import Derived.Test.YtljkbkhaamlbmaaWFour
import Derived.Test.YtljkbkhaamlbmaaWQPut
import Derived.Test.YtljkbkhaamlbmaaWApart
import Derived.Test.YtljkbkhaamlbmaaWArr
import Derived.Test.YtljkbkhaamlbmaaWZeros
import Derived.Test.YtljkbkhaamlbmaaWFoot
import Derived.Test.YtljkbkhaamlbmaaWKept
import Derived.Test.YtljkbkhaamlbmaaWShare
import Derived.Test.YtljkbkhaamlbmaaWN
import Derived.Test.YtljkbkhaamlbmaaWFootNe
import Derived.Test.YtljkbkhaamlbmaaWAt
import Derived.Test.YtljkbkhaamlbmaaWEqStruct
import Derived.Test.YtljkbkhaamlbmaaWRepsOne
import Derived.Test.YtljkbkhaamlbmaaWInv
import Derived.Test.YtljkbkhaamlbmaaWInvWords
import Derived.Test.YtljkbkhaamlbmaaWGuard
import Derived.Test.YtljkbkhaamlbmaaWNEv
import Derived.Test.YtljkbkhaamlbmaaWMore
import Derived.Test.YtljkbkhaamlbmaaGFRef
import Derived.Test.YtljkbkhaamlbmaaBits
import Derived.RangeFuncBox
import Derived.OrdersIn
import Derived.RangeFuncCalls
namespace Go.Proofs.Ytljkbkhaamlbmaa.Q
open Go.RowKit Go.Proofs.YtljkbkhaamlbmaaW.PrintWords Go.Proofs.YtljkbkhaamlbmaaW.PrintLast Go.Proofs.YtljkbkhaamlbmaaW.PrintMore
attribute [local go_sem] max2_int min2_int max_two min_two max_three min_three max_four min_four   -- for this text's walks alone
set_option linter.unusedVariables false
set_option linter.unusedSimpArgs false



def errW : Option Int → Value
 | none => .nilIface
 | some c => .iface 0 (.int .i64 c)
theorem errW_none : errW none = .nilIface := rfl
theorem errW_some (c : Int) : errW (some c) = .iface 0 (.int .i64 c) := rfl

theorem px_len_ {α : Type} {R : α → List Value → Prop} {size : Nat} {w : World} {A : Option Addr} {n m : Nat} {ps : List α} (h : ReadsRow R size w A n ps) (e : n = m) : ReadsRow R size w A m ps := e ▸ h

end Go.Proofs.Ytljkbkhaamlbmaa.Q
namespace Go.Proofs.Ytljkbkhaamlbmaa.Q
open Go.RowKit Go.Proofs.YtljkbkhaamlbmaaW.PrintWords Go.Proofs.YtljkbkhaamlbmaaW.PrintLast Go.Proofs.YtljkbkhaamlbmaaW.PrintMore
attribute [local go_sem] max2_int min2_int max_two min_two max_three min_three max_four min_four   -- for this text's walks alone
set_option linter.unusedVariables false
set_option linter.unusedSimpArgs false

def gossamerref01_rest.l0 : Nat → Int → Int → Option (Int)
 | 0, _, _ => none
 | k + 1, x0, x3 => if x3 ≥ 32 then (if 0 ≤ (IntKind.u64.wrap (x3)) then (if (Int.tmod (shr .u64 x0 (IntKind.u64.wrap (x3))) 2) = 1 then (if 0 ≤ (IntKind.u64.wrap (wrap64 (x3 - 32))) then (gossamerref01_rest.l0 k (Go.bits .xor .u64 x0 (shl .u64 4294967437 (IntKind.u64.wrap (wrap64 (x3 - 32))))) (wrap64 (x3 - 1))) else (none)) else (gossamerref01_rest.l0 k x0 (wrap64 (x3 - 1)))) else (none)) else (some ((x0) % 4294967296))
def gossamerref01_rest.f (k : Nat) (a0 : Int) : Option (Int) := gossamerref01_rest.l0 k a0 63
set_option maxHeartbeats 8000000 in
set_option maxRecDepth 100000 in
theorem gossamerref01_rest.calls (k : Nat) (a0 : Int) (r : Int) (w : World) (h : gossamerref01_rest.f k a0 = some r) :
  Calls Try.prog 81 #[.int .u64 a0] w fun e w' => e = .returned (.int .u32 r) ∧ Drawn0 w w' := by
 have H : (gossamerref01_rest.l0 k a0 63) = some r := h
 clear h
 have H' := Aside0.mk H
 clear H
 go_enter Try.func81, Try.ntmps81
 go_wp2
 go_loopg [0, 3] k (fun kq v0 v3 w' => ∃ (x0_1 : Int) (x3_1 : Int), v0 = .int .u64 x0_1 ∧ v3 = .int .i64 x3_1 ∧ Aside0 (gossamerref01_rest.l0 kq x0_1 x3_1 = some r) ∧ Aside0 (kq ≤ k) ∧ Drawn0 w w')
 case atStart => exact ⟨(a0), (63), (by first | rfl | (simp; done) | (simp [*]; done)), (by first | rfl | (simp; done) | (simp [*]; done)), H', ⟨Nat.le_refl _⟩, by repeat (first | exact Drawn0.refl _ | apply Drawn0.step)⟩
 case round =>
  clear H'
  obtain ⟨x0_1, x3_1, rfl, rfl, HA, HK1, ⟨m1, rfl⟩⟩ := hrel
  cases gk with
  | zero => exact absurd HA.out (by simp [gossamerref01_rest.l0])
  | succ k1 =>
   have H := HA.out
   clear HA
   simp only [gossamerref01_rest.l0] at H
   by_cases c2 : x3_1 ≥ 32
   ·rw [if_pos c2] at H
    have c2b0 : decide (32 ≤ x3_1) = true := decide_eq_true c2
    clear c2
    obtain ⟨ji3, hji3⟩ : ∃ j_ : Int, (IntKind.u64.wrap (x3_1)) = j_ := ⟨_, rfl⟩
    replace H : (if 0 ≤ (ji3) then (if (Int.tmod (shr .u64 x0_1 (ji3)) 2) = 1 then (if 0 ≤ (IntKind.u64.wrap (wrap64 (x3_1 - 32))) then (gossamerref01_rest.l0 k1 (Go.bits .xor .u64 x0_1 (shl .u64 4294967437 (IntKind.u64.wrap (wrap64 (x3_1 - 32))))) (wrap64 (x3_1 - 1))) else (none)) else (gossamerref01_rest.l0 k1 x0_1 (wrap64 (x3_1 - 1)))) else (none)) = some r := by first | (rw [hji3] at H; exact H) | (simp only [hji3] at H ⊢; exact H)
    by_cases c4 : 0 ≤ (ji3)
    ·rw [if_pos c4] at H
     have c4b0 := eq_true c4
     have c4b1 : decide (0 ≤ (ji3)) = true := decide_eq_true c4
     clear c4
     obtain ⟨ji5, hji5⟩ : ∃ j_ : Int, (shr .u64 x0_1 (ji3)) = j_ := ⟨_, rfl⟩
     replace H : (if (Int.tmod (ji5) 2) = 1 then (if 0 ≤ (IntKind.u64.wrap (wrap64 (x3_1 - 32))) then (gossamerref01_rest.l0 k1 (Go.bits .xor .u64 x0_1 (shl .u64 4294967437 (IntKind.u64.wrap (wrap64 (x3_1 - 32))))) (wrap64 (x3_1 - 1))) else (none)) else (gossamerref01_rest.l0 k1 x0_1 (wrap64 (x3_1 - 1)))) = some r := by first | (rw [hji5] at H; exact H) | (simp only [hji5] at H ⊢; exact H)
     have hji5_ : (x0_1 / 2 ^ min (ji3).toNat 64) = ji5 := hji5
     have hji5z : (ji3) ≤ 64 → (x0_1 / 2 ^ (ji3).toNat) = ji5 := shr_small hji5
     by_cases c6 : (Int.tmod (ji5) 2) = 1
     ·rw [if_pos c6] at H
      have c6b0 : ((Int.tmod (ji5) 2) == 1) = true := beq_iff_eq.mpr c6
      have c6b1 : ((Int.tmod (ji5) 2) != 1) = false := bne_eq_false_iff_eq.mpr c6
      clear c6
      obtain ⟨ji7, hji7⟩ : ∃ j_ : Int, (IntKind.u64.wrap (wrap64 (x3_1 - 32))) = j_ := ⟨_, rfl⟩
      replace H : (if 0 ≤ (ji7) then (gossamerref01_rest.l0 k1 (Go.bits .xor .u64 x0_1 (shl .u64 4294967437 (ji7))) (wrap64 (x3_1 - 1))) else (none)) = some r := by first | (rw [hji7] at H; exact H) | (simp only [hji7] at H ⊢; exact H)
      by_cases c8 : 0 ≤ (ji7)
      ·rw [if_pos c8] at H
       have c8b0 := eq_true c8
       have c8b1 : decide (0 ≤ (ji7)) = true := decide_eq_true c8
       clear c8
       obtain ⟨ji9, hji9⟩ : ∃ j_ : Int, (shl .u64 4294967437 (ji7)) = j_ := ⟨_, rfl⟩
       replace H : (gossamerref01_rest.l0 k1 (Go.bits .xor .u64 x0_1 (ji9)) (wrap64 (x3_1 - 1))) = some r := by first | (rw [hji9] at H; exact H) | (simp only [hji9] at H ⊢; exact H)
       have hji9_ : (IntKind.u64.wrap (4294967437 * 2 ^ min (ji7).toNat 64)) = ji9 := hji9
       have hji9z : (ji7) ≤ 64 → (IntKind.u64.wrap (4294967437 * 2 ^ (ji7).toNat)) = ji9 := shl_small hji9
       have H' := Aside0.mk H
       clear H
       go_wp2
       go_roundg k1
       case measure => have := HK1.out; omega
       case rel => exact ⟨(Go.bits .xor .u64 x0_1 (ji9)), (wrap64 (x3_1 - 1)), (by first | rfl | (simp; done) | (simp only [← hji9] <;> (first | rfl | simp)) | (simp [*]; done)), (by first | rfl | (simp; done) | (simp [*]; done)), H', ⟨by have := HK1.out; omega⟩, by repeat (first | exact Drawn0.refl _ | apply Drawn0.step)⟩
      ·rw [if_neg c8] at H
       exact absurd H (by simp)
     ·rw [if_neg c6] at H
      have c6b0 : ((Int.tmod (ji5) 2) == 1) = false := beq_eq_false_iff_ne.mpr c6
      have c6b1 : ((Int.tmod (ji5) 2) != 1) = true := bne_iff_ne.mpr c6
      have H' := Aside0.mk H
      clear H
      go_wp2
      go_roundg k1
      case measure => have := HK1.out; omega
      case rel => exact ⟨(x0_1), (wrap64 (x3_1 - 1)), (by first | rfl | (simp; done) | (simp [*]; done)), (by first | rfl | (simp; done) | (simp [*]; done)), H', ⟨by have := HK1.out; omega⟩, by repeat (first | exact Drawn0.refl _ | apply Drawn0.step)⟩
    ·rw [if_neg c4] at H
     exact absurd H (by simp)
   ·rw [if_neg c2] at H
    have c2b0 : decide (32 ≤ x3_1) = false := decide_eq_false c2
    clear c2
    obtain rfl := Option.some.inj H
    go_wp2
    go_ret
    exact ⟨by first | rfl | (simp; done) | (simp [*]; done), by repeat (first | exact Drawn0.refl _ | apply Drawn0.step)⟩

def gossamerref01_Mul.l0 : Nat → Int → Int → Int → Int → Option (Int)
 | 0, _, _, _, _ => none
 | k + 1, x0, x1, x5, x6 => if x6 < 32 then (if 0 ≤ (IntKind.u64.wrap (x6)) then (if (Int.tmod (shr .u32 x1 (IntKind.u64.wrap (x6))) 2) = 1 then (gossamerref01_Mul.l0 k x0 x1 (Go.bits .xor .u64 x5 (shl .u64 (IntKind.u64.wrap (x0)) (IntKind.u64.wrap (x6)))) (wrap64 (x6 + 1))) else (gossamerref01_Mul.l0 k x0 x1 x5 (wrap64 (x6 + 1)))) else (none)) else ((gossamerref01_rest.f k x5).bind fun t101 => (some t101))
def gossamerref01_Mul.f (k : Nat) (a0 : Int) (a1 : Int) : Option (Int) := gossamerref01_Mul.l0 k a0 a1 0 0
set_option maxHeartbeats 8000000 in
set_option maxRecDepth 100000 in
theorem gossamerref01_Mul.calls (k : Nat) (a0 : Int) (a1 : Int) (r : Int) (w : World) (h : gossamerref01_Mul.f k a0 a1 = some r) :
  Calls Try.prog 68 #[.int .u32 a0, .int .u32 a1] w fun e w' => e = .returned (.int .u32 r) ∧ Drawn0 w w' := by
 have H : (gossamerref01_Mul.l0 k a0 a1 0 0) = some r := h
 clear h
 have H' := Aside0.mk H
 clear H
 go_enter Try.func68, Try.ntmps68
 go_wp2
 go_loopg [5, 6] k (fun kq v5 v6 w' => ∃ (x5_1 : Int) (x6_1 : Int), v5 = .int .u64 x5_1 ∧ v6 = .int .i64 x6_1 ∧ Aside0 (gossamerref01_Mul.l0 kq a0 a1 x5_1 x6_1 = some r) ∧ Aside0 (kq ≤ k) ∧ Drawn0 w w')
 case atStart => exact ⟨(0), (0), (by first | rfl | (simp; done) | (simp [*]; done)), (by first | rfl | (simp; done) | (simp [*]; done)), H', ⟨Nat.le_refl _⟩, by repeat (first | exact Drawn0.refl _ | apply Drawn0.step)⟩
 case round =>
  clear H'
  try clear p2
  obtain ⟨x5_1, x6_1, rfl, rfl, HA, HK1, ⟨m1, rfl⟩⟩ := hrel
  cases gk with
  | zero => exact absurd HA.out (by simp [gossamerref01_Mul.l0])
  | succ k1 =>
   have H := HA.out
   clear HA
   simp only [gossamerref01_Mul.l0] at H
   by_cases c3 : x6_1 < 32
   ·rw [if_pos c3] at H
    have c3b0 : decide (x6_1 < 32) = true := decide_eq_true c3
    clear c3
    obtain ⟨ji4, hji4⟩ : ∃ j_ : Int, (IntKind.u64.wrap (x6_1)) = j_ := ⟨_, rfl⟩
    replace H : (if 0 ≤ (ji4) then (if (Int.tmod (shr .u32 a1 (ji4)) 2) = 1 then (gossamerref01_Mul.l0 k1 a0 a1 (Go.bits .xor .u64 x5_1 (shl .u64 (IntKind.u64.wrap (a0)) (ji4))) (wrap64 (x6_1 + 1))) else (gossamerref01_Mul.l0 k1 a0 a1 x5_1 (wrap64 (x6_1 + 1)))) else (none)) = some r := by first | (rw [hji4] at H; exact H) | (simp only [hji4] at H ⊢; exact H)
    by_cases c5 : 0 ≤ (ji4)
    ·rw [if_pos c5] at H
     have c5b0 := eq_true c5
     have c5b1 : decide (0 ≤ (ji4)) = true := decide_eq_true c5
     clear c5
     obtain ⟨ji6, hji6⟩ : ∃ j_ : Int, (shr .u32 a1 (ji4)) = j_ := ⟨_, rfl⟩
     replace H : (if (Int.tmod (ji6) 2) = 1 then (gossamerref01_Mul.l0 k1 a0 a1 (Go.bits .xor .u64 x5_1 (shl .u64 (IntKind.u64.wrap (a0)) (ji4))) (wrap64 (x6_1 + 1))) else (gossamerref01_Mul.l0 k1 a0 a1 x5_1 (wrap64 (x6_1 + 1)))) = some r := by first | (rw [hji6] at H; exact H) | (simp only [hji6] at H ⊢; exact H)
     have hji6_ : (a1 / 2 ^ min (ji4).toNat 32) = ji6 := hji6
     have hji6z : (ji4) ≤ 32 → (a1 / 2 ^ (ji4).toNat) = ji6 := shr_small hji6
     by_cases c7 : (Int.tmod (ji6) 2) = 1
     ·rw [if_pos c7] at H
      have c7b0 : ((Int.tmod (ji6) 2) == 1) = true := beq_iff_eq.mpr c7
      have c7b1 : ((Int.tmod (ji6) 2) != 1) = false := bne_eq_false_iff_eq.mpr c7
      clear c7
      have c8b0 := eq_true (of_decide_eq_true (by first | (with_reducible assumption) | assumption) : 0 ≤ (ji4))
      obtain ⟨ji9, hji9⟩ : ∃ j_ : Int, (shl .u64 (IntKind.u64.wrap (a0)) (ji4)) = j_ := ⟨_, rfl⟩
      replace H : (gossamerref01_Mul.l0 k1 a0 a1 (Go.bits .xor .u64 x5_1 (ji9)) (wrap64 (x6_1 + 1))) = some r := by first | (rw [hji9] at H; exact H) | (simp only [hji9] at H ⊢; exact H)
      have hji9_ : (IntKind.u64.wrap ((IntKind.u64.wrap (a0)) * 2 ^ min (ji4).toNat 64)) = ji9 := hji9
      have hji9z : (ji4) ≤ 64 → (IntKind.u64.wrap ((IntKind.u64.wrap (a0)) * 2 ^ (ji4).toNat)) = ji9 := shl_small hji9
      have H' := Aside0.mk H
      clear H
      go_wp2
      go_roundg k1
      case measure => have := HK1.out; omega
      case rel => exact ⟨(Go.bits .xor .u64 x5_1 (ji9)), (wrap64 (x6_1 + 1)), (by first | rfl | (simp; done) | (simp only [← hji9] <;> (first | rfl | simp)) | (simp [*]; done)), (by first | rfl | (simp; done) | (simp [*]; done)), H', ⟨by have := HK1.out; omega⟩, by repeat (first | exact Drawn0.refl _ | apply Drawn0.step)⟩
     ·rw [if_neg c7] at H
      have c7b0 : ((Int.tmod (ji6) 2) == 1) = false := beq_eq_false_iff_ne.mpr c7
      have c7b1 : ((Int.tmod (ji6) 2) != 1) = true := bne_iff_ne.mpr c7
      have H' := Aside0.mk H
      clear H
      go_wp2
      go_roundg k1
      case measure => have := HK1.out; omega
      case rel => exact ⟨(x5_1), (wrap64 (x6_1 + 1)), (by first | rfl | (simp; done) | (simp [*]; done)), (by first | rfl | (simp; done) | (simp [*]; done)), H', ⟨by have := HK1.out; omega⟩, by repeat (first | exact Drawn0.refl _ | apply Drawn0.step)⟩
    ·rw [if_neg c5] at H
     exact absurd H (by simp)
   ·rw [if_neg c3] at H
    have c3b0 : decide (x6_1 < 32) = false := decide_eq_false c3
    clear c3
    replace H := Option.bind_eq_some_iff.mp H
    obtain ⟨t101, A100, H⟩ := H
    replace H : (some t101) = some r := H
    have A10 := Aside0.mk A100
    clear A100
    obtain rfl := Option.some.inj H
    go_wp2_with (first | ((with_reducible refine gate_callee (f := 81) rfl ?_); refine goesL_ (some 25) rfl rfl Try.func81 (by kernel_rfl) rfl #[.int .u64 x5_1] rfl (by (try simp only [List.map_toArray, List.map_cons, List.map_nil]); first | done | rfl | (simp only [List.length_drop, List.length_take]; rfl)) ?_; (with_reducible refine (gossamerref01_rest.calls k1 x5_1 t101 _ A10.out).mono ?_); rintro e w' ⟨rfl, ⟨nd, rfl⟩⟩; refine ⟨_, rfl, ?_⟩))
    go_ret
    exact ⟨by first | rfl | (simp; done) | (simp [*]; done), by repeat (first | exact Drawn0.refl _ | apply Drawn0.step)⟩

end Go.Proofs.Ytljkbkhaamlbmaa.Q
/- What the printed functions of the document's field come to, at words that are spelled as bit vectors: products. -/
set_option linter.unusedVariables false
set_option linter.unusedSimpArgs false
namespace Go.Proofs.Ytljkbkhaamlbmaa.Q
open Go.RowKit Go.Proofs.YtljkbkhaamlbmaaW.PrintWords Go.Proofs.YtljkbkhaamlbmaaW.PrintLast Go.Proofs.YtljkbkhaamlbmaaW.PrintMore Go.Proofs.Ytljkbkhaamlbmaa.Bits Go.Proofs.Ytljkbkhaamlbmaa
theorem tmod_q (x : BitVec 64) : Int.tmod (q x) 2 = q x % 2 := Int.tmod_eq_emod_of_nonneg (q_lt x).1
theorem tmod_v (x : BitVec 32) : Int.tmod (v x) 2 = v x % 2 := Int.tmod_eq_emod_of_nonneg (v_lt x).1
theorem wrapu_nat {n : Nat} (h : n < 18446744073709551616) : IntKind.u64.wrap (n : Int) = (n : Int) := by rw [wrap_u64]; omega
theorem bitv_q (x : BitVec 32) (i : Nat) : v (x >>> i) % 2 = if x.getLsbD i then 1 else 0 := by
  have e : v (x >>> i) % 2 = ((x.toNat / 2 ^ i % 2 : Nat) : Int) := by
    unfold v
    rw [BitVec.toNat_ushiftRight, Nat.shiftRight_eq_div_pow]
    exact emod_cast _ 2
  rw [e, BitVec.getLsbD, Nat.testBit_eq_decide_div_mod_eq]
  by_cases h : x.toNat / 2 ^ i % 2 = 1
  · simp [h]
  · have h0 : x.toNat / 2 ^ i % 2 = 0 := by omega
    simp [h0]
theorem rest_loop : ∀ (n : Nat) (a : BitVec 64) (i : Int), n ≤ 32 → i = 31 + (n : Int) → ∀ k, n < k → gossamerref01_rest.l0 k (q a) i = some (v ((GF.restH n a).setWidth 32)) := by
  intro n
  induction n with
  | zero =>
    intro a i _ hi k hk
    obtain ⟨k, rfl⟩ : ∃ m, k = m + 1 := ⟨k - 1, by omega⟩
    simp only [gossamerref01_rest.l0]; rw [if_neg (by omega)]
    congr 1
  | succ n ih =>
    intro a i hn hi k hk
    obtain ⟨k, rfl⟩ : ∃ m, k = m + 1 := ⟨k - 1, by omega⟩
    obtain rfl : i = ((32 + n : Nat) : Int) := by omega
    have hw : wrap64 (((32 + n : Nat) : Int) - 1) = 31 + (n : Int) := by rw [wrap64_small] <;> omega
    have hw2 : IntKind.u64.wrap (wrap64 (((32 + n : Nat) : Int) - 32)) = (n : Int) := by rw [wrap64_small (by omega) (by omega), wrap_u64]; omega
    have em : (4294967437 : Int) = q 4294967437#64 := by decide
    simp only [gossamerref01_rest.l0]
    rw [if_pos (by omega), wrapu_nat (n := 32 + n) (by omega), if_pos (by omega), shr_q a (32 + n) (by omega), tmod_q, bit_q, hw, hw2, em, shl_q _ n (by omega), xor_q]
    simp only [GF.restH]
    have h0 : (0 : Int) ≤ (n : Int) := by omega
    rw [if_pos h0, ih _ _ (by omega) rfl k (by omega), ih _ _ (by omega) rfl k (by omega)]
    cases a.getLsbD (32 + n)
    · rw [if_neg (by decide)]; simp
    · rw [if_pos (by decide)]; rfl
theorem rest_q (a : BitVec 64) (k : Nat) (hk : 33 ≤ k) : gossamerref01_rest.f k (q a) = some (v (GF.rest a)) :=
  rest_loop 32 a 63 (by omega) (by omega) k (by omega)
theorem wide_q (a : BitVec 32) : IntKind.u64.wrap (v a) = q (GF.wide a) := by
  rw [wrap_u64]; unfold q; rw [GF.toNat_wide]; unfold v; have := a.isLt; omega
theorem rmul_loop (a b : BitVec 32) : ∀ (n i : Nat), i + n = 32 → ∀ k, n + 33 < k → gossamerref01_Mul.l0 k (v a) (v b) (q (GF.clN a b i)) (i : Int) = some (v (GF.mul a b)) := by
  intro n
  induction n with
  | zero =>
    intro i hi k hk
    obtain ⟨k, rfl⟩ : ∃ m, k = m + 1 := ⟨k - 1, by omega⟩
    obtain rfl : i = 32 := by omega
    simp only [gossamerref01_Mul.l0]; rw [if_neg (by omega), rest_q _ k (by omega), GF.rest_cl]; rfl
  | succ n ih =>
    intro i hi k hk
    obtain ⟨k, rfl⟩ : ∃ m, k = m + 1 := ⟨k - 1, by omega⟩
    have hw : wrap64 ((i : Int) + 1) = ((i + 1 : Nat) : Int) := by rw [wrap64_small] <;> omega
    simp only [gossamerref01_Mul.l0]
    rw [if_pos (by omega), wrapu_nat (n := i) (by omega), if_pos (by omega), shr_v b i (by omega), tmod_v, bitv_q, hw, wide_q, shl_q _ i (by omega), xor_q]
    have := ih (i + 1) (by omega) k (by omega)
    simp only [GF.clN] at this
    cases hb : b.getLsbD i
    · rw [if_neg (by decide)]; rw [hb] at this; simpa using this
    · rw [if_pos (by decide)]; rw [hb] at this; exact this
theorem rmul_v (a b : BitVec 32) (k : Nat) (hk : 66 ≤ k) : gossamerref01_Mul.f k (v a) (v b) = some (v (GF.mul a b)) :=
  rmul_loop a b 32 0 (by omega) k (by omega)
theorem tdiv2 (n : Nat) : Int.tdiv (n : Int) 2 = ((n / 2 : Nat) : Int) := by rw [Int.tdiv_eq_ediv_of_nonneg (by omega)]; exact ediv_cast n 2
end Go.Proofs.Ytljkbkhaamlbmaa.Q
/- A local array of words: its block's cells as a list. -/
set_option linter.unusedVariables false
set_option linter.unusedSimpArgs false
namespace Go.Proofs.Ytljkbkhaamlbmaa.Arr
open Go.RowKit Go.Proofs.YtljkbkhaamlbmaaW.PrintWords Go.Proofs.Ytljkbkhaamlbmaa.Bits
def A64 (W : World) (B T : Nat) (rs : List (BitVec 64)) : Prop := W.heap[B]? = some (.cells (rs.map fun r => Value.int .u64 (q r)).toArray T (0, 0))
variable {W W1 : World} {B T : Nat} {rs : List (BitVec 64)}
theorem A64.at (h : A64 W B T rs) (i : Nat) (hi : i < rs.length) : W.cell? ⟨B, i, none⟩ = some (.int .u64 (q (rs.getD i 0#64))) := by
  rw [blk_cell h]
  simp [hi]
theorem A64.fz (h : A64 W B T rs) (i : Nat) : W.frozen? ⟨B, i, none⟩ = false := blk_frozen h _
theorem A64.put (h : A64 W B T rs) (i : Nat) (x : BitVec 64) : A64 (W.setCell ⟨B, i, none⟩ (.int .u64 (q x))) B T (rs.set i x) := by
  have := blk_set h i (.int .u64 (q x))
  unfold A64
  rw [this]
  congr 2
  apply Array.ext
  · simp
  · intro j h1 h2
    simp [List.getElem_set]
    first
    | done
    | (rw [Array.getElem_setIfInBounds (by simpa using h1)]
       by_cases e : i = j
       · subst e; simp
       · simp [e])
theorem A64.new (w : World) (T : Nat) (rs : List (BitVec 64)) : A64 (w.alloc (.cells (rs.map fun r => Value.int .u64 (q r)).toArray T)) w.heap.size T rs := by unfold A64 World.alloc; simp
theorem A64.drewN (h : A64 W B T rs) (n : Nat) : A64 (W.drewN n) B T rs := h
theorem A64.below (h : A64 W B T rs) (hb : Below W.heap.size W W1) : A64 W1 B T rs := by
  have hlt : B < W.heap.size := (Array.getElem?_eq_some_iff.1 h).1
  unfold A64; rw [hb.block B hlt]; exact h
theorem bit_true {r : BitVec 64} {b : Nat} (h : r.getLsbD b = true) : Int.tmod (q r / 2 ^ b) 2 = 1 := by
  have h1 : q r / 2 ^ b = q (r >>> b) := by
    unfold q; rw [BitVec.toNat_ushiftRight, Nat.shiftRight_eq_div_pow, pow_cast]; exact ediv_cast _ _
  rw [h1, Int.tmod_eq_emod_of_nonneg (Bits.q_lt _).1, bit_q, h]; rfl
theorem bit_false {r : BitVec 64} {b : Nat} (h : r.getLsbD b = false) : Int.tmod (q r / 2 ^ b) 2 = 0 := by
  have h1 : q r / 2 ^ b = q (r >>> b) := by
    unfold q; rw [BitVec.toNat_ushiftRight, Nat.shiftRight_eq_div_pow, pow_cast]; exact ediv_cast _ _
  rw [h1, Int.tmod_eq_emod_of_nonneg (Bits.q_lt _).1, bit_q, h]; rfl
end Go.Proofs.Ytljkbkhaamlbmaa.Arr
/- The document's solution by elimination, as a function of words: plain mathematics, no program in sight. -/
set_option linter.unusedVariables false
set_option linter.unusedSimpArgs false
namespace Go.Proofs.Ytljkbkhaamlbmaa.RSolve
open Go.Proofs.Ytljkbkhaamlbmaa GF
def row0 (i : Nat) : W := wide (sq (e i) ^^^ e i) ||| (1#64 <<< (32 + i))
def rows0 (n : Nat) : List W := (List.range 32).map fun i => if i < n then row0 i else 0#64
theorem rows0_length (n : Nat) : (rows0 n).length = 32 := by simp [rows0]
theorem rows0_succ (n : Nat) : rows0 (n + 1) = (rows0 n).set n (row0 n) := by
  apply List.ext_getElem
  · simp [rows0]
  · intro i h1 h2
    rw [List.getElem_set]
    simp only [rows0, List.getElem_map, List.getElem_range]
    by_cases h : n = i
    · subst h; simp
    · rw [if_neg h]
      by_cases h3 : i < n
      · rw [if_pos h3, if_pos (by omega)]
      · rw [if_neg h3, if_neg (by omega)]
def kk (rs : List W) (bit used : Nat) : Nat → Option Nat
  | 0 => none
  | n + 1 => if (rs.getD (used + n) 0#64).getLsbD bit then some (used + n) else kk rs bit used n
theorem kk_bd (rs : List W) (bit used : Nat) : ∀ n k, kk rs bit used n = some k → used ≤ k ∧ k < used + n := by
  intro n
  induction n with
  | zero => intro k h; cases h
  | succ n ih =>
    intro k h
    simp only [kk] at h
    by_cases hb : (rs.getD (used + n) 0#64).getLsbD bit = true
    · rw [if_pos hb] at h; injection h with h; omega
    · rw [if_neg hb] at h; have := ih k h; omega
def swp (rs : List W) (u k : Nat) : List W := (rs.set u (rs.getD k 0#64)).set k (rs.getD u 0#64)
theorem swp_length (rs : List W) (u k : Nat) : (swp rs u k).length = rs.length := by simp [swp]
def elimN (rs : List W) (u bit : Nat) : Nat → List W
  | 0 => rs
  | n + 1 => if n ≠ u ∧ ((elimN rs u bit n).getD n 0#64).getLsbD bit = true then (elimN rs u bit n).set n ((elimN rs u bit n).getD n 0#64 ^^^ (elimN rs u bit n).getD u 0#64) else elimN rs u bit n
theorem elimN_length (rs : List W) (u bit : Nat) : ∀ n, (elimN rs u bit n).length = rs.length := by
  intro n
  induction n with
  | zero => rfl
  | succ n ih =>
    simp only [elimN]
    split
    · rw [List.length_set, ih]
    · exact ih
def elim (s : List W × Nat) (bit k : Nat) : List W := elimN (swp s.1 s.2 k) s.2 bit 32
def stp (s : List W × Nat) (bit : Nat) : List W × Nat := match kk s.1 bit s.2 (32 - s.2) with
  | none => s
  | some k => (elim s bit k, s.2 + 1)
def piv (s : List W × Nat) (bit : Nat) : Option W := match kk s.1 bit s.2 (32 - s.2) with
  | none => none
  | some k => some ((elim s bit k).getD s.2 0#64)
def sts : Nat → List W × Nat
  | 0 => (rows0 32, 0)
  | b + 1 => stp (sts b) b
theorem sts_ok : ∀ b, (sts b).1.length = 32 ∧ (sts b).2 ≤ b := by
  intro b
  induction b with
  | zero => exact ⟨rows0_length 32, Nat.le_refl _⟩
  | succ b ih =>
    simp only [sts, stp]
    split
    · exact ⟨ih.1, by omega⟩
    · exact ⟨by rw [elim, elimN_length, swp_length]; exact ih.1, by show (sts b).2 + 1 ≤ b + 1; omega⟩
def gstep (p : Option W) (bit : Nat) (g : W) : W := match p with
  | none => g
  | some p => if g.getLsbD bit then g ^^^ p else g
theorem gstep_xor (p : Option W) (bit : Nat) (g h : W) : gstep p bit (g ^^^ h) = gstep p bit g ^^^ gstep p bit h := by
  cases p with
  | none => rfl
  | some p =>
    simp only [gstep, BitVec.getLsbD_xor]
    cases g.getLsbD bit <;> cases h.getLsbD bit
    · rfl
    · show (g ^^^ h) ^^^ p = g ^^^ (h ^^^ p); ac_rfl
    · show (g ^^^ h) ^^^ p = (g ^^^ p) ^^^ h; ac_rfl
    · show g ^^^ h = (g ^^^ p) ^^^ (h ^^^ p)
      rw [wxor4, BitVec.xor_self, BitVec.xor_zero]
def got (c : F) : Nat → W
  | 0 => wide c
  | b + 1 => gstep (piv (sts b) b) b (got c b)
theorem got_xor (c d : F) : ∀ b, got (c ^^^ d) b = got c b ^^^ got d b := by
  intro b
  induction b with
  | zero => exact wide_xor c d
  | succ b ih => simp only [got]; rw [ih, gstep_xor]
end Go.Proofs.Ytljkbkhaamlbmaa.RSolve
/- The elimination of the document's solution, step by step, by numbers: printed by a small program (wip/piv.py). -/
set_option maxRecDepth 100000
namespace Go.Proofs.Ytljkbkhaamlbmaa.RSolve
open Go.Proofs.Ytljkbkhaamlbmaa GF
theorem s0 : sts 0 = ([4294967296#64, 8589934598#64, 17179869204#64, 34359738440#64, 68719477008#64, 137438954528#64, 274877911104#64, 549755830400#64, 1099511693568#64, 2199023518208#64, 4398047560704#64, 8796097218560#64, 17592202825728#64, 35184439205888#64, 70369012629504#64, 140738562129920#64, 281474976776333#64, 562949953552948#64, 1125899907107024#64, 2251799814218560#64, 4503599628455168#64, 9007199256982528#64, 18014398514253824#64, 36028797029662720#64, 72057594063945728#64, 144115188079263744#64, 288230376366669824#64, 576460753029038080#64, 1152921507240869888#64, 2305843009549238554#64, 4611686020843308136#64, 9223372040076005431#64], 0) := by decide +kernel
theorem s1 : sts 1 = ([9223372040076005431#64, 8589934598#64, 17179869204#64, 34359738440#64, 68719477008#64, 137438954528#64, 274877911104#64, 549755830400#64, 1099511693568#64, 2199023518208#64, 4398047560704#64, 8796097218560#64, 17592202825728#64, 35184439205888#64, 70369012629504#64, 140738562129920#64, 9223653515052781754#64, 562949953552948#64, 1125899907107024#64, 2251799814218560#64, 4503599628455168#64, 9007199256982528#64, 18014398514253824#64, 36028797029662720#64, 72057594063945728#64, 144115188079263744#64, 288230376366669824#64, 576460753029038080#64, 1152921507240869888#64, 2305843009549238554#64, 4611686020843308136#64, 4294967296#64], 1) := by
  show stp (sts 0) 0 = _
  rw [s0]; decide +kernel
theorem p0 : piv (sts 0) 0 = some 9223372040076005431#64 := by
  rw [s0]; decide +kernel
theorem s2 : sts 2 = ([11529215049625243949#64, 2305843009549238554#64, 17179869204#64, 34359738440#64, 68719477008#64, 137438954528#64, 274877911104#64, 549755830400#64, 1099511693568#64, 2199023518208#64, 4398047560704#64, 8796097218560#64, 17592202825728#64, 35184439205888#64, 70369012629504#64, 140738562129920#64, 11529496524602020256#64, 562949953552948#64, 1125899907107024#64, 2251799814218560#64, 4503599628455168#64, 9007199256982528#64, 18014398514253824#64, 36028797029662720#64, 72057594063945728#64, 144115188079263744#64, 288230376366669824#64, 576460753029038080#64, 1152921507240869888#64, 2305843018139173148#64, 4611686020843308136#64, 4294967296#64], 2) := by
  show stp (sts 1) 1 = _
  rw [s1]; decide +kernel
theorem p1 : piv (sts 1) 1 = some 2305843009549238554#64 := by
  rw [s1]; decide +kernel
theorem s3 : sts 3 = ([9223372048665940017#64, 2305843009549238554#64, 2305843018139173148#64, 34359738440#64, 68719477008#64, 137438954528#64, 274877911104#64, 549755830400#64, 1099511693568#64, 2199023518208#64, 4398047560704#64, 8796097218560#64, 17592202825728#64, 35184439205888#64, 70369012629504#64, 140738562129920#64, 11529496524602020256#64, 2306405968092726056#64, 1125899907107024#64, 2251799814218560#64, 4503599628455168#64, 9007199256982528#64, 18014398514253824#64, 36028797029662720#64, 72057594063945728#64, 144115188079263744#64, 288230376366669824#64, 576460753029038080#64, 1152921507240869888#64, 2305843035319042312#64, 4611686020843308136#64, 4294967296#64], 3) := by
  show stp (sts 2) 2 = _
  rw [s2]; decide +kernel
theorem p2 : piv (sts 2) 2 = some 2305843018139173148#64 := by
  rw [s2]; decide +kernel
theorem s4 : sts 4 = ([9223372048665940017#64, 6917529029855675762#64, 6917529038445610356#64, 4611686020843308136#64, 68719477008#64, 137438954528#64, 274877911104#64, 549755830400#64, 1099511693568#64, 2199023518208#64, 4398047560704#64, 8796097218560#64, 17592202825728#64, 35184439205888#64, 70369012629504#64, 140738562129920#64, 11529496524602020256#64, 6918091988399163200#64, 1125899907107024#64, 2251799814218560#64, 4503599628455168#64, 9007199256982528#64, 18014398514253824#64, 36028797029662720#64, 72057594063945728#64, 144115188079263744#64, 288230376366669824#64, 576460753029038080#64, 1152921507240869888#64, 6917529055625479520#64, 4611686055203046432#64, 4294967296#64], 4) := by
  show stp (sts 3) 3 = _
  rw [s3]; decide +kernel
theorem p3 : piv (sts 3) 3 = some 4611686020843308136#64 := by
  rw [s3]; decide +kernel
theorem s5 : sts 5 = ([9224497948573047009#64, 6918654929762782626#64, 6918654938352717220#64, 4611686020843308136#64, 1125899907107024#64, 137438954528#64, 274877911104#64, 549755830400#64, 1099511693568#64, 2199023518208#64, 4398047560704#64, 8796097218560#64, 17592202825728#64, 35184439205888#64, 70369012629504#64, 140738562129920#64, 11529496524602020256#64, 6918091988399163200#64, 1125968626584000#64, 2251799814218560#64, 4503599628455168#64, 9007199256982528#64, 18014398514253824#64, 36028797029662720#64, 72057594063945728#64, 144115188079263744#64, 288230376366669824#64, 576460753029038080#64, 1152921507240869888#64, 6917529055625479520#64, 4611686055203046432#64, 4294967296#64], 5) := by
  show stp (sts 4) 4 = _
  rw [s4]; decide +kernel
theorem p4 : piv (sts 4) 4 = some 1125899907107024#64 := by
  rw [s4]; decide +kernel
theorem s6 : sts 6 = ([13836183999481126081#64, 2306968943816083842#64, 2306968952406018436#64, 34359738440#64, 1125899907107024#64, 4611686055203046432#64, 274877911104#64, 549755830400#64, 1099511693568#64, 2199023518208#64, 4398047560704#64, 8796097218560#64, 17592202825728#64, 35184439205888#64, 70369012629504#64, 140738562129920#64, 16141182574973228416#64, 6918091988399163200#64, 1125968626584000#64, 2251799814218560#64, 4503599628455168#64, 9007199256982528#64, 18014398514253824#64, 36028797029662720#64, 72057594063945728#64, 144115188079263744#64, 288230376366669824#64, 576460753029038080#64, 1152921507240869888#64, 2305843069678780736#64, 4611686192641998848#64, 4294967296#64], 6) := by
  show stp (sts 5) 5 = _
  rw [s5]; decide +kernel
theorem p5 : piv (sts 5) 5 = some 4611686055203046432#64 := by
  rw [s5]; decide +kernel
theorem s7 : sts 7 = ([16142026982723689857#64, 2306968943816083842#64, 2306968952406018436#64, 2305843035319042312#64, 2306968969585887632#64, 4611686055203046432#64, 2305843069678780736#64, 549755830400#64, 1099511693568#64, 2199023518208#64, 4398047560704#64, 8796097218560#64, 17592202825728#64, 35184439205888#64, 70369012629504#64, 140738562129920#64, 16141182574973228416#64, 4612249022336468480#64, 2306969038305364096#64, 2308094869492998656#64, 4503599628455168#64, 9007199256982528#64, 18014398514253824#64, 36028797029662720#64, 72057594063945728#64, 144115188079263744#64, 288230376366669824#64, 576460753029038080#64, 1152921507240869888#64, 2305843344556691712#64, 4611686192641998848#64, 4294967296#64], 7) := by
  show stp (sts 6) 6 = _
  rw [s6]; decide +kernel
theorem p6 : piv (sts 6) 6 = some 2305843069678780736#64 := by
  rw [s6]; decide +kernel
theorem s8 : sts 8 = ([13835058168293496065#64, 94489280770#64, 85899346180#64, 2305843035319042312#64, 68719477008#64, 4611686055203046432#64, 2305843069678780736#64, 2306969038305364096#64, 1099511693568#64, 2199023518208#64, 4398047560704#64, 8796097218560#64, 17592202825728#64, 35184439205888#64, 70369012629504#64, 140738562129920#64, 13836465525997509888#64, 4612249022336468480#64, 2306969588061194240#64, 2308094869492998656#64, 4503599628455168#64, 9007199256982528#64, 18014398514253824#64, 36028797029662720#64, 72057594063945728#64, 144115188079263744#64, 288230376366669824#64, 576460753029038080#64, 1152921507240869888#64, 2305843344556691712#64, 4611686192641998848#64, 4294967296#64], 8) := by
  show stp (sts 7) 7 = _
  rw [s7]; decide +kernel
theorem p7 : piv (sts 7) 7 = some 2306969038305364096#64 := by
  rw [s7]; decide +kernel
theorem s9 : sts 9 = ([16140901426413962241#64, 2305843387506364418#64, 2305843396096299012#64, 309237649416#64, 2305843413276168208#64, 4611686055203046432#64, 274877911104#64, 2306969038305364096#64, 2305843344556691712#64, 2199023518208#64, 4398047560704#64, 8796097218560#64, 17592202825728#64, 35184439205888#64, 70369012629504#64, 140738562129920#64, 16142308818477714432#64, 4612249022336468480#64, 2306969588061194240#64, 2308094869492998656#64, 2310346944185146368#64, 9007199256982528#64, 18014398514253824#64, 36028797029662720#64, 72057594063945728#64, 144115188079263744#64, 288230376366669824#64, 576460753029038080#64, 1152921507240869888#64, 2305844444068384768#64, 4611686192641998848#64, 4294967296#64], 9) := by
  show stp (sts 8) 8 = _
  rw [s8]; decide +kernel
theorem p8 : piv (sts 8) 8 = some 2305843344556691712#64 := by
  rw [s8]; decide +kernel
theorem s10 : sts 10 = ([16140901426413962241#64, 2305843387506364418#64, 2305843396096299012#64, 309237649416#64, 2305843413276168208#64, 4611686055203046432#64, 274877911104#64, 2306969038305364096#64, 2305843344556691712#64, 2308094869492998656#64, 4398047560704#64, 8796097218560#64, 17592202825728#64, 35184439205888#64, 70369012629504#64, 140738562129920#64, 16142308818477714432#64, 6920343788213380096#64, 2306969588061194240#64, 2308097068516515840#64, 2310346944185146368#64, 9007199256982528#64, 18014398514253824#64, 36028797029662720#64, 72057594063945728#64, 144115188079263744#64, 288230376366669824#64, 576460753029038080#64, 1152921507240869888#64, 2305844444068384768#64, 4611686192641998848#64, 4294967296#64], 10) := by
  show stp (sts 9) 9 = _
  rw [s9]; decide +kernel
theorem p9 : piv (sts 9) 9 = some 2308094869492998656#64 := by
  rw [s9]; decide +kernel
theorem s11 : sts 11 = ([16149908625670942721#64, 2305843387506364418#64, 2305843396096299012#64, 309237649416#64, 2305843413276168208#64, 4620693254460026912#64, 274877911104#64, 2306969038305364096#64, 2305843344556691712#64, 2308094869492998656#64, 9007199256982528#64, 8796097218560#64, 17592202825728#64, 35184439205888#64, 70369012629504#64, 140738562129920#64, 16151316017734694912#64, 6929350987470082048#64, 2306969588061194240#64, 2308097068516515840#64, 2319354143442118656#64, 9011597304541184#64, 18014398514253824#64, 36028797029662720#64, 72057594063945728#64, 144115188079263744#64, 288230376366669824#64, 576460753029038080#64, 1152921507240869888#64, 2305844444068384768#64, 4611686192641998848#64, 4294967296#64], 11) := by
  show stp (sts 10) 10 = _
  rw [s10]; decide +kernel
theorem p10 : piv (sts 10) 10 = some 9007199256982528#64 := by
  rw [s10]; decide +kernel
theorem s12 : sts 12 = ([16149908625670942721#64, 2305843387506364418#64, 2305843396096299012#64, 309237649416#64, 2305843413276168208#64, 4620693254460026912#64, 274877911104#64, 14637042389917824#64, 2305843344556691712#64, 2308094869492998656#64, 9007199256982528#64, 2319354143442118656#64, 17592202825728#64, 35184439205888#64, 70369012629504#64, 140738562129920#64, 13840969125625958400#64, 6929350987470082048#64, 14637592145747968#64, 2308097068516515840#64, 2319362939539333120#64, 9011597304541184#64, 18014398514253824#64, 36028797029662720#64, 72057594063945728#64, 144115188079263744#64, 288230376366669824#64, 576460753029038080#64, 1152921507240869888#64, 2305844444068384768#64, 4611686192641998848#64, 4294967296#64], 12) := by
  show stp (sts 11) 11 = _
  rw [s11]; decide +kernel
theorem p11 : piv (sts 11) 11 = some 2319354143442118656#64 := by
  rw [s11]; decide +kernel
theorem s13 : sts 13 = ([13844066467062161409#64, 1194000973826#64, 1185411039236#64, 2305844134830735368#64, 1168231170064#64, 6926537629272055840#64, 2305844169190473792#64, 14637042389917824#64, 1099511693568#64, 2308094869492998656#64, 2314851643325359104#64, 2319354143442118656#64, 2305844444068384768#64, 35184439205888#64, 70369012629504#64, 140738562129920#64, 16146813517617725440#64, 4623509395796983808#64, 14637592145747968#64, 2308097068516515840#64, 2319362939539333120#64, 2314856041372917760#64, 2323858842582630400#64, 36028797029662720#64, 72057594063945728#64, 144115188079263744#64, 288230376366669824#64, 576460753029038080#64, 1152921507240869888#64, 2305862036271202304#64, 4611686192641998848#64, 4294967296#64], 13) := by
  show stp (sts 12) 12 = _
  rw [s12]; decide +kernel
theorem p12 : piv (sts 12) 12 = some 2305844444068384768#64 := by
  rw [s12]; decide +kernel
theorem s14 : sts 14 = ([16140905824461520897#64, 1194000973826#64, 1185411039236#64, 2305844134830735368#64, 1168231170064#64, 4611690453250605088#64, 2305844169190473792#64, 2311478135490969728#64, 1099511693568#64, 11264771508339200#64, 4398047560704#64, 4509097185609728#64, 2305844444068384768#64, 2314856041372917760#64, 70369012629504#64, 140738562129920#64, 16146813517617725440#64, 4623509395796983808#64, 2311478685246799872#64, 11266970531856384#64, 4517893282824192#64, 2314891225677889536#64, 2323858842582630400#64, 36028797029662720#64, 72057594063945728#64, 144115188079263744#64, 288230376366669824#64, 576460753029038080#64, 1152921507240869888#64, 2305862036271202304#64, 4611686192641998848#64, 4294967296#64], 14) := by
  show stp (sts 13) 13 = _
  rw [s13]; decide +kernel
theorem p13 : piv (sts 13) 13 = some 2314856041372917760#64 := by
  rw [s13]; decide +kernel
theorem s15 : sts 15 = ([16140905824461520897#64, 1194000973826#64, 1185411039236#64, 2305844134830735368#64, 1168231170064#64, 4611690453250605088#64, 2305844169190473792#64, 2311478135490969728#64, 1099511693568#64, 11264771508339200#64, 4398047560704#64, 4509097185609728#64, 2305844444068384768#64, 2314856041372917760#64, 36028797029662720#64, 140738562129920#64, 16146813517617725440#64, 4623509395796983808#64, 2347507482276298752#64, 11266970531856384#64, 4517893282824192#64, 2314891225677889536#64, 2359887639612129280#64, 36099166042259456#64, 72057594063945728#64, 144115188079263744#64, 288230376366669824#64, 576460753029038080#64, 1152921507240869888#64, 2305862036271202304#64, 4611686192641998848#64, 4294967296#64], 15) := by
  show stp (sts 14) 14 = _
  rw [s14]; decide +kernel
theorem p14 : piv (sts 14) 14 = some 36028797029662720#64 := by
  rw [s14]; decide +kernel
theorem s16 : sts 16 = ([16140905824461520897#64, 1194000973826#64, 1185411039236#64, 2305844134830735368#64, 1168231170064#64, 4611690453250605088#64, 2305844169190473792#64, 59677436722217088#64, 1099511693568#64, 11264771508339200#64, 4398047560704#64, 2364394537774417920#64, 2305844444068384768#64, 2314856041372917760#64, 36028797029662720#64, 2359887639612129280#64, 13895012321169637376#64, 4623509395796983808#64, 23649189448384512#64, 11266970531856384#64, 2364403333863243776#64, 2314891225677889536#64, 2360028378174193664#64, 36099166042259456#64, 72057594063945728#64, 144115188079263744#64, 288230376366669824#64, 576460753029038080#64, 1152921507240869888#64, 2305862036271202304#64, 4611686192641998848#64, 4294967296#64], 16) := by
  show stp (sts 15) 15 = _
  rw [s15]; decide +kernel
theorem p15 : piv (sts 15) 15 = some 2359887639612129280#64 := by
  rw [s15]; decide +kernel
theorem s17 : sts 17 = ([16140905824461520897#64, 2305860979709181954#64, 2305860988299116548#64, 17901440466952#64, 2305861005478985744#64, 4611690453250605088#64, 17867080728640#64, 2365538923237474432#64, 2305860936759509248#64, 2317124059000340992#64, 4398047560704#64, 58569884932114432#64, 17592202825728#64, 9029189507358720#64, 2341890833300733952#64, 2359887639612129280#64, 2305862036271202304#64, 6929368579672899584#64, 23649189448384512#64, 2317126258023858176#64, 58578681020940288#64, 9064373946548224#64, 2360028378174193664#64, 2341961201776459776#64, 2377919630301462528#64, 144115188079263744#64, 288230376366669824#64, 576460753029038080#64, 1152921507240869888#64, 13895012321169637376#64, 4611686192641998848#64, 4294967296#64], 17) := by
  show stp (sts 16) 16 = _
  rw [s16]; decide +kernel
theorem p16 : piv (sts 16) 16 = some 2305862036271202304#64 := by
  rw [s16]; decide +kernel
theorem s18 : sts 18 = ([16140905824461520897#64, 2305860979709181954#64, 2305860988299116548#64, 17901440466952#64, 2305861005478985744#64, 4611690453250605088#64, 17867080728640#64, 16141205664735166592#64, 2305860936759509248#64, 16212136328085897728#64, 4398047560704#64, 13836488615759448064#64, 17592202825728#64, 13904041510670442496#64, 16164845508334731264#64, 16146813517617725440#64, 2305862036271202304#64, 13895012321169637376#64, 23649189448384512#64, 16212138527108890624#64, 13836497411856662528#64, 13904076695109632000#64, 16146954254032306176#64, 16164915877347328000#64, 2377919630301462528#64, 144115188079263744#64, 288230376366669824#64, 576460753029038080#64, 1152921507240869888#64, 6929368579672899584#64, 4611686192641998848#64, 4294967296#64], 18) := by
  show stp (sts 17) 17 = _
  rw [s17]; decide +kernel
theorem p17 : piv (sts 17) 17 = some 13895012321169637376#64 := by
  rw [s17]; decide +kernel
theorem s19 : sts 19 = ([16140905824461520897#64, 2305860979709181954#64, 2305860988299116548#64, 17901440466952#64, 2305861005478985744#64, 4611690453250605088#64, 17867080728640#64, 16141205664735166592#64, 2305860936759509248#64, 16356251516164637184#64, 4398047560704#64, 13980603803836090368#64, 17592202825728#64, 14048156698749181952#64, 16308960696411373568#64, 16290928705694367744#64, 2305862036271202304#64, 14039127509242085376#64, 144115188079263744#64, 16212138527108890624#64, 13980612599933304832#64, 14048191883188371456#64, 16291069442108948480#64, 16309031065423970304#64, 2522034818380201984#64, 167764377527123968#64, 288230376366669824#64, 576460753029038080#64, 1152921507240869888#64, 6929368579672899584#64, 4611686192641998848#64, 4294967296#64], 19) := by
  show stp (sts 18) 18 = _
  rw [s18]; decide +kernel
theorem p18 : piv (sts 18) 18 = some 144115188079263744#64 := by
  rw [s18]; decide +kernel
theorem s20 : sts 20 = ([16140905824461520897#64, 2305860979709181954#64, 2305860988299116548#64, 17901440466952#64, 2305861005478985744#64, 4611690453250605088#64, 17867080728640#64, 16141205664735166592#64, 2305860936759509248#64, 16356251516164637184#64, 4398047560704#64, 13980603803836090368#64, 17592202825728#64, 11736103641467068416#64, 9403236036257005568#64, 16290928705694367744#64, 2305862036271202304#64, 11745124034879291392#64, 144115188079263744#64, 6929368579672899584#64, 13980612599933304832#64, 11736138825772040192#64, 16291069442108948480#64, 9403306405269602304#64, 4839682177934295040#64, 7097132957194780672#64, 288230376366669824#64, 576460753029038080#64, 1152921507240869888#64, 16212138527108890624#64, 4611686192641998848#64, 4294967296#64], 20) := by
  show stp (sts 19) 19 = _
  rw [s19]; decide +kernel
theorem p19 : piv (sts 19) 19 = some 6929368579672899584#64 := by
  rw [s19]; decide +kernel
theorem s21 : sts 21 = ([16429136200691875841#64, 2305860979709181954#64, 2305860988299116548#64, 17901440466952#64, 2305861005478985744#64, 4899920829615177760#64, 17867080728640#64, 16429436040965521536#64, 2305860936759509248#64, 16644481892369826304#64, 288234774412133376#64, 13980603803836090368#64, 17592202825728#64, 12024334017672257536#64, 9403236036257005568#64, 16290928705694367744#64, 2305862036271202304#64, 11745124034879291392#64, 432345564443836416#64, 6929368579672899584#64, 288230376366669824#64, 12024369202111447040#64, 16291069442108948480#64, 9403306405269602304#64, 5127912554282090496#64, 7385363333416747008#64, 13980612599933304832#64, 576460753029038080#64, 1152921507240869888#64, 16212138527108890624#64, 4611686192641998848#64, 4294967296#64], 21) := by
  show stp (sts 20) 20 = _
  rw [s20]; decide +kernel
theorem p20 : piv (sts 20) 20 = some 288230376366669824#64 := by
  rw [s20]; decide +kernel
theorem s22 : sts 22 = ([16429136200691875841#64, 2305860979709181954#64, 2305860988299116548#64, 17901440466952#64, 2305861005478985744#64, 4899920829615177760#64, 17867080728640#64, 16429436040965521536#64, 2305860936759509248#64, 2663889135730688512#64, 288234774412133376#64, 8796097218560#64, 17592202825728#64, 12024334017672257536#64, 9403236036257005568#64, 2310377730530639872#64, 2305862036271202304#64, 6987912076282953728#64, 14124727788212846592#64, 11686573941161721856#64, 288230376366669824#64, 13980612599933304832#64, 2310518469092704256#64, 9403306405269602304#64, 5127912554282090496#64, 7385363333416747008#64, 12024369202111447040#64, 576460753029038080#64, 1152921507240869888#64, 16212138527108890624#64, 4611686192641998848#64, 4294967296#64], 22) := by
  show stp (sts 21) 21 = _
  rw [s21]; decide +kernel
theorem p21 : piv (sts 21) 21 = some 13980612599933304832#64 := by
  rw [s21]; decide +kernel
theorem s23 : sts 23 = ([359463663104425985#64, 2305860979709181954#64, 2305860988299116548#64, 17901440466952#64, 2305861005478985744#64, 11888678454897410080#64, 17867080728640#64, 359165437738483840#64, 2305860936759509248#64, 14124729987235840512#64, 16500364505268618240#64, 16212147323197720576#64, 17592202825728#64, 12024334017672257536#64, 7098261537164378112#64, 13901778990596653056#64, 2305862036271202304#64, 6987912076282953728#64, 14124727788212846592#64, 4814940692407648256#64, 16500368903316176896#64, 2519776146617270272#64, 16212138527108890624#64, 7098331906176974848#64, 12094160977503715328#64, 7385363333416747008#64, 12024369202111447040#64, 16788599280095985664#64, 1152921507240869888#64, 13901919727011233792#64, 4611686192641998848#64, 4294967296#64], 23) := by
  show stp (sts 22) 22 = _
  rw [s22]; decide +kernel
theorem p22 : piv (sts 22) 22 = some 16212138527108890624#64 := by
  rw [s22]; decide +kernel
theorem s24 : sts 24 = ([359463663104425985#64, 2305860979709181954#64, 2305860988299116548#64, 17901440466952#64, 2305861005478985744#64, 11888678454897410080#64, 17867080728640#64, 359165437738483840#64, 2305860936759509248#64, 353696674150875648#64, 16500364505268618240#64, 2310509672995489792#64, 17592202825728#64, 12024334017672257536#64, 11704746668283936768#64, 140738562129920#64, 2305862036271202304#64, 11535837767862976512#64, 353698873174392832#64, 9385379966361272320#64, 16500368903316176896#64, 16291069442108948480#64, 2310518469092704256#64, 13901919727011233792#64, 7438430369826734080#64, 12003111724212289536#64, 12024369202111447040#64, 2886979222079799296#64, 1152921507240869888#64, 11704817036759662592#64, 4611686192641998848#64, 4294967296#64], 24) := by
  show stp (sts 23) 23 = _
  rw [s23]; decide +kernel
theorem p23 : piv (sts 23) 23 = some 13901919727011233792#64 := by
  rw [s23]; decide +kernel
theorem s25 : sts 25 = ([12002883936041566209#64, 9398956676062642178#64, 9398956684652576772#64, 11704799753794486280#64, 9398956667472707600#64, 473668528457646112#64, 11704799719434747968#64, 359165437738483840#64, 9398956736192184576#64, 11999639261121872384#64, 5085354583123821568#64, 9403315201358432256#64, 11704799444556845056#64, 12024334017672257536#64, 70369012629504#64, 140738562129920#64, 9398955636680622080#64, 11535837767862976512#64, 11999641460145389568#64, 2328444905309339648#64, 5085350185078358016#64, 16291069442108948480#64, 9403306405269602304#64, 13901919727011233792#64, 11704817036759662592#64, 359236356506910720#64, 12024369202111447040#64, 2886979222079799296#64, 12857738539537793024#64, 7438430369826734080#64, 4611686192641998848#64, 4294967296#64], 25) := by
  show stp (sts 24) 24 = _
  rw [s24]; decide +kernel
theorem p24 : piv (sts 24) 24 = some 11704817036759662592#64 := by
  rw [s24]; decide +kernel
theorem s26 : sts 26 = ([12002883936041566209#64, 9398956676062642178#64, 9398956684652576772#64, 11704799753794486280#64, 9398956667472707600#64, 473668528457646112#64, 11704799719434747968#64, 359165437738483840#64, 9398956736192184576#64, 11999639261121872384#64, 5085354583123821568#64, 9403315201358432256#64, 11704799444556845056#64, 12024334017672257536#64, 70369012629504#64, 140738562129920#64, 9398955636680622080#64, 11535837767862976512#64, 11999641460145389568#64, 2328444905309339648#64, 5085350185078358016#64, 16291069442108948480#64, 9403306405269602304#64, 13901919727011233792#64, 11704817036759662592#64, 2886979222079799296#64, 12024369202111447040#64, 359236356506910720#64, 12857738539537793024#64, 7438430369826734080#64, 4611686192641998848#64, 4294967296#64], 26) := by
  show stp (sts 25) 25 = _
  rw [s25]; decide +kernel
theorem p25 : piv (sts 25) 25 = some 2886979222079799296#64 := by
  rw [s25]; decide +kernel
theorem s27 : sts 27 = ([12002883936041566209#64, 9398956676062642178#64, 9398956684652576772#64, 12003094441247113224#64, 9398956667472707600#64, 175232003870818336#64, 12003094406887374912#64, 70918768427136#64, 9398956736192184576#64, 11999639261121872384#64, 4786918059073864704#64, 9403315201358432256#64, 12003094132009472000#64, 12024334017672257536#64, 70369012629504#64, 140738562129920#64, 9398955636680622080#64, 11883808390121652224#64, 11999641460145389568#64, 2642504527919972352#64, 4786913661028401152#64, 16639044462951006208#64, 9403306405269602304#64, 13901919727011233792#64, 12003111724212289536#64, 3237208378392444928#64, 359236356506910720#64, 11683295678183768064#64, 12857738539537793024#64, 7438430369826734080#64, 4611686192641998848#64, 4294967296#64], 27) := by
  show stp (sts 26) 26 = _
  rw [s26]; decide +kernel
theorem p26 : piv (sts 26) 26 = some 359236356506910720#64 := by
  rw [s26]; decide +kernel
theorem s28 : sts 28 = ([13954493992981757953#64, 9398956676062642178#64, 9398956684652576772#64, 13954706697210560520#64, 9398956667472707600#64, 175232003870818336#64, 13954706662850822208#64, 70918768427136#64, 9398956736192184576#64, 13960548985262309888#64, 4786918059073864704#64, 9403315201358432256#64, 13954706387972919296#64, 13971741739023605760#64, 70369012629504#64, 140738562129920#64, 9398955636680622080#64, 14110157815540744192#64, 13960551184285827072#64, 4870241524128415744#64, 4786913661028401152#64, 9354926175658442752#64, 9403306405269602304#64, 13901919727011233792#64, 13954688795803648000#64, 3237208378392444928#64, 7189678577346936832#64, 7438430369826734080#64, 15372263369822175232#64, 11683295678183768064#64, 4611686192641998848#64, 4294967296#64], 28) := by
  show stp (sts 27) 27 = _
  rw [s27]; decide +kernel
theorem p27 : piv (sts 27) 27 = some 7438430369826734080#64 := by
  rw [s27]; decide +kernel
theorem s29 : sts 29 = ([13954493992981757953#64, 14010642795153326082#64, 14010642803743260676#64, 9343020783741435912#64, 14010642786563391504#64, 175232003870818336#64, 9343020818101174336#64, 4611757110873555072#64, 14010642855282868480#64, 13960548985262309888#64, 175232141309772800#64, 14015001320449116160#64, 9343020543223271424#64, 9360055894273957888#64, 4611756561117757440#64, 140738562129920#64, 14010641755771305984#64, 14110157815540744192#64, 13960551184285827072#64, 258555606364323840#64, 175227743264309248#64, 13966612294749126656#64, 14014992524360286208#64, 9290233882261585920#64, 9343002951054000128#64, 3237208378392444928#64, 2577992728302321664#64, 7438430369826734080#64, 4611686192641998848#64, 11683295678183768064#64, 10760577520777560064#64, 4294967296#64], 29) := by
  show stp (sts 28) 28 = _
  rw [s28]; decide +kernel
theorem p28 : piv (sts 28) 28 = some 4611686192641998848#64 := by
  rw [s28]; decide +kernel
theorem s30 : sts 30 = ([13954493992981757953#64, 14010642795153326082#64, 14010642803743260676#64, 9343020783741435912#64, 14010642786563391504#64, 175232003870818336#64, 9343020818101174336#64, 4611757110873555072#64, 14010642855282868480#64, 13960548985262309888#64, 175232141309772800#64, 14015001320449116160#64, 9343020543223271424#64, 9360055894273957888#64, 4611756561117757440#64, 140738562129920#64, 14010641755771305984#64, 14110157815540744192#64, 13960551184285827072#64, 258555606364323840#64, 175227743264309248#64, 13966612294749126656#64, 14014992524360286208#64, 9290233882261585920#64, 9343002951054000128#64, 3237208378392444928#64, 2577992728302321664#64, 7438430369826734080#64, 4611686192641998848#64, 11683295678183768064#64, 10760577520777560064#64, 4294967296#64], 29) := by
  show stp (sts 29) 29 = _
  rw [s29]; decide +kernel
theorem p29 : piv (sts 29) 29 = none := by
  rw [s29]; decide +kernel
theorem s31 : sts 31 = ([6124071288999772161#64, 14010642795153326082#64, 14010642803743260676#64, 1512175764215169032#64, 14010642786563391504#64, 10897528753869553696#64, 1512175729855430720#64, 4611757110873555072#64, 14010642855282868480#64, 13960548985262309888#64, 10897528616430601216#64, 6280842852343744512#64, 1512175454977527808#64, 9360055894273957888#64, 4611756561117757440#64, 10760718257192206336#64, 14010641755771305984#64, 6234136337130323968#64, 13960551184285827072#64, 10863758491173519360#64, 10897524218385137664#64, 6090590575820537856#64, 6280834056254914560#64, 9290233882261585920#64, 1512157862808256512#64, 13382903552700055552#64, 13156033226319331328#64, 17469424731642920960#64, 4611686192641998848#64, 10760577520777560064#64, 3996425401302777856#64, 4294967296#64], 30) := by
  show stp (sts 30) 30 = _
  rw [s30]; decide +kernel
theorem p30 : piv (sts 30) 30 = some 10760577520777560064#64 := by
  rw [s30]; decide +kernel
theorem p31 : piv (sts 31) 31 = some 3996425401302777856#64 := by
  rw [s31]; decide +kernel
def pivs : List (Option W) := [some 9223372040076005431#64, some 2305843009549238554#64, some 2305843018139173148#64, some 4611686020843308136#64, some 1125899907107024#64, some 4611686055203046432#64, some 2305843069678780736#64, some 2306969038305364096#64, some 2305843344556691712#64, some 2308094869492998656#64, some 9007199256982528#64, some 2319354143442118656#64, some 2305844444068384768#64, some 2314856041372917760#64, some 36028797029662720#64, some 2359887639612129280#64, some 2305862036271202304#64, some 13895012321169637376#64, some 144115188079263744#64, some 6929368579672899584#64, some 288230376366669824#64, some 13980612599933304832#64, some 16212138527108890624#64, some 13901919727011233792#64, some 11704817036759662592#64, some 2886979222079799296#64, some 359236356506910720#64, some 7438430369826734080#64, some 4611686192641998848#64, none, some 10760577520777560064#64, some 3996425401302777856#64]
theorem piv_at : ∀ b, b < 32 → piv (sts b) b = pivs.getD b none := by
  intro b hb
  match b, hb with
  | 0, _ => exact p0
  | 1, _ => exact p1
  | 2, _ => exact p2
  | 3, _ => exact p3
  | 4, _ => exact p4
  | 5, _ => exact p5
  | 6, _ => exact p6
  | 7, _ => exact p7
  | 8, _ => exact p8
  | 9, _ => exact p9
  | 10, _ => exact p10
  | 11, _ => exact p11
  | 12, _ => exact p12
  | 13, _ => exact p13
  | 14, _ => exact p14
  | 15, _ => exact p15
  | 16, _ => exact p16
  | 17, _ => exact p17
  | 18, _ => exact p18
  | 19, _ => exact p19
  | 20, _ => exact p20
  | 21, _ => exact p21
  | 22, _ => exact p22
  | 23, _ => exact p23
  | 24, _ => exact p24
  | 25, _ => exact p25
  | 26, _ => exact p26
  | 27, _ => exact p27
  | 28, _ => exact p28
  | 29, _ => exact p29
  | 30, _ => exact p30
  | 31, _ => exact p31
  | n + 32, h => omega
def gotL (c : F) : List (Option W) → Nat → W → W
  | [], _, g => g
  | p :: l, b, g => gotL c l (b + 1) (gstep p b g)
theorem got_L (c : F) : ∀ (n b : Nat), b + n = 32 → gotL c (pivs.drop b) b (got c b) = got c 32 := by
  intro n
  induction n with
  | zero =>
    intro b hb
    obtain rfl : b = 32 := by omega
    rfl
  | succ n ih =>
    intro b hb
    have hl : b < pivs.length := by show b < 32; omega
    rw [List.drop_eq_getElem_cons hl]
    simp only [gotL]
    have e1 : gstep pivs[b] b (got c b) = got c (b + 1) := by
      simp only [got]
      rw [piv_at b (by omega), List.getD_eq_getElem?_getD, List.getElem?_eq_getElem hl]; rfl
    rw [e1]
    exact ih (b + 1) (by omega)
def lo (g : W) : F := g.setWidth 32
def hi (g : W) : F := (g >>> 32).setWidth 32
theorem lo_xor (a b : W) : lo (a ^^^ b) = lo a ^^^ lo b := BitVec.setWidth_xor ..
theorem hi_xor (a b : W) : hi (a ^^^ b) = hi a ^^^ hi b := by unfold hi; rw [BitVec.ushiftRight_xor_distrib, BitVec.setWidth_xor]
def run_ (c : F) : W := gotL c pivs 0 (wide c)
theorem run_got (c : F) : run_ c = got c 32 := got_L c 32 0 (by omega)
theorem lo_tr (c : F) : lo (got c 32) = mul (tr c) 536870912#32 :=
  lin_ext (fun c => lo (got c 32)) (fun c => mul (tr c) 536870912#32) (fun a b => by simp only [got_xor, lo_xor]) (fun a b => by simp only [tr_xor, xor_mul])
    (by simp only [← run_got]; decide +kernel) c
theorem hi_art (c : F) : sq (hi (got c 32)) ^^^ hi (got c 32) = c ^^^ lo (got c 32) :=
  lin_ext (fun c => sq (hi (got c 32)) ^^^ hi (got c 32)) (fun c => c ^^^ lo (got c 32)) (fun a b => by simp only [got_xor, hi_xor, sq_xor, xor4]) (fun a b => by simp only [got_xor, lo_xor, xor4])
    (by simp only [← run_got]; decide +kernel) c
end Go.Proofs.Ytljkbkhaamlbmaa.RSolve
/- A statement that draws its order, in a round of a range over a function: it goes as it goes outside. -/
set_option linter.unusedVariables false
set_option linter.unusedSimpArgs false
namespace Go.Proofs.Ytljkbkhaamlbmaa.InRound
variable {P : Program} {ops : Array Oper} {Q : Exit → Act → World → Prop} {md : Region.Mode} {l n : Nat}
theorem op_at {ops : Array Oper} {i : Nat} {o : Oper} (h : (ops.toList.drop i).head? = some o) : ops[i]? = some o := by
  rw [List.head?_drop] at h; simpa using h
def Only (Q : Exit → Act → World → Prop) : Exit → Act → World → Prop
  | .normal, a, w => Q .normal a w
  | _, _, _ => False
theorem Only.imp : ∀ (e : Exit) (a : Act) (w : World), Only Q e a w → Q e a w := fun e a w h => by cases e <;> first | exact h | exact h.elim
theorem Only.normal {a : Act} {w : World} (h : Q .normal a w) : Only Q .normal a w := h
def noDefer (ops : Array Oper) : Bool := ops.all fun o => !(o.op matches .defer _)
end Go.Proofs.Ytljkbkhaamlbmaa.InRound
/- The document's Solve: what the call comes to. -/
set_option linter.unusedVariables false
set_option linter.unusedSimpArgs false
namespace Go.Proofs.Ytljkbkhaamlbmaa.RSolve
open Go.RowKit Go.Proofs.Ytljkbkhaamlbmaa.Q Go.Proofs.YtljkbkhaamlbmaaW.PrintWords Go.Proofs.YtljkbkhaamlbmaaW.PrintLast Go.Proofs.YtljkbkhaamlbmaaW.PrintMore Go.Proofs.Ytljkbkhaamlbmaa.Bits Go.Proofs.Ytljkbkhaamlbmaa Go.Proofs.Ytljkbkhaamlbmaa.Arr GF
open Go.Proofs.Ytljkbkhaamlbmaa.InRound (op_at)
theorem zv (w : World) : (zeroValue 98).run Try.prog w = .ok (.agg ((rows0 0).map fun r => Value.int .u64 (q r)).toArray) w := by kernel_rfl
theorem ep_ (i : Nat) (h : i < 32) : (2 : Int) ^ i % 4294967296 = v (e i) := by
  have : ∀ i, i < 32 → (2 : Int) ^ i % 4294967296 = v (e i) := by decide +kernel
  exact this i h
theorem row_q (i : Nat) (h : i < 32) : Go.bits BinOp.or IntKind.u64 (IntKind.u64.wrap (v (mul (e i) (e i) ^^^ e i))) (IntKind.u64.wrap (4294967296 * IntKind.u64.wrap (2 ^ i))) = q (row0 i) := by
  have : ∀ i, i < 32 → Go.bits BinOp.or IntKind.u64 (IntKind.u64.wrap (v (mul (e i) (e i) ^^^ e i))) (IntKind.u64.wrap (4294967296 * IntKind.u64.wrap (2 ^ i))) = q (row0 i) := by decide +kernel
  exact this i h
theorem wide_q (c : F) : IntKind.u64.wrap (v c) = q (wide c) := by
  rw [wrap_u64]; unfold q v; rw [toNat_wide]; have := c.isLt; omega
theorem cut_at {P : Program} {c : Code} {a : Act} {W : World} {Q : Exit → Act → World → Prop} (F : Act → Exit → Act → World → Prop) (h1 : Code.wp P c (F a) a W) (h2 : ∀ e a' W', F a e a' W' → Q e a' W') : Code.wp P c Q a W := Code.wp_mono h2 h1
def kv : Option Nat → Value
  | none => .int .i64 (-1)
  | some k => .int .i64 (k : Int)
theorem lo_q (g : W) : (q g).tmod 4294967296 = v (lo g) := by
  rw [Int.tmod_eq_emod_of_nonneg (Bits.q_lt _).1]
  unfold q v lo
  rw [BitVec.toNat_setWidth]; omega
theorem hi_q (g : W) : IntKind.u64.wrap ((q g).tdiv 4294967296) = v (hi g) := by
  rw [Int.tdiv_eq_ediv_of_nonneg (Bits.q_lt _).1, wrap_u64]
  unfold q v hi
  rw [BitVec.toNat_setWidth, BitVec.toNat_ushiftRight, Nat.shiftRight_eq_div_pow]
  have := g.isLt
  omega
theorem even_sub (x : F) : v (x &&& 0xfffffffe#32) = v x - v x % 2 := by
  have h1 : (x &&& 0xfffffffe#32).toNat = x.toNat &&& 4294967294 := by rw [BitVec.toNat_and]; rfl
  have h2 : (x.toNat &&& 4294967294) / 2 = x.toNat / 2 := by
    rw [Nat.and_div_two, show 4294967294 / 2 = 2 ^ 31 - 1 by decide, Nat.and_two_pow_sub_one_eq_mod]
    have := x.isLt; omega
  have h3 : (x.toNat &&& 4294967294) % 2 = 0 := by
    have := Nat.and_mod_two_pow (a := x.toNat) (b := 4294967294) (n := 1)
    simp at this
    rw [this]
  unfold v; rw [h1]; omega
def sols (c : F) : F := if lo (got c 32) = 0#32 then hi (got c 32) &&& 0xfffffffe#32 else 0#32
set_option maxRecDepth 100000 in
set_option maxHeartbeats 2000000 in
theorem rsolve_calls (c : F) (w : World) : Calls Try.prog 67 #[.int .u32 (v c)] w fun e w' => e = .returned (.tuple #[.int .u32 (v (sols c)), .bool (decide (lo (got c 32) = 0#32))]) ∧ Below w.heap.size w w' := by
  have hM := Aside0.mk (fun (a b : F) (W : World) => gossamerref01_Mul.calls 66 (v a) (v b) _ W (rmul_v a b 66 (by omega)))
  obtain ⟨V, hV⟩ : ∃ V, V = w.alloc (.cells ((rows0 0).map fun r => Value.int .u64 (q r)).toArray 98) := ⟨_, rfl⟩
  have hX : A64 V w.heap.size 98 (rows0 0) := by rw [hV]; exact A64.new w _ _
  have hB : Below w.heap.size w V := by rw [hV]; exact below_alloc (Below.refl _ _) _
  have hVA := Aside0.mk hV; have hXA := Aside0.mk hX; have hBA := Aside0.mk hB
  clear hV hX hB
  have hz := zv
  go_enter Try.func67, Try.ntmps67
  go_wp2_with fail
  rw [← hVA.out]
  go_loopw [5] (fun i wr => ∃ k : Nat, k ≤ 32 ∧ i = .int .i64 (k : Int) ∧ A64 wr w.heap.size 98 (rows0 k) ∧ Below w.heap.size w wr) (fun i _ => 32 - (intOf i).toNat)
  case atStart => exact ⟨0, by omega, rfl, hXA.out, hBA.out⟩
  case round =>
    clear hXA hBA hVA hz
    obtain ⟨k, hk, rfl, hX, hB⟩ := hrel
    by_cases hlt : k < 32
    · have p1 : (k : Int) < 32 := by omega
      have e1 : IntKind.u64.wrap (k : Int) = (k : Int) := by rw [wrap_u64]; omega
      have e2 : IntKind.i64.wrap ((k : Int) + 1) = (k : Int) + 1 := IntWalk.i64_in _ (by omega)
      have hXA := Aside0.mk hX; have hBA := Aside0.mk hB
      clear hX hB
      have ep := ep_ k hlt
      go_wp2_with (go_at_call 68; (with_reducible refine (hM.out (e k) (e k) _).mono ?_); rintro e0 w1 ⟨rfl, hd1⟩; have hX1A := Aside0.mk (hXA.out.below hd1.below); have hB1A := Aside0.mk (below_then hBA.out hBA.out.size hd1.below); have ex := xor_v (mul (e k) (e k)) (e k); have er := row_q k hlt; have hc := hX1A.out.at k (by rw [rows0_length]; exact hlt); have hf := hX1A.out.fz k; clear hd1)
      go_roundw
      · exact ⟨k + 1, by omega, by go_num, by rw [rows0_succ]; exact hX1A.out.put k (row0 k), hB1A.out.setCell (Nat.le_refl _) _⟩
      · simp [intOf]; omega
    · obtain rfl : k = 32 := by omega
      have p1 : ¬ ((32 : Nat) : Int) < 32 := by omega
      have hXA := Aside0.mk hX; have hBA := Aside0.mk hB
      clear hX hB
      go_wp2_with fail
      go_loopw [7, 8, 9] (fun g u b wr => ∃ k : Nat, k ≤ 32 ∧ b = .int .i64 (k : Int) ∧ g = .int .u64 (q (got c k)) ∧ u = .int .i64 ((sts k).2 : Int) ∧ A64 wr w.heap.size 98 (sts k).1 ∧ Below w.heap.size w wr) (fun _ _ b _ => 32 - (intOf b).toNat)
      case atStart => exact ⟨0, by omega, rfl, by rw [wide_q]; rfl, rfl, hXA.out, hBA.out⟩
      case round =>
        clear hXA hBA p1
        obtain ⟨b, hb, rfl, rfl, rfl, hX, hB⟩ := hrel
        obtain ⟨hok1, hok2⟩ := sts_ok b
        obtain ⟨g, hg⟩ : ∃ g, g = got c b := ⟨_, rfl⟩
        obtain ⟨rs, hrs⟩ : ∃ r, r = (sts b).1 := ⟨_, rfl⟩
        obtain ⟨u, hu⟩ : ∃ r, r = (sts b).2 := ⟨_, rfl⟩
        have hst : sts b = (rs, u) := by rw [hrs, hu]
        rw [← hrs] at hX hok1
        rw [← hu] at hok2 ⊢
        rw [← hg]
        have hgA := Aside0.mk hg; have hstA := Aside0.mk hst; have hlA := Aside0.mk hok1
        clear hg hrs hu hst hok1
        by_cases hlb : b < 32
        · have p1 : (b : Int) < 32 := by omega
          have e1 : IntKind.u64.wrap (b : Int) = (b : Int) := by rw [wrap_u64]; omega
          have e2 : IntKind.i64.wrap ((b : Int) + 1) = (b : Int) + 1 := IntWalk.i64_in _ (by omega)
          have hXA := Aside0.mk hX; have hBA := Aside0.mk hB
          clear hX hB
          go_wp2_with fail
          go_loopw [10, 11] (fun kx i wr => ∃ m : Nat, u ≤ m ∧ m ≤ 32 ∧ i = .int .i64 (m : Int) ∧ kx = kv (kk rs b u (m - u)) ∧ A64 wr w.heap.size 98 rs ∧ Below w.heap.size w wr) (fun _ i _ => 32 - (intOf i).toNat)
          case atStart => exact ⟨u, by omega, by omega, rfl, by rw [Nat.sub_self]; rfl, hXA.out, hBA.out⟩
          case round =>
            clear hXA hBA
            obtain ⟨m, hm1, hm2, rfl, rfl, hX, hB⟩ := hrel
            by_cases hlm : m < 32
            · have p2 : (m : Int) < 32 := by omega
              have p3 : (0 : Int) ≤ (m : Int) := by omega
              have e3 : IntKind.i64.wrap ((m : Int) + 1) = (m : Int) + 1 := IntWalk.i64_in _ (by omega)
              have hc := hX.at m (by have := hlA.out; omega)
              have hXA := Aside0.mk hX; have hBA := Aside0.mk hB
              have hkk : kk rs b u (m + 1 - u) = if (rs.getD m 0#64).getLsbD b then some m else kk rs b u (m - u) := by
                rw [show m + 1 - u = (m - u) + 1 by omega, kk, show u + (m - u) = m by omega]
              have hkkA := Aside0.mk hkk
              clear hX hB hkk
              obtain ⟨r, hr⟩ : ∃ r, r = rs.getD m 0#64 := ⟨_, rfl⟩
              rw [← hr] at hc hkkA
              have hrA := Aside0.mk hr
              clear hr
              cases hbt : r.getLsbD b with
              | true =>
                have hb1 := bit_true hbt
                have hbtA := Aside0.mk hbt
                clear hbt
                go_wp2_with fail
                go_roundw
                · exact ⟨m + 1, by omega, by omega, by go_num, by rw [hkkA.out, if_pos hbtA.out]; rfl, hXA.out, hBA.out⟩
                · simp [intOf]; omega
              | false =>
                have hb1 := bit_false hbt
                have hbtA := Aside0.mk hbt
                clear hbt
                go_wp2_with fail
                go_roundw
                · exact ⟨m + 1, by omega, by omega, by go_num, by rw [hkkA.out, if_neg (by rw [hbtA.out]; decide)], hXA.out, hBA.out⟩
                · simp [intOf]; omega
            · obtain rfl : m = 32 := by omega
              have p2 : ¬ ((32 : Nat) : Int) < 32 := by omega
              have hXA := Aside0.mk hX; have hBA := Aside0.mk hB
              clear hX hB
              cases hkk : kk rs b u (32 - u) with
              | none =>
                have hkA := Aside0.mk hkk
                clear hkk
                have hs1 : sts (b + 1) = (rs, u) := by show stp (sts b) b = _; rw [hstA.out]; simp only [stp, hkA.out]
                have hg1 : got c (b + 1) = g := by rw [hgA.out]; show gstep (piv (sts b) b) b (got c b) = _; rw [hstA.out]; simp only [piv, hkA.out]; rfl
                have hs1A := Aside0.mk hs1; have hg1A := Aside0.mk hg1
                clear hs1 hg1
                simp only [kv]
                go_wp2_with fail
                go_roundw
                · exact ⟨b + 1, by omega, by go_num, by rw [hg1A.out], by rw [hs1A.out], by rw [hs1A.out]; exact hXA.out, hBA.out⟩
                · simp [intOf]; omega
              | some k =>
                have hk := kk_bd rs b u (32 - u) k hkk
                obtain ⟨hk1, hk2⟩ := hk
                have hk3 : k < 32 := by omega
                have hu3 : u < 32 := by omega
                have hkA := Aside0.mk hkk
                clear hkk hk2
                simp only [kv]
                go_wp2_with fail
                have hLA := hlA
                obtain ⟨x, hx⟩ : ∃ x, rs.getD k 0#64 = x := ⟨_, rfl⟩
                obtain ⟨y, hy⟩ : ∃ x, rs.getD u 0#64 = x := ⟨_, rfl⟩
                have hswx := Aside0.mk (show swp rs u k = (rs.set u x).set k y by unfold swp; rw [hx, hy])
                have hxA := Aside0.mk hx; have hyA := Aside0.mk hy
                clear hx hy
                have q1 : (0 : Int) ≤ (u : Int) := by omega
                have q2 : (u : Int) < 32 := by omega
                have q3 : (0 : Int) ≤ (k : Int) := by omega
                have q4 : (k : Int) < 32 := by omega
                refine cut_at (fun a0 e a' W' => e = .normal ∧ a' = (((((((((a0.put (some 56) (.int .i64 (u : Int))).put (some 57) (.int .i64 (k : Int))).put (some 58) (.int .i64 (k : Int))).put (some 59) (.pointer (some ⟨w.heap.size, k, none⟩))).put (some 60) (.int .u64 (q x))).put (some 61) (.int .i64 (u : Int))).put (some 62) (.pointer (some ⟨w.heap.size, u, none⟩))).put (some 63) (.int .u64 (q y))).put (some 64) (.pointer (some ⟨w.heap.size, u, none⟩))).put (some 65) (.pointer (some ⟨w.heap.size, k, none⟩)) ∧ A64 W' w.heap.size 98 (swp rs u k) ∧ Below w.heap.size w W') ?_ ?_
                · refine wp_region_noPanic ?_
                  have XX0 : Aside0 (A64 wr.drew w.heap.size 98 rs) := Aside0.mk (hXA.out.drewN 1)
                  have H0 : Below w.heap.size w wr.drew := pw_below_drewN hBA.out 1
                  refine wp_region_held_drew (S := fun V1 => Below w.heap.size w V1) (by kernel_rfl) H0 (fun _ => ?_)
                  generalize wr.drew = V0 at *
                  refine wpAnyH_take (i := 0) (v := .int .i64 (u : Int)) (op_at rfl) (by kernel_rfl) (by kernel_rfl) (by kernel_rfl) (fun _ _ _ h => h) (Or.inl ⟨by rfl, fun w_ hSw => ?_⟩) H0 ?_
                  · skip; go_simp
                  try simp only [Act.put, List.setIfInBounds_toArray, List.set_cons_zero, List.set_cons_succ]
                  refine wpAnyH_take (i := 1) (v := .int .i64 (k : Int)) (op_at rfl) (by kernel_rfl) (by kernel_rfl) (by kernel_rfl) (fun _ _ _ h => h) (Or.inl ⟨by rfl, fun w_ hSw => ?_⟩) H0 ?_
                  · skip; go_simp
                  try simp only [Act.put, List.setIfInBounds_toArray, List.set_cons_zero, List.set_cons_succ]
                  refine wpAnyH_take (i := 2) (v := .int .i64 (k : Int)) (op_at rfl) (by kernel_rfl) (by kernel_rfl) (by kernel_rfl) (fun _ _ _ h => h) (Or.inl ⟨by rfl, fun w_ hSw => ?_⟩) H0 ?_
                  · skip; go_simp
                  try simp only [Act.put, List.setIfInBounds_toArray, List.set_cons_zero, List.set_cons_succ]
                  refine wpAnyH_take (i := 3) (v := .pointer (some ⟨w.heap.size, k, none⟩)) (op_at rfl) (by kernel_rfl) (by kernel_rfl) (by kernel_rfl) (fun _ _ _ h => h) (Or.inl ⟨by rfl, fun w_ hSw => ?_⟩) H0 ?_
                  · skip; go_simp
                  try simp only [Act.put, List.setIfInBounds_toArray, List.set_cons_zero, List.set_cons_succ]
                  refine wpAnyH_take (i := 5) (v := .int .i64 (u : Int)) (op_at rfl) (by kernel_rfl) (by kernel_rfl) (by kernel_rfl) (fun _ _ _ h => h) (Or.inl ⟨by rfl, fun w_ hSw => ?_⟩) H0 ?_
                  · skip; go_simp
                  try simp only [Act.put, List.setIfInBounds_toArray, List.set_cons_zero, List.set_cons_succ]
                  refine wpAnyH_take (i := 6) (v := .pointer (some ⟨w.heap.size, u, none⟩)) (op_at rfl) (by kernel_rfl) (by kernel_rfl) (by kernel_rfl) (fun _ _ _ h => h) (Or.inl ⟨by rfl, fun w_ hSw => ?_⟩) H0 ?_
                  · skip; go_simp
                  try simp only [Act.put, List.setIfInBounds_toArray, List.set_cons_zero, List.set_cons_succ]
                  refine wpAnyH_ready (rs := [4, 7]) (by kernel_rfl) (by simp) ?_
                  refine AllReadyH.cons (op_at rfl) (fun K hK => ?_) (AllReadyH.cons (op_at rfl) (fun K hK => ?_) AllReadyH.nil)
                  · have hc_ := (by have h_ := XX0.out.at k (by have := hLA.out; omega); rwa [hxA.out] at h_)
                    go_simp
                    clear hc_
                    refine hK.out _ _ H0 (fun H1_ => ?_)
                    clear hK K
                    try simp only [Act.put, List.setIfInBounds_toArray, List.set_cons_zero, List.set_cons_succ]
                    refine wpAnyH_ready (rs := [7]) (by kernel_rfl) (by simp) ?_
                    refine AllReadyH.cons (op_at rfl) (fun K hK => ?_) AllReadyH.nil
                    have hc_ := (by have h_ := XX0.out.at u (by have := hLA.out; omega); rwa [hyA.out] at h_)
                    go_simp
                    clear hc_
                    refine hK.out _ _ H1_ (fun H2_ => ?_)
                    clear hK K
                    try simp only [Act.put, List.setIfInBounds_toArray, List.set_cons_zero, List.set_cons_succ]
                    refine wpAnyH_take (i := 8) (v := .pointer (some ⟨w.heap.size, u, none⟩)) (op_at rfl) (by kernel_rfl) (by kernel_rfl) (by kernel_rfl) (fun _ _ _ h => h) (Or.inl ⟨by rfl, fun w_ hSw => ?_⟩) H2_ ?_
                    · skip; go_simp
                    try simp only [Act.put, List.setIfInBounds_toArray, List.set_cons_zero, List.set_cons_succ]
                    refine wpAnyH_ready (rs := [9]) (by kernel_rfl) (by simp) ?_
                    refine AllReadyH.cons (op_at rfl) (fun K hK => ?_) AllReadyH.nil
                    have hc_ := XX0.out.at u (by first | (have := hLA.out; omega) | (rw [List.length_set]; have := hLA.out; omega))
                    have hf_ := XX0.out.fz u
                    go_simp
                    refine hK.out _ _ (H2_.setCell (p := ⟨w.heap.size, u, none⟩) (Nat.le_refl _) _) (fun H3_ => ?_)
                    have XX_3 := Aside0.mk (XX0.out.put u (x))
                    clear hK K hc_ hf_
                    try simp only [Act.put, List.setIfInBounds_toArray, List.set_cons_zero, List.set_cons_succ]
                    refine wpAnyH_take (i := 10) (v := .pointer (some ⟨w.heap.size, k, none⟩)) (op_at rfl) (by kernel_rfl) (by kernel_rfl) (by kernel_rfl) (fun _ _ _ h => h) (Or.inl ⟨by rfl, fun w_ hSw => ?_⟩) H3_ ?_
                    · skip; go_simp
                    try simp only [Act.put, List.setIfInBounds_toArray, List.set_cons_zero, List.set_cons_succ]
                    refine wpAnyH_ready (rs := [11]) (by kernel_rfl) (by simp) ?_
                    refine AllReadyH.cons (op_at rfl) (fun K hK => ?_) AllReadyH.nil
                    have hc_ := XX_3.out.at k (by first | (have := hLA.out; omega) | (rw [List.length_set]; have := hLA.out; omega))
                    have hf_ := XX_3.out.fz k
                    go_simp
                    refine hK.out _ _ (H3_.setCell (p := ⟨w.heap.size, k, none⟩) (Nat.le_refl _) _) (fun H4_ => ?_)
                    have XX_4 := Aside0.mk (XX_3.out.put k (y))
                    clear hK K hc_ hf_
                    try simp only [Act.put, List.setIfInBounds_toArray, List.set_cons_zero, List.set_cons_succ]
                    refine wpAnyH_done (by kernel_rfl) ?_ _
                    refine NoPanic.normal ?_
                    exact ⟨rfl, by simp only [Act.put, List.setIfInBounds_toArray, List.set_cons_zero, List.set_cons_succ], by rw [hswx.out]; exact XX_4.out, H4_⟩
                  · have hc_ := (by have h_ := XX0.out.at u (by have := hLA.out; omega); rwa [hyA.out] at h_)
                    go_simp
                    clear hc_
                    refine hK.out _ _ H0 (fun H5_ => ?_)
                    clear hK K
                    try simp only [Act.put, List.setIfInBounds_toArray, List.set_cons_zero, List.set_cons_succ]
                    refine wpAnyH_ready (rs := [4]) (by kernel_rfl) (by simp) ?_
                    refine AllReadyH.cons (op_at rfl) (fun K hK => ?_) AllReadyH.nil
                    have hc_ := (by have h_ := XX0.out.at k (by have := hLA.out; omega); rwa [hxA.out] at h_)
                    go_simp
                    clear hc_
                    refine hK.out _ _ H5_ (fun H6_ => ?_)
                    clear hK K
                    try simp only [Act.put, List.setIfInBounds_toArray, List.set_cons_zero, List.set_cons_succ]
                    refine wpAnyH_take (i := 8) (v := .pointer (some ⟨w.heap.size, u, none⟩)) (op_at rfl) (by kernel_rfl) (by kernel_rfl) (by kernel_rfl) (fun _ _ _ h => h) (Or.inl ⟨by rfl, fun w_ hSw => ?_⟩) H6_ ?_
                    · skip; go_simp
                    try simp only [Act.put, List.setIfInBounds_toArray, List.set_cons_zero, List.set_cons_succ]
                    refine wpAnyH_ready (rs := [9]) (by kernel_rfl) (by simp) ?_
                    refine AllReadyH.cons (op_at rfl) (fun K hK => ?_) AllReadyH.nil
                    have hc_ := XX0.out.at u (by first | (have := hLA.out; omega) | (rw [List.length_set]; have := hLA.out; omega))
                    have hf_ := XX0.out.fz u
                    go_simp
                    refine hK.out _ _ (H6_.setCell (p := ⟨w.heap.size, u, none⟩) (Nat.le_refl _) _) (fun H7_ => ?_)
                    have XX_7 := Aside0.mk (XX0.out.put u (x))
                    clear hK K hc_ hf_
                    try simp only [Act.put, List.setIfInBounds_toArray, List.set_cons_zero, List.set_cons_succ]
                    refine wpAnyH_take (i := 10) (v := .pointer (some ⟨w.heap.size, k, none⟩)) (op_at rfl) (by kernel_rfl) (by kernel_rfl) (by kernel_rfl) (fun _ _ _ h => h) (Or.inl ⟨by rfl, fun w_ hSw => ?_⟩) H7_ ?_
                    · skip; go_simp
                    try simp only [Act.put, List.setIfInBounds_toArray, List.set_cons_zero, List.set_cons_succ]
                    refine wpAnyH_ready (rs := [11]) (by kernel_rfl) (by simp) ?_
                    refine AllReadyH.cons (op_at rfl) (fun K hK => ?_) AllReadyH.nil
                    have hc_ := XX_7.out.at k (by first | (have := hLA.out; omega) | (rw [List.length_set]; have := hLA.out; omega))
                    have hf_ := XX_7.out.fz k
                    go_simp
                    refine hK.out _ _ (H7_.setCell (p := ⟨w.heap.size, k, none⟩) (Nat.le_refl _) _) (fun H8_ => ?_)
                    have XX_8 := Aside0.mk (XX_7.out.put k (y))
                    clear hK K hc_ hf_
                    try simp only [Act.put, List.setIfInBounds_toArray, List.set_cons_zero, List.set_cons_succ]
                    refine wpAnyH_done (by kernel_rfl) ?_ _
                    refine NoPanic.normal ?_
                    exact ⟨rfl, by simp only [Act.put, List.setIfInBounds_toArray, List.set_cons_zero, List.set_cons_succ], by rw [hswx.out]; exact XX_8.out, H8_⟩
                rintro e a' W9 ⟨rfl, rfl, hX9, hB9⟩
                simp only [Act.put, List.setIfInBounds_toArray, List.set_cons_zero, List.set_cons_succ]
                obtain ⟨sw, hsw⟩ : ∃ s, s = swp rs u k := ⟨_, rfl⟩
                have hswl : sw.length = 32 := by rw [hsw, swp_length]; exact hlA.out
                rw [← hsw] at hX9
                have hswA := Aside0.mk hsw; have hswlA := Aside0.mk hswl; have hX9A := Aside0.mk hX9; have hB9A := Aside0.mk hB9
                clear hsw hswl hX9 hB9 hXA hBA hLA q3 q4
                go_wp2_with fail
                go_loopw [12] (fun i wr => ∃ m : Nat, m ≤ 32 ∧ i = .int .i64 (m : Int) ∧ A64 wr w.heap.size 98 (elimN sw u b m) ∧ Below w.heap.size w wr) (fun i _ => 32 - (intOf i).toNat)
                case atStart => exact ⟨0, by omega, rfl, hX9A.out, hB9A.out⟩
                case round =>
                  clear hX9A hB9A
                  obtain ⟨m, hm, rfl, hX, hB⟩ := hrel
                  by_cases hlm : m < 32
                  · have p2 : (m : Int) < 32 := by omega
                    have p3 : (0 : Int) ≤ (m : Int) := by omega
                    have e3 : IntKind.i64.wrap ((m : Int) + 1) = (m : Int) + 1 := IntWalk.i64_in _ (by omega)
                    obtain ⟨cur, hcur⟩ : ∃ s, s = elimN sw u b m := ⟨_, rfl⟩
                    have hcl : cur.length = 32 := by rw [hcur, elimN_length]; exact hswlA.out
                    have hnx0 : elimN sw u b (m + 1) = if m ≠ u ∧ (cur.getD m 0#64).getLsbD b = true then cur.set m (cur.getD m 0#64 ^^^ cur.getD u 0#64) else cur := by rw [elimN, ← hcur]
                    rw [← hcur] at hX
                    have hXA := Aside0.mk hX; have hBA := Aside0.mk hB; have hnxA := Aside0.mk hnx0; have hLA := Aside0.mk hcl
                    have hc := hX.at m (by omega)
                    clear hX hB hnx0 hcl hcur
                    by_cases hmu : m = u
                    · have q5 : ((m : Int) != (u : Int)) = false := by rw [hmu]; simp
                      have hnx := Aside0.mk (hnxA.out.trans (if_neg (by simp [hmu])))
                      have hmuA := Aside0.mk hmu
                      clear hmu
                      go_wp2_with fail
                      go_roundw
                      · exact ⟨m + 1, by omega, by go_num, by rw [hnx.out]; exact hXA.out, hBA.out⟩
                      · simp [intOf]; omega
                    · have q5 : ((m : Int) != (u : Int)) = true := by rw [bne_iff_ne]; omega
                      obtain ⟨r, hr⟩ : ∃ r, cur.getD m 0#64 = r := ⟨_, rfl⟩
                      obtain ⟨y, hy⟩ : ∃ r, cur.getD u 0#64 = r := ⟨_, rfl⟩
                      rw [hr] at hc hnxA
                      rw [hy] at hnxA
                      have hyA := Aside0.mk hy
                      clear hy
                      have hrA := Aside0.mk hr
                      clear hr
                      cases hbt : r.getLsbD b with
                      | true =>
                        have hb1 := bit_true hbt
                        have hnx := Aside0.mk (hnxA.out.trans (if_pos ⟨hmu, hbt⟩))
                        clear hbt
                        go_wp2_with fail
                        clear hc hb1
                        refine wp_region_noPanic ?_
                        have XX0 : Aside0 (A64 wr.drew w.heap.size 98 cur) := Aside0.mk (hXA.out.drewN 1)
                        have H0 : Below w.heap.size w wr.drew := pw_below_drewN hBA.out 1
                        refine wp_region_held_drew (S := fun V1 => Below w.heap.size w V1) (by kernel_rfl) H0 (fun _ => ?_)
                        generalize wr.drew = V0 at *
                        refine wpAnyH_take (i := 0) (v := .int .i64 (m : Int)) (op_at rfl) (by kernel_rfl) (by kernel_rfl) (by kernel_rfl) (fun _ _ _ h => h) (Or.inl ⟨by rfl, fun w_ hSw => ?_⟩) H0 ?_
                        · skip; go_simp
                        try simp only [Act.put, List.setIfInBounds_toArray, List.set_cons_zero, List.set_cons_succ]
                        refine wpAnyH_take (i := 1) (v := .int .i64 (m : Int)) (op_at rfl) (by kernel_rfl) (by kernel_rfl) (by kernel_rfl) (fun _ _ _ h => h) (Or.inl ⟨by rfl, fun w_ hSw => ?_⟩) H0 ?_
                        · skip; go_simp
                        try simp only [Act.put, List.setIfInBounds_toArray, List.set_cons_zero, List.set_cons_succ]
                        refine wpAnyH_take (i := 2) (v := .pointer (some ⟨w.heap.size, m, none⟩)) (op_at rfl) (by kernel_rfl) (by kernel_rfl) (by kernel_rfl) (fun _ _ _ h => h) (Or.inl ⟨by rfl, fun w_ hSw => ?_⟩) H0 ?_
                        · skip; go_simp
                        try simp only [Act.put, List.setIfInBounds_toArray, List.set_cons_zero, List.set_cons_succ]
                        refine wpAnyH_take (i := 4) (v := .int .i64 (u : Int)) (op_at rfl) (by kernel_rfl) (by kernel_rfl) (by kernel_rfl) (fun _ _ _ h => h) (Or.inl ⟨by rfl, fun w_ hSw => ?_⟩) H0 ?_
                        · skip; go_simp
                        try simp only [Act.put, List.setIfInBounds_toArray, List.set_cons_zero, List.set_cons_succ]
                        refine wpAnyH_take (i := 5) (v := .pointer (some ⟨w.heap.size, u, none⟩)) (op_at rfl) (by kernel_rfl) (by kernel_rfl) (by kernel_rfl) (fun _ _ _ h => h) (Or.inl ⟨by rfl, fun w_ hSw => ?_⟩) H0 ?_
                        · skip; go_simp
                        try simp only [Act.put, List.setIfInBounds_toArray, List.set_cons_zero, List.set_cons_succ]
                        refine wpAnyH_ready (rs := [3, 6]) (by kernel_rfl) (by simp) ?_
                        refine AllReadyH.cons (op_at rfl) (fun K hK => ?_) (AllReadyH.cons (op_at rfl) (fun K hK => ?_) AllReadyH.nil)
                        · have hc_ := (by have h_ := XX0.out.at m (by have := hLA.out; omega); rwa [hrA.out] at h_)
                          go_simp
                          clear hc_
                          refine hK.out _ _ H0 (fun H1_ => ?_)
                          clear hK K
                          try simp only [Act.put, List.setIfInBounds_toArray, List.set_cons_zero, List.set_cons_succ]
                          refine wpAnyH_ready (rs := [6]) (by kernel_rfl) (by simp) ?_
                          refine AllReadyH.cons (op_at rfl) (fun K hK => ?_) AllReadyH.nil
                          have hc_ := (by have h_ := XX0.out.at u (by have := hLA.out; omega); rwa [hyA.out] at h_)
                          go_simp
                          clear hc_
                          refine hK.out _ _ H1_ (fun H2_ => ?_)
                          clear hK K
                          try simp only [Act.put, List.setIfInBounds_toArray, List.set_cons_zero, List.set_cons_succ]
                          refine wpAnyH_take (i := 7) (v := .int .u64 (q (r ^^^ y))) (op_at rfl) (by kernel_rfl) (by kernel_rfl) (by kernel_rfl) (fun _ _ _ h => h) (Or.inl ⟨by rfl, fun w_ hSw => ?_⟩) H2_ ?_
                          · have ex_ := xor_q r y; go_simp
                          try simp only [Act.put, List.setIfInBounds_toArray, List.set_cons_zero, List.set_cons_succ]
                          refine wpAnyH_take (i := 8) (v := .pointer (some ⟨w.heap.size, m, none⟩)) (op_at rfl) (by kernel_rfl) (by kernel_rfl) (by kernel_rfl) (fun _ _ _ h => h) (Or.inl ⟨by rfl, fun w_ hSw => ?_⟩) H2_ ?_
                          · skip; go_simp
                          try simp only [Act.put, List.setIfInBounds_toArray, List.set_cons_zero, List.set_cons_succ]
                          refine wpAnyH_ready (rs := [9]) (by kernel_rfl) (by simp) ?_
                          refine AllReadyH.cons (op_at rfl) (fun K hK => ?_) AllReadyH.nil
                          have hc_ := XX0.out.at m (by first | (have := hLA.out; omega) | (rw [List.length_set]; have := hLA.out; omega))
                          have hf_ := XX0.out.fz m
                          go_simp
                          refine hK.out _ _ (H2_.setCell (p := ⟨w.heap.size, m, none⟩) (Nat.le_refl _) _) (fun H3_ => ?_)
                          have XX_3 := Aside0.mk (XX0.out.put m (r ^^^ y))
                          clear hK K hc_ hf_
                          try simp only [Act.put, List.setIfInBounds_toArray, List.set_cons_zero, List.set_cons_succ]
                          refine wpAnyH_done (by kernel_rfl) ?_ _
                          refine NoPanic.normal ?_
                          go_wp2_with fail
                          go_roundw
                          · exact ⟨m + 1, by omega, by go_num, by rw [hnx.out]; exact XX_3.out, H3_⟩
                          · simp [intOf]; omega
                        · have hc_ := (by have h_ := XX0.out.at u (by have := hLA.out; omega); rwa [hyA.out] at h_)
                          go_simp
                          clear hc_
                          refine hK.out _ _ H0 (fun H4_ => ?_)
                          clear hK K
                          try simp only [Act.put, List.setIfInBounds_toArray, List.set_cons_zero, List.set_cons_succ]
                          refine wpAnyH_ready (rs := [3]) (by kernel_rfl) (by simp) ?_
                          refine AllReadyH.cons (op_at rfl) (fun K hK => ?_) AllReadyH.nil
                          have hc_ := (by have h_ := XX0.out.at m (by have := hLA.out; omega); rwa [hrA.out] at h_)
                          go_simp
                          clear hc_
                          refine hK.out _ _ H4_ (fun H5_ => ?_)
                          clear hK K
                          try simp only [Act.put, List.setIfInBounds_toArray, List.set_cons_zero, List.set_cons_succ]
                          refine wpAnyH_take (i := 7) (v := .int .u64 (q (r ^^^ y))) (op_at rfl) (by kernel_rfl) (by kernel_rfl) (by kernel_rfl) (fun _ _ _ h => h) (Or.inl ⟨by rfl, fun w_ hSw => ?_⟩) H5_ ?_
                          · have ex_ := xor_q r y; go_simp
                          try simp only [Act.put, List.setIfInBounds_toArray, List.set_cons_zero, List.set_cons_succ]
                          refine wpAnyH_take (i := 8) (v := .pointer (some ⟨w.heap.size, m, none⟩)) (op_at rfl) (by kernel_rfl) (by kernel_rfl) (by kernel_rfl) (fun _ _ _ h => h) (Or.inl ⟨by rfl, fun w_ hSw => ?_⟩) H5_ ?_
                          · skip; go_simp
                          try simp only [Act.put, List.setIfInBounds_toArray, List.set_cons_zero, List.set_cons_succ]
                          refine wpAnyH_ready (rs := [9]) (by kernel_rfl) (by simp) ?_
                          refine AllReadyH.cons (op_at rfl) (fun K hK => ?_) AllReadyH.nil
                          have hc_ := XX0.out.at m (by first | (have := hLA.out; omega) | (rw [List.length_set]; have := hLA.out; omega))
                          have hf_ := XX0.out.fz m
                          go_simp
                          refine hK.out _ _ (H5_.setCell (p := ⟨w.heap.size, m, none⟩) (Nat.le_refl _) _) (fun H6_ => ?_)
                          have XX_6 := Aside0.mk (XX0.out.put m (r ^^^ y))
                          clear hK K hc_ hf_
                          try simp only [Act.put, List.setIfInBounds_toArray, List.set_cons_zero, List.set_cons_succ]
                          refine wpAnyH_done (by kernel_rfl) ?_ _
                          refine NoPanic.normal ?_
                          go_wp2_with fail
                          go_roundw
                          · exact ⟨m + 1, by omega, by go_num, by rw [hnx.out]; exact XX_6.out, H6_⟩
                          · simp [intOf]; omega
                      | false =>
                        have hb1 := bit_false hbt
                        have hnx := Aside0.mk (hnxA.out.trans (if_neg (by rw [hbt]; simp)))
                        clear hbt
                        go_wp2_with fail
                        go_roundw
                        · exact ⟨m + 1, by omega, by go_num, by rw [hnx.out]; exact hXA.out, hBA.out⟩
                        · simp [intOf]; omega
                  · obtain rfl : m = 32 := by omega
                    have p2 : ¬ ((32 : Nat) : Int) < 32 := by omega
                    obtain ⟨el, hel⟩ : ∃ s, s = elimN sw u b 32 := ⟨_, rfl⟩
                    have hell : el.length = 32 := by rw [hel, elimN_length]; exact hswlA.out
                    rw [← hel] at hX
                    have hs1 : sts (b + 1) = (el, u + 1) := by show stp (sts b) b = _; rw [hstA.out]; simp only [stp, hkA.out, elim]; rw [hel, hswA.out]
                    have hpv : piv (sts b) b = some (el.getD u 0#64) := by rw [hstA.out]; simp only [piv, hkA.out, elim]; rw [hel, hswA.out]
                    have hg1 : got c (b + 1) = if g.getLsbD b then g ^^^ el.getD u 0#64 else g := by show gstep (piv (sts b) b) b (got c b) = _; rw [hpv, ← hgA.out]; rfl
                    have hc := hX.at u (by omega)
                    obtain ⟨y, hy⟩ : ∃ r, el.getD u 0#64 = r := ⟨_, rfl⟩
                    rw [hy] at hc hg1
                    clear hy
                    have hXA := Aside0.mk hX; have hBA := Aside0.mk hB; have hs1A := Aside0.mk hs1; have hg1A := Aside0.mk hg1
                    have e4 : IntKind.i64.wrap ((u : Int) + 1) = (u : Int) + 1 := IntWalk.i64_in _ (by omega)
                    clear hX hB hs1 hpv hg1 hel hell
                    cases hbt : g.getLsbD b with
                    | true =>
                      have hb1 := bit_true hbt
                      have ex := xor_q g y
                      have hbtA := Aside0.mk hbt
                      clear hbt
                      go_wp2_with fail
                      go_roundw
                      · exact ⟨b + 1, by omega, by go_num, by rw [hg1A.out, if_pos hbtA.out], by rw [hs1A.out]; go_num, by rw [hs1A.out]; exact hXA.out, hBA.out⟩
                      · simp [intOf]; omega
                    | false =>
                      have hb1 := bit_false hbt
                      have hbtA := Aside0.mk hbt
                      clear hbt
                      go_wp2_with fail
                      go_roundw
                      · exact ⟨b + 1, by omega, by go_num, by rw [hg1A.out, if_neg (by rw [hbtA.out]; decide)], by rw [hs1A.out]; go_num, by rw [hs1A.out]; exact hXA.out, hBA.out⟩
                      · simp [intOf]; omega
        · obtain rfl : b = 32 := by omega
          have p1 : ¬ ((32 : Nat) : Int) < 32 := by omega
          have hBA := Aside0.mk hB
          clear hX hB
          by_cases hlo : lo g = 0#32
          · have em : (q g).tmod 4294967296 = 0 := by rw [lo_q, hlo]; rfl
            have eh := hi_q g
            obtain ⟨h, hh⟩ : ∃ h, v (hi g) = h := ⟨_, rfl⟩
            rw [hh] at eh
            have hr : v (sols c) = h - h % 2 := by unfold sols; rw [← hgA.out, if_pos hlo, even_sub, hh]
            have hlt : 0 ≤ h ∧ h < 4294967296 := by rw [← hh]; exact v_lt _
            have ed : decide (lo (got c 32) = 0#32) = true := by rw [← hgA.out]; exact decide_eq_true hlo
            have hrA := Aside0.mk hr; have hltA := Aside0.mk hlt; have edA := Aside0.mk ed
            clear hlo hh hr hlt ed
            go_wp2_with fail
            rw [show (v (sols c)) = h - h % 2 from hrA.out, edA.out]
            have e5 : h % 4294967296 - h % 2 = h - h % 2 := by have := hltA.out; omega
            rw [e5]
            exact bodyPost_ret (results_tmp2 rfl _ _ _) rfl ⟨rfl, hBA.out⟩
          · obtain ⟨l, hl⟩ : ∃ l, v (lo g) = l := ⟨_, rfl⟩
            have em : (q g).tmod 4294967296 = l := by rw [lo_q, hl]
            have en : (l != 0) = true := by
              rw [bne_iff_ne]; intro h; apply hlo
              rw [← v_inj, hl, h]; rfl
            have hr : v (sols c) = 0 := by unfold sols; rw [← hgA.out, if_neg hlo]; rfl
            have ed : decide (lo (got c 32) = 0#32) = false := by rw [← hgA.out]; exact decide_eq_false hlo
            have hrA := Aside0.mk hr; have edA := Aside0.mk ed
            clear hlo hl hr ed
            go_wp2_with fail
            exact bodyPost_ret (results_tmp2 rfl _ _ _) rfl ⟨by rw [hrA.out, edA.out]; rfl, hBA.out⟩
end Go.Proofs.Ytljkbkhaamlbmaa.RSolve
