/- SHA-256: the small functions. -/
import Derived.WalkKit
import Derived.StillTailTactics
import Derived.Test.YtlgfekllkahfaaaDoorProg
import Derived.Test.YtlgfekllkahfaaaDoorWMore
import Derived.Test.YtlgfekllkahfaaaDoorBits
import Derived.Test.YtlgfekllkahfaaaDoorSha
set_option linter.unusedVariables false
set_option linter.unusedSimpArgs false
namespace Go.Proofs.YtlgfekllkahfaaaDoor.ShaW
open Go.RowKit Go.Proofs.YtlgfekllkahfaaaDoorW.PrintWords Go.Proofs.YtlgfekllkahfaaaDoorW.PrintMore Go.Proofs.YtlgfekllkahfaaaDoor Go.Proofs.YtlgfekllkahfaaaDoor.Bits Sha
theorem vshr (x : F) (n : Nat) : v x / 2 ^ n = v (x >>> n) := by
  unfold v
  rw [pow_cast, ediv_cast, BitVec.toNat_ushiftRight, Nat.shiftRight_eq_div_pow]
theorem vshl (x : F) (n : Nat) : v x * 2 ^ n % 4294967296 = v (x <<< n) := by
  unfold v
  rw [pow_cast, mul_cast, BitVec.toNat_shiftLeft, Nat.shiftLeft_eq]
  exact emod_cast _ 4294967296
theorem vadd (x y : F) : (v x + v y) % 4294967296 = v (x + y) := by
  unfold v; rw [BitVec.toNat_add]; omega
theorem sg0_v (x : F) : Go.bits .xor .u32 (Go.bits .xor .u32 (v (ror x 7)) (v (ror x 18))) (v x / 8) = v (sg0 x) := by
  have := vshr x 3
  rw [show (2 : Int) ^ 3 = 8 from rfl] at this
  rw [this, xor_v, xor_v]; rfl
theorem sg1_v (x : F) : Go.bits .xor .u32 (Go.bits .xor .u32 (v (ror x 17)) (v (ror x 19))) (v x / 1024) = v (sg1 x) := by
  have := vshr x 10
  rw [show (2 : Int) ^ 10 = 1024 from rfl] at this
  rw [this, xor_v, xor_v]; rfl
theorem bg0_v (x : F) : Go.bits .xor .u32 (Go.bits .xor .u32 (v (ror x 2)) (v (ror x 13))) (v (ror x 22)) = v (bg0 x) := by rw [xor_v, xor_v]; rfl
theorem bg1_v (x : F) : Go.bits .xor .u32 (Go.bits .xor .u32 (v (ror x 6)) (v (ror x 11))) (v (ror x 25)) = v (bg1 x) := by rw [xor_v, xor_v]; rfl
theorem and31 : ∀ n : Nat, n < 32 → 0 < n → Go.bits .and .u64 (18446744073709551616 - (n : Int)) 31 = 32 - (n : Int) := by decide +kernel
set_option maxRecDepth 100000 in
set_option maxHeartbeats 400000 in
theorem rot_calls (x : F) (n : Nat) (h : n < 32) (h0 : 0 < n) (w : World) : Calls Tryd.prog 79 #[.int .u32 (v x), .int .i64 (-(n : Int))] w fun e w' => e = .returned (.int .u32 (v (ror x n))) ∧ w' = w := by
  have ha := and31 n h h0
  have hw : IntKind.u64.wrap (-(n : Int)) = 18446744073709551616 - (n : Int) := by rw [wrap_u64]; omega
  have hs : IntKind.u64.wrap (32 - (32 - (n : Int))) = (n : Int) := by rw [wrap_u64]; omega
  have h1 : (0 : Int) ≤ 32 - (n : Int) := by omega
  go_enter Tryd.func79, Tryd.ntmps79
  go_wp2
  go_ret
  refine ⟨?_, rfl⟩
  show Ending.returned (.int .u32 (Go.bits .or .u32 (v x * 2 ^ (32 - n) % 4294967296) (v x / 2 ^ n))) = _
  rw [vshl, vshr, or_v, BitVec.or_comm]; rfl
set_option maxRecDepth 100000 in
set_option maxHeartbeats 400000 in
theorem right_calls (x : F) (n : Nat) (h : n < 32) (h0 : 0 < n) (w : World) : Calls Tryd.prog 77 #[.int .u32 (v x), .int .i64 n] w fun e w' => e = .returned (.int .u32 (v (ror x n))) ∧ w' = w := by
  have hr := Aside0.mk (rot_calls x n h h0 w)
  have hw : IntKind.i64.wrap (-(n : Int)) = -(n : Int) := IntWalk.i64_in _ (by omega)
  go_enter Tryd.func77, Tryd.ntmps77
  go_wp2_with (go_at_call 79; with_reducible refine hr.out.mono ?_; rintro e w' ⟨rfl, rfl⟩)
  go_ret
  exact ⟨rfl, rfl⟩
theorem right2_calls (x : F) (w : World) : Calls Tryd.prog 77 #[.int .u32 (v x), .int .i64 2] w fun e w' => e = .returned (.int .u32 (v (ror x 2))) ∧ w' = w := right_calls x 2 (by decide) (by decide) w
theorem right6_calls (x : F) (w : World) : Calls Tryd.prog 77 #[.int .u32 (v x), .int .i64 6] w fun e w' => e = .returned (.int .u32 (v (ror x 6))) ∧ w' = w := right_calls x 6 (by decide) (by decide) w
theorem right7_calls (x : F) (w : World) : Calls Tryd.prog 77 #[.int .u32 (v x), .int .i64 7] w fun e w' => e = .returned (.int .u32 (v (ror x 7))) ∧ w' = w := right_calls x 7 (by decide) (by decide) w
theorem right11_calls (x : F) (w : World) : Calls Tryd.prog 77 #[.int .u32 (v x), .int .i64 11] w fun e w' => e = .returned (.int .u32 (v (ror x 11))) ∧ w' = w := right_calls x 11 (by decide) (by decide) w
theorem right13_calls (x : F) (w : World) : Calls Tryd.prog 77 #[.int .u32 (v x), .int .i64 13] w fun e w' => e = .returned (.int .u32 (v (ror x 13))) ∧ w' = w := right_calls x 13 (by decide) (by decide) w
theorem right17_calls (x : F) (w : World) : Calls Tryd.prog 77 #[.int .u32 (v x), .int .i64 17] w fun e w' => e = .returned (.int .u32 (v (ror x 17))) ∧ w' = w := right_calls x 17 (by decide) (by decide) w
theorem right18_calls (x : F) (w : World) : Calls Tryd.prog 77 #[.int .u32 (v x), .int .i64 18] w fun e w' => e = .returned (.int .u32 (v (ror x 18))) ∧ w' = w := right_calls x 18 (by decide) (by decide) w
theorem right19_calls (x : F) (w : World) : Calls Tryd.prog 77 #[.int .u32 (v x), .int .i64 19] w fun e w' => e = .returned (.int .u32 (v (ror x 19))) ∧ w' = w := right_calls x 19 (by decide) (by decide) w
theorem right22_calls (x : F) (w : World) : Calls Tryd.prog 77 #[.int .u32 (v x), .int .i64 22] w fun e w' => e = .returned (.int .u32 (v (ror x 22))) ∧ w' = w := right_calls x 22 (by decide) (by decide) w
theorem right25_calls (x : F) (w : World) : Calls Tryd.prog 77 #[.int .u32 (v x), .int .i64 25] w fun e w' => e = .returned (.int .u32 (v (ror x 25))) ∧ w' = w := right_calls x 25 (by decide) (by decide) w
theorem word_take (l : List Int) (j : Nat) (h : j < l.length) : word (l.take (j + 1)) = (word (l.take j) <<< 8) ||| BitVec.ofInt 32 (rd l (j : Int)) := by
  rw [List.take_succ_eq_append_getElem h]
  unfold word
  rw [List.foldl_append]
  have : rd l (j : Int) = l[j] := by unfold rd; rw [Int.toNat_natCast, List.getD_eq_getElem?_getD, List.getElem?_eq_getElem h]; rfl
  rw [this]; rfl
/-- bytes -/
def Bytes (l : List Int) : Prop := ∀ x ∈ l, 0 ≤ x ∧ x < 256
theorem Bytes.rd {l : List Int} (h : Bytes l) (j : Nat) : 0 ≤ rd l (j : Int) ∧ rd l (j : Int) < 256 := by
  unfold Go.Proofs.YtlgfekllkahfaaaDoorW.PrintWords.rd
  rw [Int.toNat_natCast, List.getD_eq_getElem?_getD]
  by_cases hj : j < l.length
  · rw [List.getElem?_eq_getElem hj]; exact h _ (List.getElem_mem hj)
  · rw [List.getElem?_eq_none (by omega)]; simp
theorem byte_v (b : Int) (h : 0 ≤ b ∧ b < 256) : v (BitVec.ofInt 32 b) = b := by
  obtain ⟨n, rfl⟩ : ∃ n : Nat, b = (n : Int) := ⟨b.toNat, by omega⟩
  rw [BitVec.ofInt_natCast]; unfold v; rw [BitVec.toNat_ofNat, Nat.mod_eq_of_lt (by omega)]
set_option maxRecDepth 100000 in
set_option maxHeartbeats 400000 in
theorem word_calls (l : List Int) (A : Option Addr) (c : Nat) (hb : Bytes l) (w : World) (hr : Kd.C (Kd.int .u8) w A l.length l) (hc : l.length ≤ c) (hl : l.length < 1000000) :
    Calls Tryd.prog 78 #[.slice A l.length c] w fun e w' => e = .returned (.int .u32 (v (word l))) ∧ w' = w := by
  go_enter Tryd.func78, Tryd.ntmps78
  go_wp2_with fail
  go_loopw [8, 3] (fun i o wr => ∃ j : Nat, j ≤ l.length ∧ i = .int .i64 j ∧ o = .int .u32 (v (word (l.take j))) ∧ wr = w) (fun i _ _ => l.length - (intOf i).toNat)
  case atStart => exact ⟨0, by omega, rfl, rfl, rfl⟩
  case round =>
    obtain ⟨j, hj, rfl, rfl, rfl⟩ := hrel
    by_cases hlt : j < l.length
    · have p0 : (0 : Int) ≤ (j : Int) := by omega
      have p1 : (j : Int) < (l.length : Int) := by omega
      have hw4 : IntKind.i64.wrap ((j : Int) + 1) = (j : Int) + 1 := IntWalk.i64_in _ (by omega)
      obtain ⟨ad, e0, hx0⟩ := Kd.at_int hr (j : Int) p0 p1
      subst e0
      rw [Int.toNat_natCast] at hx0
      have hst := word_take l j hlt
      have hbb := hb.rd j
      obtain ⟨x, hx⟩ : ∃ x, x = word (l.take j) := ⟨_, rfl⟩
      obtain ⟨y, hy⟩ : ∃ y, y = rd l (j : Int) := ⟨_, rfl⟩
      rw [← hx, ← hy] at hst
      rw [← hy] at hx0 hbb
      rw [← hx]
      replace hst := Aside0.mk hst
      have hby := Aside0.mk hbb
      have hwy : IntKind.u32.wrap y = y := by rw [IntKind.wrap_u32]; omega
      clear hx hy hbb
      go_wp2_with fail
      go_roundw
      case rel =>
        refine ⟨j + 1, by omega, by go_num, ?_, trivial⟩
        have := or_v (x <<< 8) (BitVec.ofInt 32 y)
        rw [byte_v y hby.out, ← vshl] at this
        rw [hst.out, ← this]; rfl
      case measure => simp [intOf]; omega
    · obtain rfl : j = l.length := by omega
      rw [List.take_of_length_le (Nat.le_refl _)]
      go_wp2
      go_ret
      exact ⟨rfl, rfl⟩
end Go.Proofs.YtlgfekllkahfaaaDoor.ShaW
