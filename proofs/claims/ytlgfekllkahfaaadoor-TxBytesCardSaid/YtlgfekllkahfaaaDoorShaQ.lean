/- The document's SHA-256: turn, and the words of four bytes. -/
import Derived.Test.YtlgfekllkahfaaaDoorShaI
import Derived.Test.YtlgfekllkahfaaaDoorWLast
set_option linter.unusedVariables false
set_option linter.unusedSimpArgs false
namespace Go.Proofs.YtlgfekllkahfaaaDoor.ShaW
open Go.RowKit Go.Proofs.YtlgfekllkahfaaaDoorW.PrintWords Go.Proofs.YtlgfekllkahfaaaDoorW.PrintMore Go.Proofs.YtlgfekllkahfaaaDoor Go.Proofs.YtlgfekllkahfaaaDoor.Bits Sha ArrK
set_option maxRecDepth 100000 in
set_option maxHeartbeats 400000 in
theorem turn_calls (x : F) (n : Nat) (h : n < 32) (h0 : 0 < n) (w : World) : Calls Tryd.prog 71 #[.int .u32 (v x), .int .u64 (n : Int)] w fun e w' => e = .returned (.int .u32 (v (ror x n))) ∧ w' = w := by
  have hs : IntKind.u64.wrap (32 - (n : Int)) = ((32 - n : Nat) : Int) := by rw [wrap_u64]; omega
  have h1 : (n : Int) < 18446744073709551616 := by omega
  go_enter Tryd.func71, Tryd.ntmps71
  go_wp2
  go_ret
  refine ⟨?_, rfl⟩
  show Ending.returned (.int .u32 (Go.bits .or .u32 (v x / 2 ^ n) (v x * 2 ^ (32 - n) % 4294967296))) = _
  rw [vshl, vshr, or_v]; rfl
theorem turn2_calls (x : F) (w : World) : Calls Tryd.prog 71 #[.int .u32 (v x), .int .u64 2] w fun e w' => e = .returned (.int .u32 (v (ror x 2))) ∧ w' = w := turn_calls x 2 (by decide) (by decide) w
theorem turn6_calls (x : F) (w : World) : Calls Tryd.prog 71 #[.int .u32 (v x), .int .u64 6] w fun e w' => e = .returned (.int .u32 (v (ror x 6))) ∧ w' = w := turn_calls x 6 (by decide) (by decide) w
theorem turn7_calls (x : F) (w : World) : Calls Tryd.prog 71 #[.int .u32 (v x), .int .u64 7] w fun e w' => e = .returned (.int .u32 (v (ror x 7))) ∧ w' = w := turn_calls x 7 (by decide) (by decide) w
theorem turn11_calls (x : F) (w : World) : Calls Tryd.prog 71 #[.int .u32 (v x), .int .u64 11] w fun e w' => e = .returned (.int .u32 (v (ror x 11))) ∧ w' = w := turn_calls x 11 (by decide) (by decide) w
theorem turn13_calls (x : F) (w : World) : Calls Tryd.prog 71 #[.int .u32 (v x), .int .u64 13] w fun e w' => e = .returned (.int .u32 (v (ror x 13))) ∧ w' = w := turn_calls x 13 (by decide) (by decide) w
theorem turn17_calls (x : F) (w : World) : Calls Tryd.prog 71 #[.int .u32 (v x), .int .u64 17] w fun e w' => e = .returned (.int .u32 (v (ror x 17))) ∧ w' = w := turn_calls x 17 (by decide) (by decide) w
theorem turn18_calls (x : F) (w : World) : Calls Tryd.prog 71 #[.int .u32 (v x), .int .u64 18] w fun e w' => e = .returned (.int .u32 (v (ror x 18))) ∧ w' = w := turn_calls x 18 (by decide) (by decide) w
theorem turn19_calls (x : F) (w : World) : Calls Tryd.prog 71 #[.int .u32 (v x), .int .u64 19] w fun e w' => e = .returned (.int .u32 (v (ror x 19))) ∧ w' = w := turn_calls x 19 (by decide) (by decide) w
theorem turn22_calls (x : F) (w : World) : Calls Tryd.prog 71 #[.int .u32 (v x), .int .u64 22] w fun e w' => e = .returned (.int .u32 (v (ror x 22))) ∧ w' = w := turn_calls x 22 (by decide) (by decide) w
theorem turn25_calls (x : F) (w : World) : Calls Tryd.prog 71 #[.int .u32 (v x), .int .u64 25] w fun e w' => e = .returned (.int .u32 (v (ror x 25))) ∧ w' = w := turn_calls x 25 (by decide) (by decide) w
/-- 2^32 - 1 less a word -/
theorem vless (x : F) : (4294967295 - v x) % 4294967296 = v (~~~x) := by
  unfold v; rw [BitVec.toNat_not]; have := x.isLt; omega
theorem wless (x : F) : IntKind.u32.wrap (4294967295 - v x) = v (~~~x) := by rw [IntKind.wrap_u32]; exact vless x
/-- a byte behind a word, by a sum -/
theorem or_sum (x : F) (b : Int) (h : 0 ≤ b ∧ b < 256) (hx : x.toNat < 2 ^ 24) : v ((x <<< 8) ||| BitVec.ofInt 32 b) = v x * 256 + b := by
  obtain ⟨n, rfl⟩ : ∃ n : Nat, b = (n : Int) := ⟨b.toNat, by omega⟩
  have hn : n < 256 := by omega
  unfold v
  rw [BitVec.ofInt_natCast, BitVec.toNat_or, BitVec.toNat_shiftLeft, BitVec.toNat_ofNat, Nat.shiftLeft_eq, Nat.mod_eq_of_lt (by omega), Nat.mod_eq_of_lt (a := n) (by omega), Nat.mul_comm, ← Nat.two_pow_add_eq_or_of_lt (b := n) (i := 8) (by omega)]
  omega
theorem word4 (a b c d : Int) (ha : 0 ≤ a ∧ a < 256) (hb : 0 ≤ b ∧ b < 256) (hc : 0 ≤ c ∧ c < 256) (hd : 0 ≤ d ∧ d < 256) : v (word [a, b, c, d]) = a * 16777216 + b * 65536 + c * 256 + d := by
  have h1 := byte_v a ha
  have e0 : v (word [a]) = a := by
    unfold word; simp only [List.foldl_cons, List.foldl_nil]
    rw [or_sum 0#32 a ha (by decide)]; unfold v; simp
  have q1 : (word [a]).toNat < 2 ^ 8 := by unfold v at e0; omega
  have e1 : v (word [a, b]) = a * 256 + b := by
    show v ((word [a] <<< 8) ||| BitVec.ofInt 32 b) = _
    rw [or_sum _ b hb (by omega), e0]
  have q2 : (word [a, b]).toNat < 2 ^ 16 := by unfold v at e1; omega
  have e2 : v (word [a, b, c]) = (a * 256 + b) * 256 + c := by
    show v ((word [a, b] <<< 8) ||| BitVec.ofInt 32 c) = _
    rw [or_sum _ c hc (by omega), e1]
  have q3 : (word [a, b, c]).toNat < 2 ^ 24 := by unfold v at e2; omega
  have e3 : v (word [a, b, c, d]) = ((a * 256 + b) * 256 + c) * 256 + d := by
    show v ((word [a, b, c] <<< 8) ||| BitVec.ofInt 32 d) = _
    rw [or_sum _ d hd (by omega), e2]
  omega
theorem take4 (l : List Int) (i : Nat) (h : i + 4 ≤ l.length) : (l.drop i).take 4 = [rd l (i : Int), rd l ((i + 1 : Nat) : Int), rd l ((i + 2 : Nat) : Int), rd l ((i + 3 : Nat) : Int)] := by
  have e : ∀ j (hj : j < l.length), rd l (j : Int) = l[j] := fun j hj => by unfold rd; rw [Int.toNat_natCast, List.getD_eq_getElem?_getD, List.getElem?_eq_getElem hj]; rfl
  rw [e i (by omega), e (i + 1) (by omega), e (i + 2) (by omega), e (i + 3) (by omega)]
  rw [List.drop_eq_getElem_cons (by omega), List.drop_eq_getElem_cons (by omega), List.drop_eq_getElem_cons (by omega), List.drop_eq_getElem_cons (by omega)]
  rfl
end Go.Proofs.YtlgfekllkahfaaaDoor.ShaW
