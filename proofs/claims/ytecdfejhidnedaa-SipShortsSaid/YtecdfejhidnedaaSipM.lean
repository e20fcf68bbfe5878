/- SipHash as a function of words: plain mathematics, no program in sight. -/
import Derived.Test.YtecdfejhidnedaaBits
set_option linter.unusedVariables false
set_option linter.unusedSimpArgs false
namespace Go.Proofs.Ytecdfejhidnedaa.Sip
open Go.Proofs.Ytecdfejhidnedaa Go.Proofs.Ytecdfejhidnedaa.Bits
abbrev W := BitVec 64
/-- a word turned left -/
def rotl (x : W) (n : Nat) : W := x <<< n ||| x >>> (64 - n)
structure St where
  v0 : W
  v1 : W
  v2 : W
  v3 : W
def St.s1 (s : St) : St := { s with v0 := s.v0 + s.v1 }
def St.s2 (s : St) : St := { s with v1 := rotl s.v1 13 ^^^ s.v0 }
def St.s3 (s : St) : St := { s with v0 := rotl s.v0 32 }
def St.s4 (s : St) : St := { s with v2 := s.v2 + s.v3 }
def St.s5 (s : St) : St := { s with v3 := rotl s.v3 16 ^^^ s.v2 }
def St.s6 (s : St) : St := { s with v0 := s.v0 + s.v3 }
def St.s7 (s : St) : St := { s with v3 := rotl s.v3 21 ^^^ s.v0 }
def St.s8 (s : St) : St := { s with v2 := s.v2 + s.v1 }
def St.s9 (s : St) : St := { s with v1 := rotl s.v1 17 ^^^ s.v2 }
def St.s10 (s : St) : St := { s with v2 := rotl s.v2 32 }
/-- a round -/
def St.round (s : St) : St := s.s1.s2.s3.s4.s5.s6.s7.s8.s9.s10
def St.rounds (s : St) : Nat → St
  | 0 => s
  | n + 1 => (s.rounds n).round
def St.x3 (s : St) (m : W) : St := { s with v3 := s.v3 ^^^ m }
def St.x0 (s : St) (m : W) : St := { s with v0 := s.v0 ^^^ m }
def St.x2 (s : St) : St := { s with v2 := s.v2 ^^^ 255#64 }
/-- a word is taken -/
def St.take (s : St) (m : W) : St := ((s.x3 m).rounds 2).x0 m
def St.out (s : St) : W := s.v0 ^^^ s.v1 ^^^ s.v2 ^^^ s.v3
def init (k0 k1 : W) : St := ⟨k0 ^^^ 0x736f6d6570736575#64, k1 ^^^ 0x646f72616e646f6d#64, k0 ^^^ 0x6c7967656e657261#64, k1 ^^^ 0x7465646279746573#64⟩
/-- the number of some bytes, the low one first -/
def le : List Int → Int
  | [] => 0
  | c :: l => c + 256 * le l
def Bytes (l : List Int) : Prop := ∀ x ∈ l, 0 ≤ x ∧ x < 256
theorem le_bd : ∀ l : List Int, Bytes l → 0 ≤ le l ∧ le l < 256 ^ l.length := by
  intro l
  induction l with
  | nil => intro _; simp [le]
  | cons c l ih =>
    intro h
    obtain ⟨h0, h1⟩ := ih (fun x hx => h x (List.mem_cons_of_mem _ hx))
    have hc := h c (List.mem_cons_self ..)
    simp only [le, List.length_cons]
    rw [Int.pow_succ]
    omega
theorem Bytes.take {l : List Int} (h : Bytes l) (n : Nat) : Bytes (l.take n) := fun x hx => h x (List.mem_of_mem_take hx)
theorem Bytes.drop {l : List Int} (h : Bytes l) (n : Nat) : Bytes (l.drop n) := fun x hx => h x (List.mem_of_mem_drop hx)
theorem le_append (a b : List Int) : le (a ++ b) = le a + 256 ^ a.length * le b := by
  induction a with
  | nil => simp [le]
  | cons c a ih =>
    simp only [List.cons_append, le, List.length_cons]
    rw [ih, Int.pow_succ, Int.mul_add, Int.mul_comm (256 ^ a.length) 256, Int.mul_assoc, Int.add_assoc]
/-- the j-th word of a text -/
def lw (l : List Int) (j : Nat) : W := BitVec.ofInt 64 (le ((l.drop (8 * j)).take 8))
/-- the last word: what is left, and the length's low byte above -/
def lastw (l : List Int) : W := BitVec.ofInt 64 (le (l.drop (8 * (l.length / 8))) + ((l.length % 256 : Nat) : Int) * 72057594037927936)
def steps (l : List Int) (s : St) : Nat → St
  | 0 => s
  | n + 1 => (steps l s n).take (lw l n)
def fin (l : List Int) (s : St) : W := (((steps l s (l.length / 8)).take (lastw l)).x2.rounds 4).out
/-- the hash of a text -/
def hash (k0 k1 : W) (l : List Int) : W := fin l (init k0 k1)
theorem q_ofInt {x : Int} (h0 : 0 ≤ x) (h1 : x < 18446744073709551616) : q (BitVec.ofInt 64 x) = x := by
  unfold q
  rw [BitVec.toNat_ofInt]
  omega
theorem pow256 {n m : Nat} (h : n ≤ m) : (256 : Int) ^ n ≤ 256 ^ m := by
  have e : ∀ k : Nat, (256 : Int) ^ k = ((256 ^ k : Nat) : Int) := fun k => by simp
  rw [e, e]
  exact Int.ofNat_le.2 (Nat.pow_le_pow_right (by decide) h)
theorem le8 {l : List Int} (h : Bytes l) (hl : l.length ≤ 8) : 0 ≤ le l ∧ le l < 18446744073709551616 := by
  obtain ⟨h0, h1⟩ := le_bd l h
  refine ⟨h0, Int.lt_of_lt_of_le h1 ?_⟩
  exact Int.le_trans (pow256 hl) (by decide)
theorem le7 {l : List Int} (h : Bytes l) (hl : l.length < 8) : 0 ≤ le l ∧ le l < 72057594037927936 := by
  obtain ⟨h0, h1⟩ := le_bd l h
  refine ⟨h0, Int.lt_of_lt_of_le h1 ?_⟩
  exact Int.le_trans (pow256 (show l.length ≤ 7 by omega)) (by decide)
theorem lw_q {l : List Int} (h : Bytes l) (j : Nat) : q (lw l j) = le ((l.drop (8 * j)).take 8) := by
  have := le8 ((h.drop (8 * j)).take 8) (by rw [List.length_take]; omega)
  exact q_ofInt this.1 this.2
theorem lastw_q {l : List Int} (h : Bytes l) : q (lastw l) = le (l.drop (8 * (l.length / 8))) + ((l.length % 256 : Nat) : Int) * 72057594037927936 := by
  have := le7 (h.drop (8 * (l.length / 8))) (by rw [List.length_drop]; omega)
  exact q_ofInt (by omega) (by omega)
theorem add_q (a b : W) : Go.IntKind.u64.wrap (q a + q b) = q (a + b) := by
  rw [wrap_u64]; unfold q; rw [BitVec.toNat_add]; omega
theorem pow_q (n : Nat) : ((2 : Int) ^ n) = ((2 ^ n : Nat) : Int) := by simp
theorem rot_q (x : W) (n : Nat) (h : n < 64) : Go.bits .or .u64 (Go.IntKind.u64.wrap (q x * 2 ^ n)) (q x / 2 ^ (64 - n)) = q (rotl x n) := by
  have e1 : Go.IntKind.u64.wrap (q x * 2 ^ n) = q (x <<< n) := by
    rw [wrap_u64, pow_q]; unfold q; rw [BitVec.toNat_shiftLeft, Nat.shiftLeft_eq, mul_cast]; exact emod_cast _ _
  have e2 : q x / 2 ^ (64 - n) = q (x >>> (64 - n)) := by
    unfold q; rw [BitVec.toNat_ushiftRight, Nat.shiftRight_eq_div_pow, pow_q]; exact ediv_cast _ _
  rw [e1, e2, or_q]; rfl
end Go.Proofs.Ytecdfejhidnedaa.Sip
