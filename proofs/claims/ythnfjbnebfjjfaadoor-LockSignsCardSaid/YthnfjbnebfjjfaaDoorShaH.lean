/- A digest's first eight bytes, as a number. -/
import Derived.Test.YthnfjbnebfjjfaaDoorShaG
set_option linter.unusedVariables false
set_option linter.unusedSimpArgs false
namespace Go.Proofs.YthnfjbnebfjjfaaDoor.ShaW
open Go.RowKit Go.Proofs.YthnfjbnebfjjfaaDoorW.PrintWords Go.Proofs.YthnfjbnebfjjfaaDoorW.PrintMore Go.Proofs.YthnfjbnebfjjfaaDoor Go.Proofs.YthnfjbnebfjjfaaDoor.Bits Sha ArrK
/-- bytes, as a number -/
def num (l : List Int) : Int := l.foldl (fun x b => 256 * x + b) 0
theorem fold_lin : ∀ (b : List Int) (x : Int), b.foldl (fun x c => 256 * x + c) x = 256 ^ b.length * x + num b
  | [], x => by simp [num]
  | c :: b, x => by
    have h1 := fold_lin b (256 * x + c)
    have h2 := fold_lin b (256 * 0 + c)
    have hn : num (c :: b) = b.foldl (fun x c => 256 * x + c) (256 * 0 + c) := rfl
    rw [List.foldl_cons, h1, hn, h2, List.length_cons, Int.pow_succ, Int.mul_add, Int.mul_zero, Int.zero_add, Int.mul_assoc]
    omega
theorem num_cons (c : Int) (b : List Int) : num (c :: b) = 256 ^ b.length * c + num b := by
  have h2 := fold_lin b (256 * 0 + c)
  have hn : num (c :: b) = b.foldl (fun x c => 256 * x + c) (256 * 0 + c) := rfl
  rw [hn, h2, Int.mul_zero, Int.zero_add]
theorem num_append (a b : List Int) : num (a ++ b) = 256 ^ b.length * num a + num b := by
  have := fold_lin b (num a)
  rw [← this]; unfold num; rw [List.foldl_append]
theorem shl_or (x : F) (b : Int) (hb : 0 ≤ b ∧ b < 256) (hx : v x < 16777216) : v ((x <<< 8) ||| BitVec.ofInt 32 b) = 256 * v x + b := by
  obtain ⟨n, rfl⟩ : ∃ n : Nat, b = (n : Int) := ⟨b.toNat, by omega⟩
  unfold v at hx ⊢
  rw [BitVec.ofInt_natCast, BitVec.toNat_or, BitVec.toNat_shiftLeft, BitVec.toNat_ofNat, Nat.mod_eq_of_lt (show n < 2 ^ 32 by omega), Nat.mod_eq_of_lt (by rw [Nat.shiftLeft_eq]; omega)]
  rw [← Nat.shiftLeft_add_eq_or_of_lt (show n < 2 ^ 8 by omega), Nat.shiftLeft_eq]
  omega
theorem word_fold : ∀ (b : List Int) (x : F), Bytes b → (v x + 1) * 256 ^ b.length ≤ 4294967296 → v (b.foldl (fun o c => (o <<< 8) ||| BitVec.ofInt 32 c) x) = b.foldl (fun x c => 256 * x + c) (v x) := by
  intro b
  induction b with
  | nil => intro x _ _; rfl
  | cons c b ih =>
    intro x hb hx
    have hc := hb c (by simp)
    have hp : (1 : Int) ≤ 256 ^ b.length := Int.pow_pos (by decide)
    have hv := v_lt x
    rw [List.length_cons, Int.pow_succ] at hx
    obtain ⟨P, hP⟩ : ∃ P, P = (256 : Int) ^ b.length := ⟨_, rfl⟩
    rw [← hP] at hx hp
    have h0 : (v x + 1) * 256 * 1 ≤ (v x + 1) * 256 * P := Int.mul_le_mul_of_nonneg_left hp (by omega)
    have e : (v x + 1) * (P * 256) = (v x + 1) * 256 * P := by rw [Int.mul_assoc (v x + 1) 256 P, Int.mul_comm 256 P]
    rw [e] at hx
    have h1 := shl_or x c hc (by omega)
    have h2 : (256 * v x + c + 1) * P ≤ (v x + 1) * 256 * P := Int.mul_le_mul_of_nonneg_right (by omega) (by omega)
    rw [List.foldl_cons, List.foldl_cons, ← h1]
    exact ih _ (fun y hy => hb y (by simp [hy])) (by rw [h1, ← hP]; omega)
theorem word_num (l : List Int) (hb : Bytes l) (hl : l.length ≤ 4) : v (word l) = num l := by
  have := word_fold l 0#32 hb (by
    rw [show v 0#32 = 0 from rfl]
    have : l.length = 0 ∨ l.length = 1 ∨ l.length = 2 ∨ l.length = 3 ∨ l.length = 4 := by omega
    rcases this with h | h | h | h | h <;> rw [h] <;> decide)
  exact this
/-- a digest's first eight bytes -/
def w64 (h : List Int) : Int := num (h.take 8)
theorem or64 (a b : F) : Go.bits .or .u64 (v a * 4294967296) (v b) = 4294967296 * v a + v b := by
  have ha := v_lt a; have hb := v_lt b
  have e1 : v a * 4294967296 = q (BitVec.ofNat 64 (a.toNat * 4294967296)) := by
    unfold v q; unfold v at ha; rw [BitVec.toNat_ofNat, Nat.mod_eq_of_lt (by omega)]; omega
  have e2 : v b = q (BitVec.ofNat 64 b.toNat) := by
    unfold v q; unfold v at hb; rw [BitVec.toNat_ofNat, Nat.mod_eq_of_lt (by omega)]
  rw [e1]
  conv => lhs; rw [e2]
  rw [or_q]
  unfold q v
  unfold v at ha hb
  rw [BitVec.toNat_or, BitVec.toNat_ofNat, BitVec.toNat_ofNat, Nat.mod_eq_of_lt (show a.toNat * 4294967296 < 2 ^ 64 by omega), Nat.mod_eq_of_lt (show b.toNat < 2 ^ 64 by omega)]
  have := Nat.shiftLeft_add_eq_or_of_lt (show b.toNat < 2 ^ 32 by omega) a.toNat
  rw [Nat.shiftLeft_eq, show (2 : Nat) ^ 32 = 4294967296 from rfl] at this
  rw [← this]; omega
set_option maxRecDepth 100000 in
set_option maxHeartbeats 400000 in
theorem wordof_calls (h : List Int) (hb : Bytes h) (hl : h.length = 32) (w : World) :
    Calls Tryd.prog 23 #[hv h] w fun e w' => e = .returned (.int .u64 (w64 h)) ∧ Below w.heap.size w w' := by
  have hin := info_hash h hl
  obtain ⟨V, hV⟩ : ∃ V, V = (w.alloc (.cells (nums .u8 h).toArray 23)).drew := ⟨_, rfl⟩
  have hB0 : Below w.heap.size w V := by rw [hV]; exact pw_below_drewN ((Below.refl _ _).alloc (Nat.le_refl _) _) 1
  have hR0 : Blk V w.heap.size 23 (nums .u8 h) := by rw [hV]; exact Blk.new w 23 (nums .u8 h)
  have hC := C_block hR0 (by omega)
  have c1 := C_cut hC (a := 0) (b := 4) (by omega) (by omega)
  have c2 := C_cut hC (a := 4) (b := 8) (by omega) (by omega)
  have l1 : ((h.drop 0).take (4 - 0)).length = 4 := by rw [List.length_take, List.length_drop]; omega
  have l2 : ((h.drop 4).take (8 - 4)).length = 4 := by rw [List.length_take, List.length_drop]; omega
  have b1 : Bytes ((h.drop 0).take (4 - 0)) := fun x hx => hb x (List.mem_of_mem_drop (List.mem_of_mem_take hx))
  have b2 : Bytes ((h.drop 4).take (8 - 4)) := fun x hx => hb x (List.mem_of_mem_drop (List.mem_of_mem_take hx))
  have w1 := word_calls _ _ 32 b1 V c1 (by omega) (by omega)
  have w2 := word_calls _ _ 28 b2 V c2 (by omega) (by omega)
  have n1 := word_num _ b1 (by omega)
  have n2 := word_num _ b2 (by omega)
  have hap : (h.drop 0).take (4 - 0) ++ (h.drop 4).take (8 - 4) = h.take 8 := by
    rw [List.drop_zero, show (8 : Nat) = 4 + 4 from rfl, List.take_add]
  have hnum : w64 h = 4294967296 * v (word ((h.drop 0).take (4 - 0))) + v (word ((h.drop 4).take (8 - 4))) := by
    unfold w64; rw [← hap, num_append, l2, n1, n2]; rfl
  have hor := or64 (word ((h.drop 0).take (4 - 0))) (word ((h.drop 4).take (8 - 4)))
  rw [← hnum] at hor
  rw [l1] at w1; rw [l2] at w2
  generalize word ((h.drop 0).take (4 - 0)) = x at *
  generalize word ((h.drop 4).take (8 - 4)) = y at *
  have x0 := v_lt x; have y0 := v_lt y
  have e1 : IntKind.u64.wrap (v x) = v x := by rw [wrap_u64]; omega
  have e2 : IntKind.u64.wrap (v y) = v y := by rw [wrap_u64]; omega
  have e3 : IntKind.u64.wrap (v x * 4294967296) = v x * 4294967296 := by rw [wrap_u64]; omega
  rw [hV] at w1 w2
  have w1A := Aside0.mk (show Calls Tryd.prog 32 #[.slice (some ⟨w.heap.size, 0, none⟩) 4 32] (w.alloc (.cells (nums .u8 h).toArray 23)).drew fun e w' => e = .returned (.int .u32 (v x)) ∧ w' = (w.alloc (.cells (nums .u8 h).toArray 23)).drew from w1)
  have w2A := Aside0.mk (show Calls Tryd.prog 32 #[.slice (some ⟨w.heap.size, 4, none⟩) 4 28] (w.alloc (.cells (nums .u8 h).toArray 23)).drew fun e w' => e = .returned (.int .u32 (v y)) ∧ w' = (w.alloc (.cells (nums .u8 h).toArray 23)).drew from w2)
  rw [hV] at hB0
  have hBA := Aside0.mk hB0
  clear hV hB0 hR0 hC c1 c2 l1 l2 b1 b2 w1 w2 n1 n2 hap hnum hin hl hb x0 y0
  go_enter Tryd.func23, Tryd.ntmps23
  go_wp2_with fail
  go_still_tail 8, (by kernel_rfl)
  repeat still_step
  still_call w1A.out
  repeat still_step
  still_call w2A.out
  repeat still_step
  try refine wpStill_nil ?_
  change wpList _ _ _ _ _ (w.alloc (.cells (nums .u8 h).toArray 23)).drew
  go_wp2_with fail
  go_ret
  exact ⟨rfl, hBA.out⟩
end Go.Proofs.YthnfjbnebfjjfaaDoor.ShaW
