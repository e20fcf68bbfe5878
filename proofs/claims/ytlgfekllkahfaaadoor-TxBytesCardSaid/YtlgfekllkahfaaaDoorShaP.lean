/- What comes behind a text: digest.filled. -/
import Derived.Test.YtlgfekllkahfaaaDoorQx1
import Derived.Test.YtlgfekllkahfaaaDoorShaA
set_option linter.unusedVariables false
set_option linter.unusedSimpArgs false
namespace Go.Proofs.YtlgfekllkahfaaaDoor.ShaW
open Go.RowKit Go.Proofs.YtlgfekllkahfaaaDoorW.PrintWords Go.Proofs.YtlgfekllkahfaaaDoorW.PrintMore Go.Proofs.YtlgfekllkahfaaaDoor Go.Proofs.YtlgfekllkahfaaaDoor.Bits Sha Go.Proofs.YtlgfekllkahfaaaDoor.Q
/-- the length's bytes, from the first ones on -/
def lenTo (n : Nat) (j : Nat) : List Int := (List.range j).map fun i => ((n / 2 ^ (8 * (7 - i)) % 256 : Nat) : Int)
theorem filled_l1 (n : Nat) (hn : n < 8000000000) (x : List Int) (hx : x.length < 2000000000) : ∀ (d j : Nat), j + d = 8 → ∀ k, d < k → digest_filled.l1 k (x ++ lenTo n j) (n : Int) (7 - (j : Int)) = some (x ++ lenTo n 8) := by
  intro d
  induction d with
  | zero =>
    intro j hj k hk
    obtain ⟨k, rfl⟩ : ∃ m, k = m + 1 := ⟨k - 1, by omega⟩
    obtain rfl : j = 8 := by omega
    simp only [digest_filled.l1]
    rw [if_neg (by omega)]
  | succ d ih =>
    intro j hj k hk
    obtain ⟨k, rfl⟩ : ∃ m, k = m + 1 := ⟨k - 1, by omega⟩
    have e1 : wrap64 (8 * (7 - (j : Int))) = ((8 * (7 - j) : Nat) : Int) := by rw [wrap64_small] <;> omega
    have e2 : wrap64 (7 - (j : Int) - 1) = 7 - ((j + 1 : Nat) : Int) := by rw [wrap64_small] <;> omega
    have hl : (x ++ lenTo n j).length < 140737488355328 := by rw [List.length_append, lenTo, List.length_map, List.length_range]; omega
    have e3 : shr .u64 (n : Int) ((8 * (7 - j) : Nat) : Int) % 256 = ((n / 2 ^ (8 * (7 - j)) % 256 : Nat) : Int) := by
      unfold shr
      have : min ((8 * (7 - j) : Nat) : Int).toNat (IntKind.bits .u64) = 8 * (7 - j) := by simp [IntKind.bits]; omega
      rw [this, pow_cast, ediv_cast]
      exact emod_cast _ 256
    have e4 : lenTo n (j + 1) = lenTo n j ++ [((n / 2 ^ (8 * (7 - j)) % 256 : Nat) : Int)] := by unfold lenTo; rw [List.range_succ, List.map_append]; rfl
    simp only [digest_filled.l1]
    rw [if_pos (by omega), e1, if_pos (by omega), if_pos hl, e2, e3, List.append_assoc, ← e4]
    exact ih (j + 1) (by omega) k (by omega)
theorem filled_l0 (t : List Int) (ht : t.length < 1000000000) : ∀ (d j : Nat), j + d = noughts t.length → ∀ k, d + 10 < k → digest_filled.l0 k t (t ++ [128] ++ List.replicate j 0) = some (pad t) := by
  intro d
  induction d with
  | zero =>
    intro j hj k hk
    obtain ⟨k, rfl⟩ : ∃ m, k = m + 1 := ⟨k - 1, by omega⟩
    have hl : (t ++ [128] ++ List.replicate j 0).length = t.length + 1 + j := by simp; omega
    have hw : wrap64 (((t.length + 1 + j : Nat) : Int) + 8) = ((t.length + 1 + j + 8 : Nat) : Int) := by rw [wrap64_small] <;> unfold noughts at hj <;> omega
    have hm : Int.tmod ((t.length + 1 + j + 8 : Nat) : Int) 64 = 0 := by
      rw [Int.tmod_eq_emod_of_nonneg (by omega)]; unfold noughts at hj; omega
    have hn : IntKind.u64.wrap (IntKind.u64.wrap (t.length : Int) * 8) = ((8 * t.length : Nat) : Int) := by rw [wrap_u64, wrap_u64]; omega
    have := filled_l1 (8 * t.length) (by omega) (t ++ [128] ++ List.replicate j 0) (by rw [hl]; unfold noughts at hj; omega) 8 0 rfl k (by omega)
    simp only [digest_filled.l0]
    rw [hl, hw, hm, if_pos rfl, hn]
    rw [show lenTo (8 * t.length) 0 = [] from rfl, List.append_nil] at this
    rw [show (7 : Int) - ((0 : Nat) : Int) = 7 from rfl] at this
    rw [this]
    rw [show j = noughts t.length by omega]; rfl
  | succ d ih =>
    intro j hj k hk
    obtain ⟨k, rfl⟩ : ∃ m, k = m + 1 := ⟨k - 1, by omega⟩
    have hl : (t ++ [128] ++ List.replicate j 0).length = t.length + 1 + j := by simp; omega
    have hw : wrap64 (((t.length + 1 + j : Nat) : Int) + 8) = ((t.length + 1 + j + 8 : Nat) : Int) := by rw [wrap64_small] <;> unfold noughts at hj <;> omega
    have hm : ¬ Int.tmod ((t.length + 1 + j + 8 : Nat) : Int) 64 = 0 := by
      rw [Int.tmod_eq_emod_of_nonneg (by omega)]; unfold noughts at hj; omega
    simp only [digest_filled.l0]
    rw [hl, hw, if_neg hm, if_pos (by unfold noughts at hj; omega), List.append_assoc, ← List.replicate_succ']
    exact ih (j + 1) (by omega) k (by omega)
theorem filled_f (t : List Int) (ht : t.length < 1000000000) : digest_filled.f 100 t = some (pad t) := by
  unfold digest_filled.f slices_Clone_byte_byte.f
  simp only [Option.bind_some, List.length_nil, Nat.zero_add, List.nil_append]
  rw [if_pos (by omega), Option.bind_some, if_pos (by omega)]
  have := filled_l0 t ht (noughts t.length) 0 (by omega) 100 (by unfold noughts; omega)
  rw [List.replicate_zero, List.append_nil] at this
  exact this
theorem filled_calls (t : List Int) (A : Option Addr) (c : Nat) (w : World) (ht : t.length < 1000000000) (hr : Kd.C (Kd.int .u8) w A t.length t) (hc : t.length ≤ c) :
    Calls Tryd.prog 67 #[.slice A t.length c] w fun e w' => ∃ v0, e = .returned v0 ∧ Kd.R (Kd.int .u8) 5 w' w.heap.size (fun _ => True) v0 (pad t) ∧ Below w.heap.size w w' :=
  digest_filled.calls 100 A c t (pad t) w hr hc (filled_f t ht)
end Go.Proofs.YtlgfekllkahfaaaDoor.ShaW
