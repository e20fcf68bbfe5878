/- The closure of PolyRoots: how often an element stands in the captured slice. -/
import Derived.Test.YtcamaleanlblfaaProg
import Derived.Test.YtcamaleanlblfaaWMore
import Derived.Test.YtcamaleanlblfaaBits
import Derived.Test.YtcamaleanlblfaaPolyR
set_option linter.unusedVariables false
set_option linter.unusedSimpArgs false
namespace Go.Proofs.Ytcamaleanlblfaa.Walk
open Go.RowKit Go.Proofs.YtcamaleanlblfaaW.PrintWords Go.Proofs.YtcamaleanlblfaaW.PrintLast Go.Proofs.YtcamaleanlblfaaW.PrintMore Go.Proofs.Ytcamaleanlblfaa.Bits Go.Proofs.Ytcamaleanlblfaa
/-- how often among the first -/
def cntN (l : List Int) (y : Int) : Nat → Int
  | 0 => 0
  | i + 1 => cntN l y i + if rd l (i : Int) = y then 1 else 0
theorem cntN_le (l : List Int) (y : Int) : ∀ i, 0 ≤ cntN l y i ∧ cntN l y i ≤ i := by
  intro i
  induction i with
  | zero => exact ⟨Int.le_refl _, Int.le_refl _⟩
  | succ i ih => simp only [cntN]; split <;> omega
set_option maxRecDepth 100000 in
set_option maxHeartbeats 1000000 in
theorem many_calls (l : List Int) (A : Option Addr) (c : Nat) (y : Int) (B : Nat) (W : World) (hs : l.length ≤ 24) (hbox : W.cell? ⟨B, 0, none⟩ = some (.slice A l.length c)) (hr : Kd.C (Kd.int .u32) W A l.length l) :
    Calls Try.prog 12 #[.int .u32 y, .pointer (some ⟨B, 0, none⟩)] W fun e w' => e = .returned (.int .i64 (cntN l y l.length)) ∧ W = w' := by
  go_enter Try.func12, Try.ntmps12
  go_wp2
  go_loop [4, 9] (fun n i => ∃ k : Nat, k ≤ l.length ∧ i = .int .i64 k ∧ n = .int .i64 (cntN l y k)) (fun _ i => l.length - (intOf i).toNat)
  case atStart => exact ⟨0, Nat.zero_le _, by simp, rfl⟩
  case round =>
    obtain ⟨k, hk, rfl, rfl⟩ := hrel
    have hc := cntN_le l y k
    by_cases hlt : k < l.length
    · obtain ⟨ad, hA, hcell⟩ := Kd.at_int hr (k : Int) (by omega) (by omega)
      subst hA
      have g1 : (k : Int) < (l.length : Int) := by omega
      have g2 : (k : Int) < 24 := by omega
      rw [Int.toNat_natCast] at hcell
      have e : cntN l y (k + 1) = cntN l y k + if rd l (k : Int) = y then 1 else 0 := rfl
      have he := Aside0.mk e
      clear e
      obtain ⟨x, hx⟩ : ∃ x, x = rd l (k : Int) := ⟨_, rfl⟩
      rw [← hx] at hcell he
      clear hx
      by_cases hxy : x = y
      · rw [if_pos hxy] at he
        subst hxy
        have hb : (x == x) = true := by simp
        go_wp2
        go_round
        case rel => exact ⟨k + 1, by omega, by go_num, by rw [he.out]⟩
        case measure => simp [intOf]; omega
      · rw [if_neg hxy, Int.add_zero] at he
        have hb : (x == y) = false := by simpa using hxy
        clear hxy
        go_wp2
        go_round
        case rel => exact ⟨k + 1, by omega, by go_num, by rw [he.out]⟩
        case measure => simp [intOf]; omega
    · obtain rfl : k = l.length := by omega
      go_wp2
      go_ret
      exact ⟨rfl, rfl⟩
end Go.Proofs.Ytcamaleanlblfaa.Walk
