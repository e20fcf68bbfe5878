/- What the printed functions of the document's field come to, at words that are spelled as bit vectors. -/
import Derived.Test.YtocmhmfljbohjaaRx1
import Derived.Test.YtocmhmfljbohjaaCGfRefM
import Derived.Test.YtocmhmfljbohjaaBits
set_option linter.unusedVariables false
set_option linter.unusedSimpArgs false
namespace Go.Proofs.Ytocmhmfljbohjaa.R
open Go.RowKit Go.Proofs.YtocmhmfljbohjaaW.PrintWords Go.Proofs.YtocmhmfljbohjaaW.PrintLast Go.Proofs.YtocmhmfljbohjaaW.PrintMore Go.Proofs.Ytocmhmfljbohjaa.Bits Go.Proofs.Ytocmhmfljbohjaa
theorem rpower_loop (a : BitVec 32) : ∀ (m n : Nat), n < 2 ^ m → n < 18446744073709551616 → ∀ k, 66 + m < k → gossamerref01_Power.f k (v a) (n : Int) = some (v (GF.pow a n)) := by
  intro m
  induction m with
  | zero =>
    intro n hn _ k hk
    obtain ⟨k, rfl⟩ : ∃ m, k = m + 1 := ⟨k - 1, by omega⟩
    obtain rfl : n = 0 := by simpa using hn
    simp only [gossamerref01_Power.f]; rw [if_pos (by omega)]; rfl
  | succ m ih =>
    intro n hn hb k hk
    obtain ⟨k, rfl⟩ : ∃ m, k = m + 1 := ⟨k - 1, by omega⟩
    simp only [gossamerref01_Power.f]
    by_cases h0 : n = 0
    · subst h0; rw [if_pos (by omega)]; rfl
    · have hn2 : n / 2 < 2 ^ m := by rw [Nat.pow_succ] at hn; omega
      rw [if_neg (by omega), tdiv2, wrapu_nat (by omega), ih (n / 2) hn2 (by omega) k (by omega)]
      simp only [Option.bind_some]
      rw [rmul_v _ _ k (by omega)]
      simp only [Option.bind_some]
      rw [tmod2, ← GF.pow_add]
      by_cases h1 : n % 2 = 1
      · rw [if_pos (by omega), rmul_v _ _ k (by omega)]
        have e : n = n / 2 + n / 2 + 1 := by omega
        exact congrArg (fun m => some (v (GF.pow a m))) e.symm
      · rw [if_neg (by omega)]
        have e : n = n / 2 + n / 2 := by omega
        exact congrArg (fun m => some (v (GF.pow a m))) e.symm
theorem rpower_v (a : BitVec 32) (n : Nat) (hn : n < 18446744073709551616) (k : Nat) (hk : 131 ≤ k) : gossamerref01_Power.f k (v a) (n : Int) = some (v (GF.pow a n)) :=
  rpower_loop a 64 n hn hn k (by omega)
end Go.Proofs.Ytocmhmfljbohjaa.R
