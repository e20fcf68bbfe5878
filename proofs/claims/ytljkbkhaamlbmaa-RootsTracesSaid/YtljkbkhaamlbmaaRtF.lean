/- The chapter's example; the roots of x to any power. -/
import Derived.Test.YtljkbkhaamlbmaaTx6
import Derived.Test.YtljkbkhaamlbmaaRtD
import Derived.Test.YtljkbkhaamlbmaaMCp
set_option linter.unusedVariables false
set_option linter.unusedSimpArgs false
namespace Go.Proofs.Ytljkbkhaamlbmaa.T
open Go.RowKit Go.Proofs.YtljkbkhaamlbmaaW.PrintWords Go.Proofs.YtljkbkhaamlbmaaW.PrintLast Go.Proofs.YtljkbkhaamlbmaaW.PrintMore Go.Proofs.Ytljkbkhaamlbmaa.Bits Go.Proofs.Ytljkbkhaamlbmaa GF PolyT
theorem is_1 : gossamernum_Is.f (some 1) 1 = some true := by
  unfold gossamernum_Is.f gossamernum_Num.f
  simp
theorem many_length : ∀ (o S : List F), (∀ y, many o y ≤ many S y) → o.length ≤ S.length := by
  intro o
  induction o with
  | nil => intros; simp
  | cons a o ih =>
    intro S h
    have ha : a ∈ S := (many_mem S a).1 (by have := h a; rw [many_cons, if_pos rfl] at this; omega)
    have hp := List.perm_cons_erase ha
    have hm : ∀ y, many S y = many (a :: S.erase a) y := fun y => (hp.filter _).length_eq
    have := ih (S.erase a) (fun y => by have h1 := h y; rw [hm, many_cons, many_cons] at h1; omega)
    rw [List.length_erase_of_mem ha] at this
    have hpos : 0 < S.length := List.length_pos_of_mem ha
    simp only [List.length_cons]; omega
theorem all_known (p S : List F) (hp : p.length ≤ 2000) (h0 : len p ≠ 0) (h1 : len p ≤ 61) (hS : Asc S) (hl : S.length ≤ 12) (hm : ∀ y, many S y = one01 p y) : Ev (fun k => roots_All.f k (V p)) (V S, none) := by
  obtain ⟨T, t1, t2, t3⟩ := all_V p hp h0 h1 (fun o ho => Nat.le_trans (many_length o S (fun y => by rw [hm]; exact ho y)) hl)
  rw [asc_uniq S T hS t2 (fun y => by rw [hm, t3])]
  exact t1
theorem ev_231 (y : F) : ev [2#32, 3#32, 1#32] y = mul (y ^^^ 1#32) (y ^^^ 2#32) := by
  simp only [ev]
  rw [GF.zero_mul, BitVec.zero_xor, GF.one_mul, GF.xor_mul, GF.xor_mul, GF.mul_xor, GF.one_mul, show (3#32 : F) = 2#32 ^^^ 1#32 by decide, GF.xor_mul, GF.one_mul, GF.mul_comm y 2#32]
  ac_rfl
theorem alive_E : Ev (fun k => gossamerlaw04_alive.f k) true := by
  have h1 : Ev (fun k => roots_All.f k ([2, 3, 1] : List Int)) (V [1#32, 2#32], none) := all_known [2#32, 3#32, 1#32] [1#32, 2#32] (by simp) (by decide) (by decide) (by unfold Asc; decide) (by simp) (fun y => by
    unfold one01
    rw [ev_231, many_cons, many_cons, many_nil]
    by_cases e1 : y = 1#32
    · subst e1; rw [BitVec.xor_self, GF.zero_mul]; decide
    · by_cases e2 : y = 2#32
      · subst e2; rw [BitVec.xor_self, GF.mul_zero]; decide
      · rw [if_neg (fun e => e2 e.symm), if_neg (fun e => e1 e.symm), if_neg]
        intro h
        rcases GF.mul_eq_zero h with h | h
        · exact e1 (xor_eq_zero h)
        · exact e2 (xor_eq_zero h))
  unfold gossamerlaw04_alive.f
  refine Ev.bind h1 (Ev.pos rfl ?_)
  exact Ev.bind (words_V (a := [1#32, 2#32]) rfl (by unfold Small; simp)) Ev.some'
def xp (n : Nat) : List F := List.replicate n 0#32 ++ [1#32]
end Go.Proofs.Ytljkbkhaamlbmaa.T
