/- Functions of a number of rounds that tell the same from some number of rounds on. -/
import Derived.ProofKit
set_option linter.unusedVariables false
namespace Go.Proofs.Ytljkbkhaamlbmaa
def Ev {α : Type} (f : Nat → Option α) (a : α) : Prop := ∃ K, ∀ k, K ≤ k → f k = some a
namespace Ev
variable {α β : Type}
theorem bind {f : Nat → Option α} {g : Nat → α → Option β} {a : α} {b : β} (h : Ev f a) (h2 : Ev (fun k => g k a) b) : Ev (fun k => (f k).bind (g k)) b := by
  obtain ⟨K1, h1⟩ := h
  obtain ⟨K2, h2⟩ := h2
  exact ⟨K1 + K2, fun k hk => by show (f k).bind (g k) = _; rw [h1 k (by omega), Option.bind_some]; exact h2 k (by omega)⟩
theorem some' {a : α} : Ev (fun _ => some a) a := ⟨0, fun _ _ => rfl⟩
theorem bind' {o : Option α} {g : Nat → α → Option β} {a : α} {b : β} (h : o = some a) (h2 : Ev (fun k => g k a) b) : Ev (fun k => o.bind (g k)) b :=
  ⟨h2.choose, fun k hk => by show o.bind (g k) = _; rw [h, Option.bind_some]; exact h2.choose_spec k hk⟩
theorem pos {c : Prop} [Decidable c] {f g : Nat → Option α} {a : α} (h : c) (h2 : Ev f a) : Ev (fun k => if c then f k else g k) a :=
  ⟨h2.choose, fun k hk => by show (if c then f k else g k) = _; rw [if_pos h]; exact h2.choose_spec k hk⟩
theorem neg {c : Prop} [Decidable c] {f g : Nat → Option α} {a : α} (h : ¬c) (h2 : Ev g a) : Ev (fun k => if c then f k else g k) a :=
  ⟨h2.choose, fun k hk => by show (if c then f k else g k) = _; rw [if_neg h]; exact h2.choose_spec k hk⟩
theorem succ {f : Nat → Option α} {a : α} (h : Ev (fun k => f (k + 1)) a) : Ev f a :=
  ⟨h.choose + 1, fun k hk => by
    obtain ⟨m, rfl⟩ : ∃ m, k = m + 1 := ⟨k - 1, by omega⟩
    exact h.choose_spec m (by omega)⟩
theorem fn {f g : Nat → Option α} {a : α} (h : ∀ k, f k = g k) (h2 : Ev g a) : Ev f a :=
  ⟨h2.choose, fun k hk => by rw [h]; exact h2.choose_spec k hk⟩
theorem to {f : Nat → Option α} {a b : α} (h : Ev f a) (e : a = b) : Ev f b := e ▸ h
theorem from' {f : Nat → Option α} {a : α} (n : Nat) (h : ∀ k, n ≤ k → f k = some a) : Ev f a := ⟨n, h⟩
end Ev
end Go.Proofs.Ytljkbkhaamlbmaa
