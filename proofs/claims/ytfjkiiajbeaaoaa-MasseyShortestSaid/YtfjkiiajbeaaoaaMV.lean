/- Sequences as Go's numbers; what a recurrence gives of them, place by place. -/
import Derived.Test.YtfjkiiajbeaaoaaBits
import Derived.Test.YtfjkiiajbeaaoaaPolyG
import Derived.Test.YtfjkiiajbeaaoaaWMore
import Derived.Test.YtfjkiiajbeaaoaaWLast
set_option linter.unusedVariables false
set_option linter.unusedSimpArgs false
namespace Go.Proofs.Ytfjkiiajbeaaoaa.MV
open Go.RowKit Go.Proofs.YtfjkiiajbeaaoaaW.PrintWords Go.Proofs.YtfjkiiajbeaaoaaW.PrintLast Go.Proofs.YtfjkiiajbeaaoaaW.PrintMore Go.Proofs.Ytfjkiiajbeaaoaa.Bits Go.Proofs.Ytfjkiiajbeaaoaa GF PolyT
/-- a list of words, as Go's numbers -/
def V (l : List F) : List Int := l.map v
theorem V_length (l : List F) : (V l).length = l.length := List.length_map _
theorem rd_V (l : List F) (i : Int) : rd (V l) i = v (co l i.toNat) := by
  unfold rd V co
  rw [List.getD_eq_getElem?_getD, List.getD_eq_getElem?_getD, List.getElem?_map]
  cases l[i.toNat]? <;> rfl
theorem rd_Vn (l : List F) (i : Nat) : rd (V l) (i : Int) = v (co l i) := by rw [rd_V, Int.toNat_natCast]
theorem V_of (l : List Int) (h : ∀ x ∈ l, (Lit.int .u32 x).wf = true) : ∃ m, l = V m := by
  induction l with
  | nil => exact ⟨[], rfl⟩
  | cons a l ih =>
    obtain ⟨m, rfl⟩ := ih (fun x hx => h x (by simp [hx]))
    obtain ⟨x, rfl⟩ := v_of (wf_u32 (h a (by simp))).1 (wf_u32 (h a (by simp))).2
    exact ⟨x :: m, rfl⟩
theorem V_inj {a b : List F} (h : V a = V b) : a = b := by
  induction a generalizing b with
  | nil => cases b with
    | nil => rfl
    | cons y b => simp [V] at h
  | cons x a ih => cases b with
    | nil => simp [V] at h
    | cons y b =>
      simp only [V, List.map_cons, List.cons.injEq] at h
      rw [v_inj.mp h.1, ih h.2]
/-- numbers as words -/
def ofInts (l : List Int) : List F := l.map (BitVec.ofInt 32)
theorem V_ofInts (l : List Int) (h : ∀ x ∈ l, 0 ≤ x ∧ x < 4294967296) : V (ofInts l) = l := by
  unfold V ofInts
  rw [List.map_map]
  refine (List.map_congr_left fun x hx => ?_).trans (List.map_id l)
  obtain ⟨h0, h1⟩ := h x hx
  obtain ⟨y, rfl⟩ := v_of h0 h1
  show v (BitVec.ofInt 32 (v y)) = v y
  congr 1
  unfold v
  apply BitVec.eq_of_toNat_eq
  rw [BitVec.toNat_ofInt]
  have := y.isLt
  omega
theorem ofInts_V (l : List F) : ofInts (V l) = l := V_inj (V_ofInts _ (fun x hx => by
  unfold V at hx
  obtain ⟨y, _, rfl⟩ := List.mem_map.1 hx
  exact v_lt y))
theorem V_in (l : List F) : ∀ x ∈ V l, 0 ≤ x ∧ x < 4294967296 := fun x hx => by
  unfold V at hx
  obtain ⟨y, _, rfl⟩ := List.mem_map.1 hx
  exact v_lt y
theorem V_take (l : List F) (n : Nat) : (V l).take n = V (l.take n) := by simp [V]
theorem V_drop (l : List F) (n : Nat) : (V l).drop n = V (l.drop n) := by simp [V]
theorem V_append (a b : List F) : V (a ++ b) = V a ++ V b := by simp [V]
theorem V_set (l : List F) (n : Nat) (x : F) : (V l).set n (v x) = V (l.set n x) := by simp [V, List.map_set]
theorem V_replicate (n : Nat) : List.replicate n (0 : Int) = V (List.replicate n 0#32) := by
  unfold V; rw [List.map_replicate]; rfl
theorem v_zero_iff (x : F) : v x = 0 ↔ x = 0#32 := ⟨fun h => v_inj.mp h, fun h => by rw [h]; rfl⟩
theorem wrap_nat1 {a : Nat} (h : a + 1 < 9223372036854775808) : wrap64 ((a : Int) + 1) = ((a + 1 : Nat) : Int) := by rw [wrap64_small] <;> omega
theorem wrap_sub {a b : Nat} (h : b ≤ a) (h2 : a < 9223372036854775808) : wrap64 ((a : Int) - (b : Int)) = ((a - b : Nat) : Int) := by rw [wrap64_small] <;> omega
theorem act_take_succ (a : List F) (f : S) : ∀ i, act (a.take (i + 1)) f = sadd (act (a.take i) f) (smul (co a i) (shn i f)) := by
  induction a with
  | nil =>
    intro i; simp only [List.take_nil, co_nil]
    funext j; simp [act, sadd, smul, GF.zero_mul]
  | cons x a ih =>
    intro i
    cases i with
    | zero =>
      simp only [List.take_succ_cons, List.take_zero, act, X_zero]
      funext j; simp [sadd, smul, shn, co_cons_zero]
    | succ i =>
      rw [List.take_succ_cons, List.take_succ_cons]
      simp only [act]
      rw [ih i, X_add, X_smul, X_shn, co_cons_succ]
      funext j; simp only [sadd]; rw [BitVec.xor_assoc]
theorem act_take (f : S) : ∀ (c : List F) (m n : Nat), n < m → act (c.take m) f n = act c f n := by
  intro c
  induction c with
  | nil => intro m n _; rw [List.take_nil]
  | cons a t ih =>
    intro m n h
    obtain ⟨m, rfl⟩ : ∃ k, m = k + 1 := ⟨m - 1, by omega⟩
    rw [List.take_succ_cons]
    show mul a (f n) ^^^ X (act (t.take m) f) n = mul a (f n) ^^^ X (act t f) n
    cases n with
    | zero => rfl
    | succ n => show _ ^^^ act (t.take m) f n = _ ^^^ act t f n; rw [ih m n (by omega)]
end Go.Proofs.Ytfjkiiajbeaaoaa.MV
