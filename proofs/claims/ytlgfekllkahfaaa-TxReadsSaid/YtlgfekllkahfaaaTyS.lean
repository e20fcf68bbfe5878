/- Is a transaction shaped? What its coins are worth. -/
import Derived.Test.YtlgfekllkahfaaaTyF
import Derived.Test.YtlgfekllkahfaaaQx1
set_option linter.unusedVariables false
set_option linter.unusedSimpArgs false
namespace Go.Proofs.Ytlgfekllkahfaaa.Pack
open Go.RowKit Go.Proofs.YtlgfekllkahfaaaW.PrintWords Go.Proofs.YtlgfekllkahfaaaW.PrintMore Go.Proofs.Ytlgfekllkahfaaa Go.Proofs.Ytlgfekllkahfaaa.Bits Sha ArrK ShaW
/-- a spend that has no form -/
def odd (s : Sp) : Bool := decide (s.key.size > 32) || (decide (s.n < 0) || decide (s.n ≥ 8))
theorem shut_enters (args : Array Value) (w : World) : (callFunc 48 args).run Try.prog w = .ok (.enter 48 args) w := Go.Proofs.enters_of Try.func48 (by kernel_rfl) rfl args w
set_option maxRecDepth 100000 in
set_option maxHeartbeats 800000 in
theorem odd_calls (s : Sp) (hs : s.tx.length = 32) (W : World) : Calls Try.prog 48 #[spv s] W fun e w' => e = .returned (.bool (odd s)) ∧ Below W.heap.size W w' := by
  obtain ⟨V, hV⟩ : ∃ V, V = W.alloc (.cells (spc s).toArray 36) := ⟨_, rfl⟩
  have hX : Blk V W.heap.size 36 (spc s) := by rw [hV]; exact Blk.new W _ _
  have hB : Below W.heap.size W V := by rw [hV]; exact below_alloc (Below.refl _ _) _
  have g33 := hX.get 33 _ (spc_key s hs)
  have g32 := hX.get 32 _ (spc_n s hs)
  have hVA := Aside0.mk hV; have hBA := Aside0.mk hB
  clear hV hX hB
  unfold odd
  generalize s.key = y at *
  generalize s.n = n at *
  by_cases q1 : y.size > 32
  · have p1 : (32 : Int) < (y.size : Int) := by omega
    go_enter Try.func48, Try.ntmps48
    go_wp2_with ((with_reducible refine gate_dst (N := 3) rfl ?_); rw [← hVA.out])
    go_ret
    exact ⟨by simp [q1], hBA.out⟩
  · have p1 : ¬ (32 : Int) < (y.size : Int) := by omega
    by_cases q2 : n < 0
    · go_enter Try.func48, Try.ntmps48
      go_wp2_with ((with_reducible refine gate_dst (N := 3) rfl ?_); rw [← hVA.out])
      go_ret
      exact ⟨by simp [q1, q2], hBA.out⟩
    · go_enter Try.func48, Try.ntmps48
      go_wp2_with ((with_reducible refine gate_dst (N := 3) rfl ?_); rw [← hVA.out])
      go_ret
      exact ⟨by simp [q1, q2]; try omega, hBA.out⟩
/-- is it shaped? -/
def shaped (t : Tr) : Bool := decide (1 ≤ t.sp.length) && (decide (t.sp.length ≤ 8) && (decide (1 ≤ t.co.length) && (decide (t.co.length ≤ 8) && !t.sp.any odd)))
theorem shaped_no {t : Tr} (h : t.sp.length < 1 ∨ 8 < t.sp.length ∨ t.co.length < 1 ∨ 8 < t.co.length) : shaped t = false := by
  unfold shaped
  rcases h with h | h | h | h
  · simp [show ¬ 1 ≤ t.sp.length by omega]
  · simp [show ¬ t.sp.length ≤ 8 by omega]
  · simp [show ¬ 1 ≤ t.co.length by omega]
  · simp [show ¬ t.co.length ≤ 8 by omega]
theorem shaped_if {t : Tr} (h1 : 1 ≤ t.sp.length) (h2 : t.sp.length ≤ 8) (h3 : 1 ≤ t.co.length) (h4 : t.co.length ≤ 8) : shaped t = !t.sp.any odd := by simp [shaped, h1, h2, h3, h4]
section
variable {t : Tr} {A1 A2 : Option Addr} {c1 c2 : Nat}
set_option maxRecDepth 100000 in
set_option maxHeartbeats 1600000 in
theorem shaped_calls (w : World) (hS : SpR0 w A1 t.sp.length t.sp) : Calls Try.prog 27 #[trv t A1 A2 c1 c2] w fun e w' => e = .returned (.bool (shaped t)) ∧ Below w.heap.size w w' := by
  obtain ⟨V, hV⟩ : ∃ V, V = w.alloc (.cells (trc t A1 A2 c1 c2).toArray 25) := ⟨_, rfl⟩
  have hX : Blk V w.heap.size 25 (trc t A1 A2 c1 c2) := by rw [hV]; exact Blk.new w _ _
  have hB : Below w.heap.size w V := by rw [hV]; exact below_alloc (Below.refl _ _) _
  have g0 := hX.get 0 _ rfl
  have g1 := hX.get 1 _ rfl
  have hVA := Aside0.mk hV; have hBA := Aside0.mk hB; have hSA := Aside0.mk hS
  clear hV hX hB hS
  by_cases q1 : t.sp.length < 1
  · have p1 : (t.sp.length : Int) < 1 := by omega
    rw [shaped_no (.inl q1)]
    go_enter Try.func27, Try.ntmps27
    go_wp2_with ((with_reducible refine gate_dst (N := 3) rfl ?_); rw [show (w.alloc (.cells #[.slice A1 t.sp.length c1, .slice A2 t.co.length c2, .bool t.firm] 25)) = V from hVA.out.symm])
    go_ret
    exact ⟨rfl, hBA.out⟩
  by_cases q2 : 8 < t.sp.length
  · have p1 : ¬ (t.sp.length : Int) < 1 := by omega
    have p2 : (8 : Int) < (t.sp.length : Int) := by omega
    rw [shaped_no (.inr (.inl q2))]
    go_enter Try.func27, Try.ntmps27
    go_wp2_with ((with_reducible refine gate_dst (N := 3) rfl ?_); rw [show (w.alloc (.cells #[.slice A1 t.sp.length c1, .slice A2 t.co.length c2, .bool t.firm] 25)) = V from hVA.out.symm])
    go_ret
    exact ⟨rfl, hBA.out⟩
  by_cases q3 : t.co.length < 1
  · have p1 : ¬ (t.sp.length : Int) < 1 := by omega
    have p2 : ¬ (8 : Int) < (t.sp.length : Int) := by omega
    have p3 : (t.co.length : Int) < 1 := by omega
    rw [shaped_no (.inr (.inr (.inl q3)))]
    go_enter Try.func27, Try.ntmps27
    go_wp2_with ((with_reducible refine gate_dst (N := 3) rfl ?_); rw [show (w.alloc (.cells #[.slice A1 t.sp.length c1, .slice A2 t.co.length c2, .bool t.firm] 25)) = V from hVA.out.symm])
    go_ret
    exact ⟨rfl, hBA.out⟩
  by_cases q4 : 8 < t.co.length
  · have p1 : ¬ (t.sp.length : Int) < 1 := by omega
    have p2 : ¬ (8 : Int) < (t.sp.length : Int) := by omega
    have p3 : ¬ (t.co.length : Int) < 1 := by omega
    have p4 : (8 : Int) < (t.co.length : Int) := by omega
    rw [shaped_no (.inr (.inr (.inr q4)))]
    go_enter Try.func27, Try.ntmps27
    go_wp2_with ((with_reducible refine gate_dst (N := 3) rfl ?_); rw [show (w.alloc (.cells #[.slice A1 t.sp.length c1, .slice A2 t.co.length c2, .bool t.firm] 25)) = V from hVA.out.symm])
    go_ret
    exact ⟨rfl, hBA.out⟩
  rw [shaped_if (by omega) (by omega) (by omega) (by omega)]
  have hCo := Aside0.mk (contains_calls V A1 c1 t.sp 48 #[] shut_enters odd (hSA.out.imp_ hBA.out (fun _ _ h => h)) (by omega) (fun W s hs hb => by
    have hok : s.tx.length = 32 := by
      obtain ⟨i, hi⟩ := List.mem_iff_getElem?.1 hs
      exact (row_at hSA.out i s hi).choose_spec.choose_spec.2.1.1.1
    exact (odd_calls s hok W).mono fun e w' ⟨a, b⟩ => ⟨a, below_then hb hb.size b⟩))
  have p1 : ¬ (t.sp.length : Int) < 1 := by omega
  have p2 : ¬ (8 : Int) < (t.sp.length : Int) := by omega
  have p3 : ¬ (t.co.length : Int) < 1 := by omega
  have p4 : ¬ (8 : Int) < (t.co.length : Int) := by omega
  go_enter Try.func27, Try.ntmps27
  go_wp2_with (first | ((with_reducible refine gate_dst (N := 3) rfl ?_); rw [show (w.alloc (.cells #[.slice A1 t.sp.length c1, .slice A2 t.co.length c2, .bool t.firm] 25)) = V from hVA.out.symm]) | (go_at_call 35; (with_reducible refine hCo.out.mono ?_); rintro e w2 ⟨rfl, hb2⟩; have hb2A := Aside0.mk (below_then hBA.out hBA.out.size hb2); clear hb2))
  go_ret
  exact ⟨rfl, hb2A.out⟩
end
end Go.Proofs.Ytlgfekllkahfaaa.Pack
