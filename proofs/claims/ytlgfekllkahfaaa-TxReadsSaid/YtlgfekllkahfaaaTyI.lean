/- Transactions' ids. -/
import Derived.Test.YtlgfekllkahfaaaTyG
set_option linter.unusedVariables false
set_option linter.unusedSimpArgs false
namespace Go.Proofs.Ytlgfekllkahfaaa.Pack
open Go.RowKit Go.Proofs.YtlgfekllkahfaaaW.PrintWords Go.Proofs.YtlgfekllkahfaaaW.PrintMore Go.Proofs.Ytlgfekllkahfaaa Go.Proofs.Ytlgfekllkahfaaa.Bits Sha ArrK ShaW
/-- a transaction as it lies -/
structure TrOk (W : World) (t : Tr) (A1 A2 : Option Addr) (c1 c2 : Nat) : Prop where
  sp : SpR W A1 t.sp.length t.sp
  co : CoR W A2 t.co.length t.co
  n1 : t.sp.length ≤ 1000
  n2 : t.co.length ≤ 1000
abbrev trv (t : Tr) (A1 A2 : Option Addr) (c1 c2 : Nat) : Value := .agg #[.slice A1 t.sp.length c1, .slice A2 t.co.length c2, .bool t.firm]
abbrev trc (t : Tr) (A1 A2 : Option Addr) (c1 c2 : Nat) : List Value := [.slice A1 t.sp.length c1, .slice A2 t.co.length c2, .bool t.firm]
theorem TrOk.below {W W1 : World} {t : Tr} {A1 A2 : Option Addr} {c1 c2 : Nat} (h : TrOk W t A1 A2 c1 c2) (hb : Below W.heap.size W W1) : TrOk W1 t A1 A2 c1 c2 := ⟨h.sp.imp_ hb (fun _ _ h => h), h.co.imp_ hb (fun _ _ h => h), h.n1, h.n2⟩
theorem TrOk.spok {W : World} {t : Tr} {A1 A2 : Option Addr} {c1 c2 : Nat} (h : TrOk W t A1 A2 c1 c2) : ∀ s ∈ t.sp, SpOk s := fun x hx => by
  obtain ⟨i, hi⟩ := List.mem_iff_getElem?.1 hx
  exact (row_at h.sp i x hi).choose_spec.choose_spec.2.1.1
theorem encS_bytes (wit : Bool) (s : Sp) (h : SpOk s) : Bytes (encS wit s) := by
  intro x hx
  unfold encS at hx
  rcases List.mem_append.1 hx with hx | hx
  · exact h.2.1 x hx
  · rcases List.mem_append.1 hx with hx | hx
    · exact numb_bytes _ _ x hx
    · cases wit
      · simp at hx
      · rw [if_pos rfl] at hx
        rcases List.mem_append.1 hx with hx | hx
        · rcases List.mem_append.1 hx with hx | hx
          · exact cnt_bytes _ x hx
          · exact bytes_ok _ x hx
        · exact numb_bytes _ _ x hx
theorem enc_bytes (wit : Bool) (t : Tr) (h : ∀ s ∈ t.sp, SpOk s) : Bytes (enc wit t) := by
  intro x hx
  unfold enc at hx
  rcases List.mem_append.1 hx with hx | hx
  · rcases List.mem_append.1 hx with hx | hx
    · exact cnt_bytes _ x hx
    · obtain ⟨s, hs, hx⟩ := List.mem_flatMap.1 hx
      exact encS_bytes wit s (h s hs) x hx
  · rcases List.mem_append.1 hx with hx | hx
    · exact cnt_bytes _ x hx
    · rcases List.mem_append.1 hx with hx | hx
      · obtain ⟨c, hc, hx⟩ := List.mem_flatMap.1 hx
        unfold encC at hx
        rcases List.mem_append.1 hx with hx | hx <;> exact numb_bytes _ _ x hx
      · rw [List.mem_singleton] at hx; subst hx; cases t.firm <;> simp
theorem enc_length (wit : Bool) (t : Tr) (h : ∀ s ∈ t.sp, SpOk s) (h1 : t.sp.length ≤ 1000) (h2 : t.co.length ≤ 1000) : (enc wit t).length ≤ 6000000 := by
  have e1 := flat_length (encS wit) 5100 t.sp (fun x hx => encS_length wit x (h x hx))
  have e2 := flat_length encC 16 t.co (fun x hx => Nat.le_of_eq (encC_length x))
  have e3 := Nat.mul_le_mul_right 5100 h1
  have e4 := Nat.mul_le_mul_right 16 h2
  have e5 := cnt_length t.sp.length
  have e6 := cnt_length t.co.length
  unfold enc
  simp only [List.length_append, List.length_cons, List.length_nil]
  omega
theorem info_tx (t : Tr) (A1 A2 : Option Addr) (c1 c2 : Nat) : (Try.prog.info? 25).map (·.size) = some (trc t A1 A2 c1 c2).length := by show _ = some 3; kernel_rfl
section
variable {t : Tr} {A1 A2 : Option Addr} {c1 c2 : Nat}
set_option maxRecDepth 100000 in
set_option maxHeartbeats 400000 in
theorem base_calls (w : World) (h : TrOk w t A1 A2 c1 c2) : Calls Try.prog 22 #[trv t A1 A2 c1 c2] w fun e w' => ∃ v, e = .returned v ∧ Kd.R (Kd.int .u8) 5 w' w.heap.size (fun _ => True) v (enc false t) ∧ Below w.heap.size w w' := by
  obtain ⟨V, hV⟩ : ∃ V, V = w.alloc (.cells (trc t A1 A2 c1 c2).toArray 25) := ⟨_, rfl⟩
  have hX : Blk V w.heap.size 25 (trc t A1 A2 c1 c2) := by rw [hV]; exact Blk.new w _ _
  have hB : Below w.heap.size w V := by rw [hV]; exact below_alloc (Below.refl _ _) _
  have h' := h.below hB
  have hP := put_calls t false A1 A2 c1 c2 V h'.sp h'.co h'.n1 h'.n2
  have hVA := Aside0.mk hV; have hXA := Aside0.mk hX; have hBA := Aside0.mk hB; have hPA := Aside0.mk hP; have hiA := Aside0.mk (info_tx t A1 A2 c1 c2)
  clear hV hX hB h h' hP
  go_enter Try.func22, Try.ntmps22
  go_wp2_with (first | ((with_reducible refine gate_dst (N := 3) rfl ?_); (rw [show (w.alloc (.cells #[.slice A1 t.sp.length c1, .slice A2 t.co.length c2, .bool t.firm] 25)) = V from hVA.out.symm]; refine wpList_load_blk rfl 25 (.tmp 1) rfl w.heap.size 25 rfl (trc t A1 A2 c1 c2) _ hXA.out Try.underlying25 rfl hiA.out ?_)) | (go_at_call 47; ((with_reducible refine hPA.out.mono ?_); rintro e w2 ⟨v, rfl, hR, hb⟩; have hF := Aside0.mk (And.intro (Kd.R_lower hR hBA.out.size) (below_then hBA.out hBA.out.size hb)); clear hR hb)))
  go_ret
  exact ⟨_, rfl, hF.out⟩
set_option maxRecDepth 100000 in
set_option maxHeartbeats 400000 in
theorem bytesT_calls (w : World) (h : TrOk w t A1 A2 c1 c2) : Calls Try.prog 20 #[trv t A1 A2 c1 c2] w fun e w' => ∃ v, e = .returned v ∧ Kd.R (Kd.int .u8) 5 w' w.heap.size (fun _ => True) v (enc true t) ∧ Below w.heap.size w w' := by
  obtain ⟨V, hV⟩ : ∃ V, V = w.alloc (.cells (trc t A1 A2 c1 c2).toArray 25) := ⟨_, rfl⟩
  have hX : Blk V w.heap.size 25 (trc t A1 A2 c1 c2) := by rw [hV]; exact Blk.new w _ _
  have hB : Below w.heap.size w V := by rw [hV]; exact below_alloc (Below.refl _ _) _
  have h' := h.below hB
  have hP := put_calls t true A1 A2 c1 c2 V h'.sp h'.co h'.n1 h'.n2
  have hVA := Aside0.mk hV; have hXA := Aside0.mk hX; have hBA := Aside0.mk hB; have hPA := Aside0.mk hP; have hiA := Aside0.mk (info_tx t A1 A2 c1 c2)
  clear hV hX hB h h' hP
  go_enter Try.func20, Try.ntmps20
  go_wp2_with (first | ((with_reducible refine gate_dst (N := 3) rfl ?_); (rw [show (w.alloc (.cells #[.slice A1 t.sp.length c1, .slice A2 t.co.length c2, .bool t.firm] 25)) = V from hVA.out.symm]; refine wpList_load_blk rfl 25 (.tmp 1) rfl w.heap.size 25 rfl (trc t A1 A2 c1 c2) _ hXA.out Try.underlying25 rfl hiA.out ?_)) | (go_at_call 47; ((with_reducible refine hPA.out.mono ?_); rintro e w2 ⟨v, rfl, hR, hb⟩; have hF := Aside0.mk (And.intro (Kd.R_lower hR hBA.out.size) (below_then hBA.out hBA.out.size hb)); clear hR hb)))
  go_ret
  exact ⟨_, rfl, hF.out⟩
end
end Go.Proofs.Ytlgfekllkahfaaa.Pack
