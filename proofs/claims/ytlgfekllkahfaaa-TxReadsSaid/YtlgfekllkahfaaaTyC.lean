/- Texts and digests laid into an Out, and its bytes. -/
import Derived.Test.YtlgfekllkahfaaaTyB
import Derived.Test.YtlgfekllkahfaaaQx1
set_option linter.unusedVariables false
set_option linter.unusedSimpArgs false
namespace Go.Proofs.Ytlgfekllkahfaaa.Pack
open Go.RowKit Go.Proofs.YtlgfekllkahfaaaW.PrintWords Go.Proofs.YtlgfekllkahfaaaW.PrintMore Go.Proofs.Ytlgfekllkahfaaa Go.Proofs.Ytlgfekllkahfaaa.Bits Sha ArrK ShaW
open Go.Proofs.Ytlgfekllkahfaaa.InRound (op_at)
set_option maxRecDepth 100000 in
set_option maxHeartbeats 400000 in
theorem text_calls (base B : Nat) (l : List Int) (s : ByteArray) (w : World) (hs : s.size ≤ 1000000) (hO : OutP base w B l) (hb : base ≤ B) (hl : l.length ≤ 10000000) :
    Calls Try.prog 65 #[.pointer (some ⟨B, 0, none⟩), .string s] w fun e w' => (∃ v, e = .returned v) ∧ OutP base w' B (l ++ (cnt s.size ++ bytesOf s)) ∧ Kp8 B w w' ∧ Below base w w' := by
  have hC := Aside0.mk (count_calls base B l s.size w hs hO hb (by omega))
  have hcl := cnt_length s.size
  have hll : (l ++ cnt s.size).length ≤ 10000005 := by rw [List.length_append]; omega
  clear hO hcl
  rw [← List.append_assoc]
  obtain ⟨l2, hl2⟩ : ∃ l2, l ++ cnt s.size = l2 := ⟨_, rfl⟩
  rw [hl2] at hll hC ⊢
  clear hl2
  obtain ⟨l3, hl3⟩ : ∃ l3, l2 ++ bytesOf s = l3 := ⟨_, rfl⟩
  have hl3A := Aside0.mk hl3
  rw [hl3]
  clear hl3
  go_enter Try.func65, Try.ntmps65
  go_wp2_with (first | (go_at_call 62; ((with_reducible refine hC.out.mono ?_); rintro e w1 ⟨⟨v1, rfl⟩, hO1, hK1, hB1⟩; obtain ⟨v, hX, hR⟩ := hO1; have hXc := hX.get 0 v rfl; have hlt := hX.lt; have hX1 := Aside0.mk hX; have hR1 := Aside0.mk hR; have hK1A := Aside0.mk hK1; have hB1A := Aside0.mk hB1; clear hX hR hK1 hB1)) | ((with_reducible refine gate_dst (N := 16) rfl ?_); at_builtin; (refine print_append_str (w0 := w) base rfl (.tmp 14) (.tmp 15) 49 9 5 rfl Try.underlying49 Try.underlying9 info_u8 v l2 s rfl rfl (Kd.own_of_R hR1.out) hB1A.out (by omega) (by omega) ?_; intro v2 w2 ho2 hB2 hg2; rw [hl3A.out] at ho2; have hR2 := Aside0.mk (Kd.R_of_own (h1 := fun _ => rfl) (ok := fun _ => True) ho2 (fun _ _ => trivial)); have hX2 := Aside0.mk (hX1.out.grown hg2 (Kd.R_ne hR1.out hX1.out (by decide))); have hK2 := Aside0.mk (hK1A.out.grown hR1.out hg2); have hB2A := Aside0.mk hB2; obtain ⟨A2, c2, hv2⟩ := Kd.R_slice hR2.out; subst hv2; clear hXc ho2 hg2 hB2; have hXc := hX2.out.get 0 _ rfl; have hXf := hX2.out.fz 0; have hO3 := Aside0.mk (show OutP base (w2.setCell ⟨B, 0, none⟩ (.slice A2 l3.length c2)) B l3 from ⟨_, hX2.out.set 0 (.slice A2 l3.length c2), Kd.R_set hR2.out hX2.out (by decide) 0 _⟩); have hK3 := Aside0.mk (hK2.out.set 0 (.slice A2 l3.length c2)); have hB3 := Aside0.mk (hB2A.out.setCell (p := ⟨B, 0, none⟩) hb (.slice A2 l3.length c2)); skip)))
  exact bodyPost_end (results_none rfl _ _ _) rfl ⟨⟨_, rfl⟩, hO3.out, hK3.out, hB3.out⟩
set_option maxRecDepth 100000 in
set_option maxHeartbeats 400000 in
theorem bytes_calls (base B : Nat) (l : List Int) (w : World) (hO : OutP base w B l) (hl : l.length ≤ 10000000) :
    Calls Try.prog 66 #[.pointer (some ⟨B, 0, none⟩)] w fun e w' => (∃ v, e = .returned v ∧ Kd.R (Kd.int .u8) 5 w' w.heap.size (fun _ => True) v l) ∧ Below w.heap.size w w' := by
  obtain ⟨v, hX, hR⟩ := hO
  obtain ⟨A, c, rfl, hc, hC⟩ := Kd.R_reads hR
  have hXc := hX.get 0 _ rfl
  have hf : Go.Proofs.Ytlgfekllkahfaaa.Q.slices_Clone_byte_byte.f l = some l := by
    unfold Go.Proofs.Ytlgfekllkahfaaa.Q.slices_Clone_byte_byte.f
    simp only [Option.bind_some, List.length_nil, Nat.zero_add, List.nil_append]
    rw [if_pos (by omega)]
  have hCl := Aside0.mk (Go.Proofs.Ytlgfekllkahfaaa.Q.slices_Clone_byte_byte.calls A c l l w hC hc hf)
  clear hR hC hX hf
  go_enter Try.func66, Try.ntmps66
  go_wp2_with (go_at_call 50; with_reducible refine hCl.out.mono ?_; rintro e w1 ⟨v1, rfl, hR1, hB1⟩; have hF := Aside0.mk (And.intro hR1 hB1); clear hR1 hB1 hXc)
  go_ret
  exact ⟨⟨_, rfl, hF.out.1⟩, hF.out.2⟩
end Go.Proofs.Ytlgfekllkahfaaa.Pack
