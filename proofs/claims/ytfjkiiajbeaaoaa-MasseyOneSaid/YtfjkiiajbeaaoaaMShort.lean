/- massey.Length and massey.Shortest. -/
import Derived.Test.YtfjkiiajbeaaoaaMRunW
set_option linter.unusedVariables false
set_option linter.unusedSimpArgs false
namespace Go.Proofs.Ytfjkiiajbeaaoaa.MW
open Go.RowKit Go.Proofs.Ytfjkiiajbeaaoaa.Q Go.Proofs.YtfjkiiajbeaaoaaW.PrintWords Go.Proofs.YtfjkiiajbeaaoaaW.PrintLast Go.Proofs.YtfjkiiajbeaaoaaW.PrintMore Go.Proofs.Ytfjkiiajbeaaoaa.Bits Go.Proofs.Ytfjkiiajbeaaoaa GF PolyT MV Massey
/-- the recurrence found, as long as its length says -/
def short (f : S) (n : Nat) : List F := (run f n).now ++ List.replicate ((run f n).len + 1 - (run f n).now.length) 0#32
set_option maxRecDepth 100000 in
set_option maxHeartbeats 400000 in
theorem length_calls (s : List F) (A : Option Addr) (c : Nat) (w : World) (hs : Kd.C (Kd.int .u32) w A (V s).length (V s)) (hc : s.length ≤ c) (hsl : s.length < 50000) :
    Calls Try.prog 9 #[.slice A s.length c] w fun e w' => e = .returned (.int .i64 (run (co s) s.length).len) ∧ Below w.heap.size w w' := by
  have hR := Aside0.mk (run_calls s A c w hs hc hsl)
  have hu := Try.underlying42
  clear hs
  go_enter Try.func9, Try.ntmps9
  go_wp2_with (go_at_call 18; (with_reducible refine hR.out.mono ?_; rintro e w2 ⟨B, rfl, hH, hB1, hB2⟩; unfold Has at hH; obtain ⟨A0, c0, A1, c1, h5, -, -⟩ := hH; have z2 := h5.at.m2; have hBA := Aside0.mk hB2; clear h5 hB2))
  go_ret
  exact ⟨rfl, hBA.out⟩
set_option maxRecDepth 100000 in
set_option maxHeartbeats 400000 in
theorem shortest_calls (s : List F) (A : Option Addr) (c : Nat) (w : World) (hs : Kd.C (Kd.int .u32) w A (V s).length (V s)) (hc : s.length ≤ c) (hsl : s.length < 50000) :
    Calls Try.prog 10 #[.slice A s.length c] w fun e w' => ∃ v0, e = .returned v0 ∧ Kd.R (Kd.int .u32) 30 w' w.heap.size (fun _ => True) v0 (V (short (co s) s.length)) ∧ Below w.heap.size w w' := by
  have hR := Aside0.mk (run_calls s A c w hs hc hsl)
  have hu := Try.underlying42
  have hbd := run_bounds (co s) s.length
  have hrl : (run (co s) s.length).now.length ≤ (run (co s) s.length).len + 1 := (inv_run (co s) s.length).rec_.1
  have hsh : short (co s) s.length = (run (co s) s.length).now ++ List.replicate ((run (co s) s.length).len + 1 - (run (co s) s.length).now.length) 0#32 := rfl
  rw [hsh]
  generalize run (co s) s.length = x at *
  obtain ⟨n, hn⟩ : ∃ n, n = x.len := ⟨_, rfl⟩
  have q1 : IntKind.i64.wrap ((x.len : Int) + 1) = (x.len : Int) + 1 := IntWalk.i64_in _ (by omega)
  have hxl : x.len < 50000 := by omega
  have hBd := Aside0.mk hbd
  have hrA := Aside0.mk hrl
  clear hs hsh hbd hrl
  go_enter Try.func10, Try.ntmps10
  go_wp2_with (first | (go_at_call 18; with_reducible refine hR.out.mono ?_; rintro e w2 ⟨B, rfl, hH, hB1, hB2⟩; unfold Has at hH; obtain ⟨A0, c0, A1, c1, h5, hC0, hC1⟩ := hH; have z2 := h5.at.m2; have h5A := Aside0.mk h5; have hCA := Aside0.mk hC0; have hBA := Aside0.mk hB2; clear h5 hB2 hC0 hC1) | (at_make; (refine Kd.R_make (Kd.int .u32) (w0 := w) w.heap.size 30 rfl (N := 12) rfl 22 (.tmp 11) (.tmp 11) rfl ((x.len : Int) + 1) rfl rfl Try.underlying22 (.int .u32 0) 4 info_u32 rfl (by decide) (by decide) 0 (ok := fun _ => True) (okp := fun _ => False) rfl (fun _ _ => trivial) trivial (by omega) (by omega) hBA.out hBA.out.size ?_; intro v1 w3 hR3 hB3 hg3 hat3; have hb3 : Below w2.heap.size w2 w3 := ⟨hg3.os, hg3.tape, hg3.output, hg3.size, fun k hk => hg3.block k hk (by simp)⟩; have y0 := (h5A.out.below hb3).at.m0; have hRA := Aside0.mk hR3; have hBB := Aside0.mk hB3; have hCB := Aside0.mk (Kd.C_below hCA.out.1 hb3); clear hR3 hB3 hg3 hat3 hb3 z2)) | (refine Kd.R_copy (h1 := fun _ => rfl) 0 (w0 := w) w.heap.size rfl (.tmp 13) (.tmp 17) 22 22 30 rfl Try.underlying22 (by kernel_rfl) _ _ _ _ _ _ (fun _ => True) rfl rfl hRA.out (by rw [← V_length]; exact hCB.out) hBB.out hBB.out.size ?_; intro w4 hR4 hB4 hg4; have hRC := Aside0.mk hR4; have hBC := Aside0.mk hB4; clear hR4 hB4 hg4))
  go_ret
  refine ⟨_, rfl, ?_, hBC.out⟩
  have hrl := hrA.out
  have e1 : ((x.len : Int) + 1).toNat = x.len + 1 := by omega
  have e2 : min x.now.length (x.len + 1) = x.now.length := by omega
  have := hRC.out
  rw [e1, List.length_replicate, e2, List.take_of_length_le (by rw [V_length]; exact Nat.le_refl _), List.drop_replicate, V_replicate, ← V_append] at this
  exact this
/-- a list of words, not too long -/
def In (l : List Int) : Prop := (∀ x ∈ l, 0 ≤ x ∧ x < 4294967296) ∧ l.length < 50000
instance (l : List Int) : Decidable (In l) := by unfold In; exact inferInstance
end Go.Proofs.Ytfjkiiajbeaaoaa.MW
