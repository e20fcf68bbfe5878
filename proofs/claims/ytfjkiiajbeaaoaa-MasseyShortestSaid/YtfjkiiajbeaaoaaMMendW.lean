/- (*state).mended: the walk. -/
import Derived.Test.YtfjkiiajbeaaoaaQx1
import Derived.WalkKit
import Derived.Test.YtfjkiiajbeaaoaaMMend
import Derived.StillTailTactics
import Derived.Test.YtfjkiiajbeaaoaaWZeros
set_option linter.unusedVariables false
set_option linter.unusedSimpArgs false
namespace Go.Proofs.Ytfjkiiajbeaaoaa.MW
open Go.RowKit Go.Proofs.Ytfjkiiajbeaaoaa.Q Go.Proofs.YtfjkiiajbeaaoaaW.PrintWords Go.Proofs.YtfjkiiajbeaaoaaW.PrintLast Go.Proofs.YtfjkiiajbeaaoaaW.PrintMore Go.Proofs.Ytfjkiiajbeaaoaa.Bits Go.Proofs.Ytfjkiiajbeaaoaa GF PolyT MV Massey
theorem info_u32 : (Try.prog.info? 30).map (fun i => (i.zero, i.size, i.bytes)) = some (some (.int .u32 0), 1, 4) := by kernel_rfl
set_option maxRecDepth 100000 in
set_option maxHeartbeats 400000 in
theorem mended_calls (now old : List F) (B : Nat) (A0 A1 : Option Addr) (c0 c1 len gap : Nat) (was d : F) (w : World) (hA : At w B A0 now.length c0 A1 old.length c1 len gap was)
    (h0 : Kd.C (Kd.int .u32) w A0 (V now).length (V now)) (hc0 : now.length ≤ c0) (h1 : Kd.C (Kd.int .u32) w A1 (V old).length (V old)) (hc1 : old.length ≤ c1) (hn0 : now.length < 100000) (hp : 1 ≤ now.length) (hn1 : old.length < 100000) (hg : gap < 100000) :
    Calls Try.prog 29 #[.pointer (some ⟨B, 0, none⟩), .int .u32 (v d)] w fun e w' => ∃ v0, e = .returned v0 ∧ Kd.R (Kd.int .u32) 30 w' w.heap.size (fun _ => True) v0 (V (mend now old gap (mul d (inv was)))) ∧ Below w.heap.size w w' := by
  have hI := fun W : World => gf_Inverse.calls 98 (v was) _ W (inverse_v was 98 (Nat.le_refl _))
  have hM := fun W : World => EMul.mul_calls (v d) (v (inv was)) W
  rw [EMul.mulI_v] at hM
  obtain ⟨b, hb⟩ : ∃ b, b = mul d (inv was) := ⟨_, rfl⟩
  rw [← hb] at hM ⊢
  clear hb
  have hCl : ∀ W : World, Kd.C (Kd.int .u32) W A0 (V now).length (V now) → Calls Try.prog 23 #[.slice A0 now.length c0] W fun e w' => ∃ v0_ : Value, e = .returned v0_ ∧ Kd.R (Kd.int .u32) 30 w' W.heap.size (fun _ => True) v0_ (V now) ∧ Below W.heap.size W w' := fun W h => by
    have := slices_Clone_uint32_uint32.calls A0 c0 (V now) (V now) W h (by rw [V_length]; exact hc0) (by unfold slices_Clone_uint32_uint32.f; rw [Option.bind_some, if_pos (by rw [V_length]; simp; omega), List.nil_append])
    rw [V_length] at this
    exact this
  have z0 := hA.m0; have z4 := hA.m4
  have hu := Try.underlying42
  have hAs := Aside0.mk hA
  have hAw := Aside0.mk hA
  have h1w := Aside0.mk h1
  clear hA
  go_enter Try.func29, Try.ntmps29
  go_wp2_with (first | (go_at_call 32; with_reducible refine (hI _).mono ?_; rintro e w1 ⟨rfl, hd1⟩; have hB1 := Drawn0.below hd1; clear hd1) | (go_at_call 28; with_reducible refine (hM _).mono ?_; rintro e w2 ⟨rfl, rfl⟩; have hA1 := hAs.out.below hB1; have y0 := hA1.m0; have h01 := Kd.C_below h0 hB1; have h11 := Kd.C_below h1 hB1; clear z0 z4 hAs h0 h1) | (go_at_call 23; with_reducible refine (hCl _ h01).mono ?_; rintro e w3 ⟨v3, rfl, hR, hB3⟩))
  obtain ⟨A3, c3, rfl⟩ := Kd.R_slice hR
  have hA3 := hA1.below hB3
  have h13 := Kd.C_below h11 hB3
  have hBw : Below w.heap.size w w3 := below_then hB1 hB1.size hB3
  obtain ⟨n, hn, hn2⟩ : ∃ n : Nat, (if (now.length : Int) < (gap : Int) + (old.length : Int) then ((gap : Int) + (old.length : Int)) - (now.length : Int) else 0) = (n : Int) ∧ n = max now.length (gap + old.length) - now.length := by
    by_cases h : (now.length : Int) < (gap : Int) + (old.length : Int)
    · exact ⟨gap + old.length - now.length, by rw [if_pos h]; omega, by omega⟩
    · exact ⟨0, by rw [if_neg h]; rfl, by omega⟩
  have q1 : IntKind.i64.wrap ((gap : Int) + (old.length : Int)) = (gap : Int) + (old.length : Int) := IntWalk.i64_in _ (by omega)
  have q2 : IntKind.i64.wrap (((gap : Int) + (old.length : Int)) - (now.length : Int)) = ((gap : Int) + (old.length : Int)) - (now.length : Int) := IntWalk.i64_in _ (by omega)
  have x1 := hA3.m1; have x3 := hA3.m3
  have hzs : w1.heap.size ≤ w3.heap.size := hB3.size
  have hz := mendTo_zero now old gap b
  rw [← hn2] at hz
  replace hz := Aside0.mk hz
  have hnb : n ≤ 200000 := by omega
  have hnA := Aside0.mk hn2
  clear hn2
  have hA3s := Aside0.mk hA3
  have hRs := Aside0.mk (Kd.R_lower hR hB1.size)
  have hV : (V now).length = now.length := V_length now
  clear hR hA3 hA1 y0 h01 h11 hB1 hB3 hI hM hCl
  rw [hV]
  go_still_tail 15, (by kernel_rfl)
  repeat still_step
  change wpList _ _ _ _ _ w3.drew
  try rw [hn]
  have hR3 := hRs.out
  rw [hV] at hR3
  have hBd : Below w.heap.size w w3.drew := pw_below_drewN hBw 1
  refine Kd.R_append_zeros (Kd.int .u32) (w0 := w) w.heap.size rfl (.tmp 20) (.tmp 34) 22 3 30 (.int .u32 0) 4 rfl Try.underlying22 Try.underlying3 info_u32 rfl (by decide) (by decide) (.slice A3 now.length c3) (V now) 0 (n : Int) (fun _ => True) rfl rfl rfl (fun _ _ => trivial) (Kd.R_drew hR3) (by omega) hBd hBd.size (by rw [V_length]; omega) ?_
  intro v4 w4 hR4 hB4 hg4 hat4
  rw [Int.toNat_natCast, V_replicate, ← V_append, ← hz.out] at hR4
  obtain ⟨g, cap, rfl, hbg, hgl, _⟩ := Kd.R_form hR4 (by rw [V_length, mendTo_length]; omega)
  have hlen : ∀ k, (V (mendTo now old gap b k)).length = max now.length (gap + old.length) := fun k => by rw [V_length, mendTo_length]
  rw [hlen] at hR4
  obtain ⟨M, hM⟩ : ∃ M, M = max now.length (gap + old.length) := ⟨_, rfl⟩
  rw [← hM] at hR4
  have hMg : gap + old.length ≤ M := by omega
  have hMb : M ≤ 200000 := by omega
  simp only [← hM] at hlen
  have e4 := hAw.out.below hB4
  have y1 := e4.m1
  have hg1 : (g = B) = False := eq_false (fun e => by have := World.block_lt_of_cell? w _ hAw.out.m0; simp at this; omega)
  have hMA := Aside0.mk hM
  rw [hlen]
  clear hg4 hat4 hR3 hBd hRs hA3s hn hz hnb hnA x1 x3 q1 q2 hBw h13 e4 hzs hM hg1
  go_wp2_with fail
  go_loopw [41] (fun i wr => ∃ k : Nat, k ≤ old.length ∧ i = .int .i64 k ∧ Below w.heap.size w wr ∧ Kd.R (Kd.int .u32) 30 wr w.heap.size (fun _ => True) (.slice (some ⟨g, 0, none⟩) M cap) (V (mendTo now old gap b k))) (fun i _ => old.length - (intOf i).toNat)
  case atStart => exact ⟨0, by omega, by simp, hB4, hR4⟩
  case round =>
    obtain ⟨k, hk, rfl, hBr, hR⟩ := hrel
    clear hB4 hR4 y1
    by_cases hlt : k < old.length
    · have p0 : (0 : Int) ≤ (k : Int) := by omega
      have p1 : (k : Int) < (old.length : Int) := by omega
      have q3 : IntKind.i64.wrap ((gap : Int) + (k : Int)) = ((gap + k : Nat) : Int) := by rw [IntWalk.i64_in _ (by omega)]; omega
      have q4 : IntKind.i64.wrap ((k : Int) + 1) = (k : Int) + 1 := IntWalk.i64_in _ (by omega)
      have p2 : ((gap + k : Nat) : Int) < (M : Int) := by omega
      have p3 : (0 : Int) ≤ ((gap + k : Nat) : Int) := by omega
      obtain ⟨ae, e1, hx1⟩ := Kd.at_int (Kd.C_below h1w.out hBr) (k : Int) p0 (by rw [V_length]; omega)
      subst e1
      rw [rd_Vn, Int.toNat_natCast] at hx1
      have e5 := hAw.out.below hBr
      have y3 := e5.m3
      have hR' := hR
      rw [← hlen k] at hR'
      obtain ⟨hc, hf⟩ := Kd.R_cell (0 : Int) hR' ((gap + k : Nat) : Int) p3 (by rw [hlen]; omega)
      have hrd : rdOf (0 : Int) (V (mendTo now old gap b k)) ((gap + k : Nat) : Int) = v (co (mendTo now old gap b k) (gap + k)) := rd_Vn _ _
      rw [hrd, Int.toNat_natCast] at hc
      rw [Int.toNat_natCast] at hf
      have hst := Aside0.mk (mendTo_succ now old gap b k hlt)
      have hput := Kd.R_putn (Kd.R_drew hR) ((gap + k : Nat) : Int) (v (co (mendTo now old gap b k) (gap + k) ^^^ mul (co old k) b))
      rw [Int.toNat_natCast, V_set, hst.out] at hput
      obtain ⟨x, hx⟩ : ∃ x, x = co (mendTo now old gap b k) (gap + k) := ⟨_, rfl⟩
      obtain ⟨y, hy⟩ : ∃ y, y = co old k := ⟨_, rfl⟩
      rw [← hx] at hc hput
      rw [← hy] at hx1 hput
      have hxx := xor_v x (mul y b)
      have hmc := fun W : World => EMul.mul_still (v y) (v b) W
      rw [EMul.mulI_v] at hmc
      have hputA := Aside0.mk hput
      obtain ⟨z, hz⟩ : ∃ z : Nat, z = gap + k := ⟨_, rfl⟩
      rw [← hz] at p2 p3 hc hf q3 hputA
      clear hput hR' hrd hst hx hy e5 hR hlen hz
      go_wp2_with fail
      go_still_tail 14, (by kernel_rfl)
      repeat still_step
      still_call (hmc _)
      repeat still_step
      change wpList _ _ _ _ _ wr.drew
      have hB5 : Below w.heap.size w (wr.drew.setCell ⟨g, z, none⟩ (.int .u32 (v (x ^^^ mul y b)))) := (show Below w.heap.size w wr.drew from pw_below_drewN hBr 1).setCell (p := ⟨g, z, none⟩) hbg _
      have hc5 : wr.drew.cell? ⟨g, z, none⟩ = some (.int .u32 (v x)) := hc
      have hf5 : wr.drew.frozen? ⟨g, z, none⟩ = false := hf
      clear hc hf y3 hx1 hBr hmc
      have hB6 := Aside0.mk hB5
      clear hB5
      go_wp2_with fail
      go_roundw
      case rel => exact ⟨k + 1, by omega, by go_num, hB6.out, hputA.out⟩
      case measure => simp [intOf]; omega
    · obtain rfl : k = old.length := by omega
      rw [mendTo_all] at hR
      have hlm : (V (mend now old gap b)).length = M := by rw [V_length, mend_length]; exact hMA.out.symm
      go_wp2
      go_ret
      exact ⟨_, rfl, hR, hBr⟩
end Go.Proofs.Ytfjkiiajbeaaoaa.MW
