/- The document's double digest. -/
import Derived.Test.YtlgfekllkahfaaaDoorShaR
import Derived.Test.YtlgfekllkahfaaaDoorShNr
set_option linter.unusedVariables false
set_option linter.unusedSimpArgs false
namespace Go.Proofs.YtlgfekllkahfaaaDoor.ShaW
open Go.RowKit Go.Proofs.YtlgfekllkahfaaaDoorW.PrintWords Go.Proofs.YtlgfekllkahfaaaDoorW.PrintMore Go.Proofs.YtlgfekllkahfaaaDoor Go.Proofs.YtlgfekllkahfaaaDoor.Bits Sha ArrK
set_option maxRecDepth 100000 in
set_option maxHeartbeats 400000 in
theorem bytesR_calls (h : List Int) (hl : h.length = 32) (w : World) :
    Calls Tryd.prog 52 #[hv h] w fun e w' => ∃ v, e = .returned v ∧ Kd.R (Kd.int .u8) 5 w' w.heap.size (fun _ => True) v h ∧ Below w.heap.size w w' := by
  have h0 : Blk (w.alloc (.cells (nums .u8 h).toArray 34)) w.heap.size 34 (nums .u8 h) := Blk.new w _ _
  have hB : Below w.heap.size w (w.alloc (.cells (nums .u8 h).toArray 34)) := below_alloc (Below.refl _ _) _
  have h0A := Aside0.mk h0; have hBA := Aside0.mk hB; have hlA := Aside0.mk hl
  clear h0 hB hl
  go_enter Tryd.func52, Tryd.ntmps52
  go_wp2_with fail
  go_loopw [4, 3] (fun i u wr => ∃ k : Nat, k ≤ 32 ∧ i = .int .i64 k ∧ Kd.R (Kd.int .u8) 5 wr w.heap.size (fun _ => True) u (h.take k) ∧ Blk wr w.heap.size 34 (nums .u8 h) ∧ Below w.heap.size w wr) (fun i _ _ => 32 - (intOf i).toNat)
  case atStart => exact ⟨0, by omega, rfl, Kd.R_nil _ _ _ _ _, h0A.out, hBA.out⟩
  case round =>
    clear h0A hBA
    obtain ⟨k, hk, rfl, hR, hX, hB⟩ := hrel
    have hBA := Aside0.mk hB; have hXA := Aside0.mk hX; have hRA := Aside0.mk hR
    clear hB hX hR
    by_cases hlt : k < 32
    · have p0 : (0 : Int) ≤ (k : Int) := by omega
      have p1 : (k : Int) < 32 := by omega
      have hw4 : IntKind.i64.wrap ((k : Int) + 1) = (k : Int) + 1 := IntWalk.i64_in _ (by omega)
      have gx := hXA.out.get k _ (nums_rd h k (by have := hlA.out; omega))
      have htk : h.take (k + 1) = h.take k ++ [rd h (k : Int)] := by
        have hkl : k < h.length := by have := hlA.out; omega
        rw [List.take_succ_eq_append_getElem hkl]
        unfold rd; rw [Int.toNat_natCast, List.getD_eq_getElem?_getD, List.getElem?_eq_getElem hkl]; rfl
      have hll : (h.take k).length ≤ 32 := by rw [List.length_take]; omega
      obtain ⟨x, hx⟩ : ∃ x, x = rd h (k : Int) := ⟨_, rfl⟩
      rw [← hx] at gx htk
      have htA := Aside0.mk htk
      clear hx htk
      generalize h.take k = l at *
      go_wp2_with ((with_reducible refine gate_dst (N := 14) rfl ?_); at_builtin; refine Kd.R_append (Kd.int .u8) (w0 := w) w.heap.size rfl (.tmp 9) (.tmp 13) 40 5 (.int .u8 0) 1 rfl Tryd.underlying40 info_u8 rfl (by decide) (by omega) u3 l x [.int .u8 x] (fun _ => True) (fun _ => False) rfl rfl ?aP (fun _ hk => hk.elim) ?aF ?aO ?aB ?aS ?aL ?_; (case aP => exact rfl); (case aB => exact hBA.out); (case aF => exact (fun _ _ => trivial)); (case aO => exact hRA.out); (case aS => exact hBA.out.size); (case aL => omega); intro v14 w14 hR hB hg hn; have hX14 := Aside0.mk (hXA.out.grown hg (Kd.R_ne hRA.out hXA.out (by decide))); have hRA14 := Aside0.mk hR; have hBA14 := Aside0.mk hB; clear hR hB hg hn)
      go_roundw
      case rel => exact ⟨k + 1, by omega, by go_num, by rw [htA.out]; exact hRA14.out, hX14.out, hBA14.out⟩
      case measure => simp [intOf]; omega
    · obtain rfl : k = 32 := by omega
      rw [List.take_of_length_le (by rw [hlA.out]; exact Nat.le_refl _)] at hRA
      go_wp2_with fail
      go_ret
      exact ⟨_, rfl, hRA.out, hBA.out⟩
theorem bytes_calls (h : List Int) (hl : h.length = 32) (w : World) :
    Calls Tryd.prog 52 #[hv h] w fun e w' => ∃ B c, e = .returned (.slice (some ⟨B, 0, none⟩) h.length c) ∧ h.length ≤ c ∧ Kd.C (Kd.int .u8) w' (some ⟨B, 0, none⟩) h.length h ∧ Below w.heap.size w w' :=
  (bytesR_calls h hl w).mono fun e w' ⟨v, he, hR, hb⟩ => by
    obtain ⟨B, c, rfl, hB1, hB2, -⟩ := Kd.R_form hR (by rw [hl]; decide)
    exact ⟨B, c, he, (Kd.R_reads' hR).2.1, (Kd.R_reads' hR).2.2, hb⟩
set_option maxRecDepth 100000 in
set_option maxHeartbeats 400000 in
theorem rdouble_calls (t : List Int) (A : Option Addr) (c : Nat) (w : World) (hb : Bytes t) (hK : Rst w) (hr : Kd.C (Kd.int .u8) w A t.length t) (hc : t.length ≤ c) (hl : t.length < 1000000000) :
    Calls Tryd.prog 26 #[.slice A t.length c] w fun e w' => e = .returned (hv (dbl t)) ∧ Below w.heap.size w w' := by
  obtain ⟨V0, hV0⟩ : ∃ V0, V0 = w.alloc (.cells #[.int .u8 0, .int .u8 0, .int .u8 0, .int .u8 0, .int .u8 0, .int .u8 0, .int .u8 0, .int .u8 0, .int .u8 0, .int .u8 0, .int .u8 0, .int .u8 0, .int .u8 0, .int .u8 0, .int .u8 0, .int .u8 0, .int .u8 0, .int .u8 0, .int .u8 0, .int .u8 0, .int .u8 0, .int .u8 0, .int .u8 0, .int .u8 0, .int .u8 0, .int .u8 0, .int .u8 0, .int .u8 0, .int .u8 0, .int .u8 0, .int .u8 0, .int .u8 0] 34) := ⟨_, rfl⟩
  have hB0 : Below w.heap.size w V0 := by rw [hV0]; exact (Below.refl _ _).alloc (Nat.le_refl _) _
  have hR0 : Blk V0 w.heap.size 34 (nums .u8 zero32) := by rw [hV0]; exact Blk.new w 34 (nums .u8 zero32)
  have hS1 := rsum_calls t A c V0 hb (hK.below hB0) (Kd.C_below hr hB0) hc hl
  unfold dbl
  have hsl := sum_length t
  have hsb := Bytes.sum t
  generalize Sha.sum t = s at *
  have hfl := sum_length s
  have hfl2 : (nums .u8 zero32).length = (nums .u8 (Sha.sum s)).length := by simp [nums, hfl]
  have hV0A := Aside0.mk hV0; have hB0A := Aside0.mk hB0; have hR0A := Aside0.mk hR0; have hS1A := Aside0.mk hS1; have hKA := Aside0.mk hK
  have hslA := Aside0.mk hsl; have hsbA := Aside0.mk hsb; have hflA := Aside0.mk hfl2; have hfl1A := Aside0.mk hfl
  clear hV0 hB0 hR0 hS1 hK hr hsl hsb hfl hfl2 hc hl hb
  go_enter Tryd.func26, Tryd.ntmps26
  go_wp2_with (first | (go_at_call 51; rw [← hV0A.out]; with_reducible refine hS1A.out.mono ?_; rintro e w1 ⟨rfl, hb1⟩; have hb1A := Aside0.mk hb1; clear hb1) | (go_at_call 52; refine (bytes_calls s hslA.out w1).mono ?_; rintro e w2 ⟨B2, c2, rfl, hc2, hC2, hb2⟩; have hb2A := Aside0.mk hb2; have hbw := Aside0.mk (below_then (below_then hB0A.out hB0A.out.size hb1A.out) (Nat.le_trans hB0A.out.size hb1A.out.size) hb2); have hS2 := Aside0.mk (rsum_calls s (some ⟨B2, 0, none⟩) c2 w2 hsbA.out (hKA.out.below hbw.out) hC2 hc2 (by rw [hslA.out]; decide)); clear hb2 hC2 hc2) | (go_at_call 51; with_reducible refine hS2.out.mono ?_; rintro e w3 ⟨rfl, hb3⟩; have hR3 := Aside0.mk (((hR0A.out.below hb1A.out).below hb2A.out).below hb3); have hB3 := Aside0.mk (below_then hbw.out hbw.out.size hb3); clear hb3) | (refine wpList_put_blk rfl 34 (.tmp 2) (.tmp 6) rfl w.heap.size 34 (nums .u8 (Sha.sum s)) (nums .u8 zero32) hflA.out rfl rfl hR3.out (info_hash _ hfl1A.out) (u8_one _) ?_; intro w4 hW4 hg4 hs4))
  have hi2 : (Tryd.prog.info? 34).map (·.size) = some (nums .u8 (Sha.sum s)).toArray.size := by rw [List.size_toArray]; exact info_hash _ hfl1A.out
  exact bodyPost_ret (results_cell_row rfl _ _ w.heap.size 34 (nums .u8 (Sha.sum s)).toArray (0, 0) _ rfl hW4 Tryd.underlying34 rfl hi2) rfl ⟨rfl, hB3.out.grown hg4 hB3.out.size (fun k e => by cases e; exact Nat.le_refl _)⟩
end Go.Proofs.YtlgfekllkahfaaaDoor.ShaW
