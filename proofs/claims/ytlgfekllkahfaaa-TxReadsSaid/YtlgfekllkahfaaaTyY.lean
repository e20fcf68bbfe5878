/- The chapter's example. -/
import Derived.Test.YtlgfekllkahfaaaTyX
set_option linter.unusedVariables false
set_option linter.unusedSimpArgs false
namespace Go.Proofs.Ytlgfekllkahfaaa.Pack
open Go.RowKit Go.Proofs.YtlgfekllkahfaaaW.PrintWords Go.Proofs.YtlgfekllkahfaaaW.PrintMore Go.Proofs.Ytlgfekllkahfaaa Go.Proofs.Ytlgfekllkahfaaa.Bits Sha ArrK ShaW
theorem row_one {α : Type} {R : α → List Value → Prop} {sz : Nat} {W : World} {b t : Nat} {cs : List Value} {x : α} (hb : Blk W b t cs) (hx : R x cs) (hl : cs.length = sz) : ReadsRow R sz W (some ⟨b, 0, none⟩) [x].length [x] := by
  refine ⟨rfl, by show 1 ≤ _; decide, fun _ => ⟨_, rfl, fun j p hp => ?_⟩⟩
  match j, hp with
  | 0, hp =>
    cases hp
    exact ⟨cs, hl, hx, fun i u hu => by rw [Nat.zero_mul, Nat.zero_add]; exact hb.add i u hu⟩
def zco : Co := ⟨0, 0⟩
def ztr : Tr := ⟨[zsp], [zco], false⟩
theorem zsp_ok : SpOk zsp := ⟨rfl, by intro x hx; simp [zsp] at hx; omega, by decide, by decide, by decide⟩
theorem zsp_o : SpO zsp := ⟨rfl, zsp_ok.2.1, by decide, by decide, by decide⟩
theorem zco_ok : CoOk zco := ⟨by decide, by decide⟩
theorem cnt_one : cnt 1 = [1] := by decide
theorem cnt_zero : cnt 0 = [0] := by decide
theorem zenc_false : (enc false ztr).length = 55 := by
  simp [enc, ztr, encS, encC, numb_length, cnt_one, zsp]
theorem zenc_true : (enc true ztr).length = 64 := by
  simp [enc, ztr, encS, encC, numb_length, cnt_one, cnt_zero, zsp, bytesOf_length]
theorem zshaped : shaped ztr = true := by decide
theorem zout : outv ztr = (0, none) := by decide
set_option maxRecDepth 100000 in
set_option maxHeartbeats 800000 in
theorem alive10_calls (w : World) : Calls Try.prog 6 #[] w fun e w' => e = .returned (.bool true) ∧ Below w.heap.size w w' := by
  obtain ⟨V, hV⟩ : ∃ V, V = ((w.alloc (.cells (spc zsp).toArray 36)).alloc (.cells (coc zco).toArray 38)).alloc (.cells (trc ztr (some ⟨w.heap.size, 0, none⟩) (some ⟨w.heap.size + 1, 0, none⟩) 1 1).toArray 25) := ⟨_, rfl⟩
  have hB : Below w.heap.size w V := by rw [hV]; exact below_alloc (below_alloc (below_alloc (Below.refl _ _) _) _) _
  have hX0 : Blk V w.heap.size 36 (spc zsp) := by rw [hV]; exact ((Blk.new w _ _).alloc _).alloc _
  have hX1 : Blk V (w.heap.size + 1) 38 (coc zco) := by
    have := (Blk.new (w.alloc (.cells (spc zsp).toArray 36)) 38 (coc zco)).alloc (.cells (trc ztr (some ⟨w.heap.size, 0, none⟩) (some ⟨w.heap.size + 1, 0, none⟩) 1 1).toArray 25)
    rw [hV]; rwa [World.size_alloc] at this
  have hX2 : Blk V (w.heap.size + 1 + 1) 25 (trc ztr (some ⟨w.heap.size, 0, none⟩) (some ⟨w.heap.size + 1, 0, none⟩) 1 1) := by
    have := Blk.new ((w.alloc (.cells (spc zsp).toArray 36)).alloc (.cells (coc zco).toArray 38)) 25 (trc ztr (some ⟨w.heap.size, 0, none⟩) (some ⟨w.heap.size + 1, 0, none⟩) 1 1)
    rw [hV]; rwa [World.size_alloc, World.size_alloc] at this
  have hT : TrOk V ztr (some ⟨w.heap.size, 0, none⟩) (some ⟨w.heap.size + 1, 0, none⟩) 1 1 := ⟨row_one hX0 ⟨zsp_ok, rfl⟩ rfl, row_one hX1 ⟨zco_ok, rfl⟩ rfl, by decide, by decide⟩
  have hW := weight_calls V hT
  rw [zenc_false, zenc_true] at hW
  have hBs := fun (W : World) (h : Below V.heap.size V W) => base_calls W (hT.below h)
  replace hW : Calls Try.prog 21 #[trv ztr (some ⟨w.heap.size, 0, none⟩) (some ⟨w.heap.size + 1, 0, none⟩) 1 1] V fun e w' => e = .returned (.int .i64 229) ∧ Below V.heap.size V w' := hW
  have hCk := fun (W : World) (h : Below V.heap.size V W) => check1_calls (s := zsp) (co := [zco]) (firm := false) (ad := ⟨w.heap.size, 0, none⟩) (A2 := some ⟨w.heap.size + 1, 0, none⟩) (c1 := 1) (c2 := 1) W (Nat.le_refl _) rfl (row_one (hX0.below h) ⟨zsp_o, rfl⟩ rfl) (fun W' h' => ((hX0.below h).below h').add) (row_one (hX1.below h) ⟨zco_ok, rfl⟩ rfl) (by decide) zshaped 0 zout
  have hl := zenc_false
  generalize enc false ztr = l at *
  have hVA := Aside0.mk hV; have hBA := Aside0.mk hB; have hX2A := Aside0.mk hX2; have hWA := Aside0.mk hW; have hBsA := Aside0.mk hBs; have hCkA := Aside0.mk hCk; have hlA := Aside0.mk hl
  clear hV hB hX0 hX1 hX2 hT hW hBs hCk hl
  go_enter Try.func6, Try.ntmps6
  go_wp2_with (first | (go_at_call 21; (rw [show (((w.alloc (.cells #[.int .u8 0, .int .u8 0, .int .u8 0, .int .u8 0, .int .u8 0, .int .u8 0, .int .u8 0, .int .u8 0, .int .u8 0, .int .u8 0, .int .u8 0, .int .u8 0, .int .u8 0, .int .u8 0, .int .u8 0, .int .u8 0, .int .u8 0, .int .u8 0, .int .u8 0, .int .u8 0, .int .u8 0, .int .u8 0, .int .u8 0, .int .u8 0, .int .u8 0, .int .u8 0, .int .u8 0, .int .u8 0, .int .u8 0, .int .u8 0, .int .u8 0, .int .u8 0, .int .i64 0, .string ⟨#[]⟩, .int .u64 0] 36)).alloc (.cells #[.int .i64 0, .int .u64 0] 38)).alloc (.cells #[.slice (some ⟨w.heap.size, 0, none⟩) 1 1, .slice (some ⟨w.heap.size + 1, 0, none⟩) 1 1, .bool false] 25)) = V from hVA.out.symm]; refine hWA.out.mono ?_; rintro e w2 ⟨rfl, hb⟩; have hX3 := hX2A.out.below hb; have g0 := hX3.get 0 _ rfl; have g1 := hX3.get 1 _ rfl; have g2 := hX3.get 2 _ rfl; have hb2A := Aside0.mk hb; have hX3A := Aside0.mk hX3; clear hX3 hb)) | (go_at_call 22; (refine (hBsA.out _ hb2A.out).mono ?_; rintro e w3 ⟨v, rfl, hR, hb⟩; obtain ⟨A, c, rfl, -, -⟩ := Kd.R_reads hR; rw [hlA.out]; clear g0 g1 g2; have hX4 := hX3A.out.below hb; have g0 := hX4.get 0 _ rfl; have g1 := hX4.get 1 _ rfl; have g2 := hX4.get 2 _ rfl; have hb3A := Aside0.mk (below_then hb2A.out hb2A.out.size hb); clear hX4 hb hR)) | (go_at_call 14; (refine (hCkA.out _ hb3A.out).mono ?_; rintro e w4 ⟨rfl, hb⟩; have hb4A := Aside0.mk (below_then hBA.out hBA.out.size (below_then hb3A.out hb3A.out.size hb)); clear hb)))
  go_ret
  exact ⟨rfl, hb4A.out⟩
end Go.Proofs.Ytlgfekllkahfaaa.Pack
