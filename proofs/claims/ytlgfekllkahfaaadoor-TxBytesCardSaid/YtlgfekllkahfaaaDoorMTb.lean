/- A transaction's weight. -/
import Derived.Test.YtlgfekllkahfaaaDoorMPb
import Derived.Test.YtlgfekllkahfaaaDoorMRt
import Derived.Test.YtlgfekllkahfaaaDoorMAl
import Derived.Test.YtlgfekllkahfaaaDoorMWt
import Derived.Test.YtlgfekllkahfaaaDoorMTy
set_option linter.unusedVariables false
set_option linter.unusedSimpArgs false
namespace Go.Proofs.YtlgfekllkahfaaaDoor.Pack
open Go.RowKit Go.Proofs.YtlgfekllkahfaaaDoorW.PrintWords Go.Proofs.YtlgfekllkahfaaaDoorW.PrintMore Go.Proofs.YtlgfekllkahfaaaDoor Go.Proofs.YtlgfekllkahfaaaDoor.Bits Sha ArrK ShaW
open Go.Proofs.YtlgfekllkahfaaaDoor.InRound (op_at)
section
variable {t : Tr} {A1 A2 : Option Addr} {c1 c2 : Nat}
set_option maxRecDepth 100000 in
set_option maxHeartbeats 400000 in
theorem rweight_calls (w : World) (h : TrOk w t A1 A2 c1 c2) : Calls Tryd.prog 18 #[trv t A1 A2 c1 c2] w fun e w' => e = .returned (.int .i64 ((3 * (enc false t).length + (enc true t).length : Nat) : Int)) ∧ Below w.heap.size w w' := by
  obtain ⟨V, hV⟩ : ∃ V, V = w.alloc (.cells (trc t A1 A2 c1 c2).toArray 25) := ⟨_, rfl⟩
  have hX : Blk V w.heap.size 25 (trc t A1 A2 c1 c2) := by rw [hV]; exact Blk.new w _ _
  have hB : Below w.heap.size w V := by rw [hV]; exact below_alloc (Below.refl _ _) _
  have h' := h.below hB
  have hBa : ∀ W, Below V.heap.size V W → Calls Tryd.prog 14 #[trv t A1 A2 c1 c2] W fun e w' => (∃ A c, e = .returned (.slice A (enc false t).length c)) ∧ Below W.heap.size W w' := fun W hW => (rbase_calls W (h'.below hW)).mono fun e w' ⟨v, e1, hR, hb⟩ => by
    obtain ⟨A, c, rfl⟩ := Kd.R_slice hR
    exact ⟨⟨A, c, e1⟩, hb⟩
  have hBy : ∀ W, Below V.heap.size V W → Calls Tryd.prog 13 #[trv t A1 A2 c1 c2] W fun e w' => (∃ A c, e = .returned (.slice A (enc true t).length c)) ∧ Below W.heap.size W w' := fun W hW => (rbytesT_calls W (h'.below hW)).mono fun e w' ⟨v, e1, hR, hb⟩ => by
    obtain ⟨A, c, rfl⟩ := Kd.R_slice hR
    exact ⟨⟨A, c, e1⟩, hb⟩
  have l1 := enc_length false t h.spok h.n1 h.n2
  have l2 := enc_length true t h.spok h.n1 h.n2
  generalize (enc false t).length = n1 at *
  generalize (enc true t).length = n2 at *
  have e3 : IntKind.i64.wrap (3 * (n1 : Int)) = ((3 * n1 : Nat) : Int) := by rw [IntWalk.i64_in _ (by omega)]; omega
  have e4 : IntKind.i64.wrap (3 * (n1 : Int) + (n2 : Int)) = 3 * (n1 : Int) + (n2 : Int) := IntWalk.i64_in _ (by omega)
  have hVA := Aside0.mk hV; have hBA := Aside0.mk hB; have hBaA := Aside0.mk hBa; have hByA := Aside0.mk hBy; have hiA := Aside0.mk (info_tx t A1 A2 c1 c2)
  have hXA : Aside0 (∀ W, Below V.heap.size V W → ∀ (j : Nat) u, (trc t A1 A2 c1 c2)[j]? = some u → W.cell? ((⟨w.heap.size, 0, none⟩ : Addr).add j) = some u) := Aside0.mk (fun W hW => (hX.below hW).add)
  clear hV hX hB hBa hBy h h'
  go_enter Tryd.func18, Tryd.ntmps18
  go_wp2_with fail
  rw [show (w.alloc (.cells #[.slice A1 t.sp.length c1, .slice A2 t.co.length c2, .bool t.firm] 25)) = V from hVA.out.symm]
  refine wp_region_noPanic ?_
  have H0 : Below V.heap.size V V.drew := pw_below_drewN (Below.refl _ _) 1
  refine wp_region_held_drew (S := fun V1 => Below V.heap.size V V1) (by kernel_rfl) H0 (fun _ => ?_)
  generalize V.drew = V0 at *
  -- REGION A
  refine wpAnyH_take (i := 0) (v := .agg (trc t A1 A2 c1 c2).toArray) (op_at rfl) (by kernel_rfl) (by kernel_rfl) (by kernel_rfl) (fun _ _ _ h => h) (yieldsIf_load_any (by rfl) _ _ rfl ⟨w.heap.size, 0, none⟩ rfl _ _ (fun w_ hSw => hXA.out w_ hSw) Tryd.underlying25 rfl hiA.out) H0 ?_
  try simp only [Act.put, List.setIfInBounds_toArray, List.set_cons_zero, List.set_cons_succ]
  refine wpAnyH_take (i := 4) (v := .agg (trc t A1 A2 c1 c2).toArray) (op_at rfl) (by kernel_rfl) (by kernel_rfl) (by kernel_rfl) (fun _ _ _ h => h) (yieldsIf_load_any (by rfl) _ _ rfl ⟨w.heap.size, 0, none⟩ rfl _ _ (fun w_ hSw => hXA.out w_ hSw) Tryd.underlying25 rfl hiA.out) H0 ?_
  try simp only [Act.put, List.setIfInBounds_toArray, List.set_cons_zero, List.set_cons_succ]
  refine wpAnyH_ready (rs := [1]) (by kernel_rfl) (by simp) ?_
  refine AllReadyH.cons (op_at rfl) (fun K hK => ?_) AllReadyH.nil
  go_simp
  go_at_call 14
  with_reducible refine (hBaA.out V0 H0).mono ?_
  rintro e V1_ ⟨⟨A_, c_, rfl⟩, hb⟩
  go_wp2_with fail
  refine hK.out _ _ (below_then H0 H0.size hb) (fun H1_ => ?_)
  clear hK K hb
  try simp only [Act.put, List.setIfInBounds_toArray, List.set_cons_zero, List.set_cons_succ]
  refine wpAnyH_take (i := 2) (v := .int .i64 (n1 : Int)) (op_at rfl) (by kernel_rfl) (by kernel_rfl) (by kernel_rfl) (fun _ _ _ h => h) (Or.inl ⟨by rfl, fun w_ hSw => ?_⟩) H1_ ?_
  · skip; go_simp
  try simp only [Act.put, List.setIfInBounds_toArray, List.set_cons_zero, List.set_cons_succ]
  refine wpAnyH_take (i := 3) (v := .int .i64 ((3 * n1 : Nat) : Int)) (op_at rfl) (by kernel_rfl) (by kernel_rfl) (by kernel_rfl) (fun _ _ _ h => h) (Or.inl ⟨by rfl, fun w_ hSw => ?_⟩) H1_ ?_
  · have e_ := e3; go_simp
  try simp only [Act.put, List.setIfInBounds_toArray, List.set_cons_zero, List.set_cons_succ]
  refine wpAnyH_ready (rs := [5]) (by kernel_rfl) (by simp) ?_
  refine AllReadyH.cons (op_at rfl) (fun K hK => ?_) AllReadyH.nil
  go_simp
  go_at_call 13
  with_reducible refine (hByA.out V1_ H1_).mono ?_
  rintro e V2_ ⟨⟨A'_, c'_, rfl⟩, hb⟩
  go_wp2_with fail
  refine hK.out _ _ (below_then H1_ H1_.size hb) (fun H2_ => ?_)
  clear hK K hb
  try simp only [Act.put, List.setIfInBounds_toArray, List.set_cons_zero, List.set_cons_succ]
  refine wpAnyH_take (i := 6) (v := .int .i64 (n2 : Int)) (op_at rfl) (by kernel_rfl) (by kernel_rfl) (by kernel_rfl) (fun _ _ _ h => h) (Or.inl ⟨by rfl, fun w_ hSw => ?_⟩) H2_ ?_
  · skip; go_simp
  try simp only [Act.put, List.setIfInBounds_toArray, List.set_cons_zero, List.set_cons_succ]
  refine wpAnyH_take (i := 7) (v := .int .i64 ((3 * n1 + n2 : Nat) : Int)) (op_at rfl) (by kernel_rfl) (by kernel_rfl) (by kernel_rfl) (fun _ _ _ h => h) (Or.inl ⟨by rfl, fun w_ hSw => ?_⟩) H2_ ?_
  · have e_ := e4; go_simp
  try simp only [Act.put, List.setIfInBounds_toArray, List.set_cons_zero, List.set_cons_succ]
  refine wpAnyH_take (i := 8) (v := .int .i64 ((3 * n1 + n2 : Nat) : Int)) (op_at rfl) (by kernel_rfl) (by kernel_rfl) (by kernel_rfl) (fun _ _ _ h => h) (Or.inl ⟨by rfl, fun w_ hSw => ?_⟩) H2_ ?_
  · skip; go_simp
  try simp only [Act.put, List.setIfInBounds_toArray, List.set_cons_zero, List.set_cons_succ]
  refine wpAnyH_done (by kernel_rfl) ?_ _
  refine NoPanic.normal ?_
  have hHA := Aside0.mk H2_
  go_wp2
  go_ret
  exact ⟨rfl, below_then hBA.out hBA.out.size hHA.out⟩
  -- END A
end
end Go.Proofs.YtlgfekllkahfaaaDoor.Pack
/- A transaction's point (tx.Point); what is good is read. -/
set_option linter.unusedVariables false
set_option linter.unusedSimpArgs false
namespace Go.Proofs.YtlgfekllkahfaaaDoor.Pack
open Go.RowKit Go.Proofs.YtlgfekllkahfaaaDoorW.PrintWords Go.Proofs.YtlgfekllkahfaaaDoorW.PrintMore Go.Proofs.YtlgfekllkahfaaaDoor Go.Proofs.YtlgfekllkahfaaaDoor.Bits Sha ArrK ShaW Wt
open Go.Proofs.YtlgfekllkahfaaaDoor.InRound (op_at)
def ptv (h : List Int) (n : Int) : List Value := nums .u8 h ++ [.int .i64 n]
theorem ptv_length (h : List Int) (n : Int) (hl : h.length = 32) : (ptv h n).length = 33 := by simp [ptv, nums, hl]
theorem info_ptv (h : List Int) (n : Int) (hl : h.length = 32) : (Tryd.prog.info? 36).map (·.size) = some (ptv h n).length := by rw [ptv_length h n hl]; kernel_rfl
set_option maxRecDepth 100000 in
theorem exec_neq_point {a : Act} {o : Oper} (x y : Operand) {tt : TypeId} (ho : o.op = .binOp .neq 36 x y tt) (h : List Int) (n : Int) (hx : a.eval x = .agg (ptv h n).toArray) (hy : a.eval y = .agg (ptv h n).toArray) (hl : h.length = 32) (w : World) :
    (execOp a.eval o).run Tryd.prog w = .ok (.value (.bool false)) w := by
  have hE : ∀ W, (Op.equalIn 10000 36 (.agg (ptv h n).toArray) (.agg (ptv h n).toArray)).run Tryd.prog W = .ok true W := fun W => by
    have := eq_point 9997 h h n n hl hl W
    rwa [decide_eq_true (rfl : h = h), beq_self_eq_true, Bool.and_true] at this
  unfold execOp
  simp only [ho, hx, hy]
  go_simp
set_option maxRecDepth 100000 in
theorem run_built {o : Oper} {a : Act} {w : World} (t : TypeId) (pl : List (Nat × Operand)) (ho : o.op = .build t pl.toArray) (cells : Array Value) (hb : Tryd.prog.built t (pl.map fun (i, x) => (i, a.eval x)) = some cells) : (execOp a.eval o).run Tryd.prog w = .ok (.value (.agg cells)) w := by
  have e : (pl.toArray.map fun (i, x) => (i, a.eval x)) = (pl.map fun (i, x) => (i, a.eval x)).toArray := by simp
  unfold execOp
  simp only [ho, e, Sem.run_bind, run_build w t (pl.map fun (i, x) => (i, a.eval x)).toArray cells hb, Result.andThen_ok]
  rfl
theorem exec_text_ {a : Act} {o : Oper} (x : Operand) (ho : o.op = .convert 40 9 x) (A : Option Addr) (c n : Nat) (l : List Int) (hx : a.eval x = .slice A n c) (w : World) (hn : l.length = n) (hC : Kd.C (Kd.int .u8) w A l.length l) : (execOp a.eval o).run Tryd.prog w = .ok (.value (.string (strOfNums l))) w := by
  subst hn
  have h := Pack.run_text w A c l hC
  unfold execOp
  simp only [ho, hx, Sem.run_bind, h, Result.andThen_ok, Sem.run_pure]
theorem nume_no (t : Tr) : chkv t = none ∨ nume (chkv t) ≠ 0 := by
  unfold chkv
  by_cases h : shaped t = true
  · rw [if_pos h]
    rcases totl_err (t.co.map Co.value) 0 with e | e
    · have e : (outv t).2 = none := e
      rw [e]
      simp only
      by_cases q : twice t.sp = true
      · rw [if_pos q]; right; show (8 : Int) ≠ 0; decide
      · rw [if_neg q]; left; rfl
    · have e : (outv t).2 = some 9 := e
      rw [e]; right; show (9 : Int) ≠ 0; decide
  · rw [if_neg h]; right; decide
theorem rdBad_of {l : List Int} {t : Tr} (h : rdTx l = some t) : rdBad l = false := by
  unfold rdTx at h
  cases e : rdBad l with
  | false => rfl
  | true => rw [if_pos e] at h; cases h
section
variable {t : Tr} {A1 A2 : Option Addr} {c1 c2 : Nat}
set_option maxRecDepth 100000 in
set_option maxHeartbeats 800000 in
theorem point_calls (w : World) (n : Int) (h : TrOk w t A1 A2 c1 c2) (hK : Kst w) (hBg : Bst w) : Calls Tryd.prog 19 #[trv t A1 A2 c1 c2, .int .i64 n] w fun e w' => e = .returned (.agg (ptv (idv t) n).toArray) ∧ Below w.heap.size w w' := by
  obtain ⟨V, hV⟩ : ∃ V, V = (w.alloc (.cells (trc t A1 A2 c1 c2).toArray 25)).alloc (.cells (ptv zero32 0).toArray 36) := ⟨_, rfl⟩
  have hX : Blk V w.heap.size 25 (trc t A1 A2 c1 c2) := by rw [hV]; exact (Blk.new w _ _).alloc _
  have hZ : Blk V (w.heap.size + 1) 36 (ptv zero32 0) := by
    have := Blk.new (w.alloc (.cells (trc t A1 A2 c1 c2).toArray 25)) 36 (ptv zero32 0)
    rw [hV]; rwa [World.size_alloc] at this
  have hB : Below w.heap.size w V := by rw [hV]; exact below_alloc (below_alloc (Below.refl _ _) _) _
  have hP := id_calls V (h.below hB) (hK.below hB) (hBg.below hB)
  have hdl : (idv t).length = 32 := sum_length _
  generalize idv t = l at *
  have hVA := Aside0.mk hV; have hXA := Aside0.mk hX; have hBA := Aside0.mk hB; have hZA := Aside0.mk hZ; have hPA := Aside0.mk hP; have hiA := Aside0.mk (info_tx t A1 A2 c1 c2); have hdlA := Aside0.mk hdl; have hbuA := Aside0.mk (built_point l n hdl)
  clear hV hX hB h hP hZ hK hBg hdl
  go_enter Tryd.func19, Tryd.ntmps19
  go_wp2_with (first | ((with_reducible refine gate_dst (N := 5) rfl ?_); (rw [show ((w.alloc (.cells #[.slice A1 t.sp.length c1, .slice A2 t.co.length c2, .bool t.firm] 25)).alloc (.cells #[.int .u8 0, .int .u8 0, .int .u8 0, .int .u8 0, .int .u8 0, .int .u8 0, .int .u8 0, .int .u8 0, .int .u8 0, .int .u8 0, .int .u8 0, .int .u8 0, .int .u8 0, .int .u8 0, .int .u8 0, .int .u8 0, .int .u8 0, .int .u8 0, .int .u8 0, .int .u8 0, .int .u8 0, .int .u8 0, .int .u8 0, .int .u8 0, .int .u8 0, .int .u8 0, .int .u8 0, .int .u8 0, .int .u8 0, .int .u8 0, .int .u8 0, .int .u8 0, .int .i64 0] 36)) = V from hVA.out.symm]; refine wpList_load_blk rfl 25 (.tmp 2) rfl w.heap.size 25 rfl (trc t A1 A2 c1 c2) _ hXA.out Tryd.underlying25 rfl hiA.out ?_)) | (go_at_call 8; ((with_reducible refine hPA.out.mono ?_); rintro e w2 ⟨rfl, hb⟩; have hB2 := Aside0.mk (below_then hBA.out hBA.out.size hb); have hZ2 := Aside0.mk (hZA.out.below hb); clear hb)) | ((with_reducible refine gate_dst (N := 8) rfl ?_); (refine wpList_built rfl 36 [(0, .tmp 6), (1, .tmp 7)] rfl _ hbuA.out ?_)) | ((refine wpList_put_blk rfl 36 (.tmp 4) (.tmp 8) rfl (w.heap.size + 1) 36 (ptv l n) (ptv zero32 0) (by rw [ptv_length l n hdlA.out]; rfl) rfl rfl hZ2.out (info_ptv l n hdlA.out) (by intro u hu; simp only [ptv, List.mem_append, List.mem_singleton] at hu; rcases hu with hu | rfl; exact u8_one _ u hu; rfl) ?_; intro w4 hW4 hg4 hs4)))
  have hi2 : (Tryd.prog.info? 36).map (·.size) = some (ptv l n).toArray.size := by rw [List.size_toArray]; exact info_ptv l n hdlA.out
  exact bodyPost_ret (results_cell_row rfl _ _ (w.heap.size + 1) 36 (ptv l n).toArray (0, 0) _ rfl hW4 Tryd.underlying36 rfl hi2) rfl ⟨rfl, hB2.out.grown hg4 hB2.out.size (fun k e => by cases e; omega)⟩
end
end Go.Proofs.YtlgfekllkahfaaaDoor.Pack
/- The bytes, ids and weights of any transactions; good ones' bytes are read to them.
   Conditions: none. -/
set_option linter.unusedVariables false
set_option linter.unusedSimpArgs false
namespace Go.Proofs.YtlgfekllkahfaaaDoor.Walk
open Go.RowKit Go.Proofs.YtlgfekllkahfaaaDoorW.PrintWords Go.Proofs.YtlgfekllkahfaaaDoorW.PrintMore Go.Proofs.YtlgfekllkahfaaaDoor Go.Proofs.YtlgfekllkahfaaaDoor.Bits Sha ArrK ShaW Pack
open Go.Proofs.YtlgfekllkahfaaaDoor.InRound (op_at)
set_option maxRecDepth 100000 in
set_option maxHeartbeats 6400000 in
theorem TxBytes (t : Tr) (A1 A2 : Option Addr) (c1 c2 : Nat) (n : Int) (w : World) (hK : Kst w) (hBg : Bst w) (hK7 : Rst w) (hS : SpR0 w A1 t.sp.length t.sp) (hC : CoR w A2 t.co.length t.co) :
    Calls Tryd.prog 4 #[trv t A1 A2 c1 c2, .int .i64 n] w fun e w' => e = .returned (.bool true) ∧ Below w.heap.size w w' := by
  obtain ⟨V, hV⟩ : ∃ V, V = w.alloc (.cells (trc t A1 A2 c1 c2).toArray 25) := ⟨_, rfl⟩
  have hX : Blk V w.heap.size 25 (trc t A1 A2 c1 c2) := by rw [hV]; exact Blk.new w _ _
  have hB : Below w.heap.size w V := by rw [hV]; exact below_alloc (Below.refl _ _) _
  have hAl := alive10_calls V
  have hVA := Aside0.mk hV; have hXA := Aside0.mk hX; have hBA := Aside0.mk hB; have hAlA := Aside0.mk hAl; have hiA := Aside0.mk (info_tx t A1 A2 c1 c2); have hKA := Aside0.mk hK; have hBgA := Aside0.mk hBg; have hK7A := Aside0.mk hK7; have hSA := Aside0.mk hS; have hCA := Aside0.mk hC
  clear hV hX hB hAl hK hBg hK7 hS hC
  generalize hlg : large t = g
  have hlA := Aside0.mk hlg
  clear hlg
  have hLgA := Aside0.mk (fun (W1 : World) (hW : Below w.heap.size w W1) => large_calls (W1.alloc (.cells (trc t A1 A2 c1 c2).toArray 25)) W1.heap.size (Blk.new W1 _ _) (hSA.out.imp_ (below_alloc hW _) (fun _ _ h => h)))
  cases g
  · obtain ⟨l1, l2, l3⟩ := large_no hlA.out
    have hTt := Aside0.mk (fun (W : World) (hW : Below w.heap.size w W) => (⟨SpR0.small (hSA.out.imp_ hW (fun _ _ h => h)) l3, hCA.out.imp_ hW (fun _ _ h => h), by omega, by omega⟩ : TrOk W t A1 A2 c1 c2))
    have hCpA := Aside0.mk (fun (W : World) (hW : Below w.heap.size w W) => copy_calls W (hSA.out.imp_ hW (fun _ _ h => h)) (hCA.out.imp_ hW (fun _ _ h => h)) (c1 := c1) (c2 := c2) (by omega) (by omega))
    have hi3A := Aside0.mk info_tx3_
    go_enter Tryd.func4, Tryd.ntmps4
    go_wp2_with (first | (go_at_call 5; (rw [show (w.alloc (.cells #[.slice A1 t.sp.length c1, .slice A2 t.co.length c2, .bool t.firm] 25)) = V from hVA.out.symm]; (with_reducible refine hAlA.out.mono ?_); rintro e w1 ⟨rfl, hb1⟩; have hXtA := Aside0.mk (hXA.out.below hb1); have hb1A := Aside0.mk (below_then hBA.out hBA.out.size hb1); clear hb1)) | ((with_reducible refine gate_dst (N := 11) rfl ?_); (refine wpList_load_blk rfl 25 (.tmp 2) rfl w.heap.size 25 rfl (trc t A1 A2 c1 c2) _ hXtA.out Tryd.underlying25 rfl hiA.out ?_)) | (go_at_call 6; ((with_reducible refine (hLgA.out _ hb1A.out).mono ?_); rintro e w3 ⟨rfl, hb3⟩; rw [hlA.out]; have hX3A := Aside0.mk (hXtA.out.below ((below_alloc (Below.refl _ _) _).trans (hb3.mono (by simp)))); have hb3A := Aside0.mk (below_then hb1A.out hb1A.out.size ((below_alloc (Below.refl _ _) _).trans (hb3.mono (by simp)))); clear hb3)) | ((with_reducible refine gate_dst (N := 14) rfl ?_); (refine wpList_load_blk rfl 25 (.tmp 2) rfl w.heap.size 25 rfl (trc t A1 A2 c1 c2) _ hX3A.out Tryd.underlying25 rfl hiA.out ?_)) | (go_at_call 7; ((with_reducible refine (hCpA.out _ hb3A.out).mono ?_); rintro e w7 ⟨⟨u1, u2, rfl, hR1, hR2⟩, hb7⟩; obtain ⟨B1, m1, hv1⟩ := Kd.R_slice hR1; obtain ⟨B2, m2, hv2⟩ := Kd.R_slice hR2; subst hv1; subst hv2; have hb7A := Aside0.mk (below_then hb3A.out hb3A.out.size hb7); have hX7A := Aside0.mk (hX3A.out.below hb7); have hR1A := Aside0.mk (Kd.R_lower hR1 hb3A.out.size); have hR2A := Aside0.mk (Kd.R_lower hR2 hb3A.out.size); clear hb7 hR1 hR2)) | ((with_reducible refine gate_dst (N := 5) rfl ?_); (refine wpList_new_put rfl (N := 5) rfl rfl 25 (.tmp 15) rfl [.slice B1 t.sp.length m1, .slice B2 t.co.length m2, .bool t.firm] [.slice none 0 0, .slice none 0 0, .bool false] rfl ?hr rfl rfl (hi3A.out _ _ _) (by intro u hu; simp at hu; rcases hu with rfl | rfl | rfl <;> rfl) ?_; (case hr => first | (go_simp; done) | (go_simp; rfl)); intro w8 hO8 hb8 hs8; have hO8A := Aside0.mk hO8; have hX8A := Aside0.mk (hX7A.out.below hb8); have hR3A := Aside0.mk (Kd.R_below hR1A.out hb8); have hR4A := Aside0.mk (Kd.R_below hR2A.out hb8); have hb8A := Aside0.mk (below_then hb7A.out hb7A.out.size hb8); have hTo := Aside0.mk (fun (W : World) (hW : Below w8.heap.size w8 W) => (⟨SpR0.small (rowS_ (Kd.R_below hR3A.out hW)) l3, rowC_ (Kd.R_below hR4A.out hW), by omega, by omega⟩ : TrOk W t B1 B2 m1 m2)); clear hO8 hb8 hs8)) | ((with_reducible refine gate_dst (N := 16) rfl ?_); (refine wpList_load_blk rfl 25 (.tmp 5) rfl w7.heap.size 25 rfl [.slice B1 t.sp.length m1, .slice B2 t.co.length m2, .bool t.firm] _ hO8A.out Tryd.underlying25 rfl (hi3A.out _ _ _) ?_)) | (go_at_call 11; ((with_reducible refine (bytesT_calls w8 (hTo.out w8 (Below.refl _ _))).mono ?_); rintro e w9 ⟨v9, rfl, hR9, hb9⟩; obtain ⟨A9, c9, hv9⟩ := Kd.R_slice hR9; subst hv9; have hR9A := Aside0.mk hR9; have hb9A := Aside0.mk hb9; clear hb9 hR9)))
    obtain ⟨O, hO⟩ : ∃ O, O = w7.heap.size := ⟨_, rfl⟩
    rw [← hO] at hO8A ⊢
    clear hO hR1A hR2A hb7A hX7A
    have h98 := Aside0.mk (fun (W : World) (hW : Below w9.heap.size w9 W) => below_then hb9A.out hb9A.out.size hW)
    have h9w := Aside0.mk (fun (W : World) (hW : Below w9.heap.size w9 W) => below_then hb8A.out hb8A.out.size (h98.out W hW))
    have hIo := Aside0.mk (fun (W : World) (hW : Below w9.heap.size w9 W) => id_calls W (hTo.out W (h98.out W hW)) (hKA.out.below (h9w.out W hW)) (hBgA.out.below (h9w.out W hW)))
    have hIt := Aside0.mk (fun (W : World) (hW : Below w9.heap.size w9 W) => rid_calls W (hTt.out W (h9w.out W hW)) (hK7A.out.below (h9w.out W hW)))
    have hWo := Aside0.mk (fun (W : World) (hW : Below w9.heap.size w9 W) => wide_calls W (hTo.out W (h98.out W hW)) (hKA.out.below (h9w.out W hW)) (hBgA.out.below (h9w.out W hW)))
    have hWt := Aside0.mk (fun (W : World) (hW : Below w9.heap.size w9 W) => rwide_calls W (hTt.out W (h9w.out W hW)) (hK7A.out.below (h9w.out W hW)))
    have hBo := Aside0.mk (fun (W : World) (hW : Below w9.heap.size w9 W) => base_calls W (hTo.out W (h98.out W hW)))
    have hBt := Aside0.mk (fun (W : World) (hW : Below w9.heap.size w9 W) => rbase_calls W (hTt.out W (h9w.out W hW)))
    have hYt := Aside0.mk (fun (W : World) (hW : Below w9.heap.size w9 W) => rbytesT_calls W (hTt.out W (h9w.out W hW)))
    have hGo := Aside0.mk (fun (W : World) (hW : Below w9.heap.size w9 W) => weight_calls W (hTo.out W (h98.out W hW)))
    have hGt := Aside0.mk (fun (W : World) (hW : Below w9.heap.size w9 W) => rweight_calls W (hTt.out W (h9w.out W hW)))
    have hPo := Aside0.mk (fun (W : World) (hW : Below w9.heap.size w9 W) => point_calls W n (hTo.out W (h98.out W hW)) (hKA.out.below (h9w.out W hW)) (hBgA.out.below (h9w.out W hW)))
    have hCk := Aside0.mk (fun (W : World) (hW : Below w9.heap.size w9 W) => rchk_calls (c1 := c1) (c2 := c2) W (hSA.out.imp_ (h9w.out W hW) (fun _ _ h => h)) (hCA.out.imp_ (h9w.out W hW) (fun _ _ h => h)) (by omega) (by omega))
    have hNo := Aside0.mk (fun (W : World) (hW : Below w9.heap.size w9 W) => numtx_calls (a := t) (b := t) (A1 := B1) (A2 := B2) (B1 := A1) (B2 := A2) (c1 := m1) (c2 := m2) (d1 := c1) (d2 := c2) W (rowS_ (Kd.R_below hR3A.out (h98.out W hW))) (rowC_ (Kd.R_below hR4A.out (h98.out W hW))) (hSA.out.imp_ (h9w.out W hW) (fun _ _ h => h)) (hCA.out.imp_ (h9w.out W hW) (fun _ _ h => h)) (by omega) (by omega))
    rw [Wt.sameT_self] at hNo
    have hSpo := (hTt.out w9 (h9w.out w9 (Below.refl _ _))).spok
    have hEb : Bytes (enc true t) := enc_bytes true t hSpo
    have hEl : (enc true t).length ≤ 1000000000 := by have := enc_length true t hSpo (by omega) (by omega); omega
    have hCo : ∀ c ∈ t.co, CoOk c := fun c hc => by
      obtain ⟨i, hi⟩ := List.mem_iff_getElem?.1 hc
      obtain ⟨_, _, hn⟩ := hCA.out
      obtain ⟨_, _, hr⟩ := hn (by have := (List.getElem?_eq_some_iff.1 hi).1; omega)
      obtain ⟨_, _, h, _⟩ := hr i c hi
      exact h.1
    have hrd : chkv t = none → rdTx (enc true t) = some t := fun h => rdTx_of t hSpo hCo h
    have hil : (idv t).length = 32 := sum_length _
    have hwl : (wdv t).length = 32 := sum_length _
    have hbuA := Aside0.mk (built_point (idv t) n hil)
    obtain ⟨G, hG⟩ : ∃ G : Int, G = ((3 * (enc false t).length + (enc true t).length : Nat) : Int) := ⟨_, rfl⟩
    rw [← hG] at hGo hGt
    obtain ⟨E2, hE2⟩ : ∃ E, E = enc true t := ⟨_, rfl⟩
    obtain ⟨E, hE⟩ : ∃ E, E = enc false t := ⟨_, rfl⟩
    rw [← hE2] at hYt hEb hEl hrd hR9A ⊢
    rw [← hE] at hBo hBt
    have hilA := Aside0.mk hil; have hwlA := Aside0.mk hwl; have hEbA := Aside0.mk hEb; have hElA := Aside0.mk hEl; have hrdA := Aside0.mk hrd
    have hKR := Aside0.mk (fun (W : World) (hW : Below w9.heap.size w9 W) => (Kd.R_reads' (Kd.R_below hR9A.out hW)).2.2)
    have hc9A := Aside0.mk (Kd.R_reads' hR9A.out).2.1
    clear hG hE2 hE hil hwl hEb hEl hrd hSpo hCo
    have H0 : Below w9.heap.size w9 w9.drew := pw_below_drewN (Below.refl _ _) 1
    -- CHAIN
    refine Wt.cut_at (fun a0 e a' W' => e = .normal ∧ ∃ v21 v26 v29 : Value, a' = (((((((((((((((((((((((((((((((((((((((((((((a0.put (some 18) (.slice A9 E2.length c9)).put (some 19) (.string (strOfNums E2))).put (some 20) (.agg (trc t A1 A2 c1 c2).toArray)).put (some 21) (v21)).put (some 22) (.string (strOfNums E2))).put (some 23) (.bool false)).put (some 24) (.bool false)).put (some 25) (.agg #[.slice B1 t.sp.length m1, .slice B2 t.co.length m2, .bool t.firm])).put (some 26) (v26)).put (some 27) (.string (strOfNums E))).put (some 28) (.agg (trc t A1 A2 c1 c2).toArray)).put (some 29) (v29)).put (some 30) (.string (strOfNums E))).put (some 31) (.bool false)).put (some 32) (.bool false)).put (some 33) (.bool false)).put (some 34) (.agg #[.slice B1 t.sp.length m1, .slice B2 t.co.length m2, .bool t.firm])).put (some 35) (hv (idv t))).put (some 36) (.agg (trc t A1 A2 c1 c2).toArray)).put (some 37) (hv (idv t))).put (some 38) (.bool false)).put (some 39) (.bool false)).put (some 40) (.bool false)).put (some 41) (.agg #[.slice B1 t.sp.length m1, .slice B2 t.co.length m2, .bool t.firm])).put (some 42) (hv (wdv t))).put (some 43) (.agg (trc t A1 A2 c1 c2).toArray)).put (some 44) (hv (wdv t))).put (some 45) (.bool false)).put (some 46) (.bool false)).put (some 47) (.bool false)).put (some 48) (.agg #[.slice B1 t.sp.length m1, .slice B2 t.co.length m2, .bool t.firm])).put (some 49) (.int .i64 G)).put (some 50) (.agg (trc t A1 A2 c1 c2).toArray)).put (some 51) (.int .i64 G)).put (some 52) (.bool false)).put (some 53) (.bool false)).put (some 54) (.bool false)).put (some 55) (.agg #[.slice B1 t.sp.length m1, .slice B2 t.co.length m2, .bool t.firm])).put (some 56) (.int .i64 n)).put (some 57) (.agg (ptv (idv t) n).toArray)).put (some 58) (.agg (trc t A1 A2 c1 c2).toArray)).put (some 59) (hv (idv t))).put (some 60) (.int .i64 n)).put (some 61) (.agg (ptv (idv t) n).toArray)).put (some 62) (.bool false)).put (some 63) (.bool false) ∧ Below w9.heap.size w9 W') ?_ ?_
    -- ENDCHAIN
    · refine wp_region_noPanic ?_
      refine wp_region_held_drew (S := fun V1 => Below w9.heap.size w9 V1) (by kernel_rfl) H0 (fun _ => ?_)
      generalize w9.drew = V0 at *
      -- REGION 7
      refine wpAnyH_take (i := 0) (v := .slice A9 E2.length c9) (op_at rfl) (by kernel_rfl) (by kernel_rfl) (by kernel_rfl) (fun _ _ _ h => h) (Or.inl ⟨by rfl, fun w_ hSw => ?_⟩) H0 ?_
      · skip; go_simp
      try simp only [Act.put, List.setIfInBounds_toArray, List.set_cons_zero, List.set_cons_succ]
      refine wpAnyH_take (i := 1) (v := .string (strOfNums E2)) (op_at rfl) (by kernel_rfl) (by kernel_rfl) (by kernel_rfl) (fun _ _ _ h => h) (Or.inl ⟨by rfl, fun w_ hSw => (exec_text_ (.tmp 18) rfl A9 c9 E2.length E2 rfl w_ rfl (hKR.out w_ hSw))⟩) H0 ?_
      try simp only [Act.put, List.setIfInBounds_toArray, List.set_cons_zero, List.set_cons_succ]
      refine wpAnyH_take (i := 2) (v := .agg (trc t A1 A2 c1 c2).toArray) (op_at rfl) (by kernel_rfl) (by kernel_rfl) (by kernel_rfl) (fun _ _ _ h => h) (yieldsIf_load_any (by rfl) _ _ rfl ⟨w.heap.size, 0, none⟩ rfl _ _ (fun w_ hSw => (hX8A.out.below (h98.out _ hSw)).add) Tryd.underlying25 rfl hiA.out) H0 ?_
      try simp only [Act.put, List.setIfInBounds_toArray, List.set_cons_zero, List.set_cons_succ]
      refine wpAnyH_ready (rs := [3]) (by kernel_rfl) (by simp) ?_
      refine AllReadyH.cons (op_at rfl) (fun K hK => ?_) AllReadyH.nil
      go_simp
      go_at_call 13
      with_reducible refine (hYt.out V0 H0).mono ?_
      rintro e V1_ ⟨v_, rfl, hR_, hb_⟩
      obtain ⟨AKA_1, cKA_1, hv_⟩ := Kd.R_slice hR_
      subst hv_
      go_wp2_with fail
      refine hK.out _ _ (below_then H0 H0.size hb_) (fun H1_ => ?_)
      have KA_1 := Aside0.mk hR_
      clear hK K hb_ hR_
      try simp only [Act.put, List.setIfInBounds_toArray, List.set_cons_zero, List.set_cons_succ]
      refine wpAnyH_ready (rs := [4]) (by kernel_rfl) (by simp) ?_
      refine AllReadyH.cons (op_at rfl) (fun K hK => ?_) AllReadyH.nil
      have hc_ := Pack.run_text V1_ AKA_1 cKA_1 E2 (Kd.R_reads' KA_1.out).2.2
      go_simp
      clear hc_
      refine hK.out _ _ H1_ (fun H2_ => ?_)
      clear hK K
      try simp only [Act.put, List.setIfInBounds_toArray, List.set_cons_zero, List.set_cons_succ]
      refine wpAnyH_take (i := 5) (v := .bool false) (op_at rfl) (by kernel_rfl) (by kernel_rfl) (by kernel_rfl) (fun _ _ _ h => h) (Or.inl ⟨by rfl, fun w_ hSw => ?_⟩) H2_ ?_
      · skip; go_simp
      try simp only [Act.put, List.setIfInBounds_toArray, List.set_cons_zero, List.set_cons_succ]
      refine wpAnyH_take (i := 6) (v := .bool false) (op_at rfl) (by kernel_rfl) (by kernel_rfl) (by kernel_rfl) (fun _ _ _ h => h) (Or.inl ⟨by rfl, fun w_ hSw => ?_⟩) H2_ ?_
      · skip; go_simp
      try simp only [Act.put, List.setIfInBounds_toArray, List.set_cons_zero, List.set_cons_succ]
      refine wpAnyH_take (i := 7) (v := .agg #[.slice B1 t.sp.length m1, .slice B2 t.co.length m2, .bool t.firm]) (op_at rfl) (by kernel_rfl) (by kernel_rfl) (by kernel_rfl) (fun _ _ _ h => h) (yieldsIf_load_any (by rfl) _ _ rfl ⟨O, 0, none⟩ rfl _ _ (fun w_ hSw => (hO8A.out.below (h98.out _ hSw)).add) Tryd.underlying25 rfl (hi3A.out _ _ _)) H2_ ?_
      try simp only [Act.put, List.setIfInBounds_toArray, List.set_cons_zero, List.set_cons_succ]
      refine wpAnyH_take (i := 10) (v := .agg (trc t A1 A2 c1 c2).toArray) (op_at rfl) (by kernel_rfl) (by kernel_rfl) (by kernel_rfl) (fun _ _ _ h => h) (yieldsIf_load_any (by rfl) _ _ rfl ⟨w.heap.size, 0, none⟩ rfl _ _ (fun w_ hSw => (hX8A.out.below (h98.out _ hSw)).add) Tryd.underlying25 rfl hiA.out) H2_ ?_
      try simp only [Act.put, List.setIfInBounds_toArray, List.set_cons_zero, List.set_cons_succ]
      refine wpAnyH_ready (rs := [8]) (by kernel_rfl) (by simp) ?_
      refine AllReadyH.cons (op_at rfl) (fun K hK => ?_) AllReadyH.nil
      go_simp
      go_at_call 9
      with_reducible refine (hBo.out V1_ H2_).mono ?_
      rintro e V3_ ⟨v_, rfl, hR_, hb_⟩
      obtain ⟨AKB_3, cKB_3, hv_⟩ := Kd.R_slice hR_
      subst hv_
      go_wp2_with fail
      refine hK.out _ _ (below_then H2_ H2_.size hb_) (fun H3_ => ?_)
      have KA_3 := Aside0.mk (Kd.R_below KA_1.out hb_)
      have KB_3 := Aside0.mk hR_
      clear hK K hb_ hR_
      try simp only [Act.put, List.setIfInBounds_toArray, List.set_cons_zero, List.set_cons_succ]
      refine wpAnyH_ready (rs := [9, 11]) (by kernel_rfl) (by simp) ?_
      refine AllReadyH.cons (op_at rfl) (fun K hK => ?_) (AllReadyH.cons (op_at rfl) (fun K hK => ?_) AllReadyH.nil)
      · have hc_ := Pack.run_text V3_ AKB_3 cKB_3 E (Kd.R_reads' KB_3.out).2.2
        go_simp
        clear hc_
        refine hK.out _ _ H3_ (fun H4_ => ?_)
        clear hK K
        try simp only [Act.put, List.setIfInBounds_toArray, List.set_cons_zero, List.set_cons_succ]
        refine wpAnyH_ready (rs := [11]) (by kernel_rfl) (by simp) ?_
        refine AllReadyH.cons (op_at rfl) (fun K hK => ?_) AllReadyH.nil
        go_simp
        go_at_call 14
        with_reducible refine (hBt.out V3_ H4_).mono ?_
        rintro e V5_ ⟨v_, rfl, hR_, hb_⟩
        obtain ⟨AKC_5, cKC_5, hv_⟩ := Kd.R_slice hR_
        subst hv_
        go_wp2_with fail
        refine hK.out _ _ (below_then H4_ H4_.size hb_) (fun H5_ => ?_)
        have KA_5 := Aside0.mk (Kd.R_below KA_3.out hb_)
        have KB_5 := Aside0.mk (Kd.R_below KB_3.out hb_)
        have KC_5 := Aside0.mk hR_
        clear hK K hb_ hR_
        try simp only [Act.put, List.setIfInBounds_toArray, List.set_cons_zero, List.set_cons_succ]
        refine wpAnyH_ready (rs := [12]) (by kernel_rfl) (by simp) ?_
        refine AllReadyH.cons (op_at rfl) (fun K hK => ?_) AllReadyH.nil
        have hc_ := Pack.run_text V5_ AKC_5 cKC_5 E (Kd.R_reads' KC_5.out).2.2
        go_simp
        clear hc_
        refine hK.out _ _ H5_ (fun H6_ => ?_)
        clear hK K
        try simp only [Act.put, List.setIfInBounds_toArray, List.set_cons_zero, List.set_cons_succ]
        refine wpAnyH_take (i := 13) (v := .bool false) (op_at rfl) (by kernel_rfl) (by kernel_rfl) (by kernel_rfl) (fun _ _ _ h => h) (Or.inl ⟨by rfl, fun w_ hSw => ?_⟩) H6_ ?_
        · skip; go_simp
        try simp only [Act.put, List.setIfInBounds_toArray, List.set_cons_zero, List.set_cons_succ]
        refine wpAnyH_take (i := 14) (v := .bool false) (op_at rfl) (by kernel_rfl) (by kernel_rfl) (by kernel_rfl) (fun _ _ _ h => h) (Or.inl ⟨by rfl, fun w_ hSw => ?_⟩) H6_ ?_
        · skip; go_simp
        try simp only [Act.put, List.setIfInBounds_toArray, List.set_cons_zero, List.set_cons_succ]
        refine wpAnyH_take (i := 15) (v := .bool false) (op_at rfl) (by kernel_rfl) (by kernel_rfl) (by kernel_rfl) (fun _ _ _ h => h) (Or.inl ⟨by rfl, fun w_ hSw => ?_⟩) H6_ ?_
        · skip; go_simp
        try simp only [Act.put, List.setIfInBounds_toArray, List.set_cons_zero, List.set_cons_succ]
        refine wpAnyH_take (i := 16) (v := .agg #[.slice B1 t.sp.length m1, .slice B2 t.co.length m2, .bool t.firm]) (op_at rfl) (by kernel_rfl) (by kernel_rfl) (by kernel_rfl) (fun _ _ _ h => h) (yieldsIf_load_any (by rfl) _ _ rfl ⟨O, 0, none⟩ rfl _ _ (fun w_ hSw => (hO8A.out.below (h98.out _ hSw)).add) Tryd.underlying25 rfl (hi3A.out _ _ _)) H6_ ?_
        try simp only [Act.put, List.setIfInBounds_toArray, List.set_cons_zero, List.set_cons_succ]
        refine wpAnyH_take (i := 18) (v := .agg (trc t A1 A2 c1 c2).toArray) (op_at rfl) (by kernel_rfl) (by kernel_rfl) (by kernel_rfl) (fun _ _ _ h => h) (yieldsIf_load_any (by rfl) _ _ rfl ⟨w.heap.size, 0, none⟩ rfl _ _ (fun w_ hSw => (hX8A.out.below (h98.out _ hSw)).add) Tryd.underlying25 rfl hiA.out) H6_ ?_
        try simp only [Act.put, List.setIfInBounds_toArray, List.set_cons_zero, List.set_cons_succ]
        refine wpAnyH_ready (rs := [17]) (by kernel_rfl) (by simp) ?_
        refine AllReadyH.cons (op_at rfl) (fun K hK => ?_) AllReadyH.nil
        go_simp
        go_at_call 8
        with_reducible refine (hIo.out V5_ H6_).mono ?_
        rintro e V7_ ⟨rfl, hb⟩
        go_wp2_with fail
        refine hK.out _ _ (below_then H6_ H6_.size hb) (fun H7_ => ?_)
        have KA_7 := Aside0.mk (Kd.R_below KA_5.out hb)
        have KB_7 := Aside0.mk (Kd.R_below KB_5.out hb)
        have KC_7 := Aside0.mk (Kd.R_below KC_5.out hb)
        clear hK K hb
        try simp only [Act.put, List.setIfInBounds_toArray, List.set_cons_zero, List.set_cons_succ]
        refine wpAnyH_ready (rs := [19]) (by kernel_rfl) (by simp) ?_
        refine AllReadyH.cons (op_at rfl) (fun K hK => ?_) AllReadyH.nil
        go_simp
        go_at_call 15
        with_reducible refine (hIt.out V7_ H7_).mono ?_
        rintro e V8_ ⟨rfl, hb⟩
        go_wp2_with fail
        refine hK.out _ _ (below_then H7_ H7_.size hb) (fun H8_ => ?_)
        have KA_8 := Aside0.mk (Kd.R_below KA_7.out hb)
        have KB_8 := Aside0.mk (Kd.R_below KB_7.out hb)
        have KC_8 := Aside0.mk (Kd.R_below KC_7.out hb)
        clear hK K hb
        try simp only [Act.put, List.setIfInBounds_toArray, List.set_cons_zero, List.set_cons_succ]
        refine wpAnyH_take (i := 20) (v := .bool false) (op_at rfl) (by kernel_rfl) (by kernel_rfl) (by kernel_rfl) (fun _ _ _ h => h) (Or.inl ⟨by rfl, fun w_ hSw => exec_neq_same (.tmp 35) (.tmp 37) rfl (idv t) rfl rfl hilA.out w_⟩) H8_ ?_
        try simp only [Act.put, List.setIfInBounds_toArray, List.set_cons_zero, List.set_cons_succ]
        refine wpAnyH_take (i := 21) (v := .bool false) (op_at rfl) (by kernel_rfl) (by kernel_rfl) (by kernel_rfl) (fun _ _ _ h => h) (Or.inl ⟨by rfl, fun w_ hSw => ?_⟩) H8_ ?_
        · skip; go_simp
        try simp only [Act.put, List.setIfInBounds_toArray, List.set_cons_zero, List.set_cons_succ]
        refine wpAnyH_take (i := 22) (v := .bool false) (op_at rfl) (by kernel_rfl) (by kernel_rfl) (by kernel_rfl) (fun _ _ _ h => h) (Or.inl ⟨by rfl, fun w_ hSw => ?_⟩) H8_ ?_
        · skip; go_simp
        try simp only [Act.put, List.setIfInBounds_toArray, List.set_cons_zero, List.set_cons_succ]
        refine wpAnyH_take (i := 23) (v := .agg #[.slice B1 t.sp.length m1, .slice B2 t.co.length m2, .bool t.firm]) (op_at rfl) (by kernel_rfl) (by kernel_rfl) (by kernel_rfl) (fun _ _ _ h => h) (yieldsIf_load_any (by rfl) _ _ rfl ⟨O, 0, none⟩ rfl _ _ (fun w_ hSw => (hO8A.out.below (h98.out _ hSw)).add) Tryd.underlying25 rfl (hi3A.out _ _ _)) H8_ ?_
        try simp only [Act.put, List.setIfInBounds_toArray, List.set_cons_zero, List.set_cons_succ]
        refine wpAnyH_take (i := 25) (v := .agg (trc t A1 A2 c1 c2).toArray) (op_at rfl) (by kernel_rfl) (by kernel_rfl) (by kernel_rfl) (fun _ _ _ h => h) (yieldsIf_load_any (by rfl) _ _ rfl ⟨w.heap.size, 0, none⟩ rfl _ _ (fun w_ hSw => (hX8A.out.below (h98.out _ hSw)).add) Tryd.underlying25 rfl hiA.out) H8_ ?_
        try simp only [Act.put, List.setIfInBounds_toArray, List.set_cons_zero, List.set_cons_succ]
        refine wpAnyH_ready (rs := [24]) (by kernel_rfl) (by simp) ?_
        refine AllReadyH.cons (op_at rfl) (fun K hK => ?_) AllReadyH.nil
        go_simp
        go_at_call 12
        with_reducible refine (hWo.out V8_ H8_).mono ?_
        rintro e V9_ ⟨rfl, hb⟩
        go_wp2_with fail
        refine hK.out _ _ (below_then H8_ H8_.size hb) (fun H9_ => ?_)
        have KA_9 := Aside0.mk (Kd.R_below KA_8.out hb)
        have KB_9 := Aside0.mk (Kd.R_below KB_8.out hb)
        have KC_9 := Aside0.mk (Kd.R_below KC_8.out hb)
        clear hK K hb
        try simp only [Act.put, List.setIfInBounds_toArray, List.set_cons_zero, List.set_cons_succ]
        refine wpAnyH_ready (rs := [26]) (by kernel_rfl) (by simp) ?_
        refine AllReadyH.cons (op_at rfl) (fun K hK => ?_) AllReadyH.nil
        go_simp
        go_at_call 16
        with_reducible refine (hWt.out V9_ H9_).mono ?_
        rintro e V10_ ⟨rfl, hb⟩
        go_wp2_with fail
        refine hK.out _ _ (below_then H9_ H9_.size hb) (fun H10_ => ?_)
        have KA_10 := Aside0.mk (Kd.R_below KA_9.out hb)
        have KB_10 := Aside0.mk (Kd.R_below KB_9.out hb)
        have KC_10 := Aside0.mk (Kd.R_below KC_9.out hb)
        clear hK K hb
        try simp only [Act.put, List.setIfInBounds_toArray, List.set_cons_zero, List.set_cons_succ]
        refine wpAnyH_take (i := 27) (v := .bool false) (op_at rfl) (by kernel_rfl) (by kernel_rfl) (by kernel_rfl) (fun _ _ _ h => h) (Or.inl ⟨by rfl, fun w_ hSw => exec_neq_same (.tmp 42) (.tmp 44) rfl (wdv t) rfl rfl hwlA.out w_⟩) H10_ ?_
        try simp only [Act.put, List.setIfInBounds_toArray, List.set_cons_zero, List.set_cons_succ]
        refine wpAnyH_take (i := 28) (v := .bool false) (op_at rfl) (by kernel_rfl) (by kernel_rfl) (by kernel_rfl) (fun _ _ _ h => h) (Or.inl ⟨by rfl, fun w_ hSw => ?_⟩) H10_ ?_
        · skip; go_simp
        try simp only [Act.put, List.setIfInBounds_toArray, List.set_cons_zero, List.set_cons_succ]
        refine wpAnyH_take (i := 29) (v := .bool false) (op_at rfl) (by kernel_rfl) (by kernel_rfl) (by kernel_rfl) (fun _ _ _ h => h) (Or.inl ⟨by rfl, fun w_ hSw => ?_⟩) H10_ ?_
        · skip; go_simp
        try simp only [Act.put, List.setIfInBounds_toArray, List.set_cons_zero, List.set_cons_succ]
        refine wpAnyH_take (i := 30) (v := .agg #[.slice B1 t.sp.length m1, .slice B2 t.co.length m2, .bool t.firm]) (op_at rfl) (by kernel_rfl) (by kernel_rfl) (by kernel_rfl) (fun _ _ _ h => h) (yieldsIf_load_any (by rfl) _ _ rfl ⟨O, 0, none⟩ rfl _ _ (fun w_ hSw => (hO8A.out.below (h98.out _ hSw)).add) Tryd.underlying25 rfl (hi3A.out _ _ _)) H10_ ?_
        try simp only [Act.put, List.setIfInBounds_toArray, List.set_cons_zero, List.set_cons_succ]
        refine wpAnyH_take (i := 32) (v := .agg (trc t A1 A2 c1 c2).toArray) (op_at rfl) (by kernel_rfl) (by kernel_rfl) (by kernel_rfl) (fun _ _ _ h => h) (yieldsIf_load_any (by rfl) _ _ rfl ⟨w.heap.size, 0, none⟩ rfl _ _ (fun w_ hSw => (hX8A.out.below (h98.out _ hSw)).add) Tryd.underlying25 rfl hiA.out) H10_ ?_
        try simp only [Act.put, List.setIfInBounds_toArray, List.set_cons_zero, List.set_cons_succ]
        refine wpAnyH_ready (rs := [31]) (by kernel_rfl) (by simp) ?_
        refine AllReadyH.cons (op_at rfl) (fun K hK => ?_) AllReadyH.nil
        go_simp
        go_at_call 17
        with_reducible refine (hGo.out V10_ H10_).mono ?_
        rintro e V11_ ⟨rfl, hb⟩
        go_wp2_with fail
        refine hK.out _ _ (below_then H10_ H10_.size hb) (fun H11_ => ?_)
        have KA_11 := Aside0.mk (Kd.R_below KA_10.out hb)
        have KB_11 := Aside0.mk (Kd.R_below KB_10.out hb)
        have KC_11 := Aside0.mk (Kd.R_below KC_10.out hb)
        clear hK K hb
        try simp only [Act.put, List.setIfInBounds_toArray, List.set_cons_zero, List.set_cons_succ]
        refine wpAnyH_ready (rs := [33]) (by kernel_rfl) (by simp) ?_
        refine AllReadyH.cons (op_at rfl) (fun K hK => ?_) AllReadyH.nil
        go_simp
        go_at_call 18
        with_reducible refine (hGt.out V11_ H11_).mono ?_
        rintro e V12_ ⟨rfl, hb⟩
        go_wp2_with fail
        refine hK.out _ _ (below_then H11_ H11_.size hb) (fun H12_ => ?_)
        have KA_12 := Aside0.mk (Kd.R_below KA_11.out hb)
        have KB_12 := Aside0.mk (Kd.R_below KB_11.out hb)
        have KC_12 := Aside0.mk (Kd.R_below KC_11.out hb)
        clear hK K hb
        try simp only [Act.put, List.setIfInBounds_toArray, List.set_cons_zero, List.set_cons_succ]
        refine wpAnyH_take (i := 34) (v := .bool false) (op_at rfl) (by kernel_rfl) (by kernel_rfl) (by kernel_rfl) (fun _ _ _ h => h) (Or.inl ⟨by rfl, fun w_ hSw => ?_⟩) H12_ ?_
        · skip; go_simp
        try simp only [Act.put, List.setIfInBounds_toArray, List.set_cons_zero, List.set_cons_succ]
        refine wpAnyH_take (i := 35) (v := .bool false) (op_at rfl) (by kernel_rfl) (by kernel_rfl) (by kernel_rfl) (fun _ _ _ h => h) (Or.inl ⟨by rfl, fun w_ hSw => ?_⟩) H12_ ?_
        · skip; go_simp
        try simp only [Act.put, List.setIfInBounds_toArray, List.set_cons_zero, List.set_cons_succ]
        refine wpAnyH_take (i := 36) (v := .bool false) (op_at rfl) (by kernel_rfl) (by kernel_rfl) (by kernel_rfl) (fun _ _ _ h => h) (Or.inl ⟨by rfl, fun w_ hSw => ?_⟩) H12_ ?_
        · skip; go_simp
        try simp only [Act.put, List.setIfInBounds_toArray, List.set_cons_zero, List.set_cons_succ]
        refine wpAnyH_take (i := 37) (v := .agg #[.slice B1 t.sp.length m1, .slice B2 t.co.length m2, .bool t.firm]) (op_at rfl) (by kernel_rfl) (by kernel_rfl) (by kernel_rfl) (fun _ _ _ h => h) (yieldsIf_load_any (by rfl) _ _ rfl ⟨O, 0, none⟩ rfl _ _ (fun w_ hSw => (hO8A.out.below (h98.out _ hSw)).add) Tryd.underlying25 rfl (hi3A.out _ _ _)) H12_ ?_
        try simp only [Act.put, List.setIfInBounds_toArray, List.set_cons_zero, List.set_cons_succ]
        refine wpAnyH_take (i := 38) (v := .int .i64 n) (op_at rfl) (by kernel_rfl) (by kernel_rfl) (by kernel_rfl) (fun _ _ _ h => h) (Or.inl ⟨by rfl, fun w_ hSw => ?_⟩) H12_ ?_
        · skip; go_simp
        try simp only [Act.put, List.setIfInBounds_toArray, List.set_cons_zero, List.set_cons_succ]
        refine wpAnyH_take (i := 40) (v := .agg (trc t A1 A2 c1 c2).toArray) (op_at rfl) (by kernel_rfl) (by kernel_rfl) (by kernel_rfl) (fun _ _ _ h => h) (yieldsIf_load_any (by rfl) _ _ rfl ⟨w.heap.size, 0, none⟩ rfl _ _ (fun w_ hSw => (hX8A.out.below (h98.out _ hSw)).add) Tryd.underlying25 rfl hiA.out) H12_ ?_
        try simp only [Act.put, List.setIfInBounds_toArray, List.set_cons_zero, List.set_cons_succ]
        refine wpAnyH_take (i := 42) (v := .int .i64 n) (op_at rfl) (by kernel_rfl) (by kernel_rfl) (by kernel_rfl) (fun _ _ _ h => h) (Or.inl ⟨by rfl, fun w_ hSw => ?_⟩) H12_ ?_
        · skip; go_simp
        try simp only [Act.put, List.setIfInBounds_toArray, List.set_cons_zero, List.set_cons_succ]
        refine wpAnyH_ready (rs := [39]) (by kernel_rfl) (by simp) ?_
        refine AllReadyH.cons (op_at rfl) (fun K hK => ?_) AllReadyH.nil
        go_simp
        go_at_call 19
        with_reducible refine (hPo.out V12_ H12_).mono ?_
        rintro e V13_ ⟨rfl, hb⟩
        go_wp2_with fail
        refine hK.out _ _ (below_then H12_ H12_.size hb) (fun H13_ => ?_)
        have KA_13 := Aside0.mk (Kd.R_below KA_12.out hb)
        have KB_13 := Aside0.mk (Kd.R_below KB_12.out hb)
        have KC_13 := Aside0.mk (Kd.R_below KC_12.out hb)
        clear hK K hb
        try simp only [Act.put, List.setIfInBounds_toArray, List.set_cons_zero, List.set_cons_succ]
        refine wpAnyH_ready (rs := [41]) (by kernel_rfl) (by simp) ?_
        refine AllReadyH.cons (op_at rfl) (fun K hK => ?_) AllReadyH.nil
        go_simp
        go_at_call 15
        with_reducible refine (hIt.out V13_ H13_).mono ?_
        rintro e V14_ ⟨rfl, hb⟩
        go_wp2_with fail
        refine hK.out _ _ (below_then H13_ H13_.size hb) (fun H14_ => ?_)
        have KA_14 := Aside0.mk (Kd.R_below KA_13.out hb)
        have KB_14 := Aside0.mk (Kd.R_below KB_13.out hb)
        have KC_14 := Aside0.mk (Kd.R_below KC_13.out hb)
        clear hK K hb
        try simp only [Act.put, List.setIfInBounds_toArray, List.set_cons_zero, List.set_cons_succ]
        refine wpAnyH_take (i := 43) (v := .agg (ptv (idv t) n).toArray) (op_at rfl) (by kernel_rfl) (by kernel_rfl) (by kernel_rfl) (fun _ _ _ h => h) (Or.inl ⟨by rfl, fun w_ hSw => run_built 36 [(0, .tmp 59), (1, .tmp 60)] rfl _ hbuA.out⟩) H14_ ?_
        try simp only [Act.put, List.setIfInBounds_toArray, List.set_cons_zero, List.set_cons_succ]
        refine wpAnyH_take (i := 44) (v := .bool false) (op_at rfl) (by kernel_rfl) (by kernel_rfl) (by kernel_rfl) (fun _ _ _ h => h) (Or.inl ⟨by rfl, fun w_ hSw => exec_neq_point (.tmp 57) (.tmp 61) rfl (idv t) n rfl rfl hilA.out w_⟩) H14_ ?_
        try simp only [Act.put, List.setIfInBounds_toArray, List.set_cons_zero, List.set_cons_succ]
        refine wpAnyH_take (i := 45) (v := .bool false) (op_at rfl) (by kernel_rfl) (by kernel_rfl) (by kernel_rfl) (fun _ _ _ h => h) (Or.inl ⟨by rfl, fun w_ hSw => ?_⟩) H14_ ?_
        · skip; go_simp
        try simp only [Act.put, List.setIfInBounds_toArray, List.set_cons_zero, List.set_cons_succ]
        refine wpAnyH_done (by kernel_rfl) ?_ _
        refine NoPanic.normal ?_
        exact ⟨rfl, .slice AKA_1 E2.length cKA_1, .slice AKB_3 E.length cKB_3, .slice AKC_5 E.length cKC_5, by simp only [Act.put, List.setIfInBounds_toArray, List.set_cons_zero, List.set_cons_succ], H14_⟩
      · go_simp
        go_at_call 14
        with_reducible refine (hBt.out V3_ H3_).mono ?_
        rintro e V15_ ⟨v_, rfl, hR_, hb_⟩
        obtain ⟨AKC_15, cKC_15, hv_⟩ := Kd.R_slice hR_
        subst hv_
        go_wp2_with fail
        refine hK.out _ _ (below_then H3_ H3_.size hb_) (fun H15_ => ?_)
        have KA_15 := Aside0.mk (Kd.R_below KA_3.out hb_)
        have KB_15 := Aside0.mk (Kd.R_below KB_3.out hb_)
        have KC_15 := Aside0.mk hR_
        clear hK K hb_ hR_
        try simp only [Act.put, List.setIfInBounds_toArray, List.set_cons_zero, List.set_cons_succ]
        refine wpAnyH_ready (rs := [9, 12]) (by kernel_rfl) (by simp) ?_
        refine AllReadyH.cons (op_at rfl) (fun K hK => ?_) (AllReadyH.cons (op_at rfl) (fun K hK => ?_) AllReadyH.nil)
        · have hc_ := Pack.run_text V15_ AKB_3 cKB_3 E (Kd.R_reads' KB_15.out).2.2
          go_simp
          clear hc_
          refine hK.out _ _ H15_ (fun H16_ => ?_)
          clear hK K
          try simp only [Act.put, List.setIfInBounds_toArray, List.set_cons_zero, List.set_cons_succ]
          refine wpAnyH_ready (rs := [12]) (by kernel_rfl) (by simp) ?_
          refine AllReadyH.cons (op_at rfl) (fun K hK => ?_) AllReadyH.nil
          have hc_ := Pack.run_text V15_ AKC_15 cKC_15 E (Kd.R_reads' KC_15.out).2.2
          go_simp
          clear hc_
          refine hK.out _ _ H16_ (fun H17_ => ?_)
          clear hK K
          try simp only [Act.put, List.setIfInBounds_toArray, List.set_cons_zero, List.set_cons_succ]
          refine wpAnyH_take (i := 13) (v := .bool false) (op_at rfl) (by kernel_rfl) (by kernel_rfl) (by kernel_rfl) (fun _ _ _ h => h) (Or.inl ⟨by rfl, fun w_ hSw => ?_⟩) H17_ ?_
          · skip; go_simp
          try simp only [Act.put, List.setIfInBounds_toArray, List.set_cons_zero, List.set_cons_succ]
          refine wpAnyH_take (i := 14) (v := .bool false) (op_at rfl) (by kernel_rfl) (by kernel_rfl) (by kernel_rfl) (fun _ _ _ h => h) (Or.inl ⟨by rfl, fun w_ hSw => ?_⟩) H17_ ?_
          · skip; go_simp
          try simp only [Act.put, List.setIfInBounds_toArray, List.set_cons_zero, List.set_cons_succ]
          refine wpAnyH_take (i := 15) (v := .bool false) (op_at rfl) (by kernel_rfl) (by kernel_rfl) (by kernel_rfl) (fun _ _ _ h => h) (Or.inl ⟨by rfl, fun w_ hSw => ?_⟩) H17_ ?_
          · skip; go_simp
          try simp only [Act.put, List.setIfInBounds_toArray, List.set_cons_zero, List.set_cons_succ]
          refine wpAnyH_take (i := 16) (v := .agg #[.slice B1 t.sp.length m1, .slice B2 t.co.length m2, .bool t.firm]) (op_at rfl) (by kernel_rfl) (by kernel_rfl) (by kernel_rfl) (fun _ _ _ h => h) (yieldsIf_load_any (by rfl) _ _ rfl ⟨O, 0, none⟩ rfl _ _ (fun w_ hSw => (hO8A.out.below (h98.out _ hSw)).add) Tryd.underlying25 rfl (hi3A.out _ _ _)) H17_ ?_
          try simp only [Act.put, List.setIfInBounds_toArray, List.set_cons_zero, List.set_cons_succ]
          refine wpAnyH_take (i := 18) (v := .agg (trc t A1 A2 c1 c2).toArray) (op_at rfl) (by kernel_rfl) (by kernel_rfl) (by kernel_rfl) (fun _ _ _ h => h) (yieldsIf_load_any (by rfl) _ _ rfl ⟨w.heap.size, 0, none⟩ rfl _ _ (fun w_ hSw => (hX8A.out.below (h98.out _ hSw)).add) Tryd.underlying25 rfl hiA.out) H17_ ?_
          try simp only [Act.put, List.setIfInBounds_toArray, List.set_cons_zero, List.set_cons_succ]
          refine wpAnyH_ready (rs := [17]) (by kernel_rfl) (by simp) ?_
          refine AllReadyH.cons (op_at rfl) (fun K hK => ?_) AllReadyH.nil
          go_simp
          go_at_call 8
          with_reducible refine (hIo.out V15_ H17_).mono ?_
          rintro e V18_ ⟨rfl, hb⟩
          go_wp2_with fail
          refine hK.out _ _ (below_then H17_ H17_.size hb) (fun H18_ => ?_)
          have KA_18 := Aside0.mk (Kd.R_below KA_15.out hb)
          have KB_18 := Aside0.mk (Kd.R_below KB_15.out hb)
          have KC_18 := Aside0.mk (Kd.R_below KC_15.out hb)
          clear hK K hb
          try simp only [Act.put, List.setIfInBounds_toArray, List.set_cons_zero, List.set_cons_succ]
          refine wpAnyH_ready (rs := [19]) (by kernel_rfl) (by simp) ?_
          refine AllReadyH.cons (op_at rfl) (fun K hK => ?_) AllReadyH.nil
          go_simp
          go_at_call 15
          with_reducible refine (hIt.out V18_ H18_).mono ?_
          rintro e V19_ ⟨rfl, hb⟩
          go_wp2_with fail
          refine hK.out _ _ (below_then H18_ H18_.size hb) (fun H19_ => ?_)
          have KA_19 := Aside0.mk (Kd.R_below KA_18.out hb)
          have KB_19 := Aside0.mk (Kd.R_below KB_18.out hb)
          have KC_19 := Aside0.mk (Kd.R_below KC_18.out hb)
          clear hK K hb
          try simp only [Act.put, List.setIfInBounds_toArray, List.set_cons_zero, List.set_cons_succ]
          refine wpAnyH_take (i := 20) (v := .bool false) (op_at rfl) (by kernel_rfl) (by kernel_rfl) (by kernel_rfl) (fun _ _ _ h => h) (Or.inl ⟨by rfl, fun w_ hSw => exec_neq_same (.tmp 35) (.tmp 37) rfl (idv t) rfl rfl hilA.out w_⟩) H19_ ?_
          try simp only [Act.put, List.setIfInBounds_toArray, List.set_cons_zero, List.set_cons_succ]
          refine wpAnyH_take (i := 21) (v := .bool false) (op_at rfl) (by kernel_rfl) (by kernel_rfl) (by kernel_rfl) (fun _ _ _ h => h) (Or.inl ⟨by rfl, fun w_ hSw => ?_⟩) H19_ ?_
          · skip; go_simp
          try simp only [Act.put, List.setIfInBounds_toArray, List.set_cons_zero, List.set_cons_succ]
          refine wpAnyH_take (i := 22) (v := .bool false) (op_at rfl) (by kernel_rfl) (by kernel_rfl) (by kernel_rfl) (fun _ _ _ h => h) (Or.inl ⟨by rfl, fun w_ hSw => ?_⟩) H19_ ?_
          · skip; go_simp
          try simp only [Act.put, List.setIfInBounds_toArray, List.set_cons_zero, List.set_cons_succ]
          refine wpAnyH_take (i := 23) (v := .agg #[.slice B1 t.sp.length m1, .slice B2 t.co.length m2, .bool t.firm]) (op_at rfl) (by kernel_rfl) (by kernel_rfl) (by kernel_rfl) (fun _ _ _ h => h) (yieldsIf_load_any (by rfl) _ _ rfl ⟨O, 0, none⟩ rfl _ _ (fun w_ hSw => (hO8A.out.below (h98.out _ hSw)).add) Tryd.underlying25 rfl (hi3A.out _ _ _)) H19_ ?_
          try simp only [Act.put, List.setIfInBounds_toArray, List.set_cons_zero, List.set_cons_succ]
          refine wpAnyH_take (i := 25) (v := .agg (trc t A1 A2 c1 c2).toArray) (op_at rfl) (by kernel_rfl) (by kernel_rfl) (by kernel_rfl) (fun _ _ _ h => h) (yieldsIf_load_any (by rfl) _ _ rfl ⟨w.heap.size, 0, none⟩ rfl _ _ (fun w_ hSw => (hX8A.out.below (h98.out _ hSw)).add) Tryd.underlying25 rfl hiA.out) H19_ ?_
          try simp only [Act.put, List.setIfInBounds_toArray, List.set_cons_zero, List.set_cons_succ]
          refine wpAnyH_ready (rs := [24]) (by kernel_rfl) (by simp) ?_
          refine AllReadyH.cons (op_at rfl) (fun K hK => ?_) AllReadyH.nil
          go_simp
          go_at_call 12
          with_reducible refine (hWo.out V19_ H19_).mono ?_
          rintro e V20_ ⟨rfl, hb⟩
          go_wp2_with fail
          refine hK.out _ _ (below_then H19_ H19_.size hb) (fun H20_ => ?_)
          have KA_20 := Aside0.mk (Kd.R_below KA_19.out hb)
          have KB_20 := Aside0.mk (Kd.R_below KB_19.out hb)
          have KC_20 := Aside0.mk (Kd.R_below KC_19.out hb)
          clear hK K hb
          try simp only [Act.put, List.setIfInBounds_toArray, List.set_cons_zero, List.set_cons_succ]
          refine wpAnyH_ready (rs := [26]) (by kernel_rfl) (by simp) ?_
          refine AllReadyH.cons (op_at rfl) (fun K hK => ?_) AllReadyH.nil
          go_simp
          go_at_call 16
          with_reducible refine (hWt.out V20_ H20_).mono ?_
          rintro e V21_ ⟨rfl, hb⟩
          go_wp2_with fail
          refine hK.out _ _ (below_then H20_ H20_.size hb) (fun H21_ => ?_)
          have KA_21 := Aside0.mk (Kd.R_below KA_20.out hb)
          have KB_21 := Aside0.mk (Kd.R_below KB_20.out hb)
          have KC_21 := Aside0.mk (Kd.R_below KC_20.out hb)
          clear hK K hb
          try simp only [Act.put, List.setIfInBounds_toArray, List.set_cons_zero, List.set_cons_succ]
          refine wpAnyH_take (i := 27) (v := .bool false) (op_at rfl) (by kernel_rfl) (by kernel_rfl) (by kernel_rfl) (fun _ _ _ h => h) (Or.inl ⟨by rfl, fun w_ hSw => exec_neq_same (.tmp 42) (.tmp 44) rfl (wdv t) rfl rfl hwlA.out w_⟩) H21_ ?_
          try simp only [Act.put, List.setIfInBounds_toArray, List.set_cons_zero, List.set_cons_succ]
          refine wpAnyH_take (i := 28) (v := .bool false) (op_at rfl) (by kernel_rfl) (by kernel_rfl) (by kernel_rfl) (fun _ _ _ h => h) (Or.inl ⟨by rfl, fun w_ hSw => ?_⟩) H21_ ?_
          · skip; go_simp
          try simp only [Act.put, List.setIfInBounds_toArray, List.set_cons_zero, List.set_cons_succ]
          refine wpAnyH_take (i := 29) (v := .bool false) (op_at rfl) (by kernel_rfl) (by kernel_rfl) (by kernel_rfl) (fun _ _ _ h => h) (Or.inl ⟨by rfl, fun w_ hSw => ?_⟩) H21_ ?_
          · skip; go_simp
          try simp only [Act.put, List.setIfInBounds_toArray, List.set_cons_zero, List.set_cons_succ]
          refine wpAnyH_take (i := 30) (v := .agg #[.slice B1 t.sp.length m1, .slice B2 t.co.length m2, .bool t.firm]) (op_at rfl) (by kernel_rfl) (by kernel_rfl) (by kernel_rfl) (fun _ _ _ h => h) (yieldsIf_load_any (by rfl) _ _ rfl ⟨O, 0, none⟩ rfl _ _ (fun w_ hSw => (hO8A.out.below (h98.out _ hSw)).add) Tryd.underlying25 rfl (hi3A.out _ _ _)) H21_ ?_
          try simp only [Act.put, List.setIfInBounds_toArray, List.set_cons_zero, List.set_cons_succ]
          refine wpAnyH_take (i := 32) (v := .agg (trc t A1 A2 c1 c2).toArray) (op_at rfl) (by kernel_rfl) (by kernel_rfl) (by kernel_rfl) (fun _ _ _ h => h) (yieldsIf_load_any (by rfl) _ _ rfl ⟨w.heap.size, 0, none⟩ rfl _ _ (fun w_ hSw => (hX8A.out.below (h98.out _ hSw)).add) Tryd.underlying25 rfl hiA.out) H21_ ?_
          try simp only [Act.put, List.setIfInBounds_toArray, List.set_cons_zero, List.set_cons_succ]
          refine wpAnyH_ready (rs := [31]) (by kernel_rfl) (by simp) ?_
          refine AllReadyH.cons (op_at rfl) (fun K hK => ?_) AllReadyH.nil
          go_simp
          go_at_call 17
          with_reducible refine (hGo.out V21_ H21_).mono ?_
          rintro e V22_ ⟨rfl, hb⟩
          go_wp2_with fail
          refine hK.out _ _ (below_then H21_ H21_.size hb) (fun H22_ => ?_)
          have KA_22 := Aside0.mk (Kd.R_below KA_21.out hb)
          have KB_22 := Aside0.mk (Kd.R_below KB_21.out hb)
          have KC_22 := Aside0.mk (Kd.R_below KC_21.out hb)
          clear hK K hb
          try simp only [Act.put, List.setIfInBounds_toArray, List.set_cons_zero, List.set_cons_succ]
          refine wpAnyH_ready (rs := [33]) (by kernel_rfl) (by simp) ?_
          refine AllReadyH.cons (op_at rfl) (fun K hK => ?_) AllReadyH.nil
          go_simp
          go_at_call 18
          with_reducible refine (hGt.out V22_ H22_).mono ?_
          rintro e V23_ ⟨rfl, hb⟩
          go_wp2_with fail
          refine hK.out _ _ (below_then H22_ H22_.size hb) (fun H23_ => ?_)
          have KA_23 := Aside0.mk (Kd.R_below KA_22.out hb)
          have KB_23 := Aside0.mk (Kd.R_below KB_22.out hb)
          have KC_23 := Aside0.mk (Kd.R_below KC_22.out hb)
          clear hK K hb
          try simp only [Act.put, List.setIfInBounds_toArray, List.set_cons_zero, List.set_cons_succ]
          refine wpAnyH_take (i := 34) (v := .bool false) (op_at rfl) (by kernel_rfl) (by kernel_rfl) (by kernel_rfl) (fun _ _ _ h => h) (Or.inl ⟨by rfl, fun w_ hSw => ?_⟩) H23_ ?_
          · skip; go_simp
          try simp only [Act.put, List.setIfInBounds_toArray, List.set_cons_zero, List.set_cons_succ]
          refine wpAnyH_take (i := 35) (v := .bool false) (op_at rfl) (by kernel_rfl) (by kernel_rfl) (by kernel_rfl) (fun _ _ _ h => h) (Or.inl ⟨by rfl, fun w_ hSw => ?_⟩) H23_ ?_
          · skip; go_simp
          try simp only [Act.put, List.setIfInBounds_toArray, List.set_cons_zero, List.set_cons_succ]
          refine wpAnyH_take (i := 36) (v := .bool false) (op_at rfl) (by kernel_rfl) (by kernel_rfl) (by kernel_rfl) (fun _ _ _ h => h) (Or.inl ⟨by rfl, fun w_ hSw => ?_⟩) H23_ ?_
          · skip; go_simp
          try simp only [Act.put, List.setIfInBounds_toArray, List.set_cons_zero, List.set_cons_succ]
          refine wpAnyH_take (i := 37) (v := .agg #[.slice B1 t.sp.length m1, .slice B2 t.co.length m2, .bool t.firm]) (op_at rfl) (by kernel_rfl) (by kernel_rfl) (by kernel_rfl) (fun _ _ _ h => h) (yieldsIf_load_any (by rfl) _ _ rfl ⟨O, 0, none⟩ rfl _ _ (fun w_ hSw => (hO8A.out.below (h98.out _ hSw)).add) Tryd.underlying25 rfl (hi3A.out _ _ _)) H23_ ?_
          try simp only [Act.put, List.setIfInBounds_toArray, List.set_cons_zero, List.set_cons_succ]
          refine wpAnyH_take (i := 38) (v := .int .i64 n) (op_at rfl) (by kernel_rfl) (by kernel_rfl) (by kernel_rfl) (fun _ _ _ h => h) (Or.inl ⟨by rfl, fun w_ hSw => ?_⟩) H23_ ?_
          · skip; go_simp
          try simp only [Act.put, List.setIfInBounds_toArray, List.set_cons_zero, List.set_cons_succ]
          refine wpAnyH_take (i := 40) (v := .agg (trc t A1 A2 c1 c2).toArray) (op_at rfl) (by kernel_rfl) (by kernel_rfl) (by kernel_rfl) (fun _ _ _ h => h) (yieldsIf_load_any (by rfl) _ _ rfl ⟨w.heap.size, 0, none⟩ rfl _ _ (fun w_ hSw => (hX8A.out.below (h98.out _ hSw)).add) Tryd.underlying25 rfl hiA.out) H23_ ?_
          try simp only [Act.put, List.setIfInBounds_toArray, List.set_cons_zero, List.set_cons_succ]
          refine wpAnyH_take (i := 42) (v := .int .i64 n) (op_at rfl) (by kernel_rfl) (by kernel_rfl) (by kernel_rfl) (fun _ _ _ h => h) (Or.inl ⟨by rfl, fun w_ hSw => ?_⟩) H23_ ?_
          · skip; go_simp
          try simp only [Act.put, List.setIfInBounds_toArray, List.set_cons_zero, List.set_cons_succ]
          refine wpAnyH_ready (rs := [39]) (by kernel_rfl) (by simp) ?_
          refine AllReadyH.cons (op_at rfl) (fun K hK => ?_) AllReadyH.nil
          go_simp
          go_at_call 19
          with_reducible refine (hPo.out V23_ H23_).mono ?_
          rintro e V24_ ⟨rfl, hb⟩
          go_wp2_with fail
          refine hK.out _ _ (below_then H23_ H23_.size hb) (fun H24_ => ?_)
          have KA_24 := Aside0.mk (Kd.R_below KA_23.out hb)
          have KB_24 := Aside0.mk (Kd.R_below KB_23.out hb)
          have KC_24 := Aside0.mk (Kd.R_below KC_23.out hb)
          clear hK K hb
          try simp only [Act.put, List.setIfInBounds_toArray, List.set_cons_zero, List.set_cons_succ]
          refine wpAnyH_ready (rs := [41]) (by kernel_rfl) (by simp) ?_
          refine AllReadyH.cons (op_at rfl) (fun K hK => ?_) AllReadyH.nil
          go_simp
          go_at_call 15
          with_reducible refine (hIt.out V24_ H24_).mono ?_
          rintro e V25_ ⟨rfl, hb⟩
          go_wp2_with fail
          refine hK.out _ _ (below_then H24_ H24_.size hb) (fun H25_ => ?_)
          have KA_25 := Aside0.mk (Kd.R_below KA_24.out hb)
          have KB_25 := Aside0.mk (Kd.R_below KB_24.out hb)
          have KC_25 := Aside0.mk (Kd.R_below KC_24.out hb)
          clear hK K hb
          try simp only [Act.put, List.setIfInBounds_toArray, List.set_cons_zero, List.set_cons_succ]
          refine wpAnyH_take (i := 43) (v := .agg (ptv (idv t) n).toArray) (op_at rfl) (by kernel_rfl) (by kernel_rfl) (by kernel_rfl) (fun _ _ _ h => h) (Or.inl ⟨by rfl, fun w_ hSw => run_built 36 [(0, .tmp 59), (1, .tmp 60)] rfl _ hbuA.out⟩) H25_ ?_
          try simp only [Act.put, List.setIfInBounds_toArray, List.set_cons_zero, List.set_cons_succ]
          refine wpAnyH_take (i := 44) (v := .bool false) (op_at rfl) (by kernel_rfl) (by kernel_rfl) (by kernel_rfl) (fun _ _ _ h => h) (Or.inl ⟨by rfl, fun w_ hSw => exec_neq_point (.tmp 57) (.tmp 61) rfl (idv t) n rfl rfl hilA.out w_⟩) H25_ ?_
          try simp only [Act.put, List.setIfInBounds_toArray, List.set_cons_zero, List.set_cons_succ]
          refine wpAnyH_take (i := 45) (v := .bool false) (op_at rfl) (by kernel_rfl) (by kernel_rfl) (by kernel_rfl) (fun _ _ _ h => h) (Or.inl ⟨by rfl, fun w_ hSw => ?_⟩) H25_ ?_
          · skip; go_simp
          try simp only [Act.put, List.setIfInBounds_toArray, List.set_cons_zero, List.set_cons_succ]
          refine wpAnyH_done (by kernel_rfl) ?_ _
          refine NoPanic.normal ?_
          exact ⟨rfl, .slice AKA_1 E2.length cKA_1, .slice AKB_3 E.length cKB_3, .slice AKC_15 E.length cKC_15, by simp only [Act.put, List.setIfInBounds_toArray, List.set_cons_zero, List.set_cons_succ], H25_⟩
        · have hc_ := Pack.run_text V15_ AKC_15 cKC_15 E (Kd.R_reads' KC_15.out).2.2
          go_simp
          clear hc_
          refine hK.out _ _ H15_ (fun H26_ => ?_)
          clear hK K
          try simp only [Act.put, List.setIfInBounds_toArray, List.set_cons_zero, List.set_cons_succ]
          refine wpAnyH_ready (rs := [9]) (by kernel_rfl) (by simp) ?_
          refine AllReadyH.cons (op_at rfl) (fun K hK => ?_) AllReadyH.nil
          have hc_ := Pack.run_text V15_ AKB_3 cKB_3 E (Kd.R_reads' KB_15.out).2.2
          go_simp
          clear hc_
          refine hK.out _ _ H26_ (fun H27_ => ?_)
          clear hK K
          try simp only [Act.put, List.setIfInBounds_toArray, List.set_cons_zero, List.set_cons_succ]
          refine wpAnyH_take (i := 13) (v := .bool false) (op_at rfl) (by kernel_rfl) (by kernel_rfl) (by kernel_rfl) (fun _ _ _ h => h) (Or.inl ⟨by rfl, fun w_ hSw => ?_⟩) H27_ ?_
          · skip; go_simp
          try simp only [Act.put, List.setIfInBounds_toArray, List.set_cons_zero, List.set_cons_succ]
          refine wpAnyH_take (i := 14) (v := .bool false) (op_at rfl) (by kernel_rfl) (by kernel_rfl) (by kernel_rfl) (fun _ _ _ h => h) (Or.inl ⟨by rfl, fun w_ hSw => ?_⟩) H27_ ?_
          · skip; go_simp
          try simp only [Act.put, List.setIfInBounds_toArray, List.set_cons_zero, List.set_cons_succ]
          refine wpAnyH_take (i := 15) (v := .bool false) (op_at rfl) (by kernel_rfl) (by kernel_rfl) (by kernel_rfl) (fun _ _ _ h => h) (Or.inl ⟨by rfl, fun w_ hSw => ?_⟩) H27_ ?_
          · skip; go_simp
          try simp only [Act.put, List.setIfInBounds_toArray, List.set_cons_zero, List.set_cons_succ]
          refine wpAnyH_take (i := 16) (v := .agg #[.slice B1 t.sp.length m1, .slice B2 t.co.length m2, .bool t.firm]) (op_at rfl) (by kernel_rfl) (by kernel_rfl) (by kernel_rfl) (fun _ _ _ h => h) (yieldsIf_load_any (by rfl) _ _ rfl ⟨O, 0, none⟩ rfl _ _ (fun w_ hSw => (hO8A.out.below (h98.out _ hSw)).add) Tryd.underlying25 rfl (hi3A.out _ _ _)) H27_ ?_
          try simp only [Act.put, List.setIfInBounds_toArray, List.set_cons_zero, List.set_cons_succ]
          refine wpAnyH_take (i := 18) (v := .agg (trc t A1 A2 c1 c2).toArray) (op_at rfl) (by kernel_rfl) (by kernel_rfl) (by kernel_rfl) (fun _ _ _ h => h) (yieldsIf_load_any (by rfl) _ _ rfl ⟨w.heap.size, 0, none⟩ rfl _ _ (fun w_ hSw => (hX8A.out.below (h98.out _ hSw)).add) Tryd.underlying25 rfl hiA.out) H27_ ?_
          try simp only [Act.put, List.setIfInBounds_toArray, List.set_cons_zero, List.set_cons_succ]
          refine wpAnyH_ready (rs := [17]) (by kernel_rfl) (by simp) ?_
          refine AllReadyH.cons (op_at rfl) (fun K hK => ?_) AllReadyH.nil
          go_simp
          go_at_call 8
          with_reducible refine (hIo.out V15_ H27_).mono ?_
          rintro e V28_ ⟨rfl, hb⟩
          go_wp2_with fail
          refine hK.out _ _ (below_then H27_ H27_.size hb) (fun H28_ => ?_)
          have KA_28 := Aside0.mk (Kd.R_below KA_15.out hb)
          have KB_28 := Aside0.mk (Kd.R_below KB_15.out hb)
          have KC_28 := Aside0.mk (Kd.R_below KC_15.out hb)
          clear hK K hb
          try simp only [Act.put, List.setIfInBounds_toArray, List.set_cons_zero, List.set_cons_succ]
          refine wpAnyH_ready (rs := [19]) (by kernel_rfl) (by simp) ?_
          refine AllReadyH.cons (op_at rfl) (fun K hK => ?_) AllReadyH.nil
          go_simp
          go_at_call 15
          with_reducible refine (hIt.out V28_ H28_).mono ?_
          rintro e V29_ ⟨rfl, hb⟩
          go_wp2_with fail
          refine hK.out _ _ (below_then H28_ H28_.size hb) (fun H29_ => ?_)
          have KA_29 := Aside0.mk (Kd.R_below KA_28.out hb)
          have KB_29 := Aside0.mk (Kd.R_below KB_28.out hb)
          have KC_29 := Aside0.mk (Kd.R_below KC_28.out hb)
          clear hK K hb
          try simp only [Act.put, List.setIfInBounds_toArray, List.set_cons_zero, List.set_cons_succ]
          refine wpAnyH_take (i := 20) (v := .bool false) (op_at rfl) (by kernel_rfl) (by kernel_rfl) (by kernel_rfl) (fun _ _ _ h => h) (Or.inl ⟨by rfl, fun w_ hSw => exec_neq_same (.tmp 35) (.tmp 37) rfl (idv t) rfl rfl hilA.out w_⟩) H29_ ?_
          try simp only [Act.put, List.setIfInBounds_toArray, List.set_cons_zero, List.set_cons_succ]
          refine wpAnyH_take (i := 21) (v := .bool false) (op_at rfl) (by kernel_rfl) (by kernel_rfl) (by kernel_rfl) (fun _ _ _ h => h) (Or.inl ⟨by rfl, fun w_ hSw => ?_⟩) H29_ ?_
          · skip; go_simp
          try simp only [Act.put, List.setIfInBounds_toArray, List.set_cons_zero, List.set_cons_succ]
          refine wpAnyH_take (i := 22) (v := .bool false) (op_at rfl) (by kernel_rfl) (by kernel_rfl) (by kernel_rfl) (fun _ _ _ h => h) (Or.inl ⟨by rfl, fun w_ hSw => ?_⟩) H29_ ?_
          · skip; go_simp
          try simp only [Act.put, List.setIfInBounds_toArray, List.set_cons_zero, List.set_cons_succ]
          refine wpAnyH_take (i := 23) (v := .agg #[.slice B1 t.sp.length m1, .slice B2 t.co.length m2, .bool t.firm]) (op_at rfl) (by kernel_rfl) (by kernel_rfl) (by kernel_rfl) (fun _ _ _ h => h) (yieldsIf_load_any (by rfl) _ _ rfl ⟨O, 0, none⟩ rfl _ _ (fun w_ hSw => (hO8A.out.below (h98.out _ hSw)).add) Tryd.underlying25 rfl (hi3A.out _ _ _)) H29_ ?_
          try simp only [Act.put, List.setIfInBounds_toArray, List.set_cons_zero, List.set_cons_succ]
          refine wpAnyH_take (i := 25) (v := .agg (trc t A1 A2 c1 c2).toArray) (op_at rfl) (by kernel_rfl) (by kernel_rfl) (by kernel_rfl) (fun _ _ _ h => h) (yieldsIf_load_any (by rfl) _ _ rfl ⟨w.heap.size, 0, none⟩ rfl _ _ (fun w_ hSw => (hX8A.out.below (h98.out _ hSw)).add) Tryd.underlying25 rfl hiA.out) H29_ ?_
          try simp only [Act.put, List.setIfInBounds_toArray, List.set_cons_zero, List.set_cons_succ]
          refine wpAnyH_ready (rs := [24]) (by kernel_rfl) (by simp) ?_
          refine AllReadyH.cons (op_at rfl) (fun K hK => ?_) AllReadyH.nil
          go_simp
          go_at_call 12
          with_reducible refine (hWo.out V29_ H29_).mono ?_
          rintro e V30_ ⟨rfl, hb⟩
          go_wp2_with fail
          refine hK.out _ _ (below_then H29_ H29_.size hb) (fun H30_ => ?_)
          have KA_30 := Aside0.mk (Kd.R_below KA_29.out hb)
          have KB_30 := Aside0.mk (Kd.R_below KB_29.out hb)
          have KC_30 := Aside0.mk (Kd.R_below KC_29.out hb)
          clear hK K hb
          try simp only [Act.put, List.setIfInBounds_toArray, List.set_cons_zero, List.set_cons_succ]
          refine wpAnyH_ready (rs := [26]) (by kernel_rfl) (by simp) ?_
          refine AllReadyH.cons (op_at rfl) (fun K hK => ?_) AllReadyH.nil
          go_simp
          go_at_call 16
          with_reducible refine (hWt.out V30_ H30_).mono ?_
          rintro e V31_ ⟨rfl, hb⟩
          go_wp2_with fail
          refine hK.out _ _ (below_then H30_ H30_.size hb) (fun H31_ => ?_)
          have KA_31 := Aside0.mk (Kd.R_below KA_30.out hb)
          have KB_31 := Aside0.mk (Kd.R_below KB_30.out hb)
          have KC_31 := Aside0.mk (Kd.R_below KC_30.out hb)
          clear hK K hb
          try simp only [Act.put, List.setIfInBounds_toArray, List.set_cons_zero, List.set_cons_succ]
          refine wpAnyH_take (i := 27) (v := .bool false) (op_at rfl) (by kernel_rfl) (by kernel_rfl) (by kernel_rfl) (fun _ _ _ h => h) (Or.inl ⟨by rfl, fun w_ hSw => exec_neq_same (.tmp 42) (.tmp 44) rfl (wdv t) rfl rfl hwlA.out w_⟩) H31_ ?_
          try simp only [Act.put, List.setIfInBounds_toArray, List.set_cons_zero, List.set_cons_succ]
          refine wpAnyH_take (i := 28) (v := .bool false) (op_at rfl) (by kernel_rfl) (by kernel_rfl) (by kernel_rfl) (fun _ _ _ h => h) (Or.inl ⟨by rfl, fun w_ hSw => ?_⟩) H31_ ?_
          · skip; go_simp
          try simp only [Act.put, List.setIfInBounds_toArray, List.set_cons_zero, List.set_cons_succ]
          refine wpAnyH_take (i := 29) (v := .bool false) (op_at rfl) (by kernel_rfl) (by kernel_rfl) (by kernel_rfl) (fun _ _ _ h => h) (Or.inl ⟨by rfl, fun w_ hSw => ?_⟩) H31_ ?_
          · skip; go_simp
          try simp only [Act.put, List.setIfInBounds_toArray, List.set_cons_zero, List.set_cons_succ]
          refine wpAnyH_take (i := 30) (v := .agg #[.slice B1 t.sp.length m1, .slice B2 t.co.length m2, .bool t.firm]) (op_at rfl) (by kernel_rfl) (by kernel_rfl) (by kernel_rfl) (fun _ _ _ h => h) (yieldsIf_load_any (by rfl) _ _ rfl ⟨O, 0, none⟩ rfl _ _ (fun w_ hSw => (hO8A.out.below (h98.out _ hSw)).add) Tryd.underlying25 rfl (hi3A.out _ _ _)) H31_ ?_
          try simp only [Act.put, List.setIfInBounds_toArray, List.set_cons_zero, List.set_cons_succ]
          refine wpAnyH_take (i := 32) (v := .agg (trc t A1 A2 c1 c2).toArray) (op_at rfl) (by kernel_rfl) (by kernel_rfl) (by kernel_rfl) (fun _ _ _ h => h) (yieldsIf_load_any (by rfl) _ _ rfl ⟨w.heap.size, 0, none⟩ rfl _ _ (fun w_ hSw => (hX8A.out.below (h98.out _ hSw)).add) Tryd.underlying25 rfl hiA.out) H31_ ?_
          try simp only [Act.put, List.setIfInBounds_toArray, List.set_cons_zero, List.set_cons_succ]
          refine wpAnyH_ready (rs := [31]) (by kernel_rfl) (by simp) ?_
          refine AllReadyH.cons (op_at rfl) (fun K hK => ?_) AllReadyH.nil
          go_simp
          go_at_call 17
          with_reducible refine (hGo.out V31_ H31_).mono ?_
          rintro e V32_ ⟨rfl, hb⟩
          go_wp2_with fail
          refine hK.out _ _ (below_then H31_ H31_.size hb) (fun H32_ => ?_)
          have KA_32 := Aside0.mk (Kd.R_below KA_31.out hb)
          have KB_32 := Aside0.mk (Kd.R_below KB_31.out hb)
          have KC_32 := Aside0.mk (Kd.R_below KC_31.out hb)
          clear hK K hb
          try simp only [Act.put, List.setIfInBounds_toArray, List.set_cons_zero, List.set_cons_succ]
          refine wpAnyH_ready (rs := [33]) (by kernel_rfl) (by simp) ?_
          refine AllReadyH.cons (op_at rfl) (fun K hK => ?_) AllReadyH.nil
          go_simp
          go_at_call 18
          with_reducible refine (hGt.out V32_ H32_).mono ?_
          rintro e V33_ ⟨rfl, hb⟩
          go_wp2_with fail
          refine hK.out _ _ (below_then H32_ H32_.size hb) (fun H33_ => ?_)
          have KA_33 := Aside0.mk (Kd.R_below KA_32.out hb)
          have KB_33 := Aside0.mk (Kd.R_below KB_32.out hb)
          have KC_33 := Aside0.mk (Kd.R_below KC_32.out hb)
          clear hK K hb
          try simp only [Act.put, List.setIfInBounds_toArray, List.set_cons_zero, List.set_cons_succ]
          refine wpAnyH_take (i := 34) (v := .bool false) (op_at rfl) (by kernel_rfl) (by kernel_rfl) (by kernel_rfl) (fun _ _ _ h => h) (Or.inl ⟨by rfl, fun w_ hSw => ?_⟩) H33_ ?_
          · skip; go_simp
          try simp only [Act.put, List.setIfInBounds_toArray, List.set_cons_zero, List.set_cons_succ]
          refine wpAnyH_take (i := 35) (v := .bool false) (op_at rfl) (by kernel_rfl) (by kernel_rfl) (by kernel_rfl) (fun _ _ _ h => h) (Or.inl ⟨by rfl, fun w_ hSw => ?_⟩) H33_ ?_
          · skip; go_simp
          try simp only [Act.put, List.setIfInBounds_toArray, List.set_cons_zero, List.set_cons_succ]
          refine wpAnyH_take (i := 36) (v := .bool false) (op_at rfl) (by kernel_rfl) (by kernel_rfl) (by kernel_rfl) (fun _ _ _ h => h) (Or.inl ⟨by rfl, fun w_ hSw => ?_⟩) H33_ ?_
          · skip; go_simp
          try simp only [Act.put, List.setIfInBounds_toArray, List.set_cons_zero, List.set_cons_succ]
          refine wpAnyH_take (i := 37) (v := .agg #[.slice B1 t.sp.length m1, .slice B2 t.co.length m2, .bool t.firm]) (op_at rfl) (by kernel_rfl) (by kernel_rfl) (by kernel_rfl) (fun _ _ _ h => h) (yieldsIf_load_any (by rfl) _ _ rfl ⟨O, 0, none⟩ rfl _ _ (fun w_ hSw => (hO8A.out.below (h98.out _ hSw)).add) Tryd.underlying25 rfl (hi3A.out _ _ _)) H33_ ?_
          try simp only [Act.put, List.setIfInBounds_toArray, List.set_cons_zero, List.set_cons_succ]
          refine wpAnyH_take (i := 38) (v := .int .i64 n) (op_at rfl) (by kernel_rfl) (by kernel_rfl) (by kernel_rfl) (fun _ _ _ h => h) (Or.inl ⟨by rfl, fun w_ hSw => ?_⟩) H33_ ?_
          · skip; go_simp
          try simp only [Act.put, List.setIfInBounds_toArray, List.set_cons_zero, List.set_cons_succ]
          refine wpAnyH_take (i := 40) (v := .agg (trc t A1 A2 c1 c2).toArray) (op_at rfl) (by kernel_rfl) (by kernel_rfl) (by kernel_rfl) (fun _ _ _ h => h) (yieldsIf_load_any (by rfl) _ _ rfl ⟨w.heap.size, 0, none⟩ rfl _ _ (fun w_ hSw => (hX8A.out.below (h98.out _ hSw)).add) Tryd.underlying25 rfl hiA.out) H33_ ?_
          try simp only [Act.put, List.setIfInBounds_toArray, List.set_cons_zero, List.set_cons_succ]
          refine wpAnyH_take (i := 42) (v := .int .i64 n) (op_at rfl) (by kernel_rfl) (by kernel_rfl) (by kernel_rfl) (fun _ _ _ h => h) (Or.inl ⟨by rfl, fun w_ hSw => ?_⟩) H33_ ?_
          · skip; go_simp
          try simp only [Act.put, List.setIfInBounds_toArray, List.set_cons_zero, List.set_cons_succ]
          refine wpAnyH_ready (rs := [39]) (by kernel_rfl) (by simp) ?_
          refine AllReadyH.cons (op_at rfl) (fun K hK => ?_) AllReadyH.nil
          go_simp
          go_at_call 19
          with_reducible refine (hPo.out V33_ H33_).mono ?_
          rintro e V34_ ⟨rfl, hb⟩
          go_wp2_with fail
          refine hK.out _ _ (below_then H33_ H33_.size hb) (fun H34_ => ?_)
          have KA_34 := Aside0.mk (Kd.R_below KA_33.out hb)
          have KB_34 := Aside0.mk (Kd.R_below KB_33.out hb)
          have KC_34 := Aside0.mk (Kd.R_below KC_33.out hb)
          clear hK K hb
          try simp only [Act.put, List.setIfInBounds_toArray, List.set_cons_zero, List.set_cons_succ]
          refine wpAnyH_ready (rs := [41]) (by kernel_rfl) (by simp) ?_
          refine AllReadyH.cons (op_at rfl) (fun K hK => ?_) AllReadyH.nil
          go_simp
          go_at_call 15
          with_reducible refine (hIt.out V34_ H34_).mono ?_
          rintro e V35_ ⟨rfl, hb⟩
          go_wp2_with fail
          refine hK.out _ _ (below_then H34_ H34_.size hb) (fun H35_ => ?_)
          have KA_35 := Aside0.mk (Kd.R_below KA_34.out hb)
          have KB_35 := Aside0.mk (Kd.R_below KB_34.out hb)
          have KC_35 := Aside0.mk (Kd.R_below KC_34.out hb)
          clear hK K hb
          try simp only [Act.put, List.setIfInBounds_toArray, List.set_cons_zero, List.set_cons_succ]
          refine wpAnyH_take (i := 43) (v := .agg (ptv (idv t) n).toArray) (op_at rfl) (by kernel_rfl) (by kernel_rfl) (by kernel_rfl) (fun _ _ _ h => h) (Or.inl ⟨by rfl, fun w_ hSw => run_built 36 [(0, .tmp 59), (1, .tmp 60)] rfl _ hbuA.out⟩) H35_ ?_
          try simp only [Act.put, List.setIfInBounds_toArray, List.set_cons_zero, List.set_cons_succ]
          refine wpAnyH_take (i := 44) (v := .bool false) (op_at rfl) (by kernel_rfl) (by kernel_rfl) (by kernel_rfl) (fun _ _ _ h => h) (Or.inl ⟨by rfl, fun w_ hSw => exec_neq_point (.tmp 57) (.tmp 61) rfl (idv t) n rfl rfl hilA.out w_⟩) H35_ ?_
          try simp only [Act.put, List.setIfInBounds_toArray, List.set_cons_zero, List.set_cons_succ]
          refine wpAnyH_take (i := 45) (v := .bool false) (op_at rfl) (by kernel_rfl) (by kernel_rfl) (by kernel_rfl) (fun _ _ _ h => h) (Or.inl ⟨by rfl, fun w_ hSw => ?_⟩) H35_ ?_
          · skip; go_simp
          try simp only [Act.put, List.setIfInBounds_toArray, List.set_cons_zero, List.set_cons_succ]
          refine wpAnyH_done (by kernel_rfl) ?_ _
          refine NoPanic.normal ?_
          exact ⟨rfl, .slice AKA_1 E2.length cKA_1, .slice AKB_3 E.length cKB_3, .slice AKC_15 E.length cKC_15, by simp only [Act.put, List.setIfInBounds_toArray, List.set_cons_zero, List.set_cons_succ], H35_⟩
      -- END 7
    rintro e a' W10 ⟨rfl, v21, v26, v29, rfl, hb10⟩
    simp only [Act.put, List.setIfInBounds_toArray, List.set_cons_zero, List.set_cons_succ]
    have b10A := Aside0.mk hb10
    have hOA := Aside0.mk (hO8A.out.below (h98.out _ hb10)); have hXA' := Aside0.mk (hX8A.out.below (h98.out _ hb10))
    clear hb10 H0 hO8A hX8A hIo hIt hWo hWt hBo hBt hYt hGo hGt hPo
    have hno := nume_no t
    have hCk' := Aside0.mk (hCk.out W10 b10A.out)
    rcases hno with hz | hz
    · have hq : nume (chkv t) = 0 := by rw [hz]; rfl
      have hrt := hrdA.out hz
      have hbad := rdBad_of hrt
      rw [hq] at hCk'
      have hRd := Aside0.mk (fun (W : World) (hW : Below w9.heap.size w9 W) => txread_calls W A9 c9 E2 (hKR.out W hW) hc9A.out hEbA.out hElA.out)
      rw [hrt, hbad] at hRd
      have hRd2' : ∀ (W : World), Below w9.heap.size w9 W → Calls Tryd.prog 21 #[.slice A9 E2.length c9] W fun e w' => (∃ v1 v2, e = .returned (.tuple #[.agg #[v1, v2, .bool t.firm], .nilIface]) ∧ RSp W.heap.size w' v1 t.sp ∧ RCo W.heap.size w' v2 t.co) ∧ Below W.heap.size W w' := fun W hW => hRd.out W hW
      have hRd2 := Aside0.mk hRd2'
      clear hRd2'
      clear hz hq hrt hbad hRd
      go_wp2_with (first | ((with_reducible refine gate_dst (N := 64) rfl ?_); (refine wpList_load_blk rfl 25 (.tmp 2) rfl w.heap.size 25 rfl (trc t A1 A2 c1 c2) _ hXA'.out Tryd.underlying25 rfl hiA.out ?_)) | (go_at_call 20; ((with_reducible refine hCk'.out.mono ?_); rintro e W11 ⟨rfl, hb11⟩; have hb11A := Aside0.mk (below_then b10A.out b10A.out.size hb11); have hO11 := Aside0.mk (hOA.out.below hb11); have hX11 := Aside0.mk (hXA'.out.below hb11); clear hb11)) | (go_at_call 21; ((with_reducible refine (hRd2.out _ hb11A.out).mono ?_); rintro e W12 ⟨⟨u1, u2, rfl, hF1, hF2⟩, hb12⟩; obtain ⟨F1, n1, hv1⟩ := Kd.R_slice hF1; obtain ⟨F2, n2, hv2⟩ := Kd.R_slice hF2; subst hv1; subst hv2; have hb12A := Aside0.mk (below_then hb11A.out hb11A.out.size hb12); have hO12 := Aside0.mk (hO11.out.below hb12); have hX12 := Aside0.mk (hX11.out.below hb12); have hF1A := Aside0.mk hF1; have hF2A := Aside0.mk hF2; clear hb12 hF1 hF2)) | ((with_reducible refine gate_dst (N := 7) rfl ?_); (refine wpList_new_put rfl (N := 7) rfl rfl 25 (.tmp 73) rfl [.slice F1 t.sp.length n1, .slice F2 t.co.length n2, .bool t.firm] [.slice none 0 0, .slice none 0 0, .bool false] rfl ?hr rfl rfl (hi3A.out _ _ _) (by intro u hu; simp at hu; rcases hu with rfl | rfl | rfl <;> rfl) ?_; (case hr => first | (go_simp; done) | (go_simp; rfl)); intro W13 hO13 hb13 hs13; have hZ13 := Aside0.mk hO13; have hOd := Aside0.mk (hO12.out.below hb13); have hXd := Aside0.mk (hX12.out.below hb13); have hG1A := Aside0.mk (Kd.R_below hF1A.out hb13); have hG2A := Aside0.mk (Kd.R_below hF2A.out hb13); have hb13A := Aside0.mk (below_then hb12A.out hb12A.out.size hb13); have hNb := Aside0.mk (numtx_calls (a := t) (b := t) (A1 := F1) (A2 := F2) (B1 := A1) (B2 := A2) (c1 := n1) (c2 := n2) (d1 := c1) (d2 := c2) W13 (rowS_ hG1A.out) (rowC_ hG2A.out) (hSA.out.imp_ (h9w.out _ hb13A.out) (fun _ _ h => h)) (hCA.out.imp_ (h9w.out _ hb13A.out) (fun _ _ h => h)) (by omega) (by omega)); rw [Wt.sameT_self] at hNb; clear hO13 hb13 hs13)) | ((with_reducible refine gate_dst (N := 78) rfl ?_); (refine Wt.wpList_load_c (by rfl) 25 (.tmp 7) rfl ⟨W12.heap.size, 0, none⟩ rfl [.slice F1 t.sp.length n1, .slice F2 t.co.length n2, .bool t.firm] _ hZ13.out.add Tryd.underlying25 rfl (hi3A.out _ _ _) ?_)) | ((with_reducible refine gate_dst (N := 79) rfl ?_); (refine Wt.wpList_load_c (by rfl) 25 (.tmp 2) rfl ⟨w.heap.size, 0, none⟩ rfl (trc t A1 A2 c1 c2) _ hXd.out.add Tryd.underlying25 rfl hiA.out ?_)) | (go_at_call 10; (first | ((with_reducible refine hNb.out.mono ?_); rintro e W14 ⟨rfl, hb14⟩; have hO14 := Aside0.mk (hOd.out.below hb14); have hX14 := Aside0.mk (hXd.out.below hb14); have hb14A := Aside0.mk (below_then hb13A.out hb13A.out.size hb14); clear hb14) | ((with_reducible refine (hNo.out _ hb14A.out).mono ?_); rintro e W15 ⟨rfl, hb15⟩; have hb15A := Aside0.mk (below_then hb14A.out hb14A.out.size hb15); clear hb15))) | ((with_reducible refine gate_dst (N := 83) rfl ?_); (refine Wt.wpList_load_c (by rfl) 25 (.tmp 5) rfl ⟨O, 0, none⟩ rfl [.slice B1 t.sp.length m1, .slice B2 t.co.length m2, .bool t.firm] _ hO14.out.add Tryd.underlying25 rfl (hi3A.out _ _ _) ?_)) | ((with_reducible refine gate_dst (N := 84) rfl ?_); (refine Wt.wpList_load_c (by rfl) 25 (.tmp 2) rfl ⟨w.heap.size, 0, none⟩ rfl (trc t A1 A2 c1 c2) _ hX14.out.add Tryd.underlying25 rfl hiA.out ?_)))
      go_ret
      exact ⟨rfl, h9w.out _ hb15A.out⟩
    · obtain ⟨C, hC⟩ : ∃ C, C = nume (chkv t) := ⟨_, rfl⟩
      rw [← hC] at hCk' hz
      have q : (C != 0) = true := by rw [bne_iff_ne]; exact hz
      clear hz hC
      go_wp2_with (first | ((with_reducible refine gate_dst (N := 64) rfl ?_); (refine wpList_load_blk rfl 25 (.tmp 2) rfl w.heap.size 25 rfl (trc t A1 A2 c1 c2) _ hXA'.out Tryd.underlying25 rfl hiA.out ?_)) | (go_at_call 20; ((with_reducible refine hCk'.out.mono ?_); rintro e W11 ⟨rfl, hb11⟩; have hb11A := Aside0.mk (below_then b10A.out b10A.out.size hb11); have hO11 := Aside0.mk (hOA.out.below hb11); have hX11 := Aside0.mk (hXA'.out.below hb11); clear hb11)) | ((with_reducible refine gate_dst (N := 67) rfl ?_); (refine wpList_load_blk rfl 25 (.tmp 5) rfl O 25 rfl [.slice B1 t.sp.length m1, .slice B2 t.co.length m2, .bool t.firm] _ hO11.out Tryd.underlying25 rfl (hi3A.out _ _ _) ?_)) | ((with_reducible refine gate_dst (N := 68) rfl ?_); (refine wpList_load_blk rfl 25 (.tmp 2) rfl w.heap.size 25 rfl (trc t A1 A2 c1 c2) _ hX11.out Tryd.underlying25 rfl hiA.out ?_)) | (go_at_call 10; ((with_reducible refine (hNo.out _ hb11A.out).mono ?_); rintro e W12 ⟨rfl, hb12⟩; have hb12A := Aside0.mk (below_then hb11A.out hb11A.out.size hb12); clear hb12)))
      go_ret
      exact ⟨rfl, h9w.out _ hb12A.out⟩
  · go_enter Tryd.func4, Tryd.ntmps4
    go_wp2_with (first | (go_at_call 5; (rw [show (w.alloc (.cells #[.slice A1 t.sp.length c1, .slice A2 t.co.length c2, .bool t.firm] 25)) = V from hVA.out.symm]; (with_reducible refine hAlA.out.mono ?_); rintro e w1 ⟨rfl, hb1⟩; have hXtA := Aside0.mk (hXA.out.below hb1); have hb1A := Aside0.mk (below_then hBA.out hBA.out.size hb1); clear hb1)) | ((with_reducible refine gate_dst (N := 11) rfl ?_); (refine wpList_load_blk rfl 25 (.tmp 2) rfl w.heap.size 25 rfl (trc t A1 A2 c1 c2) _ hXtA.out Tryd.underlying25 rfl hiA.out ?_)) | (go_at_call 6; ((with_reducible refine (hLgA.out _ hb1A.out).mono ?_); rintro e w3 ⟨rfl, hb3⟩; rw [hlA.out]; have hX3A := Aside0.mk (hXtA.out.below ((below_alloc (Below.refl _ _) _).trans (hb3.mono (by simp)))); have hb3A := Aside0.mk (below_then hb1A.out hb1A.out.size ((below_alloc (Below.refl _ _) _).trans (hb3.mono (by simp)))); clear hb3)))
    go_ret
    exact ⟨rfl, hb3A.out⟩
end Go.Proofs.YtlgfekllkahfaaaDoor.Walk
