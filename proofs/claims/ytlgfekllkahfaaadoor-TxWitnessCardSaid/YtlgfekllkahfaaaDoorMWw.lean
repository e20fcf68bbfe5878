/- A parameter that is a transaction with another witness: opened. -/
import Derived.Test.YtlgfekllkahfaaaDoorMSp
import Derived.Test.YtlgfekllkahfaaaDoorMWt
import Derived.Lib.SmallJoins
import Derived.Test.YtlgfekllkahfaaaDoorMAl
set_option linter.unusedVariables false
namespace Go.Proofs.YtlgfekllkahfaaaDoor.Laid
open Go Go.ChangeShapes Go.WideShapes Go.RowKit Go.Proofs.YtlgfekllkahfaaaDoorW.PrintWords Go.Proofs.YtlgfekllkahfaaaDoor.Bits Sha ShaW Pack Wt
section
variable {H : Type} {enc : TypeId × Value → H} {w : World} {base : Nat} {sp : Nat → Bool} {held : Bool}
theorem cOther : Tryd.prog.cellsOf 28 = 6 := by kernel_rfl
theorem cells_other {fuel : Nat} {cs : List Value} {y : DataW H × List MemPlace} (hf : DataW.trod enc Tryd.prog w base sp held fuel 28 cs = some y) :
    ∃ (t : Tr) (A1 A2 : Option Addr) (c1 c2 : Nat) (I : Int) (key : ByteArray) (sel : Int), cs = oth t A1 A2 c1 c2 I key sel ∧ SpR0 w A1 t.sp.length t.sp ∧ CoR w A2 t.co.length t.co ∧ (Lit.int .u64 sel).wf = true := by
  obtain ⟨y0, y1, y2, y3, m, _, hl, h0, h1, h2, h3⟩ := Go.Joins.trod_struct4 Tryd.underlying28 hf
  rw [cOther] at hl
  simp only [cTx, cInt, cStr, cU64, List.drop_zero] at h0 h1 h2 h3
  obtain ⟨t, A1, A2, c1, c2, e0, hS, hC, _, _⟩ := cells_tx h0
  obtain ⟨I, e1, _, _⟩ := DataW.trod_int Tryd.underlying3 h1
  obtain ⟨k, e2, _, _⟩ := DataW.trod_string Tryd.underlying9 h2
  obtain ⟨x, e3, _, hx⟩ := DataW.trod_int Tryd.underlying26 h3
  refine ⟨t, A1, A2, c1, c2, I, k, x, ?_, hS, hC, hx⟩
  have d3 := take_one e3 (by rw [List.length_drop]; omega)
  have d2 : cs.drop 4 = .string k :: cs.drop 5 := by
    have := List.take_append_drop 1 (cs.drop 4)
    rw [e2, List.drop_drop] at this
    exact this.symm
  have d1 : cs.drop 3 = .int .i64 I :: cs.drop 4 := by
    have := List.take_append_drop 1 (cs.drop 3)
    rw [e1, List.drop_drop] at this
    exact this.symm
  have := List.take_append_drop 3 cs
  rw [e0, d1, d2, d3] at this
  rw [← this]; rfl
end
end Go.Proofs.YtlgfekllkahfaaaDoor.Laid
/- Another witness changes the wide id, not the id.
   Conditions: none. -/
set_option linter.unusedVariables false
set_option linter.unusedSimpArgs false
namespace Go.Proofs.YtlgfekllkahfaaaDoor.Walk
open Go.RowKit Go.Proofs.YtlgfekllkahfaaaDoorW.PrintWords Go.Proofs.YtlgfekllkahfaaaDoorW.PrintMore Go.Proofs.YtlgfekllkahfaaaDoor Go.Proofs.YtlgfekllkahfaaaDoor.Bits Sha ArrK ShaW Pack Wt
open Go.Proofs.YtlgfekllkahfaaaDoor.InRound (op_at)
set_option maxRecDepth 100000 in
set_option maxHeartbeats 1600000 in
theorem TxWitness (t : Tr) (A1 A2 : Option Addr) (c1 c2 : Nat) (I sel : Int) (key : ByteArray) (w : World) (hK : Kst w) (hBg : Bst w) (hS : SpR0 w A1 t.sp.length t.sp) (hC : CoR w A2 t.co.length t.co) (hs1 : 0 ≤ sel) (hs2 : sel < 18446744073709551616) :
    Calls Tryd.prog 3 #[.agg #[.slice A1 t.sp.length c1, .slice A2 t.co.length c2, .bool t.firm, .int .i64 I, .string key, .int .u64 sel]] w fun e w' => e = .returned (.bool true) ∧ Below w.heap.size w w' := by
  obtain ⟨V, hV⟩ : ∃ V, V = w.alloc (.cells (oth t A1 A2 c1 c2 I key sel).toArray 28) := ⟨_, rfl⟩
  have hX : Blk V w.heap.size 28 (oth t A1 A2 c1 c2 I key sel) := by rw [hV]; exact Blk.new w _ _
  have hB : Below w.heap.size w V := by rw [hV]; exact below_alloc (Below.refl _ _) _
  have hAl := alive10_calls V
  have hVA := Aside0.mk hV; have hXA := Aside0.mk hX; have hBA := Aside0.mk hB; have hAlA := Aside0.mk hAl; have hiA := Aside0.mk (info_tx t A1 A2 c1 c2); have hKA := Aside0.mk hK; have hBgA := Aside0.mk hBg; have hSA := Aside0.mk hS; have hCA := Aside0.mk hC; have hs1A := Aside0.mk hs1; have hs2A := Aside0.mk hs2
  clear hV hX hB hAl hK hBg hS hC hs1 hs2
  generalize hlg : large t = g
  have hlA := Aside0.mk hlg
  clear hlg
  have hLgA := Aside0.mk (fun (W1 : World) (hW : Below w.heap.size w W1) => large_calls (W1.alloc (.cells (trc t A1 A2 c1 c2).toArray 25)) W1.heap.size (Blk.new W1 _ _) (hSA.out.imp_ (below_alloc hW _) (fun _ _ h => h)))
  cases g
  · obtain ⟨l1, l2, l3⟩ := large_no hlA.out
    by_cases q : 300 < key.size
    · have p : (300 : Int) < (key.size : Int) := by omega
      go_enter Tryd.func3, Tryd.ntmps3
      go_wp2_with (first | (go_at_call 5; (rw [show (w.alloc (.cells #[.slice A1 t.sp.length c1, .slice A2 t.co.length c2, .bool t.firm, .int .i64 I, .string key, .int .u64 sel] 28)) = V from hVA.out.symm]; (with_reducible refine hAlA.out.mono ?_); rintro e w1 ⟨rfl, hb1⟩; have hXtA := Aside0.mk (hXA.out.below hb1); have hb1A := Aside0.mk (below_then hBA.out hBA.out.size hb1); clear hb1)) | ((with_reducible refine gate_dst (N := 9) rfl ?_); (refine wpList_load_c (by rfl) 25 (.tmp 8) rfl ⟨w.heap.size, 0, none⟩ rfl (trc t A1 A2 c1 c2) _ (oth_tx hXtA.out) Tryd.underlying25 rfl hiA.out ?_)) | (go_at_call 6; ((with_reducible refine (hLgA.out _ hb1A.out).mono ?_); rintro e w3 ⟨rfl, hb3⟩; rw [hlA.out]; have hX3 := hXtA.out.below ((below_alloc (Below.refl _ _) _).trans (hb3.mono (by simp))); have x0 := hX3.get 0 _ rfl; have x4 := hX3.get 4 _ rfl; have hX3A := Aside0.mk hX3; clear hX3; have hb3A := Aside0.mk (below_then hb1A.out hb1A.out.size ((below_alloc (Below.refl _ _) _).trans (hb3.mono (by simp)))); clear hb3)))
      go_ret
      exact ⟨rfl, hb3A.out⟩
    · have p : ¬ (300 : Int) < (key.size : Int) := by omega
      by_cases h0 : t.sp.length = 0
      · have p0 : ((t.sp.length : Int) == 0) = true := by rw [h0]; rfl
        have h0A := Aside0.mk h0
        clear h0
        go_enter Tryd.func3, Tryd.ntmps3
        go_wp2_with (first | (go_at_call 5; (rw [show (w.alloc (.cells #[.slice A1 t.sp.length c1, .slice A2 t.co.length c2, .bool t.firm, .int .i64 I, .string key, .int .u64 sel] 28)) = V from hVA.out.symm]; (with_reducible refine hAlA.out.mono ?_); rintro e w1 ⟨rfl, hb1⟩; have hXtA := Aside0.mk (hXA.out.below hb1); have hb1A := Aside0.mk (below_then hBA.out hBA.out.size hb1); clear hb1)) | ((with_reducible refine gate_dst (N := 9) rfl ?_); (refine wpList_load_c (by rfl) 25 (.tmp 8) rfl ⟨w.heap.size, 0, none⟩ rfl (trc t A1 A2 c1 c2) _ (oth_tx hXtA.out) Tryd.underlying25 rfl hiA.out ?_)) | (go_at_call 6; ((with_reducible refine (hLgA.out _ hb1A.out).mono ?_); rintro e w3 ⟨rfl, hb3⟩; rw [hlA.out]; have hX3 := hXtA.out.below ((below_alloc (Below.refl _ _) _).trans (hb3.mono (by simp))); have x0 := hX3.get 0 _ rfl; have x4 := hX3.get 4 _ rfl; have hX3A := Aside0.mk hX3; clear hX3; have hb3A := Aside0.mk (below_then hb1A.out hb1A.out.size ((below_alloc (Below.refl _ _) _).trans (hb3.mono (by simp)))); clear hb3)))
        go_ret
        exact ⟨rfl, hb3A.out⟩
      · have p0 : ((t.sp.length : Int) == 0) = false := by rw [beq_eq_false_iff_ne]; omega
        have hCpA := Aside0.mk (fun (W : World) (hW : Below w.heap.size w W) => copy_calls W (hSA.out.imp_ hW (fun _ _ h => h)) (hCA.out.imp_ hW (fun _ _ h => h)) (c1 := c1) (c2 := c2) (by omega) (by omega))
        have hi3A := Aside0.mk info_tx3
        go_enter Tryd.func3, Tryd.ntmps3
        go_wp2_with (first | (go_at_call 5; (rw [show (w.alloc (.cells #[.slice A1 t.sp.length c1, .slice A2 t.co.length c2, .bool t.firm, .int .i64 I, .string key, .int .u64 sel] 28)) = V from hVA.out.symm]; (with_reducible refine hAlA.out.mono ?_); rintro e w1 ⟨rfl, hb1⟩; have hXtA := Aside0.mk (hXA.out.below hb1); have hb1A := Aside0.mk (below_then hBA.out hBA.out.size hb1); clear hb1)) | ((with_reducible refine gate_dst (N := 9) rfl ?_); (refine wpList_load_c (by rfl) 25 (.tmp 8) rfl ⟨w.heap.size, 0, none⟩ rfl (trc t A1 A2 c1 c2) _ (oth_tx hXtA.out) Tryd.underlying25 rfl hiA.out ?_)) | (go_at_call 6; ((with_reducible refine (hLgA.out _ hb1A.out).mono ?_); rintro e w3 ⟨rfl, hb3⟩; rw [hlA.out]; have hX3 := hXtA.out.below ((below_alloc (Below.refl _ _) _).trans (hb3.mono (by simp))); have x0 := hX3.get 0 _ rfl; have x4 := hX3.get 4 _ rfl; have hX3A := Aside0.mk hX3; clear hX3; have hb3A := Aside0.mk (below_then hb1A.out hb1A.out.size ((below_alloc (Below.refl _ _) _).trans (hb3.mono (by simp)))); clear hb3)) | ((with_reducible refine gate_dst (N := 26) rfl ?_); (refine wpList_load_c (by rfl) 25 (.tmp 25) rfl ⟨w.heap.size, 0, none⟩ rfl (trc t A1 A2 c1 c2) _ (oth_tx hX3A.out) Tryd.underlying25 rfl hiA.out ?_)) | (go_at_call 7; ((with_reducible refine (hCpA.out _ hb3A.out).mono ?_); rintro e w7 ⟨⟨u1, u2, rfl, hR1, hR2⟩, hb7⟩; obtain ⟨B1, m1, hv1⟩ := Kd.R_slice hR1; obtain ⟨B2, m2, hv2⟩ := Kd.R_slice hR2; subst hv1; subst hv2; have hb7A := Aside0.mk (below_then hb3A.out hb3A.out.size hb7); have hX7A := Aside0.mk (hX3A.out.below hb7); have hR1A := Aside0.mk (Kd.R_lower hR1 hb3A.out.size); have hR2A := Aside0.mk (Kd.R_lower hR2 hb3A.out.size); clear hb7 hR1 hR2 x0 x4)) | ((with_reducible refine gate_dst (N := 3) rfl ?_); (refine wpList_new_put rfl (N := 3) rfl rfl 25 (.tmp 27) rfl [.slice B1 t.sp.length m1, .slice B2 t.co.length m2, .bool t.firm] [.slice none 0 0, .slice none 0 0, .bool false] rfl ?hr rfl rfl (hi3A.out _ _ _) (by intro u hu; simp at hu; rcases hu with rfl | rfl | rfl <;> rfl) ?_; (case hr => first | (go_simp; done) | (go_simp; rfl)); intro w8 hO8 hb8 hs8; have y0 := hO8.get 0 _ rfl; have hX8 := hX7A.out.below hb8; have x3 := hX8.get 3 _ rfl; have hO8A := Aside0.mk hO8; have hX8A := Aside0.mk hX8; have hR3A := Aside0.mk (Kd.R_below hR1A.out hb8); have hR4A := Aside0.mk (Kd.R_below hR2A.out hb8); have hb8A := Aside0.mk (below_then hb7A.out hb7A.out.size hb8); clear hO8 hb8 hs8 hX8)))
        obtain ⟨k, hkw, hkl⟩ := kth I t.sp.length h0 (by omega)
        rw [hkw]
        obtain ⟨O, hO⟩ : ∃ O, O = w7.heap.size := ⟨_, rfl⟩
        rw [← hO] at hO8A ⊢
        clear hO hkw hR1A hR2A hb7A hX7A x3 y0
        obtain ⟨s, hs⟩ : ∃ s, t.sp[k]? = some s := ⟨_, List.getElem?_eq_getElem hkl⟩
        obtain ⟨g, cap, hv, -⟩ := Kd.R_form hR3A.out (by omega)
        obtain rfl : B1 = some ⟨g, 0, none⟩ := by injection hv
        have hso := RSp_at hR3A.out k hkl s hs
        have hst := hso.1
        have hok1 := SpO_key hso key (by omega)
        have hok2 := SpO_wit hso key sel (by omega) hs1A.out hs2A.out
        have hsm2 : (t.sp.set k { s with key := key })[k]? = some { s with key := key } := by rw [List.getElem?_set_self hkl]
        have hsm := hs
        have p1 : (0 : Int) ≤ (k : Int) := by omega
        have p2 : (k : Int) < (t.sp.length : Int) := by omega
        have RS0 : Aside0 (RSp w.heap.size w8.drew _ _) := Aside0.mk hR3A.out; have RC0 : Aside0 (RCo w.heap.size w8.drew _ _) := Aside0.mk hR4A.out; have BB0 : Aside0 (Below w.heap.size w w8.drew) := Aside0.mk (pw_below_drewN hb8A.out 1); have OO0 : Blk w8.drew _ _ _ := hO8A.out.drew; have XX0 : Blk w8.drew _ _ _ := hX8A.out.drew
        have H0 := And.intro OO0 XX0
        refine wp_region_noPanic ?_
        refine wp_region_held_drew (S := fun V1 => Blk V1 O 25 [.slice (some ⟨g, 0, none⟩) t.sp.length m1, .slice B2 t.co.length m2, .bool t.firm] ∧ Blk V1 w.heap.size 28 (oth t A1 A2 c1 c2 I key sel)) (by kernel_rfl) H0 (fun _ => ?_)
        clear OO0 XX0 hO8A hX8A hb8A hR3A hR4A
        generalize w8.drew = V0 at *
        -- REGION 7
        refine wpAnyH_take (i := 0) (v := .pointer (some ⟨O, 0, none⟩)) (op_at rfl) (by kernel_rfl) (by kernel_rfl) (by kernel_rfl) (fun _ _ _ h => h) (Or.inl ⟨by rfl, fun w_ hSw => ?_⟩) H0 ?_
        · skip; go_simp
        try simp only [Act.put, List.setIfInBounds_toArray, List.set_cons_zero, List.set_cons_succ]
        refine wpAnyH_take (i := 1) (v := .slice (some ⟨g, 0, none⟩) t.sp.length m1) (op_at rfl) (by kernel_rfl) (by kernel_rfl) (by kernel_rfl) (fun _ _ _ h => h) (Or.inl ⟨by rfl, fun w_ hSw => ?_⟩) H0 ?_
        · have hc_ := hSw.1.get 0 _ rfl; go_simp
        try simp only [Act.put, List.setIfInBounds_toArray, List.set_cons_zero, List.set_cons_succ]
        refine wpAnyH_take (i := 2) (v := .int .i64 (k : Int)) (op_at rfl) (by kernel_rfl) (by kernel_rfl) (by kernel_rfl) (fun _ _ _ h => h) (Or.inl ⟨by rfl, fun w_ hSw => ?_⟩) H0 ?_
        · skip; go_simp
        try simp only [Act.put, List.setIfInBounds_toArray, List.set_cons_zero, List.set_cons_succ]
        refine wpAnyH_take (i := 3) (v := .pointer (some ⟨O, 0, none⟩)) (op_at rfl) (by kernel_rfl) (by kernel_rfl) (by kernel_rfl) (fun _ _ _ h => h) (Or.inl ⟨by rfl, fun w_ hSw => ?_⟩) H0 ?_
        · skip; go_simp
        try simp only [Act.put, List.setIfInBounds_toArray, List.set_cons_zero, List.set_cons_succ]
        refine wpAnyH_take (i := 4) (v := .slice (some ⟨g, 0, none⟩) t.sp.length m1) (op_at rfl) (by kernel_rfl) (by kernel_rfl) (by kernel_rfl) (fun _ _ _ h => h) (Or.inl ⟨by rfl, fun w_ hSw => ?_⟩) H0 ?_
        · have hc_ := hSw.1.get 0 _ rfl; go_simp
        try simp only [Act.put, List.setIfInBounds_toArray, List.set_cons_zero, List.set_cons_succ]
        refine wpAnyH_take (i := 5) (v := .int .i64 (k : Int)) (op_at rfl) (by kernel_rfl) (by kernel_rfl) (by kernel_rfl) (fun _ _ _ h => h) (Or.inl ⟨by rfl, fun w_ hSw => ?_⟩) H0 ?_
        · skip; go_simp
        try simp only [Act.put, List.setIfInBounds_toArray, List.set_cons_zero, List.set_cons_succ]
        refine wpAnyH_take (i := 6) (v := .pointer (some ⟨w.heap.size, 4, none⟩)) (op_at rfl) (by kernel_rfl) (by kernel_rfl) (by kernel_rfl) (fun _ _ _ h => h) (Or.inl ⟨by rfl, fun w_ hSw => ?_⟩) H0 ?_
        · skip; go_simp
        try simp only [Act.put, List.setIfInBounds_toArray, List.set_cons_zero, List.set_cons_succ]
        refine wpAnyH_take (i := 7) (v := .string key) (op_at rfl) (by kernel_rfl) (by kernel_rfl) (by kernel_rfl) (fun _ _ _ h => h) (Or.inl ⟨by rfl, fun w_ hSw => ?_⟩) H0 ?_
        · have hc_ := hSw.2.get 4 _ rfl; go_simp
        try simp only [Act.put, List.setIfInBounds_toArray, List.set_cons_zero, List.set_cons_succ]
        refine wpAnyH_take (i := 8) (v := .pointer (some ⟨w.heap.size, 5, none⟩)) (op_at rfl) (by kernel_rfl) (by kernel_rfl) (by kernel_rfl) (fun _ _ _ h => h) (Or.inl ⟨by rfl, fun w_ hSw => ?_⟩) H0 ?_
        · skip; go_simp
        try simp only [Act.put, List.setIfInBounds_toArray, List.set_cons_zero, List.set_cons_succ]
        refine wpAnyH_take (i := 9) (v := .int .u64 sel) (op_at rfl) (by kernel_rfl) (by kernel_rfl) (by kernel_rfl) (fun _ _ _ h => h) (Or.inl ⟨by rfl, fun w_ hSw => ?_⟩) H0 ?_
        · have hc_ := hSw.2.get 5 _ rfl; go_simp
        try simp only [Act.put, List.setIfInBounds_toArray, List.set_cons_zero, List.set_cons_succ]
        refine wpAnyH_take (i := 10) (v := .pointer (some ⟨g, k * 35, none⟩)) (op_at rfl) (by kernel_rfl) (by kernel_rfl) (by kernel_rfl) (fun _ _ _ h => h) (Or.inl ⟨by rfl, fun w_ hSw => ?_⟩) H0 ?_
        · skip; go_simp
        try simp only [Act.put, List.setIfInBounds_toArray, List.set_cons_zero, List.set_cons_succ]
        refine wpAnyH_take (i := 11) (v := .pointer (some ⟨g, k * 35 + 33, none⟩)) (op_at rfl) (by kernel_rfl) (by kernel_rfl) (by kernel_rfl) (fun _ _ _ h => h) (Or.inl ⟨by rfl, fun w_ hSw => ?_⟩) H0 ?_
        · skip; go_simp
        try simp only [Act.put, List.setIfInBounds_toArray, List.set_cons_zero, List.set_cons_succ]
        refine wpAnyH_ready (rs := [12]) (by kernel_rfl) (by simp) ?_
        refine AllReadyH.cons (op_at rfl) (fun K hK => ?_) AllReadyH.nil
        obtain ⟨hr_, hg_, hc_, hf_, hbg_⟩ := RSp_put RS0.out k hkl (s) ({ s with key := key }) hsm 33 (.string key) hok1 (by decide) (set_key s hst key)
        have hc_ := hc_ _ (spc_key s hst)
        have ne1_ := Kd.R_ne RS0.out H0.1 (by decide)
        have ne2_ := Kd.R_ne RS0.out H0.2 (by decide)
        go_simp
        refine hK.out _ _ ⟨H0.1.grown hg_ ne1_, H0.2.grown hg_ ne2_⟩ (fun H1_ => ?_)
        have RS_1 := Aside0.mk hr_
        have RC_1 := Aside0.mk (Kd.R_mono (Kd.R_grown (Kd.R_apartR RC0.out RS0.out (by decide)) hg_ (fun _ hk => hk.2)) (fun _ _ => trivial) : RCo w.heap.size _ _ _)
        have BB_1 := Aside0.mk (BB0.out.setCell (p := ⟨g, k * 35 + 33, none⟩) hbg_ (.string key))
        clear hK K hc_ hf_ hr_ hg_ ne1_ ne2_ hbg_
        try simp only [Act.put, List.setIfInBounds_toArray, List.set_cons_zero, List.set_cons_succ]
        refine wpAnyH_take (i := 13) (v := .pointer (some ⟨g, k * 35, none⟩)) (op_at rfl) (by kernel_rfl) (by kernel_rfl) (by kernel_rfl) (fun _ _ _ h => h) (Or.inl ⟨by rfl, fun w_ hSw => ?_⟩) H1_ ?_
        · skip; go_simp
        try simp only [Act.put, List.setIfInBounds_toArray, List.set_cons_zero, List.set_cons_succ]
        refine wpAnyH_take (i := 14) (v := .pointer (some ⟨g, k * 35 + 34, none⟩)) (op_at rfl) (by kernel_rfl) (by kernel_rfl) (by kernel_rfl) (fun _ _ _ h => h) (Or.inl ⟨by rfl, fun w_ hSw => ?_⟩) H1_ ?_
        · skip; go_simp
        try simp only [Act.put, List.setIfInBounds_toArray, List.set_cons_zero, List.set_cons_succ]
        refine wpAnyH_ready (rs := [15]) (by kernel_rfl) (by simp) ?_
        refine AllReadyH.cons (op_at rfl) (fun K hK => ?_) AllReadyH.nil
        obtain ⟨hr_, hg_, hc_, hf_, hbg_⟩ := RSp_put RS_1.out k hkl ({ s with key := key }) (wit s key sel) hsm2 34 (.int .u64 sel) hok2 (by decide) (set_sel { s with key := key } hst sel)
        have hc_ := hc_ _ (spc_seal _ hst)
        have ne1_ := Kd.R_ne RS_1.out H1_.1 (by decide)
        have ne2_ := Kd.R_ne RS_1.out H1_.2 (by decide)
        go_simp
        refine hK.out _ _ ⟨H1_.1.grown hg_ ne1_, H1_.2.grown hg_ ne2_⟩ (fun H2_ => ?_)
        have RS_2 := Aside0.mk hr_
        have RC_2 := Aside0.mk (Kd.R_mono (Kd.R_grown (Kd.R_apartR RC_1.out RS_1.out (by decide)) hg_ (fun _ hk => hk.2)) (fun _ _ => trivial) : RCo w.heap.size _ _ _)
        have BB_2 := Aside0.mk (BB_1.out.setCell (p := ⟨g, k * 35 + 34, none⟩) hbg_ (.int .u64 sel))
        clear hK K hc_ hf_ hr_ hg_ ne1_ ne2_ hbg_
        try simp only [Act.put, List.setIfInBounds_toArray, List.set_cons_zero, List.set_cons_succ]
        refine wpAnyH_done (by kernel_rfl) ?_ _
        refine NoPanic.normal ?_
        rw [List.set_set] at RS_2
        obtain ⟨W9, hW9⟩ : ∃ W9, W9 = ((V0.setCell ⟨g, k * 35 + 33, none⟩ (.string key)).setCell ⟨g, k * 35 + 34, none⟩ (.int .u64 sel)) := ⟨_, rfl⟩
        have RSe : Aside0 (RSp w.heap.size W9 (.slice (some ⟨g, 0, none⟩) t.sp.length m1) (t.sp.set k (wit s key sel))) := by rw [hW9]; exact RS_2
        have RCe : Aside0 (RCo w.heap.size W9 (.slice B2 t.co.length m2) t.co) := by rw [hW9]; exact RC_2
        have BBe : Aside0 (Below w.heap.size w W9) := by rw [hW9]; exact BB_2
        have OOe : Aside0 (Blk W9 O 25 [.slice (some ⟨g, 0, none⟩) t.sp.length m1, .slice B2 t.co.length m2, .bool t.firm]) := by rw [hW9]; exact Aside0.mk H2_.1
        have XXe : Aside0 (Blk W9 w.heap.size 28 (oth t A1 A2 c1 c2 I key sel)) := by rw [hW9]; exact Aside0.mk H2_.2
        rw [← hW9]
        clear hW9
        -- END 7
        obtain ⟨L, hL⟩ : ∃ L, L = t.sp.set k (wit s key sel) := ⟨_, rfl⟩
        have hLl : L.length = t.sp.length := by rw [hL, List.length_set]
        have hLs : ∀ x ∈ L, x.key.size ≤ 5000 := fun x hx => by
          rw [hL] at hx
          rcases List.mem_or_eq_of_mem_set hx with h | h
          · exact l3 x h
          · rw [h]; show key.size ≤ 5000; omega
        have hidL : idv ⟨L, t.co, t.firm⟩ = idv t := by rw [hL]; exact idv_w hs
        have hefL : enc false ⟨L, t.co, t.firm⟩ = enc false t := by rw [hL]; exact encf_w hs
        have hewL : enc true ⟨L, t.co, t.firm⟩ = enc true t → (⟨L, t.co, t.firm⟩ : Tr) = t := fun h => by rw [hL] at h ⊢; exact enc_wit hs hs1A.out hs2A.out hso.2.2.1 hso.2.2.2.1 h
        rw [← hL] at RSe
        have hil : (idv t).length = 32 := sum_length _
        have hwl : (wdv t).length = 32 := sum_length _
        have hTt := Aside0.mk (fun (W : World) (hW : Below w.heap.size w W) => (⟨SpR0.small (hSA.out.imp_ hW (fun _ _ h => h)) l3, hCA.out.imp_ hW (fun _ _ h => h), by omega, by omega⟩ : TrOk W t A1 A2 c1 c2))
        have hTo := Aside0.mk (fun (W : World) (hW : Below W9.heap.size W9 W) => (⟨SpR0.small (rowS (Kd.R_below RSe.out hW)) hLs, rowC (Kd.R_below RCe.out hW), by show L.length ≤ 1000; omega, by show t.co.length ≤ 1000; omega⟩ : TrOk W ⟨L, t.co, t.firm⟩ (some ⟨g, 0, none⟩) B2 m1 m2))
        have h9w := Aside0.mk (fun (W : World) (hW : Below W9.heap.size W9 W) => below_then BBe.out BBe.out.size hW)
        have hIo := Aside0.mk (fun (W : World) (hW : Below W9.heap.size W9 W) => id_calls W (hTo.out W hW) (hKA.out.below (h9w.out W hW)) (hBgA.out.below (h9w.out W hW)))
        have hIt := Aside0.mk (fun (W : World) (hW : Below W9.heap.size W9 W) => id_calls W (hTt.out W (h9w.out W hW)) (hKA.out.below (h9w.out W hW)) (hBgA.out.below (h9w.out W hW)))
        have hWo := Aside0.mk (fun (W : World) (hW : Below W9.heap.size W9 W) => wide_calls W (hTo.out W hW) (hKA.out.below (h9w.out W hW)) (hBgA.out.below (h9w.out W hW)))
        have hWt := Aside0.mk (fun (W : World) (hW : Below W9.heap.size W9 W) => wide_calls W (hTt.out W (h9w.out W hW)) (hKA.out.below (h9w.out W hW)) (hBgA.out.below (h9w.out W hW)))
        have hBo := Aside0.mk (fun (W : World) (hW : Below W9.heap.size W9 W) => base_calls W (hTo.out W hW))
        have hBt := Aside0.mk (fun (W : World) (hW : Below W9.heap.size W9 W) => base_calls W (hTt.out W (h9w.out W hW)))
        have hYo := Aside0.mk (fun (W : World) (hW : Below W9.heap.size W9 W) => bytesT_calls W (hTo.out W hW))
        have hYt := Aside0.mk (fun (W : World) (hW : Below W9.heap.size W9 W) => bytesT_calls W (hTt.out W (h9w.out W hW)))
        have hN := Aside0.mk (fun (W : World) (hW : Below W9.heap.size W9 W) => numtx_calls (a := ⟨L, t.co, t.firm⟩) (b := t) (A1 := some ⟨g, 0, none⟩) (A2 := B2) (B1 := A1) (B2 := A2) (c1 := m1) (c2 := m2) (d1 := c1) (d2 := c2) W (rowS (Kd.R_below RSe.out hW)) (rowC (Kd.R_below RCe.out hW)) (hSA.out.imp_ (h9w.out W hW) (fun _ _ h => h)) (hCA.out.imp_ (h9w.out W hW) (fun _ _ h => h)) (by show L.length ≤ 1000; omega) (by show t.co.length ≤ 1000; omega))
        have hEb := Aside0.mk (enc_bytes true ⟨L, t.co, t.firm⟩ (hTo.out W9 (Below.refl _ _)).spok)
        have hEb2 := Aside0.mk (enc_bytes true t (hTt.out W9 BBe.out).spok)
        rw [hidL] at hIo
        rw [hefL] at hBo
        simp only [trv, hLl] at hIo hWo hBo hYo hN
        obtain ⟨E, hE⟩ : ∃ E, E = enc false t := ⟨_, rfl⟩
        rw [← hE] at hBo hBt
        have hilA := Aside0.mk hil; have hwlA := Aside0.mk hwl; have hewA := Aside0.mk hewL
        have h9 := Aside0.mk (fun (W : World) (hW : Below W9.heap.size W9 W) => hW)
        clear hL hLl hLs hidL hefL hewL hil hwl hE hs hso hst hok1 hok2 hsm2 hsm p1 p2
        have H0 : Below W9.heap.size W9 W9.drew := pw_below_drewN (Below.refl _ _) 1
        go_wp2_with fail
        refine cut_at (fun a0 e a' W' => e = .normal ∧ ∃ v59 v63 : Value, a' = (((((((((((((((a0.put (some 51) (.agg #[.slice (some ⟨g, 0, none⟩) t.sp.length m1, .slice B2 t.co.length m2, .bool t.firm])).put (some 52) (hv (idv t))).put (some 53) (.pointer (some ⟨w.heap.size, 0, none⟩))).put (some 54) (.agg (trc t A1 A2 c1 c2).toArray)).put (some 55) (hv (idv t))).put (some 56) (.bool false)).put (some 57) (.bool false)).put (some 58) (.agg #[.slice (some ⟨g, 0, none⟩) t.sp.length m1, .slice B2 t.co.length m2, .bool t.firm])).put (some 59) (v59)).put (some 60) (.string (strOfNums E))).put (some 61) (.pointer (some ⟨w.heap.size, 0, none⟩))).put (some 62) (.agg (trc t A1 A2 c1 c2).toArray)).put (some 63) (v63)).put (some 64) (.string (strOfNums E))).put (some 65) (.bool false)).put (some 66) (.bool false) ∧ Below W9.heap.size W9 W') ?_ ?_
        · refine wp_region_noPanic ?_
          refine wp_region_held_drew (S := fun V1 => Below W9.heap.size W9 V1) (by kernel_rfl) H0 (fun _ => ?_)
          generalize W9.drew = V0 at *
          -- REGION 8
          refine wpAnyH_take (i := 0) (v := .agg #[.slice (some ⟨g, 0, none⟩) t.sp.length m1, .slice B2 t.co.length m2, .bool t.firm]) (op_at rfl) (by kernel_rfl) (by kernel_rfl) (by kernel_rfl) (fun _ _ _ h => h) (yieldsIf_load_any (by rfl) _ _ rfl ⟨O, 0, none⟩ rfl _ _ (fun w_ hSw => (OOe.out.below (h9.out _ hSw)).add) Tryd.underlying25 rfl (hi3A.out _ _ _)) H0 ?_
          try simp only [Act.put, List.setIfInBounds_toArray, List.set_cons_zero, List.set_cons_succ]
          refine wpAnyH_take (i := 2) (v := .pointer (some ⟨w.heap.size, 0, none⟩)) (op_at rfl) (by kernel_rfl) (by kernel_rfl) (by kernel_rfl) (fun _ _ _ h => h) (Or.inl ⟨by rfl, fun w_ hSw => ?_⟩) H0 ?_
          · skip; go_simp
          try simp only [Act.put, List.setIfInBounds_toArray, List.set_cons_zero, List.set_cons_succ]
          refine wpAnyH_take (i := 3) (v := .agg (trc t A1 A2 c1 c2).toArray) (op_at rfl) (by kernel_rfl) (by kernel_rfl) (by kernel_rfl) (fun _ _ _ h => h) (yieldsIf_load_any (by rfl) _ _ rfl ⟨w.heap.size, 0, none⟩ rfl _ _ (fun w_ hSw => (oth_tx (XXe.out.below (h9.out _ hSw)))) Tryd.underlying25 rfl hiA.out) H0 ?_
          try simp only [Act.put, List.setIfInBounds_toArray, List.set_cons_zero, List.set_cons_succ]
          refine wpAnyH_ready (rs := [1]) (by kernel_rfl) (by simp) ?_
          refine AllReadyH.cons (op_at rfl) (fun K hK => ?_) AllReadyH.nil
          go_simp
          go_at_call 8
          with_reducible refine (hIo.out V0 (h9.out _ H0)).mono ?_
          rintro e V1_ ⟨rfl, hb⟩
          go_wp2_with fail
          refine hK.out _ _ (below_then H0 H0.size hb) (fun H1_ => ?_)
          clear hK K hb
          try simp only [Act.put, List.setIfInBounds_toArray, List.set_cons_zero, List.set_cons_succ]
          refine wpAnyH_ready (rs := [4]) (by kernel_rfl) (by simp) ?_
          refine AllReadyH.cons (op_at rfl) (fun K hK => ?_) AllReadyH.nil
          go_simp
          go_at_call 8
          with_reducible refine (hIt.out V1_ (h9.out _ H1_)).mono ?_
          rintro e V2_ ⟨rfl, hb⟩
          go_wp2_with fail
          refine hK.out _ _ (below_then H1_ H1_.size hb) (fun H2_ => ?_)
          clear hK K hb
          try simp only [Act.put, List.setIfInBounds_toArray, List.set_cons_zero, List.set_cons_succ]
          refine wpAnyH_take (i := 5) (v := .bool false) (op_at rfl) (by kernel_rfl) (by kernel_rfl) (by kernel_rfl) (fun _ _ _ h => h) (Or.inl ⟨by rfl, fun w_ hSw => exec_neq_same (.tmp 52) (.tmp 55) rfl (idv t) rfl rfl hilA.out w_⟩) H2_ ?_
          try simp only [Act.put, List.setIfInBounds_toArray, List.set_cons_zero, List.set_cons_succ]
          refine wpAnyH_take (i := 6) (v := .bool false) (op_at rfl) (by kernel_rfl) (by kernel_rfl) (by kernel_rfl) (fun _ _ _ h => h) (Or.inl ⟨by rfl, fun w_ hSw => ?_⟩) H2_ ?_
          · skip; go_simp
          try simp only [Act.put, List.setIfInBounds_toArray, List.set_cons_zero, List.set_cons_succ]
          refine wpAnyH_take (i := 7) (v := .agg #[.slice (some ⟨g, 0, none⟩) t.sp.length m1, .slice B2 t.co.length m2, .bool t.firm]) (op_at rfl) (by kernel_rfl) (by kernel_rfl) (by kernel_rfl) (fun _ _ _ h => h) (yieldsIf_load_any (by rfl) _ _ rfl ⟨O, 0, none⟩ rfl _ _ (fun w_ hSw => (OOe.out.below (h9.out _ hSw)).add) Tryd.underlying25 rfl (hi3A.out _ _ _)) H2_ ?_
          try simp only [Act.put, List.setIfInBounds_toArray, List.set_cons_zero, List.set_cons_succ]
          refine wpAnyH_take (i := 10) (v := .pointer (some ⟨w.heap.size, 0, none⟩)) (op_at rfl) (by kernel_rfl) (by kernel_rfl) (by kernel_rfl) (fun _ _ _ h => h) (Or.inl ⟨by rfl, fun w_ hSw => ?_⟩) H2_ ?_
          · skip; go_simp
          try simp only [Act.put, List.setIfInBounds_toArray, List.set_cons_zero, List.set_cons_succ]
          refine wpAnyH_take (i := 11) (v := .agg (trc t A1 A2 c1 c2).toArray) (op_at rfl) (by kernel_rfl) (by kernel_rfl) (by kernel_rfl) (fun _ _ _ h => h) (yieldsIf_load_any (by rfl) _ _ rfl ⟨w.heap.size, 0, none⟩ rfl _ _ (fun w_ hSw => (oth_tx (XXe.out.below (h9.out _ hSw)))) Tryd.underlying25 rfl hiA.out) H2_ ?_
          try simp only [Act.put, List.setIfInBounds_toArray, List.set_cons_zero, List.set_cons_succ]
          refine wpAnyH_ready (rs := [8]) (by kernel_rfl) (by simp) ?_
          refine AllReadyH.cons (op_at rfl) (fun K hK => ?_) AllReadyH.nil
          go_simp
          go_at_call 9
          with_reducible refine (hBo.out V2_ (h9.out _ H2_)).mono ?_
          rintro e V3_ ⟨v_, rfl, hR_, hb_⟩
          obtain ⟨AKA_3, cKA_3, hv_⟩ := Kd.R_slice hR_
          subst hv_
          go_wp2_with fail
          refine hK.out _ _ (below_then H2_ H2_.size hb_) (fun H3_ => ?_)
          have KA_3 := Aside0.mk hR_
          clear hK K hb_ hR_
          try simp only [Act.put, List.setIfInBounds_toArray, List.set_cons_zero, List.set_cons_succ]
          refine wpAnyH_ready (rs := [9, 12]) (by kernel_rfl) (by simp) ?_
          refine AllReadyH.cons (op_at rfl) (fun K hK => ?_) (AllReadyH.cons (op_at rfl) (fun K hK => ?_) AllReadyH.nil)
          · have hc_ := run_text V3_ AKA_3 cKA_3 E (Kd.R_reads' KA_3.out).2.2
            go_simp
            clear hc_
            refine hK.out _ _ H3_ (fun H4_ => ?_)
            clear hK K
            try simp only [Act.put, List.setIfInBounds_toArray, List.set_cons_zero, List.set_cons_succ]
            refine wpAnyH_ready (rs := [12]) (by kernel_rfl) (by simp) ?_
            refine AllReadyH.cons (op_at rfl) (fun K hK => ?_) AllReadyH.nil
            go_simp
            go_at_call 9
            with_reducible refine (hBt.out V3_ (h9.out _ H4_)).mono ?_
            rintro e V5_ ⟨v_, rfl, hR_, hb_⟩
            obtain ⟨AKB_5, cKB_5, hv_⟩ := Kd.R_slice hR_
            subst hv_
            go_wp2_with fail
            refine hK.out _ _ (below_then H4_ H4_.size hb_) (fun H5_ => ?_)
            have KA_5 := Aside0.mk (Kd.R_below KA_3.out hb_)
            have KB_5 := Aside0.mk hR_
            clear hK K hb_ hR_
            try simp only [Act.put, List.setIfInBounds_toArray, List.set_cons_zero, List.set_cons_succ]
            refine wpAnyH_ready (rs := [13]) (by kernel_rfl) (by simp) ?_
            refine AllReadyH.cons (op_at rfl) (fun K hK => ?_) AllReadyH.nil
            have hc_ := run_text V5_ AKB_5 cKB_5 E (Kd.R_reads' KB_5.out).2.2
            go_simp
            clear hc_
            refine hK.out _ _ H5_ (fun H6_ => ?_)
            clear hK K
            try simp only [Act.put, List.setIfInBounds_toArray, List.set_cons_zero, List.set_cons_succ]
            refine wpAnyH_take (i := 14) (v := .bool false) (op_at rfl) (by kernel_rfl) (by kernel_rfl) (by kernel_rfl) (fun _ _ _ h => h) (Or.inl ⟨by rfl, fun w_ hSw => ?_⟩) H6_ ?_
            · skip; go_simp
            try simp only [Act.put, List.setIfInBounds_toArray, List.set_cons_zero, List.set_cons_succ]
            refine wpAnyH_take (i := 15) (v := .bool false) (op_at rfl) (by kernel_rfl) (by kernel_rfl) (by kernel_rfl) (fun _ _ _ h => h) (Or.inl ⟨by rfl, fun w_ hSw => ?_⟩) H6_ ?_
            · skip; go_simp
            try simp only [Act.put, List.setIfInBounds_toArray, List.set_cons_zero, List.set_cons_succ]
            refine wpAnyH_done (by kernel_rfl) ?_ _
            refine NoPanic.normal ?_
            exact ⟨rfl, .slice AKA_3 E.length cKA_3, .slice AKB_5 E.length cKB_5, by simp only [Act.put, List.setIfInBounds_toArray, List.set_cons_zero, List.set_cons_succ], H6_⟩
          · go_simp
            go_at_call 9
            with_reducible refine (hBt.out V3_ (h9.out _ H3_)).mono ?_
            rintro e V7_ ⟨v_, rfl, hR_, hb_⟩
            obtain ⟨AKB_7, cKB_7, hv_⟩ := Kd.R_slice hR_
            subst hv_
            go_wp2_with fail
            refine hK.out _ _ (below_then H3_ H3_.size hb_) (fun H7_ => ?_)
            have KA_7 := Aside0.mk (Kd.R_below KA_3.out hb_)
            have KB_7 := Aside0.mk hR_
            clear hK K hb_ hR_
            try simp only [Act.put, List.setIfInBounds_toArray, List.set_cons_zero, List.set_cons_succ]
            refine wpAnyH_ready (rs := [9, 13]) (by kernel_rfl) (by simp) ?_
            refine AllReadyH.cons (op_at rfl) (fun K hK => ?_) (AllReadyH.cons (op_at rfl) (fun K hK => ?_) AllReadyH.nil)
            · have hc_ := run_text V7_ AKA_3 cKA_3 E (Kd.R_reads' KA_7.out).2.2
              go_simp
              clear hc_
              refine hK.out _ _ H7_ (fun H8_ => ?_)
              clear hK K
              try simp only [Act.put, List.setIfInBounds_toArray, List.set_cons_zero, List.set_cons_succ]
              refine wpAnyH_ready (rs := [13]) (by kernel_rfl) (by simp) ?_
              refine AllReadyH.cons (op_at rfl) (fun K hK => ?_) AllReadyH.nil
              have hc_ := run_text V7_ AKB_7 cKB_7 E (Kd.R_reads' KB_7.out).2.2
              go_simp
              clear hc_
              refine hK.out _ _ H8_ (fun H9_ => ?_)
              clear hK K
              try simp only [Act.put, List.setIfInBounds_toArray, List.set_cons_zero, List.set_cons_succ]
              refine wpAnyH_take (i := 14) (v := .bool false) (op_at rfl) (by kernel_rfl) (by kernel_rfl) (by kernel_rfl) (fun _ _ _ h => h) (Or.inl ⟨by rfl, fun w_ hSw => ?_⟩) H9_ ?_
              · skip; go_simp
              try simp only [Act.put, List.setIfInBounds_toArray, List.set_cons_zero, List.set_cons_succ]
              refine wpAnyH_take (i := 15) (v := .bool false) (op_at rfl) (by kernel_rfl) (by kernel_rfl) (by kernel_rfl) (fun _ _ _ h => h) (Or.inl ⟨by rfl, fun w_ hSw => ?_⟩) H9_ ?_
              · skip; go_simp
              try simp only [Act.put, List.setIfInBounds_toArray, List.set_cons_zero, List.set_cons_succ]
              refine wpAnyH_done (by kernel_rfl) ?_ _
              refine NoPanic.normal ?_
              exact ⟨rfl, .slice AKA_3 E.length cKA_3, .slice AKB_7 E.length cKB_7, by simp only [Act.put, List.setIfInBounds_toArray, List.set_cons_zero, List.set_cons_succ], H9_⟩
            · have hc_ := run_text V7_ AKB_7 cKB_7 E (Kd.R_reads' KB_7.out).2.2
              go_simp
              clear hc_
              refine hK.out _ _ H7_ (fun H10_ => ?_)
              clear hK K
              try simp only [Act.put, List.setIfInBounds_toArray, List.set_cons_zero, List.set_cons_succ]
              refine wpAnyH_ready (rs := [9]) (by kernel_rfl) (by simp) ?_
              refine AllReadyH.cons (op_at rfl) (fun K hK => ?_) AllReadyH.nil
              have hc_ := run_text V7_ AKA_3 cKA_3 E (Kd.R_reads' KA_7.out).2.2
              go_simp
              clear hc_
              refine hK.out _ _ H10_ (fun H11_ => ?_)
              clear hK K
              try simp only [Act.put, List.setIfInBounds_toArray, List.set_cons_zero, List.set_cons_succ]
              refine wpAnyH_take (i := 14) (v := .bool false) (op_at rfl) (by kernel_rfl) (by kernel_rfl) (by kernel_rfl) (fun _ _ _ h => h) (Or.inl ⟨by rfl, fun w_ hSw => ?_⟩) H11_ ?_
              · skip; go_simp
              try simp only [Act.put, List.setIfInBounds_toArray, List.set_cons_zero, List.set_cons_succ]
              refine wpAnyH_take (i := 15) (v := .bool false) (op_at rfl) (by kernel_rfl) (by kernel_rfl) (by kernel_rfl) (fun _ _ _ h => h) (Or.inl ⟨by rfl, fun w_ hSw => ?_⟩) H11_ ?_
              · skip; go_simp
              try simp only [Act.put, List.setIfInBounds_toArray, List.set_cons_zero, List.set_cons_succ]
              refine wpAnyH_done (by kernel_rfl) ?_ _
              refine NoPanic.normal ?_
              exact ⟨rfl, .slice AKA_3 E.length cKA_3, .slice AKB_7 E.length cKB_7, by simp only [Act.put, List.setIfInBounds_toArray, List.set_cons_zero, List.set_cons_succ], H11_⟩
          -- END 8
        rintro e a' W10 ⟨rfl, v59, v63, rfl, hb10⟩
        simp only [Act.put, List.setIfInBounds_toArray, List.set_cons_zero, List.set_cons_succ]
        have b10A := Aside0.mk hb10
        clear hb10 H0
        obtain ⟨sm, hsm⟩ : ∃ sm, sm = sameT ⟨L, t.co, t.firm⟩ t := ⟨_, rfl⟩
        rw [← hsm] at hN
        have hsmA := Aside0.mk hsm
        clear hsm
        have q5 := (XXe.out.below b10A.out).get 5 _ rfl
        go_wp2_with (first | ((with_reducible refine gate_dst (N := 67) rfl ?_); (refine wpList_load_blk rfl 25 (.tmp 3) rfl O 25 rfl [.slice (some ⟨g, 0, none⟩) t.sp.length m1, .slice B2 t.co.length m2, .bool t.firm] _ (OOe.out.below b10A.out) Tryd.underlying25 rfl (hi3A.out _ _ _) ?_)) | ((with_reducible refine gate_dst (N := 69) rfl ?_); (refine wpList_load_c (by rfl) 25 (.tmp 68) rfl ⟨w.heap.size, 0, none⟩ rfl (trc t A1 A2 c1 c2) _ (oth_tx (XXe.out.below b10A.out)) Tryd.underlying25 rfl hiA.out ?_)) | (go_at_call 10; ((with_reducible refine (hN.out _ b10A.out).mono ?_); rintro e W11 ⟨rfl, hb11⟩; have b11A := Aside0.mk (below_then b10A.out b10A.out.size hb11); clear hb11 q5)))
        have H0 : Below W11.heap.size W11 W11.drew := pw_below_drewN (Below.refl _ _) 1
        have h9 := Aside0.mk (fun (W : World) (hW : Below W11.heap.size W11 W) => below_then b11A.out b11A.out.size hW)
        refine wp_region_noPanic ?_
        refine wp_region_held_drew (S := fun V1 => Below W11.heap.size W11 V1) (by kernel_rfl) H0 (fun _ => ?_)
        generalize W11.drew = V0 at *
        cases sm
        · have hne : ((strOfNums (enc true ⟨L, t.co, t.firm⟩)).toList == (strOfNums (enc true t)).toList) = false := by
            rw [beq_eq_false_iff_ne]
            intro h
            have h1 : strOfNums (enc true ⟨L, t.co, t.firm⟩) = strOfNums (enc true t) := by
              rw [ByteArray.toList_eq, ByteArray.toList_eq] at h
              have h2 := Array.toList_inj.1 h
              generalize strOfNums (enc true ⟨L, t.co, t.firm⟩) = x at h2
              generalize strOfNums (enc true t) = y at h2
              cases x; cases y
              simpa using h2
            have := (sameT_iff ⟨L, t.co, t.firm⟩ t).2 (hewA.out (str_inj h1 hEb.out hEb2.out))
            rw [this] at hsmA
            exact absurd hsmA.out (by decide)
          obtain ⟨E1, hE1⟩ : ∃ E, E = enc true ⟨L, t.co, t.firm⟩ := ⟨_, rfl⟩
          obtain ⟨E2, hE2⟩ : ∃ E, E = enc true t := ⟨_, rfl⟩
          rw [← hE1] at hYo hne
          rw [← hE2] at hYt hne
          have hneA := Aside0.mk hne
          clear hE1 hE2 hne
          -- REGION F
          refine wpAnyH_take (i := 0) (v := .agg #[.slice (some ⟨g, 0, none⟩) t.sp.length m1, .slice B2 t.co.length m2, .bool t.firm]) (op_at rfl) (by kernel_rfl) (by kernel_rfl) (by kernel_rfl) (fun _ _ _ h => h) (yieldsIf_load_any (by rfl) _ _ rfl ⟨O, 0, none⟩ rfl _ _ (fun w_ hSw => (OOe.out.below (h9.out _ hSw)).add) Tryd.underlying25 rfl (hi3A.out _ _ _)) H0 ?_
          try simp only [Act.put, List.setIfInBounds_toArray, List.set_cons_zero, List.set_cons_succ]
          refine wpAnyH_take (i := 3) (v := .pointer (some ⟨w.heap.size, 0, none⟩)) (op_at rfl) (by kernel_rfl) (by kernel_rfl) (by kernel_rfl) (fun _ _ _ h => h) (Or.inl ⟨by rfl, fun w_ hSw => ?_⟩) H0 ?_
          · skip; go_simp
          try simp only [Act.put, List.setIfInBounds_toArray, List.set_cons_zero, List.set_cons_succ]
          refine wpAnyH_take (i := 4) (v := .agg (trc t A1 A2 c1 c2).toArray) (op_at rfl) (by kernel_rfl) (by kernel_rfl) (by kernel_rfl) (fun _ _ _ h => h) (yieldsIf_load_any (by rfl) _ _ rfl ⟨w.heap.size, 0, none⟩ rfl _ _ (fun w_ hSw => (oth_tx (XXe.out.below (h9.out _ hSw)))) Tryd.underlying25 rfl hiA.out) H0 ?_
          try simp only [Act.put, List.setIfInBounds_toArray, List.set_cons_zero, List.set_cons_succ]
          refine wpAnyH_take (i := 8) (v := .bool false) (op_at rfl) (by kernel_rfl) (by kernel_rfl) (by kernel_rfl) (fun _ _ _ h => h) (Or.inl ⟨by rfl, fun w_ hSw => ?_⟩) H0 ?_
          · skip; go_simp
          try simp only [Act.put, List.setIfInBounds_toArray, List.set_cons_zero, List.set_cons_succ]
          refine wpAnyH_ready (rs := [1]) (by kernel_rfl) (by simp) ?_
          refine AllReadyH.cons (op_at rfl) (fun K hK => ?_) AllReadyH.nil
          go_simp
          go_at_call 11
          with_reducible refine (hYo.out V0 (h9.out _ H0)).mono ?_
          rintro e V1_ ⟨v_, rfl, hR_, hb_⟩
          obtain ⟨AKA_1, cKA_1, hv_⟩ := Kd.R_slice hR_
          subst hv_
          go_wp2_with fail
          refine hK.out _ _ (below_then H0 H0.size hb_) (fun H1_ => ?_)
          have KA_1 := Aside0.mk hR_
          clear hK K hb_ hR_
          try simp only [Act.put, List.setIfInBounds_toArray, List.set_cons_zero, List.set_cons_succ]
          refine wpAnyH_ready (rs := [2, 5]) (by kernel_rfl) (by simp) ?_
          refine AllReadyH.cons (op_at rfl) (fun K hK => ?_) (AllReadyH.cons (op_at rfl) (fun K hK => ?_) AllReadyH.nil)
          · have hc_ := run_text V1_ AKA_1 cKA_1 E1 (Kd.R_reads' KA_1.out).2.2
            go_simp
            clear hc_
            refine hK.out _ _ H1_ (fun H2_ => ?_)
            clear hK K
            try simp only [Act.put, List.setIfInBounds_toArray, List.set_cons_zero, List.set_cons_succ]
            refine wpAnyH_ready (rs := [5]) (by kernel_rfl) (by simp) ?_
            refine AllReadyH.cons (op_at rfl) (fun K hK => ?_) AllReadyH.nil
            go_simp
            go_at_call 11
            with_reducible refine (hYt.out V1_ (h9.out _ H2_)).mono ?_
            rintro e V3_ ⟨v_, rfl, hR_, hb_⟩
            obtain ⟨AKB_3, cKB_3, hv_⟩ := Kd.R_slice hR_
            subst hv_
            go_wp2_with fail
            refine hK.out _ _ (below_then H2_ H2_.size hb_) (fun H3_ => ?_)
            have KA_3 := Aside0.mk (Kd.R_below KA_1.out hb_)
            have KB_3 := Aside0.mk hR_
            clear hK K hb_ hR_
            try simp only [Act.put, List.setIfInBounds_toArray, List.set_cons_zero, List.set_cons_succ]
            refine wpAnyH_ready (rs := [6]) (by kernel_rfl) (by simp) ?_
            refine AllReadyH.cons (op_at rfl) (fun K hK => ?_) AllReadyH.nil
            have hc_ := run_text V3_ AKB_3 cKB_3 E2 (Kd.R_reads' KB_3.out).2.2
            go_simp
            clear hc_
            refine hK.out _ _ H3_ (fun H4_ => ?_)
            clear hK K
            try simp only [Act.put, List.setIfInBounds_toArray, List.set_cons_zero, List.set_cons_succ]
            refine wpAnyH_take (i := 7) (v := .bool false) (op_at rfl) (by kernel_rfl) (by kernel_rfl) (by kernel_rfl) (fun _ _ _ h => h) (Or.inl ⟨by rfl, fun w_ hSw => ?_⟩) H4_ ?_
            · have q_ := hneA.out; go_simp
            try simp only [Act.put, List.setIfInBounds_toArray, List.set_cons_zero, List.set_cons_succ]
            refine wpAnyH_take (i := 9) (v := .bool true) (op_at rfl) (by kernel_rfl) (by kernel_rfl) (by kernel_rfl) (fun _ _ _ h => h) (Or.inl ⟨by rfl, fun w_ hSw => ?_⟩) H4_ ?_
            · skip; go_simp
            try simp only [Act.put, List.setIfInBounds_toArray, List.set_cons_zero, List.set_cons_succ]
            refine wpAnyH_take (i := 10) (v := .bool true) (op_at rfl) (by kernel_rfl) (by kernel_rfl) (by kernel_rfl) (fun _ _ _ h => h) (Or.inl ⟨by rfl, fun w_ hSw => ?_⟩) H4_ ?_
            · skip; go_simp
            try simp only [Act.put, List.setIfInBounds_toArray, List.set_cons_zero, List.set_cons_succ]
            refine wpAnyH_take (i := 11) (v := .bool false) (op_at rfl) (by kernel_rfl) (by kernel_rfl) (by kernel_rfl) (fun _ _ _ h => h) (Or.inl ⟨by rfl, fun w_ hSw => ?_⟩) H4_ ?_
            · skip; go_simp
            try simp only [Act.put, List.setIfInBounds_toArray, List.set_cons_zero, List.set_cons_succ]
            refine wpAnyH_take (i := 12) (v := .bool true) (op_at rfl) (by kernel_rfl) (by kernel_rfl) (by kernel_rfl) (fun _ _ _ h => h) (Or.inl ⟨by rfl, fun w_ hSw => ?_⟩) H4_ ?_
            · skip; go_simp
            try simp only [Act.put, List.setIfInBounds_toArray, List.set_cons_zero, List.set_cons_succ]
            refine wpAnyH_take (i := 13) (v := .bool true) (op_at rfl) (by kernel_rfl) (by kernel_rfl) (by kernel_rfl) (fun _ _ _ h => h) (Or.inl ⟨by rfl, fun w_ hSw => ?_⟩) H4_ ?_
            · skip; go_simp
            try simp only [Act.put, List.setIfInBounds_toArray, List.set_cons_zero, List.set_cons_succ]
            refine wpAnyH_take (i := 14) (v := undef) (op_at rfl) (by kernel_rfl) (by kernel_rfl) (by kernel_rfl) (fun _ _ _ h => h) (Or.inr ⟨by rfl, rfl⟩) H4_ ?_
            try simp only [Act.put, List.setIfInBounds_toArray, List.set_cons_zero, List.set_cons_succ]
            refine wpAnyH_take (i := 15) (v := undef) (op_at rfl) (by kernel_rfl) (by kernel_rfl) (by kernel_rfl) (fun _ _ _ h => h) (Or.inr ⟨by rfl, rfl⟩) H4_ ?_
            try simp only [Act.put, List.setIfInBounds_toArray, List.set_cons_zero, List.set_cons_succ]
            refine wpAnyH_take (i := 16) (v := undef) (op_at rfl) (by kernel_rfl) (by kernel_rfl) (by kernel_rfl) (fun _ _ _ h => h) (Or.inr ⟨by rfl, rfl⟩) H4_ ?_
            try simp only [Act.put, List.setIfInBounds_toArray, List.set_cons_zero, List.set_cons_succ]
            refine wpAnyH_take (i := 17) (v := undef) (op_at rfl) (by kernel_rfl) (by kernel_rfl) (by kernel_rfl) (fun _ _ _ h => h) (Or.inr ⟨by rfl, rfl⟩) H4_ ?_
            try simp only [Act.put, List.setIfInBounds_toArray, List.set_cons_zero, List.set_cons_succ]
            refine wpAnyH_take (i := 18) (v := undef) (op_at rfl) (by kernel_rfl) (by kernel_rfl) (by kernel_rfl) (fun _ _ _ h => h) (Or.inr ⟨by rfl, rfl⟩) H4_ ?_
            try simp only [Act.put, List.setIfInBounds_toArray, List.set_cons_zero, List.set_cons_succ]
            refine wpAnyH_take (i := 19) (v := undef) (op_at rfl) (by kernel_rfl) (by kernel_rfl) (by kernel_rfl) (fun _ _ _ h => h) (Or.inr ⟨by rfl, rfl⟩) H4_ ?_
            try simp only [Act.put, List.setIfInBounds_toArray, List.set_cons_zero, List.set_cons_succ]
            refine wpAnyH_take (i := 20) (v := .bool true) (op_at rfl) (by kernel_rfl) (by kernel_rfl) (by kernel_rfl) (fun _ _ _ h => h) (Or.inl ⟨by rfl, fun w_ hSw => ?_⟩) H4_ ?_
            · skip; go_simp
            try simp only [Act.put, List.setIfInBounds_toArray, List.set_cons_zero, List.set_cons_succ]
            refine wpAnyH_take (i := 21) (v := .bool true) (op_at rfl) (by kernel_rfl) (by kernel_rfl) (by kernel_rfl) (fun _ _ _ h => h) (Or.inl ⟨by rfl, fun w_ hSw => ?_⟩) H4_ ?_
            · skip; go_simp
            try simp only [Act.put, List.setIfInBounds_toArray, List.set_cons_zero, List.set_cons_succ]
            refine wpAnyH_take (i := 22) (v := .bool true) (op_at rfl) (by kernel_rfl) (by kernel_rfl) (by kernel_rfl) (fun _ _ _ h => h) (Or.inl ⟨by rfl, fun w_ hSw => ?_⟩) H4_ ?_
            · skip; go_simp
            try simp only [Act.put, List.setIfInBounds_toArray, List.set_cons_zero, List.set_cons_succ]
            refine wpAnyH_done (by kernel_rfl) ?_ _
            refine NoPanic.normal ?_
            have hHA := Aside0.mk H4_
            go_wp2
            go_ret
            exact ⟨rfl, below_then BBe.out BBe.out.size (h9.out _ hHA.out)⟩
          · go_simp
            go_at_call 11
            with_reducible refine (hYt.out V1_ (h9.out _ H1_)).mono ?_
            rintro e V5_ ⟨v_, rfl, hR_, hb_⟩
            obtain ⟨AKB_5, cKB_5, hv_⟩ := Kd.R_slice hR_
            subst hv_
            go_wp2_with fail
            refine hK.out _ _ (below_then H1_ H1_.size hb_) (fun H5_ => ?_)
            have KA_5 := Aside0.mk (Kd.R_below KA_1.out hb_)
            have KB_5 := Aside0.mk hR_
            clear hK K hb_ hR_
            try simp only [Act.put, List.setIfInBounds_toArray, List.set_cons_zero, List.set_cons_succ]
            refine wpAnyH_ready (rs := [2, 6]) (by kernel_rfl) (by simp) ?_
            refine AllReadyH.cons (op_at rfl) (fun K hK => ?_) (AllReadyH.cons (op_at rfl) (fun K hK => ?_) AllReadyH.nil)
            · have hc_ := run_text V5_ AKA_1 cKA_1 E1 (Kd.R_reads' KA_5.out).2.2
              go_simp
              clear hc_
              refine hK.out _ _ H5_ (fun H6_ => ?_)
              clear hK K
              try simp only [Act.put, List.setIfInBounds_toArray, List.set_cons_zero, List.set_cons_succ]
              refine wpAnyH_ready (rs := [6]) (by kernel_rfl) (by simp) ?_
              refine AllReadyH.cons (op_at rfl) (fun K hK => ?_) AllReadyH.nil
              have hc_ := run_text V5_ AKB_5 cKB_5 E2 (Kd.R_reads' KB_5.out).2.2
              go_simp
              clear hc_
              refine hK.out _ _ H6_ (fun H7_ => ?_)
              clear hK K
              try simp only [Act.put, List.setIfInBounds_toArray, List.set_cons_zero, List.set_cons_succ]
              refine wpAnyH_take (i := 7) (v := .bool false) (op_at rfl) (by kernel_rfl) (by kernel_rfl) (by kernel_rfl) (fun _ _ _ h => h) (Or.inl ⟨by rfl, fun w_ hSw => ?_⟩) H7_ ?_
              · have q_ := hneA.out; go_simp
              try simp only [Act.put, List.setIfInBounds_toArray, List.set_cons_zero, List.set_cons_succ]
              refine wpAnyH_take (i := 9) (v := .bool true) (op_at rfl) (by kernel_rfl) (by kernel_rfl) (by kernel_rfl) (fun _ _ _ h => h) (Or.inl ⟨by rfl, fun w_ hSw => ?_⟩) H7_ ?_
              · skip; go_simp
              try simp only [Act.put, List.setIfInBounds_toArray, List.set_cons_zero, List.set_cons_succ]
              refine wpAnyH_take (i := 10) (v := .bool true) (op_at rfl) (by kernel_rfl) (by kernel_rfl) (by kernel_rfl) (fun _ _ _ h => h) (Or.inl ⟨by rfl, fun w_ hSw => ?_⟩) H7_ ?_
              · skip; go_simp
              try simp only [Act.put, List.setIfInBounds_toArray, List.set_cons_zero, List.set_cons_succ]
              refine wpAnyH_take (i := 11) (v := .bool false) (op_at rfl) (by kernel_rfl) (by kernel_rfl) (by kernel_rfl) (fun _ _ _ h => h) (Or.inl ⟨by rfl, fun w_ hSw => ?_⟩) H7_ ?_
              · skip; go_simp
              try simp only [Act.put, List.setIfInBounds_toArray, List.set_cons_zero, List.set_cons_succ]
              refine wpAnyH_take (i := 12) (v := .bool true) (op_at rfl) (by kernel_rfl) (by kernel_rfl) (by kernel_rfl) (fun _ _ _ h => h) (Or.inl ⟨by rfl, fun w_ hSw => ?_⟩) H7_ ?_
              · skip; go_simp
              try simp only [Act.put, List.setIfInBounds_toArray, List.set_cons_zero, List.set_cons_succ]
              refine wpAnyH_take (i := 13) (v := .bool true) (op_at rfl) (by kernel_rfl) (by kernel_rfl) (by kernel_rfl) (fun _ _ _ h => h) (Or.inl ⟨by rfl, fun w_ hSw => ?_⟩) H7_ ?_
              · skip; go_simp
              try simp only [Act.put, List.setIfInBounds_toArray, List.set_cons_zero, List.set_cons_succ]
              refine wpAnyH_take (i := 14) (v := undef) (op_at rfl) (by kernel_rfl) (by kernel_rfl) (by kernel_rfl) (fun _ _ _ h => h) (Or.inr ⟨by rfl, rfl⟩) H7_ ?_
              try simp only [Act.put, List.setIfInBounds_toArray, List.set_cons_zero, List.set_cons_succ]
              refine wpAnyH_take (i := 15) (v := undef) (op_at rfl) (by kernel_rfl) (by kernel_rfl) (by kernel_rfl) (fun _ _ _ h => h) (Or.inr ⟨by rfl, rfl⟩) H7_ ?_
              try simp only [Act.put, List.setIfInBounds_toArray, List.set_cons_zero, List.set_cons_succ]
              refine wpAnyH_take (i := 16) (v := undef) (op_at rfl) (by kernel_rfl) (by kernel_rfl) (by kernel_rfl) (fun _ _ _ h => h) (Or.inr ⟨by rfl, rfl⟩) H7_ ?_
              try simp only [Act.put, List.setIfInBounds_toArray, List.set_cons_zero, List.set_cons_succ]
              refine wpAnyH_take (i := 17) (v := undef) (op_at rfl) (by kernel_rfl) (by kernel_rfl) (by kernel_rfl) (fun _ _ _ h => h) (Or.inr ⟨by rfl, rfl⟩) H7_ ?_
              try simp only [Act.put, List.setIfInBounds_toArray, List.set_cons_zero, List.set_cons_succ]
              refine wpAnyH_take (i := 18) (v := undef) (op_at rfl) (by kernel_rfl) (by kernel_rfl) (by kernel_rfl) (fun _ _ _ h => h) (Or.inr ⟨by rfl, rfl⟩) H7_ ?_
              try simp only [Act.put, List.setIfInBounds_toArray, List.set_cons_zero, List.set_cons_succ]
              refine wpAnyH_take (i := 19) (v := undef) (op_at rfl) (by kernel_rfl) (by kernel_rfl) (by kernel_rfl) (fun _ _ _ h => h) (Or.inr ⟨by rfl, rfl⟩) H7_ ?_
              try simp only [Act.put, List.setIfInBounds_toArray, List.set_cons_zero, List.set_cons_succ]
              refine wpAnyH_take (i := 20) (v := .bool true) (op_at rfl) (by kernel_rfl) (by kernel_rfl) (by kernel_rfl) (fun _ _ _ h => h) (Or.inl ⟨by rfl, fun w_ hSw => ?_⟩) H7_ ?_
              · skip; go_simp
              try simp only [Act.put, List.setIfInBounds_toArray, List.set_cons_zero, List.set_cons_succ]
              refine wpAnyH_take (i := 21) (v := .bool true) (op_at rfl) (by kernel_rfl) (by kernel_rfl) (by kernel_rfl) (fun _ _ _ h => h) (Or.inl ⟨by rfl, fun w_ hSw => ?_⟩) H7_ ?_
              · skip; go_simp
              try simp only [Act.put, List.setIfInBounds_toArray, List.set_cons_zero, List.set_cons_succ]
              refine wpAnyH_take (i := 22) (v := .bool true) (op_at rfl) (by kernel_rfl) (by kernel_rfl) (by kernel_rfl) (fun _ _ _ h => h) (Or.inl ⟨by rfl, fun w_ hSw => ?_⟩) H7_ ?_
              · skip; go_simp
              try simp only [Act.put, List.setIfInBounds_toArray, List.set_cons_zero, List.set_cons_succ]
              refine wpAnyH_done (by kernel_rfl) ?_ _
              refine NoPanic.normal ?_
              have hHA := Aside0.mk H7_
              go_wp2
              go_ret
              exact ⟨rfl, below_then BBe.out BBe.out.size (h9.out _ hHA.out)⟩
            · have hc_ := run_text V5_ AKB_5 cKB_5 E2 (Kd.R_reads' KB_5.out).2.2
              go_simp
              clear hc_
              refine hK.out _ _ H5_ (fun H8_ => ?_)
              clear hK K
              try simp only [Act.put, List.setIfInBounds_toArray, List.set_cons_zero, List.set_cons_succ]
              refine wpAnyH_ready (rs := [2]) (by kernel_rfl) (by simp) ?_
              refine AllReadyH.cons (op_at rfl) (fun K hK => ?_) AllReadyH.nil
              have hc_ := run_text V5_ AKA_1 cKA_1 E1 (Kd.R_reads' KA_5.out).2.2
              go_simp
              clear hc_
              refine hK.out _ _ H8_ (fun H9_ => ?_)
              clear hK K
              try simp only [Act.put, List.setIfInBounds_toArray, List.set_cons_zero, List.set_cons_succ]
              refine wpAnyH_take (i := 7) (v := .bool false) (op_at rfl) (by kernel_rfl) (by kernel_rfl) (by kernel_rfl) (fun _ _ _ h => h) (Or.inl ⟨by rfl, fun w_ hSw => ?_⟩) H9_ ?_
              · have q_ := hneA.out; go_simp
              try simp only [Act.put, List.setIfInBounds_toArray, List.set_cons_zero, List.set_cons_succ]
              refine wpAnyH_take (i := 9) (v := .bool true) (op_at rfl) (by kernel_rfl) (by kernel_rfl) (by kernel_rfl) (fun _ _ _ h => h) (Or.inl ⟨by rfl, fun w_ hSw => ?_⟩) H9_ ?_
              · skip; go_simp
              try simp only [Act.put, List.setIfInBounds_toArray, List.set_cons_zero, List.set_cons_succ]
              refine wpAnyH_take (i := 10) (v := .bool true) (op_at rfl) (by kernel_rfl) (by kernel_rfl) (by kernel_rfl) (fun _ _ _ h => h) (Or.inl ⟨by rfl, fun w_ hSw => ?_⟩) H9_ ?_
              · skip; go_simp
              try simp only [Act.put, List.setIfInBounds_toArray, List.set_cons_zero, List.set_cons_succ]
              refine wpAnyH_take (i := 11) (v := .bool false) (op_at rfl) (by kernel_rfl) (by kernel_rfl) (by kernel_rfl) (fun _ _ _ h => h) (Or.inl ⟨by rfl, fun w_ hSw => ?_⟩) H9_ ?_
              · skip; go_simp
              try simp only [Act.put, List.setIfInBounds_toArray, List.set_cons_zero, List.set_cons_succ]
              refine wpAnyH_take (i := 12) (v := .bool true) (op_at rfl) (by kernel_rfl) (by kernel_rfl) (by kernel_rfl) (fun _ _ _ h => h) (Or.inl ⟨by rfl, fun w_ hSw => ?_⟩) H9_ ?_
              · skip; go_simp
              try simp only [Act.put, List.setIfInBounds_toArray, List.set_cons_zero, List.set_cons_succ]
              refine wpAnyH_take (i := 13) (v := .bool true) (op_at rfl) (by kernel_rfl) (by kernel_rfl) (by kernel_rfl) (fun _ _ _ h => h) (Or.inl ⟨by rfl, fun w_ hSw => ?_⟩) H9_ ?_
              · skip; go_simp
              try simp only [Act.put, List.setIfInBounds_toArray, List.set_cons_zero, List.set_cons_succ]
              refine wpAnyH_take (i := 14) (v := undef) (op_at rfl) (by kernel_rfl) (by kernel_rfl) (by kernel_rfl) (fun _ _ _ h => h) (Or.inr ⟨by rfl, rfl⟩) H9_ ?_
              try simp only [Act.put, List.setIfInBounds_toArray, List.set_cons_zero, List.set_cons_succ]
              refine wpAnyH_take (i := 15) (v := undef) (op_at rfl) (by kernel_rfl) (by kernel_rfl) (by kernel_rfl) (fun _ _ _ h => h) (Or.inr ⟨by rfl, rfl⟩) H9_ ?_
              try simp only [Act.put, List.setIfInBounds_toArray, List.set_cons_zero, List.set_cons_succ]
              refine wpAnyH_take (i := 16) (v := undef) (op_at rfl) (by kernel_rfl) (by kernel_rfl) (by kernel_rfl) (fun _ _ _ h => h) (Or.inr ⟨by rfl, rfl⟩) H9_ ?_
              try simp only [Act.put, List.setIfInBounds_toArray, List.set_cons_zero, List.set_cons_succ]
              refine wpAnyH_take (i := 17) (v := undef) (op_at rfl) (by kernel_rfl) (by kernel_rfl) (by kernel_rfl) (fun _ _ _ h => h) (Or.inr ⟨by rfl, rfl⟩) H9_ ?_
              try simp only [Act.put, List.setIfInBounds_toArray, List.set_cons_zero, List.set_cons_succ]
              refine wpAnyH_take (i := 18) (v := undef) (op_at rfl) (by kernel_rfl) (by kernel_rfl) (by kernel_rfl) (fun _ _ _ h => h) (Or.inr ⟨by rfl, rfl⟩) H9_ ?_
              try simp only [Act.put, List.setIfInBounds_toArray, List.set_cons_zero, List.set_cons_succ]
              refine wpAnyH_take (i := 19) (v := undef) (op_at rfl) (by kernel_rfl) (by kernel_rfl) (by kernel_rfl) (fun _ _ _ h => h) (Or.inr ⟨by rfl, rfl⟩) H9_ ?_
              try simp only [Act.put, List.setIfInBounds_toArray, List.set_cons_zero, List.set_cons_succ]
              refine wpAnyH_take (i := 20) (v := .bool true) (op_at rfl) (by kernel_rfl) (by kernel_rfl) (by kernel_rfl) (fun _ _ _ h => h) (Or.inl ⟨by rfl, fun w_ hSw => ?_⟩) H9_ ?_
              · skip; go_simp
              try simp only [Act.put, List.setIfInBounds_toArray, List.set_cons_zero, List.set_cons_succ]
              refine wpAnyH_take (i := 21) (v := .bool true) (op_at rfl) (by kernel_rfl) (by kernel_rfl) (by kernel_rfl) (fun _ _ _ h => h) (Or.inl ⟨by rfl, fun w_ hSw => ?_⟩) H9_ ?_
              · skip; go_simp
              try simp only [Act.put, List.setIfInBounds_toArray, List.set_cons_zero, List.set_cons_succ]
              refine wpAnyH_take (i := 22) (v := .bool true) (op_at rfl) (by kernel_rfl) (by kernel_rfl) (by kernel_rfl) (fun _ _ _ h => h) (Or.inl ⟨by rfl, fun w_ hSw => ?_⟩) H9_ ?_
              · skip; go_simp
              try simp only [Act.put, List.setIfInBounds_toArray, List.set_cons_zero, List.set_cons_succ]
              refine wpAnyH_done (by kernel_rfl) ?_ _
              refine NoPanic.normal ?_
              have hHA := Aside0.mk H9_
              go_wp2
              go_ret
              exact ⟨rfl, below_then BBe.out BBe.out.size (h9.out _ hHA.out)⟩
          -- END F
        · have hTT : (⟨L, t.co, t.firm⟩ : Tr) = t := sameT_eq hsmA.out.symm
          rw [show enc true ⟨L, t.co, t.firm⟩ = enc true t from by rw [hTT]] at hYo
          rw [show wdv ⟨L, t.co, t.firm⟩ = wdv t from by rw [hTT]] at hWo
          obtain ⟨E2, hE2⟩ : ∃ E, E = enc true t := ⟨_, rfl⟩
          rw [← hE2] at hYt hYo
          clear hE2 hTT
          -- REGION T
          refine wpAnyH_take (i := 0) (v := .agg #[.slice (some ⟨g, 0, none⟩) t.sp.length m1, .slice B2 t.co.length m2, .bool t.firm]) (op_at rfl) (by kernel_rfl) (by kernel_rfl) (by kernel_rfl) (fun _ _ _ h => h) (yieldsIf_load_any (by rfl) _ _ rfl ⟨O, 0, none⟩ rfl _ _ (fun w_ hSw => (OOe.out.below (h9.out _ hSw)).add) Tryd.underlying25 rfl (hi3A.out _ _ _)) H0 ?_
          try simp only [Act.put, List.setIfInBounds_toArray, List.set_cons_zero, List.set_cons_succ]
          refine wpAnyH_take (i := 3) (v := .pointer (some ⟨w.heap.size, 0, none⟩)) (op_at rfl) (by kernel_rfl) (by kernel_rfl) (by kernel_rfl) (fun _ _ _ h => h) (Or.inl ⟨by rfl, fun w_ hSw => ?_⟩) H0 ?_
          · skip; go_simp
          try simp only [Act.put, List.setIfInBounds_toArray, List.set_cons_zero, List.set_cons_succ]
          refine wpAnyH_take (i := 4) (v := .agg (trc t A1 A2 c1 c2).toArray) (op_at rfl) (by kernel_rfl) (by kernel_rfl) (by kernel_rfl) (fun _ _ _ h => h) (yieldsIf_load_any (by rfl) _ _ rfl ⟨w.heap.size, 0, none⟩ rfl _ _ (fun w_ hSw => (oth_tx (XXe.out.below (h9.out _ hSw)))) Tryd.underlying25 rfl hiA.out) H0 ?_
          try simp only [Act.put, List.setIfInBounds_toArray, List.set_cons_zero, List.set_cons_succ]
          refine wpAnyH_take (i := 8) (v := .bool true) (op_at rfl) (by kernel_rfl) (by kernel_rfl) (by kernel_rfl) (fun _ _ _ h => h) (Or.inl ⟨by rfl, fun w_ hSw => ?_⟩) H0 ?_
          · skip; go_simp
          try simp only [Act.put, List.setIfInBounds_toArray, List.set_cons_zero, List.set_cons_succ]
          refine wpAnyH_ready (rs := [1]) (by kernel_rfl) (by simp) ?_
          refine AllReadyH.cons (op_at rfl) (fun K hK => ?_) AllReadyH.nil
          go_simp
          go_at_call 11
          with_reducible refine (hYo.out V0 (h9.out _ H0)).mono ?_
          rintro e V1_ ⟨v_, rfl, hR_, hb_⟩
          obtain ⟨AKA_1, cKA_1, hv_⟩ := Kd.R_slice hR_
          subst hv_
          go_wp2_with fail
          refine hK.out _ _ (below_then H0 H0.size hb_) (fun H1_ => ?_)
          have KA_1 := Aside0.mk hR_
          clear hK K hb_ hR_
          try simp only [Act.put, List.setIfInBounds_toArray, List.set_cons_zero, List.set_cons_succ]
          refine wpAnyH_ready (rs := [2, 5]) (by kernel_rfl) (by simp) ?_
          refine AllReadyH.cons (op_at rfl) (fun K hK => ?_) (AllReadyH.cons (op_at rfl) (fun K hK => ?_) AllReadyH.nil)
          · have hc_ := run_text V1_ AKA_1 cKA_1 E2 (Kd.R_reads' KA_1.out).2.2
            go_simp
            clear hc_
            refine hK.out _ _ H1_ (fun H2_ => ?_)
            clear hK K
            try simp only [Act.put, List.setIfInBounds_toArray, List.set_cons_zero, List.set_cons_succ]
            refine wpAnyH_ready (rs := [5]) (by kernel_rfl) (by simp) ?_
            refine AllReadyH.cons (op_at rfl) (fun K hK => ?_) AllReadyH.nil
            go_simp
            go_at_call 11
            with_reducible refine (hYt.out V1_ (h9.out _ H2_)).mono ?_
            rintro e V3_ ⟨v_, rfl, hR_, hb_⟩
            obtain ⟨AKB_3, cKB_3, hv_⟩ := Kd.R_slice hR_
            subst hv_
            go_wp2_with fail
            refine hK.out _ _ (below_then H2_ H2_.size hb_) (fun H3_ => ?_)
            have KA_3 := Aside0.mk (Kd.R_below KA_1.out hb_)
            have KB_3 := Aside0.mk hR_
            clear hK K hb_ hR_
            try simp only [Act.put, List.setIfInBounds_toArray, List.set_cons_zero, List.set_cons_succ]
            refine wpAnyH_ready (rs := [6]) (by kernel_rfl) (by simp) ?_
            refine AllReadyH.cons (op_at rfl) (fun K hK => ?_) AllReadyH.nil
            have hc_ := run_text V3_ AKB_3 cKB_3 E2 (Kd.R_reads' KB_3.out).2.2
            go_simp
            clear hc_
            refine hK.out _ _ H3_ (fun H4_ => ?_)
            clear hK K
            try simp only [Act.put, List.setIfInBounds_toArray, List.set_cons_zero, List.set_cons_succ]
            refine wpAnyH_take (i := 7) (v := .bool true) (op_at rfl) (by kernel_rfl) (by kernel_rfl) (by kernel_rfl) (fun _ _ _ h => h) (Or.inl ⟨by rfl, fun w_ hSw => ?_⟩) H4_ ?_
            · skip; go_simp
            try simp only [Act.put, List.setIfInBounds_toArray, List.set_cons_zero, List.set_cons_succ]
            refine wpAnyH_take (i := 9) (v := .bool true) (op_at rfl) (by kernel_rfl) (by kernel_rfl) (by kernel_rfl) (fun _ _ _ h => h) (Or.inl ⟨by rfl, fun w_ hSw => ?_⟩) H4_ ?_
            · skip; go_simp
            try simp only [Act.put, List.setIfInBounds_toArray, List.set_cons_zero, List.set_cons_succ]
            refine wpAnyH_take (i := 10) (v := .bool true) (op_at rfl) (by kernel_rfl) (by kernel_rfl) (by kernel_rfl) (fun _ _ _ h => h) (Or.inl ⟨by rfl, fun w_ hSw => ?_⟩) H4_ ?_
            · skip; go_simp
            try simp only [Act.put, List.setIfInBounds_toArray, List.set_cons_zero, List.set_cons_succ]
            refine wpAnyH_take (i := 11) (v := .bool true) (op_at rfl) (by kernel_rfl) (by kernel_rfl) (by kernel_rfl) (fun _ _ _ h => h) (Or.inl ⟨by rfl, fun w_ hSw => ?_⟩) H4_ ?_
            · skip; go_simp
            try simp only [Act.put, List.setIfInBounds_toArray, List.set_cons_zero, List.set_cons_succ]
            refine wpAnyH_take (i := 12) (v := .bool false) (op_at rfl) (by kernel_rfl) (by kernel_rfl) (by kernel_rfl) (fun _ _ _ h => h) (Or.inl ⟨by rfl, fun w_ hSw => ?_⟩) H4_ ?_
            · skip; go_simp
            try simp only [Act.put, List.setIfInBounds_toArray, List.set_cons_zero, List.set_cons_succ]
            refine wpAnyH_take (i := 13) (v := .bool false) (op_at rfl) (by kernel_rfl) (by kernel_rfl) (by kernel_rfl) (fun _ _ _ h => h) (Or.inl ⟨by rfl, fun w_ hSw => ?_⟩) H4_ ?_
            · skip; go_simp
            try simp only [Act.put, List.setIfInBounds_toArray, List.set_cons_zero, List.set_cons_succ]
            refine wpAnyH_take (i := 14) (v := .agg #[.slice (some ⟨g, 0, none⟩) t.sp.length m1, .slice B2 t.co.length m2, .bool t.firm]) (op_at rfl) (by kernel_rfl) (by kernel_rfl) (by kernel_rfl) (fun _ _ _ h => h) (yieldsIf_load_any (by rfl) _ _ rfl ⟨O, 0, none⟩ rfl _ _ (fun w_ hSw => (OOe.out.below (h9.out _ hSw)).add) Tryd.underlying25 rfl (hi3A.out _ _ _)) H4_ ?_
            try simp only [Act.put, List.setIfInBounds_toArray, List.set_cons_zero, List.set_cons_succ]
            refine wpAnyH_take (i := 16) (v := .pointer (some ⟨w.heap.size, 0, none⟩)) (op_at rfl) (by kernel_rfl) (by kernel_rfl) (by kernel_rfl) (fun _ _ _ h => h) (Or.inl ⟨by rfl, fun w_ hSw => ?_⟩) H4_ ?_
            · skip; go_simp
            try simp only [Act.put, List.setIfInBounds_toArray, List.set_cons_zero, List.set_cons_succ]
            refine wpAnyH_take (i := 17) (v := .agg (trc t A1 A2 c1 c2).toArray) (op_at rfl) (by kernel_rfl) (by kernel_rfl) (by kernel_rfl) (fun _ _ _ h => h) (yieldsIf_load_any (by rfl) _ _ rfl ⟨w.heap.size, 0, none⟩ rfl _ _ (fun w_ hSw => (oth_tx (XXe.out.below (h9.out _ hSw)))) Tryd.underlying25 rfl hiA.out) H4_ ?_
            try simp only [Act.put, List.setIfInBounds_toArray, List.set_cons_zero, List.set_cons_succ]
            refine wpAnyH_ready (rs := [15]) (by kernel_rfl) (by simp) ?_
            refine AllReadyH.cons (op_at rfl) (fun K hK => ?_) AllReadyH.nil
            go_simp
            go_at_call 12
            with_reducible refine (hWo.out V3_ (h9.out _ H4_)).mono ?_
            rintro e V5_ ⟨rfl, hb⟩
            go_wp2_with fail
            refine hK.out _ _ (below_then H4_ H4_.size hb) (fun H5_ => ?_)
            have KA_5 := Aside0.mk (Kd.R_below KA_3.out hb)
            have KB_5 := Aside0.mk (Kd.R_below KB_3.out hb)
            clear hK K hb
            try simp only [Act.put, List.setIfInBounds_toArray, List.set_cons_zero, List.set_cons_succ]
            refine wpAnyH_ready (rs := [18]) (by kernel_rfl) (by simp) ?_
            refine AllReadyH.cons (op_at rfl) (fun K hK => ?_) AllReadyH.nil
            go_simp
            go_at_call 12
            with_reducible refine (hWt.out V5_ (h9.out _ H5_)).mono ?_
            rintro e V6_ ⟨rfl, hb⟩
            go_wp2_with fail
            refine hK.out _ _ (below_then H5_ H5_.size hb) (fun H6_ => ?_)
            have KA_6 := Aside0.mk (Kd.R_below KA_5.out hb)
            have KB_6 := Aside0.mk (Kd.R_below KB_5.out hb)
            clear hK K hb
            try simp only [Act.put, List.setIfInBounds_toArray, List.set_cons_zero, List.set_cons_succ]
            refine wpAnyH_take (i := 19) (v := .bool true) (op_at rfl) (by kernel_rfl) (by kernel_rfl) (by kernel_rfl) (fun _ _ _ h => h) (Or.inl ⟨by rfl, fun w_ hSw => exec_eql_same (.tmp 86) (.tmp 89) rfl (wdv t) rfl rfl hwlA.out w_⟩) H6_ ?_
            try simp only [Act.put, List.setIfInBounds_toArray, List.set_cons_zero, List.set_cons_succ]
            refine wpAnyH_take (i := 20) (v := .bool true) (op_at rfl) (by kernel_rfl) (by kernel_rfl) (by kernel_rfl) (fun _ _ _ h => h) (Or.inl ⟨by rfl, fun w_ hSw => ?_⟩) H6_ ?_
            · skip; go_simp
            try simp only [Act.put, List.setIfInBounds_toArray, List.set_cons_zero, List.set_cons_succ]
            refine wpAnyH_take (i := 21) (v := .bool true) (op_at rfl) (by kernel_rfl) (by kernel_rfl) (by kernel_rfl) (fun _ _ _ h => h) (Or.inl ⟨by rfl, fun w_ hSw => ?_⟩) H6_ ?_
            · skip; go_simp
            try simp only [Act.put, List.setIfInBounds_toArray, List.set_cons_zero, List.set_cons_succ]
            refine wpAnyH_take (i := 22) (v := .bool true) (op_at rfl) (by kernel_rfl) (by kernel_rfl) (by kernel_rfl) (fun _ _ _ h => h) (Or.inl ⟨by rfl, fun w_ hSw => ?_⟩) H6_ ?_
            · skip; go_simp
            try simp only [Act.put, List.setIfInBounds_toArray, List.set_cons_zero, List.set_cons_succ]
            refine wpAnyH_done (by kernel_rfl) ?_ _
            refine NoPanic.normal ?_
            have hHA := Aside0.mk H6_
            go_wp2
            go_ret
            exact ⟨rfl, below_then BBe.out BBe.out.size (h9.out _ hHA.out)⟩
          · go_simp
            go_at_call 11
            with_reducible refine (hYt.out V1_ (h9.out _ H1_)).mono ?_
            rintro e V7_ ⟨v_, rfl, hR_, hb_⟩
            obtain ⟨AKB_7, cKB_7, hv_⟩ := Kd.R_slice hR_
            subst hv_
            go_wp2_with fail
            refine hK.out _ _ (below_then H1_ H1_.size hb_) (fun H7_ => ?_)
            have KA_7 := Aside0.mk (Kd.R_below KA_1.out hb_)
            have KB_7 := Aside0.mk hR_
            clear hK K hb_ hR_
            try simp only [Act.put, List.setIfInBounds_toArray, List.set_cons_zero, List.set_cons_succ]
            refine wpAnyH_ready (rs := [2, 6]) (by kernel_rfl) (by simp) ?_
            refine AllReadyH.cons (op_at rfl) (fun K hK => ?_) (AllReadyH.cons (op_at rfl) (fun K hK => ?_) AllReadyH.nil)
            · have hc_ := run_text V7_ AKA_1 cKA_1 E2 (Kd.R_reads' KA_7.out).2.2
              go_simp
              clear hc_
              refine hK.out _ _ H7_ (fun H8_ => ?_)
              clear hK K
              try simp only [Act.put, List.setIfInBounds_toArray, List.set_cons_zero, List.set_cons_succ]
              refine wpAnyH_ready (rs := [6]) (by kernel_rfl) (by simp) ?_
              refine AllReadyH.cons (op_at rfl) (fun K hK => ?_) AllReadyH.nil
              have hc_ := run_text V7_ AKB_7 cKB_7 E2 (Kd.R_reads' KB_7.out).2.2
              go_simp
              clear hc_
              refine hK.out _ _ H8_ (fun H9_ => ?_)
              clear hK K
              try simp only [Act.put, List.setIfInBounds_toArray, List.set_cons_zero, List.set_cons_succ]
              refine wpAnyH_take (i := 7) (v := .bool true) (op_at rfl) (by kernel_rfl) (by kernel_rfl) (by kernel_rfl) (fun _ _ _ h => h) (Or.inl ⟨by rfl, fun w_ hSw => ?_⟩) H9_ ?_
              · skip; go_simp
              try simp only [Act.put, List.setIfInBounds_toArray, List.set_cons_zero, List.set_cons_succ]
              refine wpAnyH_take (i := 9) (v := .bool true) (op_at rfl) (by kernel_rfl) (by kernel_rfl) (by kernel_rfl) (fun _ _ _ h => h) (Or.inl ⟨by rfl, fun w_ hSw => ?_⟩) H9_ ?_
              · skip; go_simp
              try simp only [Act.put, List.setIfInBounds_toArray, List.set_cons_zero, List.set_cons_succ]
              refine wpAnyH_take (i := 10) (v := .bool true) (op_at rfl) (by kernel_rfl) (by kernel_rfl) (by kernel_rfl) (fun _ _ _ h => h) (Or.inl ⟨by rfl, fun w_ hSw => ?_⟩) H9_ ?_
              · skip; go_simp
              try simp only [Act.put, List.setIfInBounds_toArray, List.set_cons_zero, List.set_cons_succ]
              refine wpAnyH_take (i := 11) (v := .bool true) (op_at rfl) (by kernel_rfl) (by kernel_rfl) (by kernel_rfl) (fun _ _ _ h => h) (Or.inl ⟨by rfl, fun w_ hSw => ?_⟩) H9_ ?_
              · skip; go_simp
              try simp only [Act.put, List.setIfInBounds_toArray, List.set_cons_zero, List.set_cons_succ]
              refine wpAnyH_take (i := 12) (v := .bool false) (op_at rfl) (by kernel_rfl) (by kernel_rfl) (by kernel_rfl) (fun _ _ _ h => h) (Or.inl ⟨by rfl, fun w_ hSw => ?_⟩) H9_ ?_
              · skip; go_simp
              try simp only [Act.put, List.setIfInBounds_toArray, List.set_cons_zero, List.set_cons_succ]
              refine wpAnyH_take (i := 13) (v := .bool false) (op_at rfl) (by kernel_rfl) (by kernel_rfl) (by kernel_rfl) (fun _ _ _ h => h) (Or.inl ⟨by rfl, fun w_ hSw => ?_⟩) H9_ ?_
              · skip; go_simp
              try simp only [Act.put, List.setIfInBounds_toArray, List.set_cons_zero, List.set_cons_succ]
              refine wpAnyH_take (i := 14) (v := .agg #[.slice (some ⟨g, 0, none⟩) t.sp.length m1, .slice B2 t.co.length m2, .bool t.firm]) (op_at rfl) (by kernel_rfl) (by kernel_rfl) (by kernel_rfl) (fun _ _ _ h => h) (yieldsIf_load_any (by rfl) _ _ rfl ⟨O, 0, none⟩ rfl _ _ (fun w_ hSw => (OOe.out.below (h9.out _ hSw)).add) Tryd.underlying25 rfl (hi3A.out _ _ _)) H9_ ?_
              try simp only [Act.put, List.setIfInBounds_toArray, List.set_cons_zero, List.set_cons_succ]
              refine wpAnyH_take (i := 16) (v := .pointer (some ⟨w.heap.size, 0, none⟩)) (op_at rfl) (by kernel_rfl) (by kernel_rfl) (by kernel_rfl) (fun _ _ _ h => h) (Or.inl ⟨by rfl, fun w_ hSw => ?_⟩) H9_ ?_
              · skip; go_simp
              try simp only [Act.put, List.setIfInBounds_toArray, List.set_cons_zero, List.set_cons_succ]
              refine wpAnyH_take (i := 17) (v := .agg (trc t A1 A2 c1 c2).toArray) (op_at rfl) (by kernel_rfl) (by kernel_rfl) (by kernel_rfl) (fun _ _ _ h => h) (yieldsIf_load_any (by rfl) _ _ rfl ⟨w.heap.size, 0, none⟩ rfl _ _ (fun w_ hSw => (oth_tx (XXe.out.below (h9.out _ hSw)))) Tryd.underlying25 rfl hiA.out) H9_ ?_
              try simp only [Act.put, List.setIfInBounds_toArray, List.set_cons_zero, List.set_cons_succ]
              refine wpAnyH_ready (rs := [15]) (by kernel_rfl) (by simp) ?_
              refine AllReadyH.cons (op_at rfl) (fun K hK => ?_) AllReadyH.nil
              go_simp
              go_at_call 12
              with_reducible refine (hWo.out V7_ (h9.out _ H9_)).mono ?_
              rintro e V10_ ⟨rfl, hb⟩
              go_wp2_with fail
              refine hK.out _ _ (below_then H9_ H9_.size hb) (fun H10_ => ?_)
              have KA_10 := Aside0.mk (Kd.R_below KA_7.out hb)
              have KB_10 := Aside0.mk (Kd.R_below KB_7.out hb)
              clear hK K hb
              try simp only [Act.put, List.setIfInBounds_toArray, List.set_cons_zero, List.set_cons_succ]
              refine wpAnyH_ready (rs := [18]) (by kernel_rfl) (by simp) ?_
              refine AllReadyH.cons (op_at rfl) (fun K hK => ?_) AllReadyH.nil
              go_simp
              go_at_call 12
              with_reducible refine (hWt.out V10_ (h9.out _ H10_)).mono ?_
              rintro e V11_ ⟨rfl, hb⟩
              go_wp2_with fail
              refine hK.out _ _ (below_then H10_ H10_.size hb) (fun H11_ => ?_)
              have KA_11 := Aside0.mk (Kd.R_below KA_10.out hb)
              have KB_11 := Aside0.mk (Kd.R_below KB_10.out hb)
              clear hK K hb
              try simp only [Act.put, List.setIfInBounds_toArray, List.set_cons_zero, List.set_cons_succ]
              refine wpAnyH_take (i := 19) (v := .bool true) (op_at rfl) (by kernel_rfl) (by kernel_rfl) (by kernel_rfl) (fun _ _ _ h => h) (Or.inl ⟨by rfl, fun w_ hSw => exec_eql_same (.tmp 86) (.tmp 89) rfl (wdv t) rfl rfl hwlA.out w_⟩) H11_ ?_
              try simp only [Act.put, List.setIfInBounds_toArray, List.set_cons_zero, List.set_cons_succ]
              refine wpAnyH_take (i := 20) (v := .bool true) (op_at rfl) (by kernel_rfl) (by kernel_rfl) (by kernel_rfl) (fun _ _ _ h => h) (Or.inl ⟨by rfl, fun w_ hSw => ?_⟩) H11_ ?_
              · skip; go_simp
              try simp only [Act.put, List.setIfInBounds_toArray, List.set_cons_zero, List.set_cons_succ]
              refine wpAnyH_take (i := 21) (v := .bool true) (op_at rfl) (by kernel_rfl) (by kernel_rfl) (by kernel_rfl) (fun _ _ _ h => h) (Or.inl ⟨by rfl, fun w_ hSw => ?_⟩) H11_ ?_
              · skip; go_simp
              try simp only [Act.put, List.setIfInBounds_toArray, List.set_cons_zero, List.set_cons_succ]
              refine wpAnyH_take (i := 22) (v := .bool true) (op_at rfl) (by kernel_rfl) (by kernel_rfl) (by kernel_rfl) (fun _ _ _ h => h) (Or.inl ⟨by rfl, fun w_ hSw => ?_⟩) H11_ ?_
              · skip; go_simp
              try simp only [Act.put, List.setIfInBounds_toArray, List.set_cons_zero, List.set_cons_succ]
              refine wpAnyH_done (by kernel_rfl) ?_ _
              refine NoPanic.normal ?_
              have hHA := Aside0.mk H11_
              go_wp2
              go_ret
              exact ⟨rfl, below_then BBe.out BBe.out.size (h9.out _ hHA.out)⟩
            · have hc_ := run_text V7_ AKB_7 cKB_7 E2 (Kd.R_reads' KB_7.out).2.2
              go_simp
              clear hc_
              refine hK.out _ _ H7_ (fun H12_ => ?_)
              clear hK K
              try simp only [Act.put, List.setIfInBounds_toArray, List.set_cons_zero, List.set_cons_succ]
              refine wpAnyH_ready (rs := [2]) (by kernel_rfl) (by simp) ?_
              refine AllReadyH.cons (op_at rfl) (fun K hK => ?_) AllReadyH.nil
              have hc_ := run_text V7_ AKA_1 cKA_1 E2 (Kd.R_reads' KA_7.out).2.2
              go_simp
              clear hc_
              refine hK.out _ _ H12_ (fun H13_ => ?_)
              clear hK K
              try simp only [Act.put, List.setIfInBounds_toArray, List.set_cons_zero, List.set_cons_succ]
              refine wpAnyH_take (i := 7) (v := .bool true) (op_at rfl) (by kernel_rfl) (by kernel_rfl) (by kernel_rfl) (fun _ _ _ h => h) (Or.inl ⟨by rfl, fun w_ hSw => ?_⟩) H13_ ?_
              · skip; go_simp
              try simp only [Act.put, List.setIfInBounds_toArray, List.set_cons_zero, List.set_cons_succ]
              refine wpAnyH_take (i := 9) (v := .bool true) (op_at rfl) (by kernel_rfl) (by kernel_rfl) (by kernel_rfl) (fun _ _ _ h => h) (Or.inl ⟨by rfl, fun w_ hSw => ?_⟩) H13_ ?_
              · skip; go_simp
              try simp only [Act.put, List.setIfInBounds_toArray, List.set_cons_zero, List.set_cons_succ]
              refine wpAnyH_take (i := 10) (v := .bool true) (op_at rfl) (by kernel_rfl) (by kernel_rfl) (by kernel_rfl) (fun _ _ _ h => h) (Or.inl ⟨by rfl, fun w_ hSw => ?_⟩) H13_ ?_
              · skip; go_simp
              try simp only [Act.put, List.setIfInBounds_toArray, List.set_cons_zero, List.set_cons_succ]
              refine wpAnyH_take (i := 11) (v := .bool true) (op_at rfl) (by kernel_rfl) (by kernel_rfl) (by kernel_rfl) (fun _ _ _ h => h) (Or.inl ⟨by rfl, fun w_ hSw => ?_⟩) H13_ ?_
              · skip; go_simp
              try simp only [Act.put, List.setIfInBounds_toArray, List.set_cons_zero, List.set_cons_succ]
              refine wpAnyH_take (i := 12) (v := .bool false) (op_at rfl) (by kernel_rfl) (by kernel_rfl) (by kernel_rfl) (fun _ _ _ h => h) (Or.inl ⟨by rfl, fun w_ hSw => ?_⟩) H13_ ?_
              · skip; go_simp
              try simp only [Act.put, List.setIfInBounds_toArray, List.set_cons_zero, List.set_cons_succ]
              refine wpAnyH_take (i := 13) (v := .bool false) (op_at rfl) (by kernel_rfl) (by kernel_rfl) (by kernel_rfl) (fun _ _ _ h => h) (Or.inl ⟨by rfl, fun w_ hSw => ?_⟩) H13_ ?_
              · skip; go_simp
              try simp only [Act.put, List.setIfInBounds_toArray, List.set_cons_zero, List.set_cons_succ]
              refine wpAnyH_take (i := 14) (v := .agg #[.slice (some ⟨g, 0, none⟩) t.sp.length m1, .slice B2 t.co.length m2, .bool t.firm]) (op_at rfl) (by kernel_rfl) (by kernel_rfl) (by kernel_rfl) (fun _ _ _ h => h) (yieldsIf_load_any (by rfl) _ _ rfl ⟨O, 0, none⟩ rfl _ _ (fun w_ hSw => (OOe.out.below (h9.out _ hSw)).add) Tryd.underlying25 rfl (hi3A.out _ _ _)) H13_ ?_
              try simp only [Act.put, List.setIfInBounds_toArray, List.set_cons_zero, List.set_cons_succ]
              refine wpAnyH_take (i := 16) (v := .pointer (some ⟨w.heap.size, 0, none⟩)) (op_at rfl) (by kernel_rfl) (by kernel_rfl) (by kernel_rfl) (fun _ _ _ h => h) (Or.inl ⟨by rfl, fun w_ hSw => ?_⟩) H13_ ?_
              · skip; go_simp
              try simp only [Act.put, List.setIfInBounds_toArray, List.set_cons_zero, List.set_cons_succ]
              refine wpAnyH_take (i := 17) (v := .agg (trc t A1 A2 c1 c2).toArray) (op_at rfl) (by kernel_rfl) (by kernel_rfl) (by kernel_rfl) (fun _ _ _ h => h) (yieldsIf_load_any (by rfl) _ _ rfl ⟨w.heap.size, 0, none⟩ rfl _ _ (fun w_ hSw => (oth_tx (XXe.out.below (h9.out _ hSw)))) Tryd.underlying25 rfl hiA.out) H13_ ?_
              try simp only [Act.put, List.setIfInBounds_toArray, List.set_cons_zero, List.set_cons_succ]
              refine wpAnyH_ready (rs := [15]) (by kernel_rfl) (by simp) ?_
              refine AllReadyH.cons (op_at rfl) (fun K hK => ?_) AllReadyH.nil
              go_simp
              go_at_call 12
              with_reducible refine (hWo.out V7_ (h9.out _ H13_)).mono ?_
              rintro e V14_ ⟨rfl, hb⟩
              go_wp2_with fail
              refine hK.out _ _ (below_then H13_ H13_.size hb) (fun H14_ => ?_)
              have KA_14 := Aside0.mk (Kd.R_below KA_7.out hb)
              have KB_14 := Aside0.mk (Kd.R_below KB_7.out hb)
              clear hK K hb
              try simp only [Act.put, List.setIfInBounds_toArray, List.set_cons_zero, List.set_cons_succ]
              refine wpAnyH_ready (rs := [18]) (by kernel_rfl) (by simp) ?_
              refine AllReadyH.cons (op_at rfl) (fun K hK => ?_) AllReadyH.nil
              go_simp
              go_at_call 12
              with_reducible refine (hWt.out V14_ (h9.out _ H14_)).mono ?_
              rintro e V15_ ⟨rfl, hb⟩
              go_wp2_with fail
              refine hK.out _ _ (below_then H14_ H14_.size hb) (fun H15_ => ?_)
              have KA_15 := Aside0.mk (Kd.R_below KA_14.out hb)
              have KB_15 := Aside0.mk (Kd.R_below KB_14.out hb)
              clear hK K hb
              try simp only [Act.put, List.setIfInBounds_toArray, List.set_cons_zero, List.set_cons_succ]
              refine wpAnyH_take (i := 19) (v := .bool true) (op_at rfl) (by kernel_rfl) (by kernel_rfl) (by kernel_rfl) (fun _ _ _ h => h) (Or.inl ⟨by rfl, fun w_ hSw => exec_eql_same (.tmp 86) (.tmp 89) rfl (wdv t) rfl rfl hwlA.out w_⟩) H15_ ?_
              try simp only [Act.put, List.setIfInBounds_toArray, List.set_cons_zero, List.set_cons_succ]
              refine wpAnyH_take (i := 20) (v := .bool true) (op_at rfl) (by kernel_rfl) (by kernel_rfl) (by kernel_rfl) (fun _ _ _ h => h) (Or.inl ⟨by rfl, fun w_ hSw => ?_⟩) H15_ ?_
              · skip; go_simp
              try simp only [Act.put, List.setIfInBounds_toArray, List.set_cons_zero, List.set_cons_succ]
              refine wpAnyH_take (i := 21) (v := .bool true) (op_at rfl) (by kernel_rfl) (by kernel_rfl) (by kernel_rfl) (fun _ _ _ h => h) (Or.inl ⟨by rfl, fun w_ hSw => ?_⟩) H15_ ?_
              · skip; go_simp
              try simp only [Act.put, List.setIfInBounds_toArray, List.set_cons_zero, List.set_cons_succ]
              refine wpAnyH_take (i := 22) (v := .bool true) (op_at rfl) (by kernel_rfl) (by kernel_rfl) (by kernel_rfl) (fun _ _ _ h => h) (Or.inl ⟨by rfl, fun w_ hSw => ?_⟩) H15_ ?_
              · skip; go_simp
              try simp only [Act.put, List.setIfInBounds_toArray, List.set_cons_zero, List.set_cons_succ]
              refine wpAnyH_done (by kernel_rfl) ?_ _
              refine NoPanic.normal ?_
              have hHA := Aside0.mk H15_
              go_wp2
              go_ret
              exact ⟨rfl, below_then BBe.out BBe.out.size (h9.out _ hHA.out)⟩
          -- END T
  · go_enter Tryd.func3, Tryd.ntmps3
    go_wp2_with (first | (go_at_call 5; (rw [show (w.alloc (.cells #[.slice A1 t.sp.length c1, .slice A2 t.co.length c2, .bool t.firm, .int .i64 I, .string key, .int .u64 sel] 28)) = V from hVA.out.symm]; (with_reducible refine hAlA.out.mono ?_); rintro e w1 ⟨rfl, hb1⟩; have hXtA := Aside0.mk (hXA.out.below hb1); have hb1A := Aside0.mk (below_then hBA.out hBA.out.size hb1); clear hb1)) | ((with_reducible refine gate_dst (N := 9) rfl ?_); (refine wpList_load_c (by rfl) 25 (.tmp 8) rfl ⟨w.heap.size, 0, none⟩ rfl (trc t A1 A2 c1 c2) _ (oth_tx hXtA.out) Tryd.underlying25 rfl hiA.out ?_)) | (go_at_call 6; ((with_reducible refine (hLgA.out _ hb1A.out).mono ?_); rintro e w3 ⟨rfl, hb3⟩; rw [hlA.out]; have hX3 := hXtA.out.below ((below_alloc (Below.refl _ _) _).trans (hb3.mono (by simp))); have x0 := hX3.get 0 _ rfl; have hX3A := Aside0.mk hX3; clear hX3; have hb3A := Aside0.mk (below_then hb1A.out hb1A.out.size ((below_alloc (Below.refl _ _) _).trans (hb3.mono (by simp)))); clear hb3)))
    go_ret
    exact ⟨rfl, hb3A.out⟩
end Go.Proofs.YtlgfekllkahfaaaDoor.Walk
