/- The digest of any text.
   Conditions: none. -/
import Derived.Test.YtibiaacgcpgkbaaDoorShaS
import Derived.Test.YtibiaacgcpgkbaaDoorHashK
import Derived.Deep.RegionHeld3
set_option linter.unusedVariables false
set_option linter.unusedSimpArgs false
namespace Go.Proofs.YtibiaacgcpgkbaaDoor.Walk
open Go.RowKit Go.Proofs.YtibiaacgcpgkbaaDoorW.PrintWords Go.Proofs.YtibiaacgcpgkbaaDoorW.PrintMore Go.Proofs.YtibiaacgcpgkbaaDoor Go.Proofs.YtibiaacgcpgkbaaDoor.Bits Sha ArrK ShaW
theorem op_at {ops : Array Oper} {i : Nat} {o : Oper} (h : (ops.toList.drop i).head? = some o) : ops[i]? = some o := by
  rw [List.head?_drop] at h; simpa using h
/-- what is held while the region goes on -/
def HeldS (w : World) (bh : Nat) (s : List Int) (A A3 : Option Addr) (t : List Int) (V : World) : Prop := V.rangeAt bh 0 (nums .u8 s) ∧ Below w.heap.size w V ∧ bh < V.heap.size ∧ Kd.C (Kd.int .u8) V A t.length t ∧ Kd.C (Kd.int .u8) V A3 t.length t
section
variable {w V W' : World} {bh : Nat} {s : List Int} {A A3 : Option Addr} {t : List Int}
theorem heldS_of (hb : Below V.heap.size V W') (h : HeldS w bh s A A3 t V) : HeldS w bh s A A3 t W' :=
  ⟨fun j v hv => (hb.cell (p := ⟨bh, 0 + j, none⟩) h.2.2.1).trans (h.1 j v hv), below_then h.2.1 h.2.1.size hb, Nat.lt_of_lt_of_le h.2.2.1 hb.size, Kd.C_below h.2.2.2.1 hb, Kd.C_below h.2.2.2.2 hb⟩
theorem heldS_b (h : HeldS w bh s A A3 t V) : Below w.heap.size w V := h.2.1
theorem heldS_s (h : HeldS w bh s A A3 t V) (c : Nat) : (convert 22 9 (.slice A t.length c)).run Tryd.prog V = .ok (.string (strOfNums t)) V := Kd.C_string Tryd.underlying22 Tryd.underlying5 Tryd.underlying9 h.2.2.2.1
theorem heldS_s3 (h : HeldS w bh s A A3 t V) (c : Nat) : (convert 22 9 (.slice A3 t.length c)).run Tryd.prog V = .ok (.string (strOfNums t)) V := Kd.C_string Tryd.underlying22 Tryd.underlying5 Tryd.underlying9 h.2.2.2.2
end
set_option maxRecDepth 100000 in
set_option maxHeartbeats 400000 in
theorem DigestSums (t : List Int) (A : Option Addr) (c : Nat) (w : World) (hK : Kst w) (hBg : Bst w) (hRs : Rst w) (hr : Kd.C (Kd.int .u8) w A t.length t) (hc : t.length ≤ c) (hb : Bytes t) :
    Calls Tryd.prog 3 #[.slice A t.length c] w fun e w' => e = .returned (.bool true) ∧ Below w.heap.size w w' := by
  have hAl := Aside0.mk (alive_calls w hK hBg)
  have hrA := Aside0.mk hr; have hKA := Aside0.mk hK; have hBgA := Aside0.mk hBg; have hRsA := Aside0.mk hRs; have hbA := Aside0.mk hb; have hcA := Aside0.mk hc
  clear hr hK hBg hRs hb hc
  obtain ⟨s, hs⟩ : ∃ s, s = Sha.sum t := ⟨_, rfl⟩
  have hslA := Aside0.mk (show s.length = 32 by rw [hs]; exact sum_length t)
  have hsbA := Aside0.mk (show Bytes s by rw [hs]; exact Bytes.sum t)
  have hsA := Aside0.mk hs
  clear hs
  by_cases h1000 : t.length ≤ 1000
  · have d1 : decide ((t.length : Int) > 1000) = false := decide_eq_false (by omega)
    have d1' : ¬ (1000 : Int) < (t.length : Int) := by omega
    go_enter Tryd.func3, Tryd.ntmps3
    go_wp2_with (first | (go_at_call 8; with_reducible refine hAl.out.mono ?_; rintro e w1 ⟨rfl, hb1⟩; have hb1A := Aside0.mk hb1; have hC1 := Aside0.mk (Kd.C_below hrA.out hb1); clear hb1) | ((with_reducible refine gate_dst (N := 10) rfl ?_); refine Kd.R_lit (Kd.int .u8) (w0 := w) w.heap.size 5 ?hg (N := 10) ?hd (xs := ([] : List Int)) (inner := []) (ok := fun _ => True) (okp := fun _ => True) ?hr ?hp (fun _ hk => hk) trivial hb1A.out hb1A.out.size (by simp) ?_; (case hd => rfl); (case hg => rfl); (case hr => first | (go_simp; done) | (go_simp; rfl)); (case hp => exact (Reps.none _ _)); intro v10 w10 hR hB hg hn; have hR10 := Aside0.mk hR; have hB10 := Aside0.mk hB; have hC10 := Aside0.mk (Kd.C_below hrA.out hB); clear hR hB hg hn) | ((with_reducible refine gate_dst (N := 12) rfl ?_); at_builtin; refine Kd.R_append_rows (Kd.int .u8) (Rr := (Kd.int .u8).K w10) (w0 := w) w.heap.size rfl (.tmp 10) (.tmp 11) 22 5 (.int .u8 0) 1 rfl Tryd.underlying22 info_u8 rfl (by decide) (by decide) v10 [] t A t.length c (fun _ => True) (fun _ => False) rfl rfl hR10.out hC10.out (fun _ _ h => h) (fun _ h => h.elim) (fun _ _ => trivial) hB10.out hB10.out.size (by simp; omega) ?_; intro v12 w12 hR hB hg hn; rw [List.nil_append] at hR; obtain ⟨A3, c3, hv3, hc3, hC3⟩ := Kd.R_reads hR; subst hv3; have hB12 := Aside0.mk hB; have hC12 := Aside0.mk (Kd.C_below hrA.out hB); have hC3A := Aside0.mk hC3; have hc3A := Aside0.mk hc3; have hS1' := sum_lit1 w12 A3 c3 t hC3 hc3 (hKA.out.below hB) (hBgA.out.below hB) (by omega) hbA.out; rw [← hsA.out] at hS1'; have hS1 := Aside0.mk hS1'; clear hS1'; clear hR hB hg hn hR10 hB10 hC10 hC3 hc3) | (go_at_call 9; with_reducible refine hS1.out.mono ?_; rintro e w3 ⟨rfl, hb3⟩; have hb3A := Aside0.mk hb3; clear hb3) | ((with_reducible refine gate_dst (N := 4) rfl ?_); refine wpList_new_put rfl (N := 4) rfl rfl 25 (.tmp 15) rfl (nums .u8 s) (nums .u8 zero32) (by simp [nums, hslA.out]) ?hr rfl rfl (info_hash _ hslA.out) (u8_one _) ?_; (case hr => first | (go_simp; done) | (go_simp; rfl)); intro w4 hW4 hb4 hs4; have hW4A := Aside0.mk hW4; have hb4A := Aside0.mk hb4; have hbw := Aside0.mk (below_then (below_then hB12.out hB12.out.size hb3A.out) (Nat.le_trans hB12.out.size hb3A.out.size) hb4); clear hW4 hb4 hs4))
    have hsl := hslA.out
    have hsb := hsbA.out
    have hbyt := hbA.out
    have hdl : (dbl t).length = 32 := sum_length _
    have hs := hsA.out
    have hR4 := hW4A.out
    have hlt3 := hR4.lt
    have hC4 := Kd.C_below hC12.out ((below_then hb3A.out hb3A.out.size hb4A.out))
    have hC43 := Kd.C_below hC3A.out ((below_then hb3A.out hb3A.out.size hb4A.out))
    have hB34 := hbw.out
    obtain ⟨bh, hbh⟩ : ∃ bh, bh = w3.heap.size := ⟨_, rfl⟩
    rw [← hbh] at hR4 hlt3 ⊢
    clear hS1 hb3A hW4A hb4A hbw hbh hC12 hC3A
    have H0 : HeldS w bh s A A3 t w4.drew := ⟨fun j v hv => by rw [Nat.zero_add]; exact hR4.get j v hv, pw_below_drewN hB34 1, hlt3, hC4, hC43⟩
    have hr1 : ∀ V : World, HeldS w bh s A A3 t V → Calls Tryd.prog 10 #[.slice A t.length c] V fun e w' => e = .returned (hv s) ∧ Below V.heap.size V w' := fun V hS => by rw [hs]; exact rsum_calls t A c V hbyt (hRsA.out.below hS.2.1) hS.2.2.2.1 hcA.out (by omega)
    have hr2 := fun (V : World) (hS : HeldS w bh s A A3 t V) => rdouble_calls t A c V hbyt (hRsA.out.below hS.2.1) hS.2.2.2.1 hcA.out (by omega)
    have hL2 : ∀ (V : World) (b : Nat) (hb : Blk V b 22 [.slice A3 t.length c3]) (hS : HeldS w bh s A A3 t V), Calls Tryd.prog 11 #[.slice (some ⟨b, 0, none⟩) 1 1] V fun e w' => e = .returned (hv (dbl t)) ∧ Below V.heap.size V w' := fun V b hb hS => by
      have h := double_calls [t] (some ⟨b, 0, none⟩) 1 V (hKA.out.below hS.2.1) (hBgA.out.below hS.2.1) (kp_one hb hc3A.out hS.2.2.2.2) (Nat.le_refl _) (by show 1 ≤ _; decide) (by rw [flat_one]; omega) (by rw [flat_one]; exact hbyt)
      rw [flat_one] at h
      exact h
    have hWa := fun W => wordof_calls s hsb hsl W
    have hRa := fun W => rword_calls s hsb hsl W
    have hslB := Aside0.mk hsl; have hdlB := Aside0.mk hdl
    have hu36 := Tryd.underlying25
    have hi36 := info_hash s hsl
    generalize dbl t = d at *
    generalize w64 s = ws at *
    have hr1A := Aside0.mk hr1; have hr2A := Aside0.mk hr2; have hL2A := Aside0.mk hL2; have hWaA := Aside0.mk hWa; have hRaA := Aside0.mk hRa
    clear hs hR4 hlt3 hB34 hC4 hC43 hsl hsb hdl hbyt hr1 hr2 hL2 hWa hRa hbA hKA hBgA hRsA hrA hAl hb1A hC1 hB12 hcA d1 d1' hsA hslA hsbA
    have hcA := Aside0.mk h1000
    clear h1000
    refine wp_region_noPanic ?_
    refine wp_region_held_drew (S := HeldS w bh s A A3 t) (by kernel_rfl) H0 (fun _ => ?_)
    generalize w4.drew = V0 at *
    -- REGION
    refine wpAnyH_take (i := 0) (v := hv s) (op_at rfl) (by kernel_rfl) (by kernel_rfl) (by kernel_rfl) (fun _ _ _ h => h) (yieldsIf_load_mid (by rfl) _ _ rfl bh 0 rfl _ _ (fun w_ hSw => hSw.1) hu36 rfl hi36) H0 ?_
    try simp only [Act.put, List.setIfInBounds_toArray, List.set_cons_zero, List.set_cons_succ]
    refine wpAnyH_take (i := 1) (v := .slice A t.length c) (op_at rfl) (by kernel_rfl) (by kernel_rfl) (by kernel_rfl) (fun _ _ _ h => h) (Or.inl ⟨by rfl, fun w_ hSw => ?_⟩) H0 ?_
    · skip; go_simp
    try simp only [Act.put, List.setIfInBounds_toArray, List.set_cons_zero, List.set_cons_succ]
    refine wpAnyH_ready (rs := [2]) (by kernel_rfl) (by simp) ?_
    refine AllReadyH.cons (op_at rfl) (fun K hK => ?_) AllReadyH.nil
    go_simp
    go_at_call 10
    with_reducible refine (hr1A.out V0 H0).mono ?_
    rintro e V1_ ⟨rfl, hb⟩
    go_wp2_with fail
    refine hK.out _ _ (heldS_of hb H0) (fun H1_ => ?_)
    clear hK K hb
    try simp only [Act.put, List.setIfInBounds_toArray, List.set_cons_zero, List.set_cons_succ]
    refine wpAnyH_take (i := 3) (v := .bool true) (op_at rfl) (by kernel_rfl) (by kernel_rfl) (by kernel_rfl) (fun _ _ _ h => h) (Or.inl ⟨by rfl, fun w_ hSw => exec_eql_same (.tmp 16) (.tmp 18) rfl s rfl rfl hslB.out w_⟩) H1_ ?_
    try simp only [Act.put, List.setIfInBounds_toArray, List.set_cons_zero, List.set_cons_succ]
    refine wpAnyH_take (i := 4) (v := .bool true) (op_at rfl) (by kernel_rfl) (by kernel_rfl) (by kernel_rfl) (fun _ _ _ h => h) (Or.inl ⟨by rfl, fun w_ hSw => ?_⟩) H1_ ?_
    · skip; go_simp
    try simp only [Act.put, List.setIfInBounds_toArray, List.set_cons_zero, List.set_cons_succ]
    refine wpAnyH_take (i := 5) (v := .slice A3 t.length c3) (op_at rfl) (by kernel_rfl) (by kernel_rfl) (by kernel_rfl) (fun _ _ _ h => h) (Or.inl ⟨by rfl, fun w_ hSw => ?_⟩) H1_ ?_
    · skip; go_simp
    try simp only [Act.put, List.setIfInBounds_toArray, List.set_cons_zero, List.set_cons_succ]
    refine wpAnyH_take (i := 8) (v := .slice A t.length c) (op_at rfl) (by kernel_rfl) (by kernel_rfl) (by kernel_rfl) (fun _ _ _ h => h) (Or.inl ⟨by rfl, fun w_ hSw => ?_⟩) H1_ ?_
    · skip; go_simp
    try simp only [Act.put, List.setIfInBounds_toArray, List.set_cons_zero, List.set_cons_succ]
    refine wpAnyH_ready (rs := [6]) (by kernel_rfl) (by simp) ?_
    refine AllReadyH.cons (op_at rfl) (fun K hK => ?_) AllReadyH.nil
    go_simp
    have hb := below_alloc (Below.refl V1_.heap.size V1_) (.cells #[.slice A3 t.length c3] 22)
    refine hK.out _ _ (heldS_of hb H1_) (fun H2_ => ?_)
    have B1_2 := Blk.new V1_ 22 [.slice A3 t.length c3]
    clear hK K hb
    obtain ⟨V2_, hV_⟩ : ∃ V_, V_ = V1_.alloc (.cells #[.slice A3 t.length c3] 22) := ⟨_, rfl⟩
    rw [← hV_] at H2_ B1_2 ⊢
    obtain ⟨gB1_2, hg_⟩ : ∃ g_, g_ = V1_.heap.size := ⟨_, rfl⟩
    rw [← hg_] at B1_2 ⊢
    clear hV_ hg_
    try simp only [Act.put, List.setIfInBounds_toArray, List.set_cons_zero, List.set_cons_succ]
    refine wpAnyH_ready (rs := [7]) (by kernel_rfl) (by simp) ?_
    refine AllReadyH.cons (op_at rfl) (fun K hK => ?_) AllReadyH.nil
    go_simp
    go_at_call 11
    with_reducible refine (hL2A.out V2_ gB1_2 B1_2 H2_).mono ?_
    rintro e V3_ ⟨rfl, hb⟩
    go_wp2_with fail
    refine hK.out _ _ (heldS_of hb H2_) (fun H3_ => ?_)
    have B1_3 := Blk.below B1_2 hb
    clear hK K hb
    try simp only [Act.put, List.setIfInBounds_toArray, List.set_cons_zero, List.set_cons_succ]
    refine wpAnyH_ready (rs := [9]) (by kernel_rfl) (by simp) ?_
    refine AllReadyH.cons (op_at rfl) (fun K hK => ?_) AllReadyH.nil
    go_simp
    go_at_call 12
    with_reducible refine (hr2A.out V3_ H3_).mono ?_
    rintro e V4_ ⟨rfl, hb⟩
    go_wp2_with fail
    refine hK.out _ _ (heldS_of hb H3_) (fun H4_ => ?_)
    have B1_4 := Blk.below B1_3 hb
    clear hK K hb
    try simp only [Act.put, List.setIfInBounds_toArray, List.set_cons_zero, List.set_cons_succ]
    refine wpAnyH_take (i := 10) (v := .bool true) (op_at rfl) (by kernel_rfl) (by kernel_rfl) (by kernel_rfl) (fun _ _ _ h => h) (Or.inl ⟨by rfl, fun w_ hSw => exec_eql_same (.tmp 23) (.tmp 25) rfl d rfl rfl hdlB.out w_⟩) H4_ ?_
    try simp only [Act.put, List.setIfInBounds_toArray, List.set_cons_zero, List.set_cons_succ]
    refine wpAnyH_take (i := 11) (v := .bool true) (op_at rfl) (by kernel_rfl) (by kernel_rfl) (by kernel_rfl) (fun _ _ _ h => h) (Or.inl ⟨by rfl, fun w_ hSw => ?_⟩) H4_ ?_
    · skip; go_simp
    try simp only [Act.put, List.setIfInBounds_toArray, List.set_cons_zero, List.set_cons_succ]
    refine wpAnyH_take (i := 12) (v := .bool true) (op_at rfl) (by kernel_rfl) (by kernel_rfl) (by kernel_rfl) (fun _ _ _ h => h) (Or.inl ⟨by rfl, fun w_ hSw => ?_⟩) H4_ ?_
    · skip; go_simp
    try simp only [Act.put, List.setIfInBounds_toArray, List.set_cons_zero, List.set_cons_succ]
    refine wpAnyH_take (i := 13) (v := hv s) (op_at rfl) (by kernel_rfl) (by kernel_rfl) (by kernel_rfl) (fun _ _ _ h => h) (yieldsIf_load_mid (by rfl) _ _ rfl bh 0 rfl _ _ (fun w_ hSw => hSw.1) hu36 rfl hi36) H4_ ?_
    try simp only [Act.put, List.setIfInBounds_toArray, List.set_cons_zero, List.set_cons_succ]
    refine wpAnyH_take (i := 15) (v := hv s) (op_at rfl) (by kernel_rfl) (by kernel_rfl) (by kernel_rfl) (fun _ _ _ h => h) (yieldsIf_load_mid (by rfl) _ _ rfl bh 0 rfl _ _ (fun w_ hSw => hSw.1) hu36 rfl hi36) H4_ ?_
    try simp only [Act.put, List.setIfInBounds_toArray, List.set_cons_zero, List.set_cons_succ]
    refine wpAnyH_ready (rs := [14]) (by kernel_rfl) (by simp) ?_
    refine AllReadyH.cons (op_at rfl) (fun K hK => ?_) AllReadyH.nil
    go_simp
    go_at_call 13
    with_reducible refine (hWaA.out V4_).mono ?_
    rintro e V5_ ⟨rfl, hb⟩
    go_wp2_with fail
    refine hK.out _ _ (heldS_of hb H4_) (fun H5_ => ?_)
    have B1_5 := Blk.below B1_4 hb
    clear hK K hb
    try simp only [Act.put, List.setIfInBounds_toArray, List.set_cons_zero, List.set_cons_succ]
    refine wpAnyH_ready (rs := [16]) (by kernel_rfl) (by simp) ?_
    refine AllReadyH.cons (op_at rfl) (fun K hK => ?_) AllReadyH.nil
    go_simp
    go_at_call 14
    with_reducible refine (hRaA.out V5_).mono ?_
    rintro e V6_ ⟨rfl, hb⟩
    go_wp2_with fail
    refine hK.out _ _ (heldS_of hb H5_) (fun H6_ => ?_)
    have B1_6 := Blk.below B1_5 hb
    clear hK K hb
    try simp only [Act.put, List.setIfInBounds_toArray, List.set_cons_zero, List.set_cons_succ]
    refine wpAnyH_take (i := 17) (v := .bool true) (op_at rfl) (by kernel_rfl) (by kernel_rfl) (by kernel_rfl) (fun _ _ _ h => h) (Or.inl ⟨by rfl, fun w_ hSw => ?_⟩) H6_ ?_
    · skip; go_simp
    try simp only [Act.put, List.setIfInBounds_toArray, List.set_cons_zero, List.set_cons_succ]
    refine wpAnyH_take (i := 18) (v := .bool true) (op_at rfl) (by kernel_rfl) (by kernel_rfl) (by kernel_rfl) (fun _ _ _ h => h) (Or.inl ⟨by rfl, fun w_ hSw => ?_⟩) H6_ ?_
    · skip; go_simp
    try simp only [Act.put, List.setIfInBounds_toArray, List.set_cons_zero, List.set_cons_succ]
    refine wpAnyH_take (i := 19) (v := .bool true) (op_at rfl) (by kernel_rfl) (by kernel_rfl) (by kernel_rfl) (fun _ _ _ h => h) (Or.inl ⟨by rfl, fun w_ hSw => ?_⟩) H6_ ?_
    · skip; go_simp
    try simp only [Act.put, List.setIfInBounds_toArray, List.set_cons_zero, List.set_cons_succ]
    refine wpAnyH_take (i := 20) (v := .slice A3 t.length c3) (op_at rfl) (by kernel_rfl) (by kernel_rfl) (by kernel_rfl) (fun _ _ _ h => h) (Or.inl ⟨by rfl, fun w_ hSw => ?_⟩) H6_ ?_
    · skip; go_simp
    try simp only [Act.put, List.setIfInBounds_toArray, List.set_cons_zero, List.set_cons_succ]
    refine wpAnyH_take (i := 21) (v := .string (strOfNums t)) (op_at rfl) (by kernel_rfl) (by kernel_rfl) (by kernel_rfl) (fun _ _ _ h => h) (Or.inl ⟨by rfl, fun w_ hSw => ?_⟩) H6_ ?_
    · have hq := heldS_s3 hSw c3; go_simp
    try simp only [Act.put, List.setIfInBounds_toArray, List.set_cons_zero, List.set_cons_succ]
    refine wpAnyH_take (i := 22) (v := .slice A t.length c) (op_at rfl) (by kernel_rfl) (by kernel_rfl) (by kernel_rfl) (fun _ _ _ h => h) (Or.inl ⟨by rfl, fun w_ hSw => ?_⟩) H6_ ?_
    · skip; go_simp
    try simp only [Act.put, List.setIfInBounds_toArray, List.set_cons_zero, List.set_cons_succ]
    refine wpAnyH_take (i := 23) (v := .string (strOfNums t)) (op_at rfl) (by kernel_rfl) (by kernel_rfl) (by kernel_rfl) (fun _ _ _ h => h) (Or.inl ⟨by rfl, fun w_ hSw => ?_⟩) H6_ ?_
    · have hq := heldS_s hSw c; go_simp
    try simp only [Act.put, List.setIfInBounds_toArray, List.set_cons_zero, List.set_cons_succ]
    refine wpAnyH_take (i := 24) (v := .bool true) (op_at rfl) (by kernel_rfl) (by kernel_rfl) (by kernel_rfl) (fun _ _ _ h => h) (Or.inl ⟨by rfl, fun w_ hSw => ?_⟩) H6_ ?_
    · skip; go_simp
    try simp only [Act.put, List.setIfInBounds_toArray, List.set_cons_zero, List.set_cons_succ]
    refine wpAnyH_take (i := 25) (v := .bool true) (op_at rfl) (by kernel_rfl) (by kernel_rfl) (by kernel_rfl) (fun _ _ _ h => h) (Or.inl ⟨by rfl, fun w_ hSw => ?_⟩) H6_ ?_
    · skip; go_simp
    try simp only [Act.put, List.setIfInBounds_toArray, List.set_cons_zero, List.set_cons_succ]
    refine wpAnyH_take (i := 26) (v := .bool true) (op_at rfl) (by kernel_rfl) (by kernel_rfl) (by kernel_rfl) (fun _ _ _ h => h) (Or.inl ⟨by rfl, fun w_ hSw => ?_⟩) H6_ ?_
    · skip; go_simp
    try simp only [Act.put, List.setIfInBounds_toArray, List.set_cons_zero, List.set_cons_succ]
    refine wpAnyH_done (by kernel_rfl) ?_ _
    refine NoPanic.normal ?_
    go_wp2
    go_ret
    exact ⟨rfl, heldS_b H6_⟩
    -- END
  · have d1 : decide ((t.length : Int) > 1000) = true := decide_eq_true (by omega)
    have d1' : (1000 : Int) < (t.length : Int) := by omega
    go_enter Tryd.func3, Tryd.ntmps3
    go_wp2_with (go_at_call 8; with_reducible refine hAl.out.mono ?_; rintro e w1 ⟨rfl, hb1⟩; have hb1A := Aside0.mk hb1; clear hb1)
    go_ret
    exact ⟨rfl, hb1A.out⟩
end Go.Proofs.YtibiaacgcpgkbaaDoor.Walk
