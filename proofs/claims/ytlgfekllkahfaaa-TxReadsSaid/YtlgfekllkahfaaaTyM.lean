/- A transaction in new memory (tx.Copy). -/
import Derived.Test.YtlgfekllkahfaaaTyL
import Derived.Test.YtlgfekllkahfaaaTxY
set_option linter.unusedVariables false
set_option linter.unusedSimpArgs false
namespace Go.Proofs.Ytlgfekllkahfaaa.Pack
open Go.RowKit Go.Proofs.YtlgfekllkahfaaaW.PrintWords Go.Proofs.YtlgfekllkahfaaaW.PrintMore Go.Proofs.Ytlgfekllkahfaaa Go.Proofs.Ytlgfekllkahfaaa.Bits Sha ArrK ShaW
open Go.Proofs.Ytlgfekllkahfaaa.InRound (op_at)
theorem tx_copy_end {w V : World} {v1 v2 : Value} {sp : List Sp} {co : List Co} {cs cz : List Value} (hX : Blk V w.heap.size 25 cs) (hZ : Blk V (w.heap.size + 1) 25 cz) (hS : RSp w.heap.size V v1 sp) (hC : RCo w.heap.size V v2 co) (hB : Below w.heap.size w V) (w7 : World) (hg : V.grownBy w7 (some (w.heap.size + 1))) :
    RSp w.heap.size w7 v1 sp ∧ RCo w.heap.size w7 v2 co ∧ Below w.heap.size w w7 := by
  have hne : ∀ k, (Value.slice (some ⟨w.heap.size + 1, 0, none⟩) 0 0).ownBlock = some k → ∃ cells, V.heap[k]? = some (.cells cells 25 (0, 0)) := fun k hk => by
    have : w.heap.size + 1 = k := by simpa [Value.ownBlock] using hk
    subst this
    exact ⟨_, hZ⟩
  exact ⟨Kd.R_mono (Kd.R_grown (Kd.R_apart' hS hne (by decide)) hg (fun k hk e => hk.2 (by simpa [Value.ownBlock] using e))) (fun _ _ => trivial), Kd.R_mono (Kd.R_grown (Kd.R_apart' hC hne (by decide)) hg (fun k hk e => hk.2 (by simpa [Value.ownBlock] using e))) (fun _ _ => trivial), hB.grown hg hB.size (fun k e => by cases e; omega)⟩
section
variable {t : Tr} {A1 A2 : Option Addr} {c1 c2 : Nat}
set_option maxRecDepth 100000 in
set_option maxHeartbeats 800000 in
theorem txcopy_calls (w : World) (hS : SpR0 w A1 t.sp.length t.sp) (hC : CoR w A2 t.co.length t.co) (h1 : t.sp.length ≤ 1000) (h2 : t.co.length ≤ 1000) :
    Calls Try.prog 9 #[trv t A1 A2 c1 c2] w fun e w' => (∃ v1 v2, e = .returned (.agg #[v1, v2, .bool t.firm]) ∧ RSp w.heap.size w' v1 t.sp ∧ RCo w.heap.size w' v2 t.co) ∧ Below w.heap.size w w' := by
  obtain ⟨sp, co, firm⟩ := t
  simp only at hS hC h1 h2 ⊢
  obtain ⟨V, hV⟩ : ∃ V, V = (w.alloc (.cells #[.slice A1 sp.length c1, .slice A2 co.length c2, .bool firm] 25)).alloc (.cells #[.slice none 0 0, .slice none 0 0, .bool false] 25) := ⟨_, rfl⟩
  have hX : Blk V w.heap.size 25 [.slice A1 sp.length c1, .slice A2 co.length c2, .bool firm] := by rw [hV]; exact (Blk.new w 25 [.slice A1 sp.length c1, .slice A2 co.length c2, .bool firm]).alloc _
  have hZ : Blk V (w.heap.size + 1) 25 [.slice none 0 0, .slice none 0 0, .bool false] := by
    have := Blk.new (w.alloc (.cells #[.slice A1 sp.length c1, .slice A2 co.length c2, .bool firm] 25)) 25 [.slice none 0 0, .slice none 0 0, .bool false]
    rw [hV]; rwa [World.size_alloc] at this
  have hB : Below w.heap.size w V := by rw [hV]; exact below_alloc (below_alloc (Below.refl _ _) _) _
  have hSpA := Aside0.mk (fun (W : World) (hW : Below w.heap.size w W) => cloneS_calls W A1 c1 sp (hS.imp_ hW (fun _ _ h => h)) h1)
  have hCoA := Aside0.mk (fun (W : World) (hW : Below w.heap.size w W) => cloneC_calls W A2 c2 co (hC.imp_ hW (fun _ _ h => h)) h2)
  have hi3 : ∀ x y z : Value, (Try.prog.info? 25).map (·.size) = some [x, y, z].length := fun x y z => by show _ = some 3; kernel_rfl
  have hVA := Aside0.mk hV; have hXA := Aside0.mk hX; have hZA := Aside0.mk hZ; have hBA := Aside0.mk hB
  have hi3A := Aside0.mk hi3
  clear hV hX hZ hB hS hC hi3
  go_enter Try.func9, Try.ntmps9
  go_wp2_with fail
  rw [← hVA.out]
  refine wp_region_noPanic ?_
  refine wp_region_held_drew (S := fun _ => True) (by kernel_rfl) trivial (fun _ => ?_)
  have H0 : True := trivial
  have hN0 := Aside0.mk True.intro
  have hX0 : Blk V.drew w.heap.size 25 [.slice A1 sp.length c1, .slice A2 co.length c2, .bool firm] := hXA.out
  have hZ0 : Blk V.drew (w.heap.size + 1) 25 [.slice none 0 0, .slice none 0 0, .bool false] := hZA.out
  have hB0 : Aside0 (Below w.heap.size w V.drew) := Aside0.mk (pw_below_drewN hBA.out 1)
  clear hVA hXA hZA hBA
  generalize V.drew = V0 at *
  -- REGION A
  refine wpAnyH_take (i := 0) (v := .pointer (some ⟨w.heap.size, 0, none⟩)) (op_at rfl) (by kernel_rfl) (by kernel_rfl) (by kernel_rfl) (fun _ _ _ h => h) (Or.inl ⟨by rfl, fun w_ hSw => ?_⟩) H0 ?_
  · skip; go_simp
  try simp only [Act.put, List.setIfInBounds_toArray, List.set_cons_zero, List.set_cons_succ]
  refine wpAnyH_take (i := 3) (v := .pointer (some ⟨w.heap.size, 1, none⟩)) (op_at rfl) (by kernel_rfl) (by kernel_rfl) (by kernel_rfl) (fun _ _ _ h => h) (Or.inl ⟨by rfl, fun w_ hSw => ?_⟩) H0 ?_
  · skip; go_simp
  try simp only [Act.put, List.setIfInBounds_toArray, List.set_cons_zero, List.set_cons_succ]
  refine wpAnyH_ready (rs := [1, 4]) (by kernel_rfl) (by simp) ?_
  refine AllReadyH.cons (op_at rfl) (fun K hK => ?_) (AllReadyH.cons (op_at rfl) (fun K hK => ?_) AllReadyH.nil)
  · have hc_ := hX0.get 0 _ rfl
    go_simp
    clear hc_
    refine hK.out _ _ H0 (fun H1_ => ?_)
    clear hK K
    try simp only [Act.put, List.setIfInBounds_toArray, List.set_cons_zero, List.set_cons_succ]
    refine wpAnyH_ready (rs := [2, 4]) (by kernel_rfl) (by simp) ?_
    refine AllReadyH.cons (op_at rfl) (fun K hK => ?_) (AllReadyH.cons (op_at rfl) (fun K hK => ?_) AllReadyH.nil)
    · go_simp
      go_at_call 23
      refine (hSpA.out _ hB0.out).mono ?_
      rintro e V2_ ⟨v_, rfl, hR_, hb_⟩
      obtain ⟨B1_2, K1_2, hv_⟩ := Kd.R_slice hR_
      subst hv_
      go_wp2_with fail
      refine hK.out _ _ trivial (fun H2_ => ?_)
      have X_2 := hX0.below hb_
      have Z_2 := hZ0.below hb_
      have RS_2 := Aside0.mk (Kd.R_lower hR_ hB0.out.size)
      have RC_2 := Aside0.mk (True.intro)
      have BB_2 := Aside0.mk (below_then hB0.out hB0.out.size hb_)
      clear hK K hb_ hR_
      try simp only [Act.put, List.setIfInBounds_toArray, List.set_cons_zero, List.set_cons_succ]
      refine wpAnyH_ready (rs := [4]) (by kernel_rfl) (by simp) ?_
      refine AllReadyH.cons (op_at rfl) (fun K hK => ?_) AllReadyH.nil
      have hc_ := X_2.get 1 _ rfl
      go_simp
      clear hc_
      refine hK.out _ _ H2_ (fun H3_ => ?_)
      clear hK K
      try simp only [Act.put, List.setIfInBounds_toArray, List.set_cons_zero, List.set_cons_succ]
      refine wpAnyH_take (i := 6) (v := .pointer (some ⟨w.heap.size, 0, none⟩)) (op_at rfl) (by kernel_rfl) (by kernel_rfl) (by kernel_rfl) (fun _ _ _ h => h) (Or.inl ⟨by rfl, fun w_ hSw => ?_⟩) H3_ ?_
      · skip; go_simp
      try simp only [Act.put, List.setIfInBounds_toArray, List.set_cons_zero, List.set_cons_succ]
      refine wpAnyH_ready (rs := [5]) (by kernel_rfl) (by simp) ?_
      refine AllReadyH.cons (op_at rfl) (fun K hK => ?_) AllReadyH.nil
      go_simp
      go_at_call 24
      refine (hCoA.out _ BB_2.out).mono ?_
      rintro e V4_ ⟨v_, rfl, hR_, hb_⟩
      obtain ⟨B2_4, K2_4, hv_⟩ := Kd.R_slice hR_
      subst hv_
      go_wp2_with fail
      refine hK.out _ _ trivial (fun H4_ => ?_)
      have X_4 := X_2.below hb_
      have Z_4 := Z_2.below hb_
      have RS_4 := Aside0.mk (Kd.R_below RS_2.out hb_)
      have RC_4 := Aside0.mk (Kd.R_lower hR_ BB_2.out.size)
      have BB_4 := Aside0.mk (below_then BB_2.out BB_2.out.size hb_)
      clear hK K hb_ hR_
      try simp only [Act.put, List.setIfInBounds_toArray, List.set_cons_zero, List.set_cons_succ]
      refine wpAnyH_ready (rs := [7]) (by kernel_rfl) (by simp) ?_
      refine AllReadyH.cons (op_at rfl) (fun K hK => ?_) AllReadyH.nil
      have hc_ := X_4.get 0 _ rfl
      have hf_ := X_4.fz 0
      go_simp
      refine hK.out _ _ trivial (fun H5_ => ?_)
      have X_5 := X_4.set 0 ((.slice B1_2 sp.length K1_2))
      have Z_5 := Z_4.far (p := ⟨w.heap.size, 0, none⟩) (by show w.heap.size + 1 ≠ w.heap.size; omega) ((.slice B1_2 sp.length K1_2))
      have RS_5 := Aside0.mk (Kd.R_set RS_4.out X_4 (by decide) 0 ((.slice B1_2 sp.length K1_2)))
      have RC_5 := Aside0.mk (Kd.R_set RC_4.out X_4 (by decide) 0 ((.slice B1_2 sp.length K1_2)))
      have BB_5 := Aside0.mk (BB_4.out.setCell (p := ⟨w.heap.size, 0, none⟩) (Nat.le_refl _) ((.slice B1_2 sp.length K1_2)))
      clear hK K hc_ hf_
      try simp only [Act.put, List.setIfInBounds_toArray, List.set_cons_zero, List.set_cons_succ]
      refine wpAnyH_take (i := 8) (v := .pointer (some ⟨w.heap.size, 1, none⟩)) (op_at rfl) (by kernel_rfl) (by kernel_rfl) (by kernel_rfl) (fun _ _ _ h => h) (Or.inl ⟨by rfl, fun w_ hSw => ?_⟩) H5_ ?_
      · skip; go_simp
      try simp only [Act.put, List.setIfInBounds_toArray, List.set_cons_zero, List.set_cons_succ]
      refine wpAnyH_ready (rs := [9]) (by kernel_rfl) (by simp) ?_
      refine AllReadyH.cons (op_at rfl) (fun K hK => ?_) AllReadyH.nil
      have hc_ := X_5.get 1 _ rfl
      have hf_ := X_5.fz 1
      go_simp
      refine hK.out _ _ trivial (fun H6_ => ?_)
      have X_6 := X_5.set 1 ((.slice B2_4 co.length K2_4))
      have Z_6 := Z_5.far (p := ⟨w.heap.size, 1, none⟩) (by show w.heap.size + 1 ≠ w.heap.size; omega) ((.slice B2_4 co.length K2_4))
      have RS_6 := Aside0.mk (Kd.R_set RS_5.out X_5 (by decide) 1 ((.slice B2_4 co.length K2_4)))
      have RC_6 := Aside0.mk (Kd.R_set RC_5.out X_5 (by decide) 1 ((.slice B2_4 co.length K2_4)))
      have BB_6 := Aside0.mk (BB_5.out.setCell (p := ⟨w.heap.size, 1, none⟩) (Nat.le_refl _) ((.slice B2_4 co.length K2_4)))
      clear hK K hc_ hf_
      try simp only [Act.put, List.setIfInBounds_toArray, List.set_cons_zero, List.set_cons_succ]
      refine wpAnyH_done (by kernel_rfl) ?_ _
      refine NoPanic.normal ?_
      have hE_ := tx_copy_end X_6 Z_6 RS_6.out RC_6.out BB_6.out
      go_wp2_with (first | ((with_reducible refine gate_dst (N := 11) rfl ?_); refine wpList_load_blk rfl 25 (.tmp 1) rfl w.heap.size 25 rfl [.slice B1_2 sp.length K1_2, .slice B2_4 co.length K2_4, .bool firm] _ X_6 Try.underlying25 rfl (hi3A.out _ _ _) ?_) | (refine wpList_put_blk rfl 25 (.tmp 2) (.tmp 11) rfl (w.heap.size + 1) 25 [.slice B1_2 sp.length K1_2, .slice B2_4 co.length K2_4, .bool firm] [.slice none 0 0, .slice none 0 0, .bool false] rfl rfl rfl Z_6 (hi3A.out _ _ _) (by intro u hu; simp at hu; rcases hu with rfl | rfl | rfl <;> rfl) ?_; intro w7 hZ7 hg7 hs7))
      obtain ⟨hS7, hR7, hB7⟩ := hE_ w7 hg7
      exact bodyPost_ret (results_cell_row rfl _ _ (w.heap.size + 1) 25 #[.slice B1_2 sp.length K1_2, .slice B2_4 co.length K2_4, .bool firm] (0, 0) _ rfl hZ7 Try.underlying25 rfl (hi3A.out _ _ _)) rfl ⟨⟨_, _, rfl, hS7, hR7⟩, hB7⟩
    · have hc_ := hX0.get 1 _ rfl
      go_simp
      clear hc_
      refine hK.out _ _ H1_ (fun H7_ => ?_)
      clear hK K
      try simp only [Act.put, List.setIfInBounds_toArray, List.set_cons_zero, List.set_cons_succ]
      refine wpAnyH_ready (rs := [2]) (by kernel_rfl) (by simp) ?_
      refine AllReadyH.cons (op_at rfl) (fun K hK => ?_) AllReadyH.nil
      go_simp
      go_at_call 23
      refine (hSpA.out _ hB0.out).mono ?_
      rintro e V8_ ⟨v_, rfl, hR_, hb_⟩
      obtain ⟨B1_8, K1_8, hv_⟩ := Kd.R_slice hR_
      subst hv_
      go_wp2_with fail
      refine hK.out _ _ trivial (fun H8_ => ?_)
      have X_8 := hX0.below hb_
      have Z_8 := hZ0.below hb_
      have RS_8 := Aside0.mk (Kd.R_lower hR_ hB0.out.size)
      have RC_8 := Aside0.mk (True.intro)
      have BB_8 := Aside0.mk (below_then hB0.out hB0.out.size hb_)
      clear hK K hb_ hR_
      try simp only [Act.put, List.setIfInBounds_toArray, List.set_cons_zero, List.set_cons_succ]
      refine wpAnyH_take (i := 6) (v := .pointer (some ⟨w.heap.size, 0, none⟩)) (op_at rfl) (by kernel_rfl) (by kernel_rfl) (by kernel_rfl) (fun _ _ _ h => h) (Or.inl ⟨by rfl, fun w_ hSw => ?_⟩) H8_ ?_
      · skip; go_simp
      try simp only [Act.put, List.setIfInBounds_toArray, List.set_cons_zero, List.set_cons_succ]
      refine wpAnyH_ready (rs := [5]) (by kernel_rfl) (by simp) ?_
      refine AllReadyH.cons (op_at rfl) (fun K hK => ?_) AllReadyH.nil
      go_simp
      go_at_call 24
      refine (hCoA.out _ BB_8.out).mono ?_
      rintro e V9_ ⟨v_, rfl, hR_, hb_⟩
      obtain ⟨B2_9, K2_9, hv_⟩ := Kd.R_slice hR_
      subst hv_
      go_wp2_with fail
      refine hK.out _ _ trivial (fun H9_ => ?_)
      have X_9 := X_8.below hb_
      have Z_9 := Z_8.below hb_
      have RS_9 := Aside0.mk (Kd.R_below RS_8.out hb_)
      have RC_9 := Aside0.mk (Kd.R_lower hR_ BB_8.out.size)
      have BB_9 := Aside0.mk (below_then BB_8.out BB_8.out.size hb_)
      clear hK K hb_ hR_
      try simp only [Act.put, List.setIfInBounds_toArray, List.set_cons_zero, List.set_cons_succ]
      refine wpAnyH_ready (rs := [7]) (by kernel_rfl) (by simp) ?_
      refine AllReadyH.cons (op_at rfl) (fun K hK => ?_) AllReadyH.nil
      have hc_ := X_9.get 0 _ rfl
      have hf_ := X_9.fz 0
      go_simp
      refine hK.out _ _ trivial (fun H10_ => ?_)
      have X_10 := X_9.set 0 ((.slice B1_8 sp.length K1_8))
      have Z_10 := Z_9.far (p := ⟨w.heap.size, 0, none⟩) (by show w.heap.size + 1 ≠ w.heap.size; omega) ((.slice B1_8 sp.length K1_8))
      have RS_10 := Aside0.mk (Kd.R_set RS_9.out X_9 (by decide) 0 ((.slice B1_8 sp.length K1_8)))
      have RC_10 := Aside0.mk (Kd.R_set RC_9.out X_9 (by decide) 0 ((.slice B1_8 sp.length K1_8)))
      have BB_10 := Aside0.mk (BB_9.out.setCell (p := ⟨w.heap.size, 0, none⟩) (Nat.le_refl _) ((.slice B1_8 sp.length K1_8)))
      clear hK K hc_ hf_
      try simp only [Act.put, List.setIfInBounds_toArray, List.set_cons_zero, List.set_cons_succ]
      refine wpAnyH_take (i := 8) (v := .pointer (some ⟨w.heap.size, 1, none⟩)) (op_at rfl) (by kernel_rfl) (by kernel_rfl) (by kernel_rfl) (fun _ _ _ h => h) (Or.inl ⟨by rfl, fun w_ hSw => ?_⟩) H10_ ?_
      · skip; go_simp
      try simp only [Act.put, List.setIfInBounds_toArray, List.set_cons_zero, List.set_cons_succ]
      refine wpAnyH_ready (rs := [9]) (by kernel_rfl) (by simp) ?_
      refine AllReadyH.cons (op_at rfl) (fun K hK => ?_) AllReadyH.nil
      have hc_ := X_10.get 1 _ rfl
      have hf_ := X_10.fz 1
      go_simp
      refine hK.out _ _ trivial (fun H11_ => ?_)
      have X_11 := X_10.set 1 ((.slice B2_9 co.length K2_9))
      have Z_11 := Z_10.far (p := ⟨w.heap.size, 1, none⟩) (by show w.heap.size + 1 ≠ w.heap.size; omega) ((.slice B2_9 co.length K2_9))
      have RS_11 := Aside0.mk (Kd.R_set RS_10.out X_10 (by decide) 1 ((.slice B2_9 co.length K2_9)))
      have RC_11 := Aside0.mk (Kd.R_set RC_10.out X_10 (by decide) 1 ((.slice B2_9 co.length K2_9)))
      have BB_11 := Aside0.mk (BB_10.out.setCell (p := ⟨w.heap.size, 1, none⟩) (Nat.le_refl _) ((.slice B2_9 co.length K2_9)))
      clear hK K hc_ hf_
      try simp only [Act.put, List.setIfInBounds_toArray, List.set_cons_zero, List.set_cons_succ]
      refine wpAnyH_done (by kernel_rfl) ?_ _
      refine NoPanic.normal ?_
      have hE_ := tx_copy_end X_11 Z_11 RS_11.out RC_11.out BB_11.out
      go_wp2_with (first | ((with_reducible refine gate_dst (N := 11) rfl ?_); refine wpList_load_blk rfl 25 (.tmp 1) rfl w.heap.size 25 rfl [.slice B1_8 sp.length K1_8, .slice B2_9 co.length K2_9, .bool firm] _ X_11 Try.underlying25 rfl (hi3A.out _ _ _) ?_) | (refine wpList_put_blk rfl 25 (.tmp 2) (.tmp 11) rfl (w.heap.size + 1) 25 [.slice B1_8 sp.length K1_8, .slice B2_9 co.length K2_9, .bool firm] [.slice none 0 0, .slice none 0 0, .bool false] rfl rfl rfl Z_11 (hi3A.out _ _ _) (by intro u hu; simp at hu; rcases hu with rfl | rfl | rfl <;> rfl) ?_; intro w7 hZ7 hg7 hs7))
      obtain ⟨hS7, hR7, hB7⟩ := hE_ w7 hg7
      exact bodyPost_ret (results_cell_row rfl _ _ (w.heap.size + 1) 25 #[.slice B1_8 sp.length K1_8, .slice B2_9 co.length K2_9, .bool firm] (0, 0) _ rfl hZ7 Try.underlying25 rfl (hi3A.out _ _ _)) rfl ⟨⟨_, _, rfl, hS7, hR7⟩, hB7⟩
  · have hc_ := hX0.get 1 _ rfl
    go_simp
    clear hc_
    refine hK.out _ _ H0 (fun H12_ => ?_)
    clear hK K
    try simp only [Act.put, List.setIfInBounds_toArray, List.set_cons_zero, List.set_cons_succ]
    refine wpAnyH_ready (rs := [1]) (by kernel_rfl) (by simp) ?_
    refine AllReadyH.cons (op_at rfl) (fun K hK => ?_) AllReadyH.nil
    have hc_ := hX0.get 0 _ rfl
    go_simp
    clear hc_
    refine hK.out _ _ H12_ (fun H13_ => ?_)
    clear hK K
    try simp only [Act.put, List.setIfInBounds_toArray, List.set_cons_zero, List.set_cons_succ]
    refine wpAnyH_ready (rs := [2]) (by kernel_rfl) (by simp) ?_
    refine AllReadyH.cons (op_at rfl) (fun K hK => ?_) AllReadyH.nil
    go_simp
    go_at_call 23
    refine (hSpA.out _ hB0.out).mono ?_
    rintro e V14_ ⟨v_, rfl, hR_, hb_⟩
    obtain ⟨B1_14, K1_14, hv_⟩ := Kd.R_slice hR_
    subst hv_
    go_wp2_with fail
    refine hK.out _ _ trivial (fun H14_ => ?_)
    have X_14 := hX0.below hb_
    have Z_14 := hZ0.below hb_
    have RS_14 := Aside0.mk (Kd.R_lower hR_ hB0.out.size)
    have RC_14 := Aside0.mk (True.intro)
    have BB_14 := Aside0.mk (below_then hB0.out hB0.out.size hb_)
    clear hK K hb_ hR_
    try simp only [Act.put, List.setIfInBounds_toArray, List.set_cons_zero, List.set_cons_succ]
    refine wpAnyH_take (i := 6) (v := .pointer (some ⟨w.heap.size, 0, none⟩)) (op_at rfl) (by kernel_rfl) (by kernel_rfl) (by kernel_rfl) (fun _ _ _ h => h) (Or.inl ⟨by rfl, fun w_ hSw => ?_⟩) H14_ ?_
    · skip; go_simp
    try simp only [Act.put, List.setIfInBounds_toArray, List.set_cons_zero, List.set_cons_succ]
    refine wpAnyH_ready (rs := [5]) (by kernel_rfl) (by simp) ?_
    refine AllReadyH.cons (op_at rfl) (fun K hK => ?_) AllReadyH.nil
    go_simp
    go_at_call 24
    refine (hCoA.out _ BB_14.out).mono ?_
    rintro e V15_ ⟨v_, rfl, hR_, hb_⟩
    obtain ⟨B2_15, K2_15, hv_⟩ := Kd.R_slice hR_
    subst hv_
    go_wp2_with fail
    refine hK.out _ _ trivial (fun H15_ => ?_)
    have X_15 := X_14.below hb_
    have Z_15 := Z_14.below hb_
    have RS_15 := Aside0.mk (Kd.R_below RS_14.out hb_)
    have RC_15 := Aside0.mk (Kd.R_lower hR_ BB_14.out.size)
    have BB_15 := Aside0.mk (below_then BB_14.out BB_14.out.size hb_)
    clear hK K hb_ hR_
    try simp only [Act.put, List.setIfInBounds_toArray, List.set_cons_zero, List.set_cons_succ]
    refine wpAnyH_ready (rs := [7]) (by kernel_rfl) (by simp) ?_
    refine AllReadyH.cons (op_at rfl) (fun K hK => ?_) AllReadyH.nil
    have hc_ := X_15.get 0 _ rfl
    have hf_ := X_15.fz 0
    go_simp
    refine hK.out _ _ trivial (fun H16_ => ?_)
    have X_16 := X_15.set 0 ((.slice B1_14 sp.length K1_14))
    have Z_16 := Z_15.far (p := ⟨w.heap.size, 0, none⟩) (by show w.heap.size + 1 ≠ w.heap.size; omega) ((.slice B1_14 sp.length K1_14))
    have RS_16 := Aside0.mk (Kd.R_set RS_15.out X_15 (by decide) 0 ((.slice B1_14 sp.length K1_14)))
    have RC_16 := Aside0.mk (Kd.R_set RC_15.out X_15 (by decide) 0 ((.slice B1_14 sp.length K1_14)))
    have BB_16 := Aside0.mk (BB_15.out.setCell (p := ⟨w.heap.size, 0, none⟩) (Nat.le_refl _) ((.slice B1_14 sp.length K1_14)))
    clear hK K hc_ hf_
    try simp only [Act.put, List.setIfInBounds_toArray, List.set_cons_zero, List.set_cons_succ]
    refine wpAnyH_take (i := 8) (v := .pointer (some ⟨w.heap.size, 1, none⟩)) (op_at rfl) (by kernel_rfl) (by kernel_rfl) (by kernel_rfl) (fun _ _ _ h => h) (Or.inl ⟨by rfl, fun w_ hSw => ?_⟩) H16_ ?_
    · skip; go_simp
    try simp only [Act.put, List.setIfInBounds_toArray, List.set_cons_zero, List.set_cons_succ]
    refine wpAnyH_ready (rs := [9]) (by kernel_rfl) (by simp) ?_
    refine AllReadyH.cons (op_at rfl) (fun K hK => ?_) AllReadyH.nil
    have hc_ := X_16.get 1 _ rfl
    have hf_ := X_16.fz 1
    go_simp
    refine hK.out _ _ trivial (fun H17_ => ?_)
    have X_17 := X_16.set 1 ((.slice B2_15 co.length K2_15))
    have Z_17 := Z_16.far (p := ⟨w.heap.size, 1, none⟩) (by show w.heap.size + 1 ≠ w.heap.size; omega) ((.slice B2_15 co.length K2_15))
    have RS_17 := Aside0.mk (Kd.R_set RS_16.out X_16 (by decide) 1 ((.slice B2_15 co.length K2_15)))
    have RC_17 := Aside0.mk (Kd.R_set RC_16.out X_16 (by decide) 1 ((.slice B2_15 co.length K2_15)))
    have BB_17 := Aside0.mk (BB_16.out.setCell (p := ⟨w.heap.size, 1, none⟩) (Nat.le_refl _) ((.slice B2_15 co.length K2_15)))
    clear hK K hc_ hf_
    try simp only [Act.put, List.setIfInBounds_toArray, List.set_cons_zero, List.set_cons_succ]
    refine wpAnyH_done (by kernel_rfl) ?_ _
    refine NoPanic.normal ?_
    have hE_ := tx_copy_end X_17 Z_17 RS_17.out RC_17.out BB_17.out
    go_wp2_with (first | ((with_reducible refine gate_dst (N := 11) rfl ?_); refine wpList_load_blk rfl 25 (.tmp 1) rfl w.heap.size 25 rfl [.slice B1_14 sp.length K1_14, .slice B2_15 co.length K2_15, .bool firm] _ X_17 Try.underlying25 rfl (hi3A.out _ _ _) ?_) | (refine wpList_put_blk rfl 25 (.tmp 2) (.tmp 11) rfl (w.heap.size + 1) 25 [.slice B1_14 sp.length K1_14, .slice B2_15 co.length K2_15, .bool firm] [.slice none 0 0, .slice none 0 0, .bool false] rfl rfl rfl Z_17 (hi3A.out _ _ _) (by intro u hu; simp at hu; rcases hu with rfl | rfl | rfl <;> rfl) ?_; intro w7 hZ7 hg7 hs7))
    obtain ⟨hS7, hR7, hB7⟩ := hE_ w7 hg7
    exact bodyPost_ret (results_cell_row rfl _ _ (w.heap.size + 1) 25 #[.slice B1_14 sp.length K1_14, .slice B2_15 co.length K2_15, .bool firm] (0, 0) _ rfl hZ7 Try.underlying25 rfl (hi3A.out _ _ _)) rfl ⟨⟨_, _, rfl, hS7, hR7⟩, hB7⟩
  -- END A
end
end Go.Proofs.Ytlgfekllkahfaaa.Pack
