/- A tree's digest, by the document. -/
import Derived.Test.YtibiaacgcpgkbaaDoorShaS
import Derived.Test.YtibiaacgcpgkbaaDoorShaV
set_option linter.unusedVariables false
set_option linter.unusedSimpArgs false
namespace Go.Proofs.YtibiaacgcpgkbaaDoor.ShaW
open Go.RowKit Go.Shelf Go.Proofs.YtibiaacgcpgkbaaDoorW.PrintWords Go.Proofs.YtibiaacgcpgkbaaDoorW.PrintMore Go.Proofs.YtibiaacgcpgkbaaDoor Go.Proofs.YtibiaacgcpgkbaaDoor.Bits Sha ArrK
open Go.Proofs.YtibiaacgcpgkbaaDoor.InRound (op_at)
set_option maxRecDepth 100000 in
set_option maxHeartbeats 1000000 in
theorem rtree_calls : ∀ (n : Nat) (L : List (List Int)) (A : Option Addr) (c : Nat) (w : World) (hn0 : L.length ≤ n) (hK : Rst w) (hr : kh.C w A L.length L) (hc : L.length ≤ c) (hn : L.length ≤ 1000) (hby : ∀ h ∈ L, Bytes h),
    Calls Tryd.prog 18 #[.slice A L.length c] w fun e w' => e = .returned (hv (tree L)) ∧ Below w.heap.size w w' := by
  intro n
  induction n with
  | zero =>
    intro L A c w hn0 hK hr hc hn hby
    obtain rfl : L = [] := List.length_eq_zero_iff.1 (by omega)
    obtain ⟨V0, hV0⟩ : ∃ V0, V0 = w.alloc (.cells #[.int .u8 0, .int .u8 0, .int .u8 0, .int .u8 0, .int .u8 0, .int .u8 0, .int .u8 0, .int .u8 0, .int .u8 0, .int .u8 0, .int .u8 0, .int .u8 0, .int .u8 0, .int .u8 0, .int .u8 0, .int .u8 0, .int .u8 0, .int .u8 0, .int .u8 0, .int .u8 0, .int .u8 0, .int .u8 0, .int .u8 0, .int .u8 0, .int .u8 0, .int .u8 0, .int .u8 0, .int .u8 0, .int .u8 0, .int .u8 0, .int .u8 0, .int .u8 0] 25) := ⟨_, rfl⟩
    have hB0 : Below w.heap.size w V0 := by rw [hV0]; exact (Below.refl _ _).alloc (Nat.le_refl _) _
    have hR0 : Blk V0 w.heap.size 25 (nums .u8 zero32) := by rw [hV0]; exact Blk.new w 25 (nums .u8 zero32)
    have hi0 := info_hash zero32 rfl
    have ht : tree [] = zero32 := rfl
    rw [ht]
    have hV0A := Aside0.mk hV0; have hR0A := Aside0.mk hR0; have hB0A := Aside0.mk hB0
    clear hV0 hR0 hB0 hr hK ht hn hn0 hby
    rw [show ([] : List (List Int)).length = 0 from rfl]
    go_enter Tryd.func18, Tryd.ntmps18
    go_wp2_with (rw [← hV0A.out]; refine wpList_put_blk rfl 25 (.tmp 2) (.tmp 9) rfl w.heap.size 25 (nums .u8 zero32) (nums .u8 zero32) rfl rfl rfl hR0A.out hi0 (u8_one _) ?_; intro w4 hW4 hg4 hs4)
    exact bodyPost_ret (results_cell_row rfl _ _ w.heap.size 25 (nums .u8 zero32).toArray (0, 0) _ rfl hW4 Tryd.underlying25 rfl (by kernel_rfl)) rfl ⟨rfl, hB0A.out.grown hg4 hB0A.out.size (fun k e => by cases e; exact Nat.le_refl _)⟩
  | succ n ih =>
    intro L A c w hn0 hK hr hc hn hby
    by_cases hn1 : L.length ≤ n
    · exact ih L A c w hn1 hK hr hc hn hby
    · have h1 : 1 ≤ L.length := by omega
      have q0 : ((L.length : Int) == 0) = false := beq_eq_false_iff_ne.2 (by omega)
      have q1 : ¬ (L.length : Int) = 0 := by omega
      obtain ⟨V0, hV0⟩ : ∃ V0, V0 = w.alloc (.cells #[.int .u8 0, .int .u8 0, .int .u8 0, .int .u8 0, .int .u8 0, .int .u8 0, .int .u8 0, .int .u8 0, .int .u8 0, .int .u8 0, .int .u8 0, .int .u8 0, .int .u8 0, .int .u8 0, .int .u8 0, .int .u8 0, .int .u8 0, .int .u8 0, .int .u8 0, .int .u8 0, .int .u8 0, .int .u8 0, .int .u8 0, .int .u8 0, .int .u8 0, .int .u8 0, .int .u8 0, .int .u8 0, .int .u8 0, .int .u8 0, .int .u8 0, .int .u8 0] 25) := ⟨_, rfl⟩
      have hB0 : Below w.heap.size w V0 := by rw [hV0]; exact (Below.refl _ _).alloc (Nat.le_refl _) _
      have hR0 : Blk V0 w.heap.size 25 (nums .u8 zero32) := by rw [hV0]; exact Blk.new w 25 (nums .u8 zero32)
      have hC0 := Kd.C_below hr hB0
      have hV0A := Aside0.mk hV0; have hR0A := Aside0.mk hR0; have hB0A := Aside0.mk hB0; have hC0A := Aside0.mk hC0; have hKA := Aside0.mk hK; have hrA := Aside0.mk hr; have ihA := Aside0.mk ih
      clear hV0 hR0 hB0 hC0 hK hr ih
      have hu := Tryd.underlying25
      by_cases h2 : L.length = 1
      · obtain ⟨x, hM⟩ : ∃ x, L = [x] := by
          match L, h2 with
          | [x], _ => exact ⟨x, rfl⟩
        subst hM
        obtain ⟨hxl, ad, rfl, hat⟩ := kh_at hC0A.out 0 x rfl
        rw [Nat.zero_mul] at hat
        have hix := info_hash x hxl
        have hzx : (nums .u8 zero32).length = (nums .u8 x).length := by simp [nums, hxl]
        have hatA := Aside0.mk hat; have hixA := Aside0.mk hix; have hzxA := Aside0.mk hzx
        clear hat hix hzx h2 q0 q1 hn1 hn0 hn hby
        rw [show tree [x] = x from rfl]
        rw [show ([x] : List (List Int)).length = 1 from rfl] at hc ⊢
        go_enter Tryd.func18, Tryd.ntmps18
        go_wp2_with (first | ((with_reducible refine gate_dst (N := 15) rfl ?_); rw [← hV0A.out]; refine wpList_load_any rfl 25 (.tmp 14) rfl (ad.add 0) rfl (nums .u8 x) _ hatA.out hu rfl hixA.out ?_) | (refine wpList_put_blk rfl 25 (.tmp 2) (.tmp 15) rfl w.heap.size 25 (nums .u8 x) (nums .u8 zero32) hzxA.out rfl rfl hR0A.out hixA.out (u8_one _) ?_; intro w4 hW4 hg4 hs4))
        exact bodyPost_ret (results_cell_row rfl _ _ w.heap.size 25 (nums .u8 x).toArray (0, 0) _ rfl hW4 Tryd.underlying25 rfl (by rw [List.size_toArray]; exact hixA.out)) rfl ⟨rfl, hB0A.out.grown hg4 hB0A.out.size (fun k e => by cases e; exact Nat.le_refl _)⟩
      · have q2 : ((L.length : Int) == 1) = false := beq_eq_false_iff_ne.2 (by omega)
        have q3 : ¬ (L.length : Int) = 1 := by omega
        have hlens := kh_lens hrA.out
        obtain ⟨x, hx⟩ : ∃ x, x = tree L := ⟨_, rfl⟩
        rw [← hx]
        have hxA := Aside0.mk hx
        clear hx
        obtain ⟨ad, rfl⟩ : ∃ ad, A = some ad := by obtain ⟨ad, e, _⟩ := hrA.out.2.2 (by omega); exact ⟨ad, e⟩
        go_enter Tryd.func18, Tryd.ntmps18
        go_wp2_with fail
        rw [← hV0A.out]
        go_loopw [3, 4] (fun u i wr => ∃ k : Nat, 2 * k ≤ L.length + 1 ∧ i = .int .i64 ((2 * k : Nat) : Int) ∧ kh.R 25 wr w.heap.size (fun k => w.heap.size + 1 ≤ k) u ((List.range k).map (duo L)) ∧ Blk wr w.heap.size 25 (nums .u8 zero32) ∧ Below w.heap.size w wr) (fun _ i _ => L.length + 1 - (intOf i).toNat)
        case atStart => exact ⟨0, by omega, rfl, Kd.R_nil _ _ _ _ _, hR0A.out, hB0A.out⟩
        case round =>
          clear hR0A hB0A hC0A
          obtain ⟨k, hk, rfl, hR, hX, hB⟩ := hrel
          have hRA := Aside0.mk hR; have hXA := Aside0.mk hX; have hBA := Aside0.mk hB
          clear hR hX hB
          by_cases hlt : 2 * k < L.length
          · have hduoE : (List.range (k + 1)).map (duo L) = (List.range k).map (duo L) ++ [duo L k] := by rw [List.range_succ, List.map_append]; rfl
            obtain ⟨i, hi⟩ : ∃ i, i = 2 * k := ⟨_, rfl⟩
            obtain ⟨p0, hp0⟩ : ∃ h, L[i]? = some h := ⟨_, List.getElem?_eq_getElem (by omega)⟩
            have hl0 := hlens p0 (List.mem_of_getElem? hp0)
            have hb0 := hby p0 (List.mem_of_getElem? hp0)
            have hat0 : ∀ V1, Below w.heap.size w V1 → ∀ j v, (nums .u8 p0)[j]? = some v → V1.cell? ((ad.add (i * 32)).add j) = some v := fun V1 hS => by
              obtain ⟨_, a0, e0, h0⟩ := kh_at (Kd.C_below hrA.out hS) _ _ hp0
              cases e0; exact h0
            have hi0 := info_hash p0 hl0
            have hw1 : IntKind.i64.wrap ((i : Int) + 1) = (i : Int) + 1 := IntWalk.i64_in _ (by omega)
            have hw2 : IntKind.i64.wrap ((i : Int) + 2) = (i : Int) + 2 := IntWalk.i64_in _ (by omega)
            have g0 : (0 : Int) ≤ (i : Int) := by omega
            have g1 : (i : Int) < (L.length : Int) := by omega
            have hll : ((List.range k).map (duo L)).length ≤ 1000 := by simp; omega
            rw [← hi]
            by_cases hlast : i + 1 = L.length
            · have d1 : (((i : Int) + 1) == (L.length : Int)) = true := beq_iff_eq.2 (by omega)
              have d2 : ((i : Int) + 1) = (L.length : Int) := by omega
              have hq : min 2 (L.length - 2 * k) - 1 = 0 := by omega
              have hduo : duo L k = dbl (p0 ++ p0) := by
                unfold duo
                rw [hq, Nat.add_zero, List.getD_eq_getElem?_getD, ← hi, hp0]; rfl
              rw [hduo] at hduoE
              generalize (List.range k).map (duo L) = ls at *
              obtain ⟨pp, hpp⟩ : ∃ pp, p0 ++ p0 = pp := ⟨_, rfl⟩
              have hlp : pp.length = 64 := by rw [← hpp, List.length_append]; omega
              have hbp : Bytes pp := by rw [← hpp]; exact fun x hx => (List.mem_append.1 hx).elim (hb0 x) (hb0 x)
              rw [hpp] at hduoE
              have hdl : (dbl pp).length = 32 := sum_length _
              obtain ⟨d, hdd⟩ : ∃ d, dbl pp = d := ⟨_, rfl⟩
              rw [hdd] at hduoE hdl
              have hppA := Aside0.mk hpp; have hlpA := Aside0.mk hlp; have hbpA := Aside0.mk hbp
              clear hpp hlp hbp
              have hddA := Aside0.mk hdd; have hdlA := Aside0.mk hdl; have hduoA := Aside0.mk hduoE; have hiA := Aside0.mk hi; have hlA := Aside0.mk hl0; have hbA := Aside0.mk hb0
              have hlastA := Aside0.mk hlast
              clear hdd hdl hduoE hi hl0 hb0 hq hduo hp0 hlast d2
              go_wp2_with fail
              refine wp_region_noPanic ?_
              have H0 : Below w.heap.size w wr.drew := pw_below_drewN hBA.out 1
              refine wp_region_held_drew (S := fun V => Below w.heap.size w V) (by kernel_rfl) H0 (fun _ => ?_)
              have hR0 : Aside0 (kh.R 25 wr.drew w.heap.size (fun k => w.heap.size + 1 ≤ k) u3 ls) := Aside0.mk (Kd.R_below hRA.out (pw_below_drewN (Below.refl wr.heap.size wr) 1))
              have hX0 : Blk wr.drew w.heap.size 25 (nums .u8 zero32) := hXA.out
              generalize wr.drew = V0 at *
              -- REGION A
              refine wpAnyH_take (i := 0) (v := u3) (op_at rfl) (by kernel_rfl) (by kernel_rfl) (by kernel_rfl) (fun _ _ _ h => h) (Or.inl ⟨by rfl, fun w_ hSw => ?_⟩) H0 ?_
              · skip; go_simp
              try simp only [Act.put, List.setIfInBounds_toArray, List.set_cons_zero, List.set_cons_succ]
              refine wpAnyH_take (i := 1) (v := .slice (some ad) L.length c) (op_at rfl) (by kernel_rfl) (by kernel_rfl) (by kernel_rfl) (fun _ _ _ h => h) (Or.inl ⟨by rfl, fun w_ hSw => ?_⟩) H0 ?_
              · skip; go_simp
              try simp only [Act.put, List.setIfInBounds_toArray, List.set_cons_zero, List.set_cons_succ]
              refine wpAnyH_take (i := 2) (v := .int .i64 (i : Int)) (op_at rfl) (by kernel_rfl) (by kernel_rfl) (by kernel_rfl) (fun _ _ _ h => h) (Or.inl ⟨by rfl, fun w_ hSw => ?_⟩) H0 ?_
              · skip; go_simp
              try simp only [Act.put, List.setIfInBounds_toArray, List.set_cons_zero, List.set_cons_succ]
              refine wpAnyH_take (i := 3) (v := .pointer (some (ad.add (i * 32)))) (op_at rfl) (by kernel_rfl) (by kernel_rfl) (by kernel_rfl) (fun _ _ _ h => h) (Or.inl ⟨by rfl, fun w_ hSw => ?_⟩) H0 ?_
              · skip; go_simp
              try simp only [Act.put, List.setIfInBounds_toArray, List.set_cons_zero, List.set_cons_succ]
              refine wpAnyH_take (i := 4) (v := hv p0) (op_at rfl) (by kernel_rfl) (by kernel_rfl) (by kernel_rfl) (fun _ _ _ h => h) (yieldsIf_load_any (by rfl) _ _ rfl (ad.add (i * 32)) rfl _ _ (fun w_ hSw => hat0 w_ hSw) hu rfl hi0) H0 ?_
              try simp only [Act.put, List.setIfInBounds_toArray, List.set_cons_zero, List.set_cons_succ]
              refine wpAnyH_take (i := 6) (v := .slice (some ad) L.length c) (op_at rfl) (by kernel_rfl) (by kernel_rfl) (by kernel_rfl) (fun _ _ _ h => h) (Or.inl ⟨by rfl, fun w_ hSw => ?_⟩) H0 ?_
              · skip; go_simp
              try simp only [Act.put, List.setIfInBounds_toArray, List.set_cons_zero, List.set_cons_succ]
              refine wpAnyH_take (i := 7) (v := .int .i64 (i : Int)) (op_at rfl) (by kernel_rfl) (by kernel_rfl) (by kernel_rfl) (fun _ _ _ h => h) (Or.inl ⟨by rfl, fun w_ hSw => ?_⟩) H0 ?_
              · skip; go_simp
              try simp only [Act.put, List.setIfInBounds_toArray, List.set_cons_zero, List.set_cons_succ]
              refine wpAnyH_take (i := 8) (v := .pointer (some (ad.add (i * 32)))) (op_at rfl) (by kernel_rfl) (by kernel_rfl) (by kernel_rfl) (fun _ _ _ h => h) (Or.inl ⟨by rfl, fun w_ hSw => ?_⟩) H0 ?_
              · skip; go_simp
              try simp only [Act.put, List.setIfInBounds_toArray, List.set_cons_zero, List.set_cons_succ]
              refine wpAnyH_take (i := 9) (v := hv p0) (op_at rfl) (by kernel_rfl) (by kernel_rfl) (by kernel_rfl) (fun _ _ _ h => h) (yieldsIf_load_any (by rfl) _ _ rfl (ad.add (i * 32)) rfl _ _ (fun w_ hSw => hat0 w_ hSw) hu rfl hi0) H0 ?_
              try simp only [Act.put, List.setIfInBounds_toArray, List.set_cons_zero, List.set_cons_succ]
              refine wpAnyH_ready (rs := [5]) (by kernel_rfl) (by simp) ?_
              refine AllReadyH.cons (op_at rfl) (fun K hK => ?_) AllReadyH.nil
              go_simp
              go_at_call 24
              with_reducible refine (bytesR_calls p0 hlA.out V0).mono ?_
              rintro e V1_ ⟨u_1, rfl, hR_, hb⟩
              go_wp2_with fail
              refine hK.out _ _ (below_then H0 H0.size hb) (fun H1_ => ?_)
              have X_1 := hX0.below hb
              have R_1 := Aside0.mk (Kd.R_below hR0.out hb)
              have RB_1 := Aside0.mk (Kd.R_lower hR_ H0.size)
              clear hK K hb hR_
              try simp only [Act.put, List.setIfInBounds_toArray, List.set_cons_zero, List.set_cons_succ]
              refine wpAnyH_ready (rs := [10]) (by kernel_rfl) (by simp) ?_
              refine AllReadyH.cons (op_at rfl) (fun K hK => ?_) AllReadyH.nil
              go_simp
              go_at_call 24
              with_reducible refine (bytesR_calls p0 hlA.out V1_).mono ?_
              rintro e V2_ ⟨u_2, rfl, hR_, hb⟩
              go_wp2_with fail
              refine hK.out _ _ (below_then H1_ H1_.size hb) (fun H2_ => ?_)
              have X_2 := X_1.below hb
              have R_2 := Aside0.mk (Kd.R_below R_1.out hb)
              have RB_2 := Aside0.mk (Kd.R_below RB_1.out hb)
              obtain ⟨A_2, c_2, hv_, hc_2, hC_⟩ := Kd.R_reads hR_
              subst hv_
              have C_2 := Aside0.mk hC_
              clear hK K hb hR_ hC_
              try simp only [Act.put, List.setIfInBounds_toArray, List.set_cons_zero, List.set_cons_succ]
              refine wpAnyH_ready (rs := [11]) (by kernel_rfl) (by simp) ?_
              refine AllReadyH.cons (op_at rfl) (fun K hK => ?_) AllReadyH.nil
              refine Kd.R_append_rows_step (Kd.int .u8) (Rr := (Kd.int .u8).K V2_) (w0 := w) w.heap.size (by rfl) (.tmp 34) (.tmp 39) 22 5 (.int .u8 0) 1 rfl Tryd.underlying22 info_u8 rfl (by decide) (by decide) u_1 p0 p0 A_2 p0.length c_2 (fun _ => True) (fun _ => False) rfl rfl RB_2.out C_2.out (fun _ _ h => h) (fun _ h => h.elim) (fun _ _ => trivial) H2_ H2_.size (by have h1_ := hlA.out; have h2_ := hlA.out; omega) ?_
              intro v_3 V3_ hR_ hB_ hg_ _
              rw [hppA.out] at hR_
              refine hK.out _ _ hB_ (fun H3_ => ?_)
              have X_3 := X_2.grown hg_ (Kd.R_ne RB_2.out X_2 (by decide))
              have R_3 := Aside0.mk (R_apart R_2.out RB_2.out (by decide) hg_)
              obtain ⟨A_3, c_3, hv_, hc_3, hC_⟩ := Kd.R_reads hR_
              subst hv_
              have C_3 := Aside0.mk hC_
              clear hK K hg_ hR_ hC_ hB_
              try simp only [Act.put, List.setIfInBounds_toArray, List.set_cons_zero, List.set_cons_succ]
              refine wpAnyH_ready (rs := [12]) (by kernel_rfl) (by simp) ?_
              refine AllReadyH.cons (op_at rfl) (fun K hK => ?_) AllReadyH.nil
              go_simp
              go_at_call 12
              have hD_ := rdouble_calls pp A_3 c_3 V3_ hbpA.out (hKA.out.below H3_) C_3.out hc_3 (by have h1_ := hlpA.out; omega)
              rw [hddA.out] at hD_
              have hDA_ := Aside0.mk hD_
              clear hD_
              with_reducible refine hDA_.out.mono ?_
              rintro e V4_ ⟨rfl, hb⟩
              go_wp2_with fail
              refine hK.out _ _ (below_then H3_ H3_.size hb) (fun H4_ => ?_)
              have X_4 := X_3.below hb
              have R_4 := Aside0.mk (Kd.R_below R_3.out hb)
              clear hK K hb hDA_
              try simp only [Act.put, List.setIfInBounds_toArray, List.set_cons_zero, List.set_cons_succ]
              refine wpAnyH_ready (rs := [13]) (by kernel_rfl) (by simp) ?_
              refine AllReadyH.cons (op_at rfl) (fun K hK => ?_) AllReadyH.nil
              refine step_slice_hash (by rfl) 35 (.tmp 41) rfl d hdlA.out rfl Tryd.underlying35 ?_
              refine hK.out _ _ (below_then H4_ H4_.size (below_alloc (Below.refl V4_.heap.size V4_) (.cells (nums .u8 d).toArray 25))) (fun H5_ => ?_)
              clear hK K
              try simp only [Act.put, List.setIfInBounds_toArray, List.set_cons_zero, List.set_cons_succ]
              refine wpAnyH_ready (rs := [14]) (by kernel_rfl) (by simp) ?_
              refine AllReadyH.cons (op_at rfl) (fun K hK => ?_) AllReadyH.nil
              refine Kd.R_append_step kh (w0 := w) w.heap.size (by rfl) (.tmp 29) (.tmp 42) 35 25 (hv zero32) 32 rfl Tryd.underlying35 info_hash3 rfl (by decide) (by decide) u3 ls d (nums .u8 d) (fun k => w.heap.size + 1 ≤ k) (fun _ => False) rfl rfl (kh_M hdlA.out) (fun _ h => h.elim) (fun k hk => Nat.le_trans X_4.lt hk) R_4.out H4_ H4_.size (by omega) ?_
              intro v_6 V6_ hR_ hB_ hg_ _
              refine hK.out _ _ hB_ (fun H6_ => ?_)
              have X_6 := X_4.grown hg_ (fun e => absurd (R_4.out.1 _ e.symm) (by omega))
              have R_6 := Aside0.mk hR_
              clear hK K hB_ hg_ hR_
              try simp only [Act.put, List.setIfInBounds_toArray, List.set_cons_zero, List.set_cons_succ]
              refine wpAnyH_take (i := 15) (v := v_6) (op_at rfl) (by kernel_rfl) (by kernel_rfl) (by kernel_rfl) (fun _ _ _ h => h) (Or.inl ⟨by rfl, fun w_ hSw => ?_⟩) H6_ ?_
              · skip; go_simp
              try simp only [Act.put, List.setIfInBounds_toArray, List.set_cons_zero, List.set_cons_succ]
              refine wpAnyH_done (by kernel_rfl) ?_ _
              refine NoPanic.normal ?_
              go_wp2
              go_roundw
              case rel => exact ⟨k + 1, by omega, by have := hiA.out; go_num, by rw [hduoA.out]; exact R_6.out, X_6, H6_⟩
              case measure => have := hiA.out; simp [intOf]; omega
              -- END A
            · have d1 : (((i : Int) + 1) == (L.length : Int)) = false := beq_eq_false_iff_ne.2 (by omega)
              have d2 : ¬ ((i : Int) + 1) = (L.length : Int) := by omega
              have g2 : (0 : Int) ≤ (i : Int) + 1 := by omega
              have g3 : (i : Int) + 1 < (L.length : Int) := by omega
              have g4 : ((i : Int) + 1).toNat = i + 1 := by omega
              obtain ⟨p1, hp1⟩ : ∃ h, L[i + 1]? = some h := ⟨_, List.getElem?_eq_getElem (by omega)⟩
              have hl1 := hlens p1 (List.mem_of_getElem? hp1)
              have hb1 := hby p1 (List.mem_of_getElem? hp1)
              have hat1 : ∀ V1, Below w.heap.size w V1 → ∀ j v, (nums .u8 p1)[j]? = some v → V1.cell? ((ad.add ((i + 1) * 32)).add j) = some v := fun V1 hS => by
                obtain ⟨_, a0, e0, h0⟩ := kh_at (Kd.C_below hrA.out hS) _ _ hp1
                cases e0; exact h0
              have hi1 := info_hash p1 hl1
              have hl1A := Aside0.mk hl1
              have hq : min 2 (L.length - 2 * k) - 1 = 1 := by omega
              have hduo : duo L k = dbl (p0 ++ p1) := by
                unfold duo
                rw [hq, List.getD_eq_getElem?_getD, List.getD_eq_getElem?_getD, ← hi, hp0, hp1]; rfl
              rw [hduo] at hduoE
              generalize (List.range k).map (duo L) = ls at *
              obtain ⟨pp, hpp⟩ : ∃ pp, p0 ++ p1 = pp := ⟨_, rfl⟩
              have hlp : pp.length = 64 := by rw [← hpp, List.length_append]; omega
              have hbp : Bytes pp := by rw [← hpp]; exact fun x hx => (List.mem_append.1 hx).elim (hb0 x) (hb1 x)
              rw [hpp] at hduoE
              have hdl : (dbl pp).length = 32 := sum_length _
              obtain ⟨d, hdd⟩ : ∃ d, dbl pp = d := ⟨_, rfl⟩
              rw [hdd] at hduoE hdl
              have hppA := Aside0.mk hpp; have hlpA := Aside0.mk hlp; have hbpA := Aside0.mk hbp
              clear hpp hlp hbp
              have hddA := Aside0.mk hdd; have hdlA := Aside0.mk hdl; have hduoA := Aside0.mk hduoE; have hiA := Aside0.mk hi; have hlA := Aside0.mk hl0; have hbA := Aside0.mk hb0
              have hlastA := Aside0.mk hlast
              clear hdd hdl hduoE hi hl0 hb0 hq hduo hp0 hlast d2 hl1 hb1 hp1
              go_wp2_with fail
              refine wp_region_noPanic ?_
              have H0 : Below w.heap.size w wr.drew := pw_below_drewN hBA.out 1
              refine wp_region_held_drew (S := fun V => Below w.heap.size w V) (by kernel_rfl) H0 (fun _ => ?_)
              have hR0 : Aside0 (kh.R 25 wr.drew w.heap.size (fun k => w.heap.size + 1 ≤ k) u3 ls) := Aside0.mk (Kd.R_below hRA.out (pw_below_drewN (Below.refl wr.heap.size wr) 1))
              have hX0 : Blk wr.drew w.heap.size 25 (nums .u8 zero32) := hXA.out
              generalize wr.drew = V0 at *
              -- REGION B
              refine wpAnyH_take (i := 0) (v := u3) (op_at rfl) (by kernel_rfl) (by kernel_rfl) (by kernel_rfl) (fun _ _ _ h => h) (Or.inl ⟨by rfl, fun w_ hSw => ?_⟩) H0 ?_
              · skip; go_simp
              try simp only [Act.put, List.setIfInBounds_toArray, List.set_cons_zero, List.set_cons_succ]
              refine wpAnyH_take (i := 1) (v := .slice (some ad) L.length c) (op_at rfl) (by kernel_rfl) (by kernel_rfl) (by kernel_rfl) (fun _ _ _ h => h) (Or.inl ⟨by rfl, fun w_ hSw => ?_⟩) H0 ?_
              · skip; go_simp
              try simp only [Act.put, List.setIfInBounds_toArray, List.set_cons_zero, List.set_cons_succ]
              refine wpAnyH_take (i := 2) (v := .int .i64 (i : Int)) (op_at rfl) (by kernel_rfl) (by kernel_rfl) (by kernel_rfl) (fun _ _ _ h => h) (Or.inl ⟨by rfl, fun w_ hSw => ?_⟩) H0 ?_
              · skip; go_simp
              try simp only [Act.put, List.setIfInBounds_toArray, List.set_cons_zero, List.set_cons_succ]
              refine wpAnyH_take (i := 3) (v := .pointer (some (ad.add (i * 32)))) (op_at rfl) (by kernel_rfl) (by kernel_rfl) (by kernel_rfl) (fun _ _ _ h => h) (Or.inl ⟨by rfl, fun w_ hSw => ?_⟩) H0 ?_
              · skip; go_simp
              try simp only [Act.put, List.setIfInBounds_toArray, List.set_cons_zero, List.set_cons_succ]
              refine wpAnyH_take (i := 4) (v := hv p0) (op_at rfl) (by kernel_rfl) (by kernel_rfl) (by kernel_rfl) (fun _ _ _ h => h) (yieldsIf_load_any (by rfl) _ _ rfl (ad.add (i * 32)) rfl _ _ (fun w_ hSw => hat0 w_ hSw) hu rfl hi0) H0 ?_
              try simp only [Act.put, List.setIfInBounds_toArray, List.set_cons_zero, List.set_cons_succ]
              refine wpAnyH_take (i := 6) (v := .slice (some ad) L.length c) (op_at rfl) (by kernel_rfl) (by kernel_rfl) (by kernel_rfl) (fun _ _ _ h => h) (Or.inl ⟨by rfl, fun w_ hSw => ?_⟩) H0 ?_
              · skip; go_simp
              try simp only [Act.put, List.setIfInBounds_toArray, List.set_cons_zero, List.set_cons_succ]
              refine wpAnyH_take (i := 7) (v := .int .i64 ((i : Int) + 1)) (op_at rfl) (by kernel_rfl) (by kernel_rfl) (by kernel_rfl) (fun _ _ _ h => h) (Or.inl ⟨by rfl, fun w_ hSw => ?_⟩) H0 ?_
              · skip; go_simp
              try simp only [Act.put, List.setIfInBounds_toArray, List.set_cons_zero, List.set_cons_succ]
              refine wpAnyH_take (i := 8) (v := .pointer (some (ad.add ((i + 1) * 32)))) (op_at rfl) (by kernel_rfl) (by kernel_rfl) (by kernel_rfl) (fun _ _ _ h => h) (Or.inl ⟨by rfl, fun w_ hSw => ?_⟩) H0 ?_
              · skip; go_simp
              try simp only [Act.put, List.setIfInBounds_toArray, List.set_cons_zero, List.set_cons_succ]
              refine wpAnyH_take (i := 9) (v := hv p1) (op_at rfl) (by kernel_rfl) (by kernel_rfl) (by kernel_rfl) (fun _ _ _ h => h) (yieldsIf_load_any (by rfl) _ _ rfl (ad.add ((i + 1) * 32)) rfl _ _ (fun w_ hSw => hat1 w_ hSw) hu rfl hi1) H0 ?_
              try simp only [Act.put, List.setIfInBounds_toArray, List.set_cons_zero, List.set_cons_succ]
              refine wpAnyH_ready (rs := [5]) (by kernel_rfl) (by simp) ?_
              refine AllReadyH.cons (op_at rfl) (fun K hK => ?_) AllReadyH.nil
              go_simp
              go_at_call 24
              with_reducible refine (bytesR_calls p0 hlA.out V0).mono ?_
              rintro e V1_ ⟨u_1, rfl, hR_, hb⟩
              go_wp2_with fail
              refine hK.out _ _ (below_then H0 H0.size hb) (fun H1_ => ?_)
              have X_1 := hX0.below hb
              have R_1 := Aside0.mk (Kd.R_below hR0.out hb)
              have RB_1 := Aside0.mk (Kd.R_lower hR_ H0.size)
              clear hK K hb hR_
              try simp only [Act.put, List.setIfInBounds_toArray, List.set_cons_zero, List.set_cons_succ]
              refine wpAnyH_ready (rs := [10]) (by kernel_rfl) (by simp) ?_
              refine AllReadyH.cons (op_at rfl) (fun K hK => ?_) AllReadyH.nil
              go_simp
              go_at_call 24
              with_reducible refine (bytesR_calls p1 hl1A.out V1_).mono ?_
              rintro e V2_ ⟨u_2, rfl, hR_, hb⟩
              go_wp2_with fail
              refine hK.out _ _ (below_then H1_ H1_.size hb) (fun H2_ => ?_)
              have X_2 := X_1.below hb
              have R_2 := Aside0.mk (Kd.R_below R_1.out hb)
              have RB_2 := Aside0.mk (Kd.R_below RB_1.out hb)
              obtain ⟨A_2, c_2, hv_, hc_2, hC_⟩ := Kd.R_reads hR_
              subst hv_
              have C_2 := Aside0.mk hC_
              clear hK K hb hR_ hC_
              try simp only [Act.put, List.setIfInBounds_toArray, List.set_cons_zero, List.set_cons_succ]
              refine wpAnyH_ready (rs := [11]) (by kernel_rfl) (by simp) ?_
              refine AllReadyH.cons (op_at rfl) (fun K hK => ?_) AllReadyH.nil
              refine Kd.R_append_rows_step (Kd.int .u8) (Rr := (Kd.int .u8).K V2_) (w0 := w) w.heap.size (by rfl) (.tmp 34) (.tmp 39) 22 5 (.int .u8 0) 1 rfl Tryd.underlying22 info_u8 rfl (by decide) (by decide) u_1 p0 p1 A_2 p1.length c_2 (fun _ => True) (fun _ => False) rfl rfl RB_2.out C_2.out (fun _ _ h => h) (fun _ h => h.elim) (fun _ _ => trivial) H2_ H2_.size (by have h1_ := hlA.out; have h2_ := hl1A.out; omega) ?_
              intro v_3 V3_ hR_ hB_ hg_ _
              rw [hppA.out] at hR_
              refine hK.out _ _ hB_ (fun H3_ => ?_)
              have X_3 := X_2.grown hg_ (Kd.R_ne RB_2.out X_2 (by decide))
              have R_3 := Aside0.mk (R_apart R_2.out RB_2.out (by decide) hg_)
              obtain ⟨A_3, c_3, hv_, hc_3, hC_⟩ := Kd.R_reads hR_
              subst hv_
              have C_3 := Aside0.mk hC_
              clear hK K hg_ hR_ hC_ hB_
              try simp only [Act.put, List.setIfInBounds_toArray, List.set_cons_zero, List.set_cons_succ]
              refine wpAnyH_ready (rs := [12]) (by kernel_rfl) (by simp) ?_
              refine AllReadyH.cons (op_at rfl) (fun K hK => ?_) AllReadyH.nil
              go_simp
              go_at_call 12
              have hD_ := rdouble_calls pp A_3 c_3 V3_ hbpA.out (hKA.out.below H3_) C_3.out hc_3 (by have h1_ := hlpA.out; omega)
              rw [hddA.out] at hD_
              have hDA_ := Aside0.mk hD_
              clear hD_
              with_reducible refine hDA_.out.mono ?_
              rintro e V4_ ⟨rfl, hb⟩
              go_wp2_with fail
              refine hK.out _ _ (below_then H3_ H3_.size hb) (fun H4_ => ?_)
              have X_4 := X_3.below hb
              have R_4 := Aside0.mk (Kd.R_below R_3.out hb)
              clear hK K hb hDA_
              try simp only [Act.put, List.setIfInBounds_toArray, List.set_cons_zero, List.set_cons_succ]
              refine wpAnyH_ready (rs := [13]) (by kernel_rfl) (by simp) ?_
              refine AllReadyH.cons (op_at rfl) (fun K hK => ?_) AllReadyH.nil
              refine step_slice_hash (by rfl) 35 (.tmp 41) rfl d hdlA.out rfl Tryd.underlying35 ?_
              refine hK.out _ _ (below_then H4_ H4_.size (below_alloc (Below.refl V4_.heap.size V4_) (.cells (nums .u8 d).toArray 25))) (fun H5_ => ?_)
              clear hK K
              try simp only [Act.put, List.setIfInBounds_toArray, List.set_cons_zero, List.set_cons_succ]
              refine wpAnyH_ready (rs := [14]) (by kernel_rfl) (by simp) ?_
              refine AllReadyH.cons (op_at rfl) (fun K hK => ?_) AllReadyH.nil
              refine Kd.R_append_step kh (w0 := w) w.heap.size (by rfl) (.tmp 29) (.tmp 42) 35 25 (hv zero32) 32 rfl Tryd.underlying35 info_hash3 rfl (by decide) (by decide) u3 ls d (nums .u8 d) (fun k => w.heap.size + 1 ≤ k) (fun _ => False) rfl rfl (kh_M hdlA.out) (fun _ h => h.elim) (fun k hk => Nat.le_trans X_4.lt hk) R_4.out H4_ H4_.size (by omega) ?_
              intro v_6 V6_ hR_ hB_ hg_ _
              refine hK.out _ _ hB_ (fun H6_ => ?_)
              have X_6 := X_4.grown hg_ (fun e => absurd (R_4.out.1 _ e.symm) (by omega))
              have R_6 := Aside0.mk hR_
              clear hK K hB_ hg_ hR_
              try simp only [Act.put, List.setIfInBounds_toArray, List.set_cons_zero, List.set_cons_succ]
              refine wpAnyH_take (i := 15) (v := v_6) (op_at rfl) (by kernel_rfl) (by kernel_rfl) (by kernel_rfl) (fun _ _ _ h => h) (Or.inl ⟨by rfl, fun w_ hSw => ?_⟩) H6_ ?_
              · skip; go_simp
              try simp only [Act.put, List.setIfInBounds_toArray, List.set_cons_zero, List.set_cons_succ]
              refine wpAnyH_done (by kernel_rfl) ?_ _
              refine NoPanic.normal ?_
              go_wp2
              go_roundw
              case rel => exact ⟨k + 1, by omega, by have := hiA.out; go_num, by rw [hduoA.out]; exact R_6.out, X_6, H6_⟩
              case measure => have := hiA.out; simp [intOf]; omega
              -- END B
          · have g1 : ¬ ((2 * k : Nat) : Int) < (L.length : Int) := by omega
            have hk2 : k = (L.length + 1) / 2 := by omega
            have hlv : (List.range k).map (duo L) = lev L := by rw [hk2]; rfl
            rw [hlv] at hRA
            obtain ⟨A1, c1, hv1, hc1, hC1⟩ := Kd.R_reads hRA.out
            subst hv1
            have hT := ihA.out (lev L) A1 c1 wr (by rw [lev_length]; omega) (hKA.out.below hBA.out) hC1 hc1 (by rw [lev_length]; omega) (lev_bytes L)
            rw [← tree_lev (by omega)] at hT
            have htl : (tree L).length = 32 := tree_length L.length L (Nat.le_refl _) hlens
            rw [← hxA.out] at hT htl
            have hix := info_hash x htl
            have hzx : (nums .u8 zero32).length = (nums .u8 x).length := by simp [nums, htl]
            have hTA := Aside0.mk hT; have hixA := Aside0.mk hix; have hzxA := Aside0.mk hzx
            clear hT hix hzx htl hC1 hc1 hRA hlv hk2
            go_wp2_with (first | (go_at_call 18; with_reducible refine hTA.out.mono ?_; rintro e w3 ⟨rfl, hb3⟩; have hX3 := hXA.out.below hb3; have hB3 := Aside0.mk (below_then hBA.out hBA.out.size hb3); clear hb3) | (refine wpList_put_blk rfl 25 (.tmp 2) (.tmp 45) rfl w.heap.size 25 (nums .u8 x) (nums .u8 zero32) hzxA.out rfl rfl hX3 hixA.out (u8_one _) ?_; intro w4 hW4 hg4 hs4))
            exact bodyPost_ret (results_cell_row rfl _ _ w.heap.size 25 (nums .u8 x).toArray (0, 0) _ rfl hW4 Tryd.underlying25 rfl (by rw [List.size_toArray]; exact hixA.out)) rfl ⟨rfl, hB3.out.grown hg4 hB3.out.size (fun k e => by cases e; exact Nat.le_refl _)⟩
end Go.Proofs.YtibiaacgcpgkbaaDoor.ShaW
