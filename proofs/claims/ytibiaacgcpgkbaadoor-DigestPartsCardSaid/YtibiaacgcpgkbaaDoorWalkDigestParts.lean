/- How a text is parted doesn't matter.
   Conditions: none. -/
import Derived.Test.YtibiaacgcpgkbaaDoorShaI
import Derived.Deep.RegionHeld3
set_option linter.unusedVariables false
set_option linter.unusedSimpArgs false
namespace Go.Proofs.YtibiaacgcpgkbaaDoor.Walk
open Go.RowKit Go.Proofs.YtibiaacgcpgkbaaDoorW.PrintWords Go.Proofs.YtibiaacgcpgkbaaDoorW.PrintMore Go.Proofs.YtibiaacgcpgkbaaDoor Go.Proofs.YtibiaacgcpgkbaaDoor.Bits Sha ArrK ShaW
theorem flat_bytes {parts : List (List Int)} (h : ∀ p ∈ parts, Bytes p) : Bytes parts.flatten := fun x hx => by
  obtain ⟨p, hp, hx⟩ := List.mem_flatten.1 hx
  exact h p hp x hx
theorem op_at {ops : Array Oper} {i : Nat} {o : Oper} (h : (ops.toList.drop i).head? = some o) : ops[i]? = some o := by
  rw [List.head?_drop] at h; simpa using h
/-- what is held while the region goes on -/
def HeldP (w : World) (bh : Nat) (s : List Int) (A : Option Addr) (t : List Int) (V : World) : Prop := V.rangeAt bh 0 (nums .u8 s) ∧ Below w.heap.size w V ∧ bh < V.heap.size ∧ Kd.C (Kd.int .u8) V A t.length t
theorem heldP_of {w V W' : World} {bh : Nat} {s : List Int} {A : Option Addr} {t : List Int} (hb : Below V.heap.size V W') (h : HeldP w bh s A t V) : HeldP w bh s A t W' :=
  ⟨fun j v hv => (hb.cell (p := ⟨bh, 0 + j, none⟩) h.2.2.1).trans (h.1 j v hv), below_then h.2.1 h.2.1.size hb, Nat.lt_of_lt_of_le h.2.2.1 hb.size, Kd.C_below h.2.2.2 hb⟩
theorem heldP_b {w V : World} {bh : Nat} {s : List Int} {A : Option Addr} {t : List Int} (h : HeldP w bh s A t V) : Below w.heap.size w V := h.2.1
theorem heldP_C {w V : World} {bh : Nat} {s : List Int} {A : Option Addr} {t : List Int} (h : HeldP w bh s A t V) (hl : s.length = 32) : Kd.C (Kd.int .u8) V (some ⟨bh, 0, none⟩) s.length s := by
  refine Kd.C_of_reads (d := (0 : Int)) (h1 := fun _ => rfl) ⟨rfl, by omega, fun _ => ⟨_, rfl, fun j hj => ?_⟩⟩
  have := h.1 j (.int .u8 (s.getD j 0)) (by simp [nums, hj])
  rw [Nat.zero_add] at this
  rw [add_plain]; exact this
theorem part_sum (V : World) (b bh : Nat) (s : List Int) (w : World) (A : Option Addr) (t : List Int) (hb : Blk V b 22 [.slice (some ⟨bh, 0, none⟩) 32 32]) (hS : HeldP w bh s A t V) (hl : s.length = 32) (hby : Bytes s) (hK : Kst w) (hBg : Bst w) :
    Calls Tryd.prog 9 #[.slice (some ⟨b, 0, none⟩) 1 1] V fun e w' => e = .returned (hv (Sha.sum s)) ∧ Below V.heap.size V w' := by
  have hb2 : Blk V b 22 [.slice (some ⟨bh, 0, none⟩) s.length 32] := by rw [hl]; exact hb
  have h := sum_calls [s] (some ⟨b, 0, none⟩) 1 V (hK.below hS.2.1) (hBg.below hS.2.1) (kp_one hb2 (by omega) (heldP_C hS hl)) (Nat.le_refl _) (by show 1 ≤ _; decide) (by rw [flat_one]; omega) (by rw [flat_one]; exact hby)
  rw [flat_one] at h
  exact h
theorem part_dbl (V : World) (b bh : Nat) (s : List Int) (w : World) (A : Option Addr) (t : List Int) (c : Nat) (hb : Blk V b 22 [.slice A t.length c]) (hS : HeldP w bh s A t V) (hc : t.length ≤ c) (hl : t.length < 1000000000) (hby : Bytes t) (hK : Kst w) (hBg : Bst w) :
    Calls Tryd.prog 11 #[.slice (some ⟨b, 0, none⟩) 1 1] V fun e w' => e = .returned (hv (dbl t)) ∧ Below V.heap.size V w' := by
  have h := double_calls [t] (some ⟨b, 0, none⟩) 1 V (hK.below hS.2.1) (hBg.below hS.2.1) (kp_one hb hc hS.2.2.2) (Nat.le_refl _) (by show 1 ≤ _; decide) (by rw [flat_one]; exact hl) (by rw [flat_one]; exact hby)
  rw [flat_one] at h
  exact h
set_option maxRecDepth 100000 in
set_option maxHeartbeats 400000 in
theorem DigestParts (A : Option Addr) (c : Nat) (parts : List (List Int)) (w : World) (hK : Kst w) (hBg : Bst w) (hr : kp.C w A parts.length parts) (hc : parts.length ≤ c) (hb : ∀ p ∈ parts, Bytes p) :
    Calls Tryd.prog 4 #[.slice A parts.length c] w fun e w' => e = .returned (.bool true) ∧ Below w.heap.size w w' := by
  have hAl := Aside0.mk (alive_calls w hK hBg)
  have hrA := Aside0.mk hr; have hKA := Aside0.mk hK; have hBgA := Aside0.mk hBg; have hbA := Aside0.mk (flat_bytes hb)
  clear hr hK hBg hb
  go_enter Tryd.func4, Tryd.ntmps4
  go_wp2_with (first | (go_at_call 8; with_reducible refine hAl.out.mono ?_; rintro e w1 ⟨rfl, hb1⟩; have hb1A := Aside0.mk hb1; clear hb1) | ((with_reducible refine gate_dst (N := 9) rfl ?_); refine Kd.R_lit (Kd.int .u8) (w0 := w) w.heap.size 5 ?hg (N := 9) ?hd (xs := ([] : List Int)) (inner := []) (ok := fun _ => True) (okp := fun _ => True) ?hr ?hp (fun _ hk => hk) trivial hb1A.out hb1A.out.size (by simp) ?_; (case hd => rfl); (case hg => rfl); (case hr => first | (go_simp; done) | (go_simp; rfl)); (case hp => exact (Reps.none _ _)); intro v9 w9 hR9 hB9 hg9 hn9; have hR9A := Aside0.mk hR9; have hB9A := Aside0.mk hB9; clear hR9 hB9 hg9 hn9))
  go_loopw [12, 3] (fun i o wr => ∃ k : Nat, k ≤ parts.length ∧ k ≤ 21 ∧ i = .int .i64 k ∧ (parts.take k).flatten.length ≤ 300 * k ∧ Kd.R (Kd.int .u8) 5 wr w.heap.size (fun _ => True) o (parts.take k).flatten ∧ Below w.heap.size w wr) (fun i _ _ => parts.length - (intOf i).toNat)
  case atStart => exact ⟨0, by omega, by omega, rfl, by simp, hR9A.out, hB9A.out⟩
  case round =>
    obtain ⟨k, hk, hk2, rfl, hfl, hR, hB⟩ := hrel
    have hRA := Aside0.mk hR; have hBA := Aside0.mk hB; have hfA := Aside0.mk hfl
    clear hR hB hfl hAl hb1A hR9A hB9A
    by_cases hlt : k < parts.length
    · have p0 : (0 : Int) ≤ (k : Int) := by omega
      have p1 : (k : Int) < (parts.length : Int) := by omega
      have hw4 : IntKind.i64.wrap ((k : Int) + 1) = (k : Int) + 1 := IntWalk.i64_in _ (by omega)
      have hrB := Kd.C_below hrA.out hBA.out
      obtain ⟨ad, e0⟩ : ∃ ad, A = some ad := by obtain ⟨ad, _, e, _⟩ := Kd.C_get hrA.out [] (k : Int) p0 p1; exact ⟨ad, e⟩
      subst e0
      obtain ⟨A1, c1, hx, hc1, hC1⟩ := part_at hrB k hlt
      have hst := flat_take parts k hlt
      obtain ⟨y, hy⟩ : ∃ y, y = parts[k] := ⟨_, rfl⟩
      rw [← hy] at hx hc1 hC1 hst
      have hCA := Aside0.mk hC1; have hstA := Aside0.mk hst
      clear hrB hC1 hst hy
      by_cases h20 : k ≤ 20
      · have d1 : decide ((k : Int) > 20) = false := decide_eq_false (by omega)
        have d1' : ¬ (20 : Int) < (k : Int) := by omega
        by_cases h300 : y.length ≤ 300
        · have d2 : decide ((y.length : Int) > 300) = false := decide_eq_false (by omega)
          have d2' : ¬ (300 : Int) < (y.length : Int) := by omega
          go_wp2_with (at_builtin; refine Kd.R_append_rows (Kd.int .u8) (Rr := (Kd.int .u8).K wr) (w0 := w) w.heap.size rfl (.tmp 24) (.tmp 25) 22 5 (.int .u8 0) 1 rfl Tryd.underlying22 info_u8 rfl (by decide) (by decide) _ (parts.take k).flatten y A1 y.length c1 (fun _ => True) (fun _ => False) rfl rfl hRA.out hCA.out (fun _ _ h => h) (fun _ h => h.elim) (fun _ _ => trivial) hBA.out hBA.out.size (by have := hfA.out; omega) ?_; intro v1 w1 hR1 hB1 hg1 hat1; have hR1A := Aside0.mk hR1; have hB1A := Aside0.mk hB1; clear hR1 hB1 hg1 hat1)
          go_roundw
          case rel => exact ⟨k + 1, by omega, by omega, by go_num, by rw [hstA.out, List.length_append]; have := hfA.out; omega, by rw [hstA.out]; exact hR1A.out, hB1A.out⟩
          case measure => simp [intOf]; omega
        · have d2 : decide ((y.length : Int) > 300) = true := decide_eq_true (by omega)
          have d2' : (300 : Int) < (y.length : Int) := by omega
          go_wp2_with fail
          go_ret
          exact ⟨rfl, hBA.out⟩
      · have d1 : decide ((k : Int) > 20) = true := decide_eq_true (by omega)
        have d1' : (20 : Int) < (k : Int) := by omega
        go_wp2_with fail
        go_ret
        exact ⟨rfl, hBA.out⟩
    · obtain rfl : k = parts.length := by omega
      rw [List.take_of_length_le (Nat.le_refl _)] at hRA hfA
      obtain ⟨A3, c3, hv3, hc3, hC3⟩ := Kd.R_reads hRA.out
      subst hv3
      have hn : parts.length ≤ 1000000000 := by omega
      have hlt2 : parts.flatten.length < 1000000000 := by have := hfA.out; omega
      have hbyt := hbA.out
      have hkp := fun (V : World) (hV : Below w.heap.size w V) => sum_calls parts A c V (hKA.out.below hV) (hBgA.out.below hV) (Kd.C_below hrA.out hV) hc hn hlt2 hbyt
      have hkd := fun (V : World) (hV : Below w.heap.size w V) => double_calls parts A c V (hKA.out.below hV) (hBgA.out.below hV) (Kd.C_below hrA.out hV) hc hn hlt2 hbyt
      obtain ⟨t, ht⟩ : ∃ t, t = parts.flatten := ⟨_, rfl⟩
      rw [← ht] at hkp hkd hC3 hc3 hlt2 hbyt ⊢
      clear ht hRA hfA hbA
      have hsl := sum_length t
      have hsb := Bytes.sum t
      have hS1 := sum_lit1 wr A3 c3 t hC3 hc3 (hKA.out.below hBA.out) (hBgA.out.below hBA.out) hlt2 hbyt
      have hdb : dbl t = Sha.sum (Sha.sum t) := rfl
      rw [hdb] at hkd
      obtain ⟨s, hs⟩ : ∃ s, s = Sha.sum t := ⟨_, rfl⟩
      rw [← hs] at hsl hsb hS1 hkp hkd
      have hss := sum_length s
      have hzl : (nums .u8 zero32).length = (nums .u8 s).length := by simp [nums, hsl]
      have hS1A := Aside0.mk hS1; have hslA := Aside0.mk hsl; have hsbA := Aside0.mk hsb; have hkpA := Aside0.mk hkp; have hkdA := Aside0.mk hkd; have hzlA := Aside0.mk hzl; have hssA := Aside0.mk hss; have hsE := Aside0.mk hs.symm; have hsA := Aside0.mk hs
      have hC3A := Aside0.mk hC3; have hltA := Aside0.mk hlt2; have hbyA := Aside0.mk hbyt; have hc3A := Aside0.mk hc3
      clear hn hS1 hsl hsb hkp hkd hzl hss hdb hs hC3 hlt2 hbyt hc3
      go_wp2_with (first | (go_at_call 9; with_reducible refine hS1A.out.mono ?_; rintro e w3 ⟨rfl, hb3⟩; have hb3A := Aside0.mk hb3; clear hb3) | ((with_reducible refine gate_dst (N := 6) rfl ?_); refine wpList_new_put rfl (N := 6) rfl rfl 25 (.tmp 30) rfl (nums .u8 s) (nums .u8 zero32) hzlA.out ?hr rfl rfl (info_hash s hslA.out) (u8_one s) ?_; (case hr => first | (go_simp; done) | (go_simp; rfl)); intro w4 hW4 hb4 hs4; have hW4A := Aside0.mk hW4; have hb4A := Aside0.mk hb4; have hbw := Aside0.mk (below_then (below_then hBA.out hBA.out.size hb3A.out) (Nat.le_trans hBA.out.size hb3A.out.size) hb4); clear hW4 hb4 hs4))
      have hB34 := hbw.out
      have hR4 := hW4A.out
      have hlt3 := hR4.lt
      have hC4 : Kd.C (Kd.int .u8) w4 A3 t.length t := Kd.C_below (Kd.C_below hC3A.out hb3A.out) hb4A.out
      obtain ⟨bh, hbh⟩ : ∃ bh, bh = w3.heap.size := ⟨_, rfl⟩
      rw [← hbh] at hR4 hlt3 ⊢
      clear hS1A hb3A hW4A hb4A hbw hBA hbh hC3A hsA
      have H0 : HeldP w bh s A3 t w4.drew := ⟨fun j v hv => by rw [Nat.zero_add]; exact hR4.get j v hv, pw_below_drewN hB34 1, hlt3, hC4⟩
      have hL1 := fun (V : World) (b : Nat) (hb : Blk V b 22 [.slice (some ⟨bh, 0, none⟩) 32 32]) (hS : HeldP w bh s A3 t V) => part_sum V b bh s w A3 t hb hS hslA.out hsbA.out hKA.out hBgA.out
      have hL2 := fun (V : World) (b : Nat) (hb : Blk V b 22 [.slice A3 t.length c3]) (hS : HeldP w bh s A3 t V) => part_dbl V b bh s w A3 t c3 hb hS hc3A.out hltA.out hbyA.out hKA.out hBgA.out
      have hE1 := fun (W : World) => run_equalIn_hash s s hslA.out hslA.out W
      have hE2 := fun (W : World) => run_equalIn_hash (Sha.sum s) (Sha.sum s) hssA.out hssA.out W
      have hu36 := Tryd.underlying25
      have hi36 := info_hash s hslA.out
      have hdt : dbl t = Sha.sum s := by unfold dbl; rw [hsE.out]
      rw [hdt] at hL2
      simp only [decide_true] at hE1 hE2
      generalize Sha.sum s = d at *
      clear hR4 hlt3 hB34 hC4 hslA hsbA hzlA hssA hltA hbyA hc3A
      refine wp_region_noPanic ?_
      refine wp_region_held_drew (S := HeldP w bh s A3 t) (by kernel_rfl) H0 (fun _ => ?_)
      generalize w4.drew = V0 at *
      -- REGION
      refine wpAnyH_take (i := 0) (v := .slice A parts.length c) (op_at rfl) (by kernel_rfl) (by kernel_rfl) (by kernel_rfl) (fun _ _ _ h => h) (Or.inl ⟨by rfl, fun w_ hSw => ?_⟩) H0 ?_
      · skip; go_simp
      try simp only [Act.put, List.setIfInBounds_toArray, List.set_cons_zero, List.set_cons_succ]
      refine wpAnyH_take (i := 2) (v := hv s) (op_at rfl) (by kernel_rfl) (by kernel_rfl) (by kernel_rfl) (fun _ _ _ h => h) (yieldsIf_load_mid (by rfl) _ _ rfl bh 0 rfl _ _ (fun w_ hSw => hSw.1) hu36 rfl hi36) H0 ?_
      try simp only [Act.put, List.setIfInBounds_toArray, List.set_cons_zero, List.set_cons_succ]
      refine wpAnyH_ready (rs := [1]) (by kernel_rfl) (by simp) ?_
      refine AllReadyH.cons (op_at rfl) (fun K hK => ?_) AllReadyH.nil
      go_simp
      go_at_call 9
      with_reducible refine (hkpA.out V0 (heldP_b H0)).mono ?_
      rintro e V1_ ⟨rfl, hb⟩
      go_wp2_with fail
      refine hK.out _ _ (heldP_of hb H0) (fun H1_ => ?_)
      clear hK K hb
      try simp only [Act.put, List.setIfInBounds_toArray, List.set_cons_zero, List.set_cons_succ]
      refine wpAnyH_take (i := 3) (v := .bool true) (op_at rfl) (by kernel_rfl) (by kernel_rfl) (by kernel_rfl) (fun _ _ _ h => h) (Or.inl ⟨by rfl, fun w_ hSw => ?_⟩) H1_ ?_
      · skip; go_simp
      try simp only [Act.put, List.setIfInBounds_toArray, List.set_cons_zero, List.set_cons_succ]
      refine wpAnyH_take (i := 4) (v := .bool true) (op_at rfl) (by kernel_rfl) (by kernel_rfl) (by kernel_rfl) (fun _ _ _ h => h) (Or.inl ⟨by rfl, fun w_ hSw => ?_⟩) H1_ ?_
      · skip; go_simp
      try simp only [Act.put, List.setIfInBounds_toArray, List.set_cons_zero, List.set_cons_succ]
      refine wpAnyH_take (i := 5) (v := .slice A parts.length c) (op_at rfl) (by kernel_rfl) (by kernel_rfl) (by kernel_rfl) (fun _ _ _ h => h) (Or.inl ⟨by rfl, fun w_ hSw => ?_⟩) H1_ ?_
      · skip; go_simp
      try simp only [Act.put, List.setIfInBounds_toArray, List.set_cons_zero, List.set_cons_succ]
      refine wpAnyH_take (i := 7) (v := .slice (some ⟨bh, 0, none⟩) 32 32) (op_at rfl) (by kernel_rfl) (by kernel_rfl) (by kernel_rfl) (fun _ _ _ h => h) (Or.inl ⟨by rfl, fun w_ hSw => ?_⟩) H1_ ?_
      · skip; go_simp
      try simp only [Act.put, List.setIfInBounds_toArray, List.set_cons_zero, List.set_cons_succ]
      refine wpAnyH_ready (rs := [6, 8]) (by kernel_rfl) (by simp) ?_
      refine AllReadyH.cons (op_at rfl) (fun K hK => ?_) (AllReadyH.cons (op_at rfl) (fun K hK => ?_) AllReadyH.nil)
      · go_simp
        go_at_call 11
        with_reducible refine (hkdA.out V1_ (heldP_b H1_)).mono ?_
        rintro e V2_ ⟨rfl, hb⟩
        go_wp2_with fail
        refine hK.out _ _ (heldP_of hb H1_) (fun H2_ => ?_)
        clear hK K hb
        try simp only [Act.put, List.setIfInBounds_toArray, List.set_cons_zero, List.set_cons_succ]
        refine wpAnyH_ready (rs := [8]) (by kernel_rfl) (by simp) ?_
        refine AllReadyH.cons (op_at rfl) (fun K hK => ?_) AllReadyH.nil
        go_simp
        have hb := below_alloc (Below.refl V2_.heap.size V2_) (.cells #[.slice (some ⟨bh, 0, none⟩) 32 32] 22)
        refine hK.out _ _ (heldP_of hb H2_) (fun H3_ => ?_)
        have B1_3 := Blk.new V2_ 22 [.slice (some ⟨bh, 0, none⟩) 32 32]
        clear hK K hb
        obtain ⟨V3_, hV_⟩ : ∃ V_, V_ = V2_.alloc (.cells #[.slice (some ⟨bh, 0, none⟩) 32 32] 22) := ⟨_, rfl⟩
        rw [← hV_] at H3_ B1_3 ⊢
        obtain ⟨gB1_3, hg_⟩ : ∃ g_, g_ = V2_.heap.size := ⟨_, rfl⟩
        rw [← hg_] at B1_3 ⊢
        clear hV_ hg_
        try simp only [Act.put, List.setIfInBounds_toArray, List.set_cons_zero, List.set_cons_succ]
        refine wpAnyH_ready (rs := [9]) (by kernel_rfl) (by simp) ?_
        refine AllReadyH.cons (op_at rfl) (fun K hK => ?_) AllReadyH.nil
        go_simp
        go_at_call 9
        with_reducible refine (hL1 V3_ gB1_3 B1_3 H3_).mono ?_
        rintro e V4_ ⟨rfl, hb⟩
        go_wp2_with fail
        refine hK.out _ _ (heldP_of hb H3_) (fun H4_ => ?_)
        have B1_4 := Blk.below B1_3 hb
        clear hK K hb
        try simp only [Act.put, List.setIfInBounds_toArray, List.set_cons_zero, List.set_cons_succ]
        refine wpAnyH_take (i := 10) (v := .bool true) (op_at rfl) (by kernel_rfl) (by kernel_rfl) (by kernel_rfl) (fun _ _ _ h => h) (Or.inl ⟨by rfl, fun w_ hSw => ?_⟩) H4_ ?_
        · skip; go_simp
        try simp only [Act.put, List.setIfInBounds_toArray, List.set_cons_zero, List.set_cons_succ]
        refine wpAnyH_take (i := 11) (v := .bool true) (op_at rfl) (by kernel_rfl) (by kernel_rfl) (by kernel_rfl) (fun _ _ _ h => h) (Or.inl ⟨by rfl, fun w_ hSw => ?_⟩) H4_ ?_
        · skip; go_simp
        try simp only [Act.put, List.setIfInBounds_toArray, List.set_cons_zero, List.set_cons_succ]
        refine wpAnyH_take (i := 12) (v := .bool true) (op_at rfl) (by kernel_rfl) (by kernel_rfl) (by kernel_rfl) (fun _ _ _ h => h) (Or.inl ⟨by rfl, fun w_ hSw => ?_⟩) H4_ ?_
        · skip; go_simp
        try simp only [Act.put, List.setIfInBounds_toArray, List.set_cons_zero, List.set_cons_succ]
        refine wpAnyH_take (i := 13) (v := .slice A3 t.length c3) (op_at rfl) (by kernel_rfl) (by kernel_rfl) (by kernel_rfl) (fun _ _ _ h => h) (Or.inl ⟨by rfl, fun w_ hSw => ?_⟩) H4_ ?_
        · skip; go_simp
        try simp only [Act.put, List.setIfInBounds_toArray, List.set_cons_zero, List.set_cons_succ]
        refine wpAnyH_take (i := 16) (v := .slice (some ⟨bh, 0, none⟩) 32 32) (op_at rfl) (by kernel_rfl) (by kernel_rfl) (by kernel_rfl) (fun _ _ _ h => h) (Or.inl ⟨by rfl, fun w_ hSw => ?_⟩) H4_ ?_
        · skip; go_simp
        try simp only [Act.put, List.setIfInBounds_toArray, List.set_cons_zero, List.set_cons_succ]
        refine wpAnyH_ready (rs := [14, 17]) (by kernel_rfl) (by simp) ?_
        refine AllReadyH.cons (op_at rfl) (fun K hK => ?_) (AllReadyH.cons (op_at rfl) (fun K hK => ?_) AllReadyH.nil)
        · go_simp
          have hb := below_alloc (Below.refl V4_.heap.size V4_) (.cells #[.slice A3 t.length c3] 22)
          refine hK.out _ _ (heldP_of hb H4_) (fun H5_ => ?_)
          have B1_5 := Blk.below B1_4 hb
          have B2_5 := Blk.new V4_ 22 [.slice A3 t.length c3]
          clear hK K hb
          obtain ⟨V5_, hV_⟩ : ∃ V_, V_ = V4_.alloc (.cells #[.slice A3 t.length c3] 22) := ⟨_, rfl⟩
          rw [← hV_] at H5_ B1_5 B2_5 ⊢
          obtain ⟨gB2_5, hg_⟩ : ∃ g_, g_ = V4_.heap.size := ⟨_, rfl⟩
          rw [← hg_] at B2_5 ⊢
          clear hV_ hg_
          try simp only [Act.put, List.setIfInBounds_toArray, List.set_cons_zero, List.set_cons_succ]
          refine wpAnyH_ready (rs := [15, 17]) (by kernel_rfl) (by simp) ?_
          refine AllReadyH.cons (op_at rfl) (fun K hK => ?_) (AllReadyH.cons (op_at rfl) (fun K hK => ?_) AllReadyH.nil)
          · go_simp
            go_at_call 11
            with_reducible refine (hL2 V5_ gB2_5 B2_5 H5_).mono ?_
            rintro e V6_ ⟨rfl, hb⟩
            go_wp2_with fail
            refine hK.out _ _ (heldP_of hb H5_) (fun H6_ => ?_)
            have B1_6 := Blk.below B1_5 hb
            have B2_6 := Blk.below B2_5 hb
            clear hK K hb
            try simp only [Act.put, List.setIfInBounds_toArray, List.set_cons_zero, List.set_cons_succ]
            refine wpAnyH_ready (rs := [17]) (by kernel_rfl) (by simp) ?_
            refine AllReadyH.cons (op_at rfl) (fun K hK => ?_) AllReadyH.nil
            go_simp
            have hb := below_alloc (Below.refl V6_.heap.size V6_) (.cells #[.slice (some ⟨bh, 0, none⟩) 32 32] 22)
            refine hK.out _ _ (heldP_of hb H6_) (fun H7_ => ?_)
            have B1_7 := Blk.below B1_6 hb
            have B2_7 := Blk.below B2_6 hb
            have B3_7 := Blk.new V6_ 22 [.slice (some ⟨bh, 0, none⟩) 32 32]
            clear hK K hb
            obtain ⟨V7_, hV_⟩ : ∃ V_, V_ = V6_.alloc (.cells #[.slice (some ⟨bh, 0, none⟩) 32 32] 22) := ⟨_, rfl⟩
            rw [← hV_] at H7_ B1_7 B2_7 B3_7 ⊢
            obtain ⟨gB3_7, hg_⟩ : ∃ g_, g_ = V6_.heap.size := ⟨_, rfl⟩
            rw [← hg_] at B3_7 ⊢
            clear hV_ hg_
            try simp only [Act.put, List.setIfInBounds_toArray, List.set_cons_zero, List.set_cons_succ]
            refine wpAnyH_ready (rs := [18]) (by kernel_rfl) (by simp) ?_
            refine AllReadyH.cons (op_at rfl) (fun K hK => ?_) AllReadyH.nil
            go_simp
            go_at_call 9
            with_reducible refine (hL1 V7_ gB3_7 B3_7 H7_).mono ?_
            rintro e V8_ ⟨rfl, hb⟩
            go_wp2_with fail
            refine hK.out _ _ (heldP_of hb H7_) (fun H8_ => ?_)
            have B1_8 := Blk.below B1_7 hb
            have B2_8 := Blk.below B2_7 hb
            have B3_8 := Blk.below B3_7 hb
            clear hK K hb
            try simp only [Act.put, List.setIfInBounds_toArray, List.set_cons_zero, List.set_cons_succ]
            refine wpAnyH_take (i := 19) (v := .bool true) (op_at rfl) (by kernel_rfl) (by kernel_rfl) (by kernel_rfl) (fun _ _ _ h => h) (Or.inl ⟨by rfl, fun w_ hSw => ?_⟩) H8_ ?_
            · skip; go_simp
            try simp only [Act.put, List.setIfInBounds_toArray, List.set_cons_zero, List.set_cons_succ]
            refine wpAnyH_take (i := 20) (v := .bool true) (op_at rfl) (by kernel_rfl) (by kernel_rfl) (by kernel_rfl) (fun _ _ _ h => h) (Or.inl ⟨by rfl, fun w_ hSw => ?_⟩) H8_ ?_
            · skip; go_simp
            try simp only [Act.put, List.setIfInBounds_toArray, List.set_cons_zero, List.set_cons_succ]
            refine wpAnyH_take (i := 21) (v := .bool true) (op_at rfl) (by kernel_rfl) (by kernel_rfl) (by kernel_rfl) (fun _ _ _ h => h) (Or.inl ⟨by rfl, fun w_ hSw => ?_⟩) H8_ ?_
            · skip; go_simp
            try simp only [Act.put, List.setIfInBounds_toArray, List.set_cons_zero, List.set_cons_succ]
            refine wpAnyH_done (by kernel_rfl) ?_ _
            refine NoPanic.normal ?_
            go_wp2
            go_ret
            exact ⟨rfl, heldP_b H8_⟩
          · go_simp
            have hb := below_alloc (Below.refl V5_.heap.size V5_) (.cells #[.slice (some ⟨bh, 0, none⟩) 32 32] 22)
            refine hK.out _ _ (heldP_of hb H5_) (fun H9_ => ?_)
            have B1_9 := Blk.below B1_5 hb
            have B2_9 := Blk.below B2_5 hb
            have B3_9 := Blk.new V5_ 22 [.slice (some ⟨bh, 0, none⟩) 32 32]
            clear hK K hb
            obtain ⟨V9_, hV_⟩ : ∃ V_, V_ = V5_.alloc (.cells #[.slice (some ⟨bh, 0, none⟩) 32 32] 22) := ⟨_, rfl⟩
            rw [← hV_] at H9_ B1_9 B2_9 B3_9 ⊢
            obtain ⟨gB3_9, hg_⟩ : ∃ g_, g_ = V5_.heap.size := ⟨_, rfl⟩
            rw [← hg_] at B3_9 ⊢
            clear hV_ hg_
            try simp only [Act.put, List.setIfInBounds_toArray, List.set_cons_zero, List.set_cons_succ]
            refine wpAnyH_ready (rs := [15]) (by kernel_rfl) (by simp) ?_
            refine AllReadyH.cons (op_at rfl) (fun K hK => ?_) AllReadyH.nil
            go_simp
            go_at_call 11
            with_reducible refine (hL2 V9_ gB2_5 B2_9 H9_).mono ?_
            rintro e V10_ ⟨rfl, hb⟩
            go_wp2_with fail
            refine hK.out _ _ (heldP_of hb H9_) (fun H10_ => ?_)
            have B1_10 := Blk.below B1_9 hb
            have B2_10 := Blk.below B2_9 hb
            have B3_10 := Blk.below B3_9 hb
            clear hK K hb
            try simp only [Act.put, List.setIfInBounds_toArray, List.set_cons_zero, List.set_cons_succ]
            refine wpAnyH_ready (rs := [18]) (by kernel_rfl) (by simp) ?_
            refine AllReadyH.cons (op_at rfl) (fun K hK => ?_) AllReadyH.nil
            go_simp
            go_at_call 9
            with_reducible refine (hL1 V10_ gB3_9 B3_10 H10_).mono ?_
            rintro e V11_ ⟨rfl, hb⟩
            go_wp2_with fail
            refine hK.out _ _ (heldP_of hb H10_) (fun H11_ => ?_)
            have B1_11 := Blk.below B1_10 hb
            have B2_11 := Blk.below B2_10 hb
            have B3_11 := Blk.below B3_10 hb
            clear hK K hb
            try simp only [Act.put, List.setIfInBounds_toArray, List.set_cons_zero, List.set_cons_succ]
            refine wpAnyH_take (i := 19) (v := .bool true) (op_at rfl) (by kernel_rfl) (by kernel_rfl) (by kernel_rfl) (fun _ _ _ h => h) (Or.inl ⟨by rfl, fun w_ hSw => ?_⟩) H11_ ?_
            · skip; go_simp
            try simp only [Act.put, List.setIfInBounds_toArray, List.set_cons_zero, List.set_cons_succ]
            refine wpAnyH_take (i := 20) (v := .bool true) (op_at rfl) (by kernel_rfl) (by kernel_rfl) (by kernel_rfl) (fun _ _ _ h => h) (Or.inl ⟨by rfl, fun w_ hSw => ?_⟩) H11_ ?_
            · skip; go_simp
            try simp only [Act.put, List.setIfInBounds_toArray, List.set_cons_zero, List.set_cons_succ]
            refine wpAnyH_take (i := 21) (v := .bool true) (op_at rfl) (by kernel_rfl) (by kernel_rfl) (by kernel_rfl) (fun _ _ _ h => h) (Or.inl ⟨by rfl, fun w_ hSw => ?_⟩) H11_ ?_
            · skip; go_simp
            try simp only [Act.put, List.setIfInBounds_toArray, List.set_cons_zero, List.set_cons_succ]
            refine wpAnyH_done (by kernel_rfl) ?_ _
            refine NoPanic.normal ?_
            go_wp2
            go_ret
            exact ⟨rfl, heldP_b H11_⟩
        · go_simp
          have hb := below_alloc (Below.refl V4_.heap.size V4_) (.cells #[.slice (some ⟨bh, 0, none⟩) 32 32] 22)
          refine hK.out _ _ (heldP_of hb H4_) (fun H12_ => ?_)
          have B1_12 := Blk.below B1_4 hb
          have B3_12 := Blk.new V4_ 22 [.slice (some ⟨bh, 0, none⟩) 32 32]
          clear hK K hb
          obtain ⟨V12_, hV_⟩ : ∃ V_, V_ = V4_.alloc (.cells #[.slice (some ⟨bh, 0, none⟩) 32 32] 22) := ⟨_, rfl⟩
          rw [← hV_] at H12_ B1_12 B3_12 ⊢
          obtain ⟨gB3_12, hg_⟩ : ∃ g_, g_ = V4_.heap.size := ⟨_, rfl⟩
          rw [← hg_] at B3_12 ⊢
          clear hV_ hg_
          try simp only [Act.put, List.setIfInBounds_toArray, List.set_cons_zero, List.set_cons_succ]
          refine wpAnyH_ready (rs := [14]) (by kernel_rfl) (by simp) ?_
          refine AllReadyH.cons (op_at rfl) (fun K hK => ?_) AllReadyH.nil
          go_simp
          have hb := below_alloc (Below.refl V12_.heap.size V12_) (.cells #[.slice A3 t.length c3] 22)
          refine hK.out _ _ (heldP_of hb H12_) (fun H13_ => ?_)
          have B1_13 := Blk.below B1_12 hb
          have B3_13 := Blk.below B3_12 hb
          have B2_13 := Blk.new V12_ 22 [.slice A3 t.length c3]
          clear hK K hb
          obtain ⟨V13_, hV_⟩ : ∃ V_, V_ = V12_.alloc (.cells #[.slice A3 t.length c3] 22) := ⟨_, rfl⟩
          rw [← hV_] at H13_ B1_13 B3_13 B2_13 ⊢
          obtain ⟨gB2_13, hg_⟩ : ∃ g_, g_ = V12_.heap.size := ⟨_, rfl⟩
          rw [← hg_] at B2_13 ⊢
          clear hV_ hg_
          try simp only [Act.put, List.setIfInBounds_toArray, List.set_cons_zero, List.set_cons_succ]
          refine wpAnyH_ready (rs := [15]) (by kernel_rfl) (by simp) ?_
          refine AllReadyH.cons (op_at rfl) (fun K hK => ?_) AllReadyH.nil
          go_simp
          go_at_call 11
          with_reducible refine (hL2 V13_ gB2_13 B2_13 H13_).mono ?_
          rintro e V14_ ⟨rfl, hb⟩
          go_wp2_with fail
          refine hK.out _ _ (heldP_of hb H13_) (fun H14_ => ?_)
          have B1_14 := Blk.below B1_13 hb
          have B3_14 := Blk.below B3_13 hb
          have B2_14 := Blk.below B2_13 hb
          clear hK K hb
          try simp only [Act.put, List.setIfInBounds_toArray, List.set_cons_zero, List.set_cons_succ]
          refine wpAnyH_ready (rs := [18]) (by kernel_rfl) (by simp) ?_
          refine AllReadyH.cons (op_at rfl) (fun K hK => ?_) AllReadyH.nil
          go_simp
          go_at_call 9
          with_reducible refine (hL1 V14_ gB3_12 B3_14 H14_).mono ?_
          rintro e V15_ ⟨rfl, hb⟩
          go_wp2_with fail
          refine hK.out _ _ (heldP_of hb H14_) (fun H15_ => ?_)
          have B1_15 := Blk.below B1_14 hb
          have B3_15 := Blk.below B3_14 hb
          have B2_15 := Blk.below B2_14 hb
          clear hK K hb
          try simp only [Act.put, List.setIfInBounds_toArray, List.set_cons_zero, List.set_cons_succ]
          refine wpAnyH_take (i := 19) (v := .bool true) (op_at rfl) (by kernel_rfl) (by kernel_rfl) (by kernel_rfl) (fun _ _ _ h => h) (Or.inl ⟨by rfl, fun w_ hSw => ?_⟩) H15_ ?_
          · skip; go_simp
          try simp only [Act.put, List.setIfInBounds_toArray, List.set_cons_zero, List.set_cons_succ]
          refine wpAnyH_take (i := 20) (v := .bool true) (op_at rfl) (by kernel_rfl) (by kernel_rfl) (by kernel_rfl) (fun _ _ _ h => h) (Or.inl ⟨by rfl, fun w_ hSw => ?_⟩) H15_ ?_
          · skip; go_simp
          try simp only [Act.put, List.setIfInBounds_toArray, List.set_cons_zero, List.set_cons_succ]
          refine wpAnyH_take (i := 21) (v := .bool true) (op_at rfl) (by kernel_rfl) (by kernel_rfl) (by kernel_rfl) (fun _ _ _ h => h) (Or.inl ⟨by rfl, fun w_ hSw => ?_⟩) H15_ ?_
          · skip; go_simp
          try simp only [Act.put, List.setIfInBounds_toArray, List.set_cons_zero, List.set_cons_succ]
          refine wpAnyH_done (by kernel_rfl) ?_ _
          refine NoPanic.normal ?_
          go_wp2
          go_ret
          exact ⟨rfl, heldP_b H15_⟩
      · go_simp
        have hb := below_alloc (Below.refl V1_.heap.size V1_) (.cells #[.slice (some ⟨bh, 0, none⟩) 32 32] 22)
        refine hK.out _ _ (heldP_of hb H1_) (fun H16_ => ?_)
        have B1_16 := Blk.new V1_ 22 [.slice (some ⟨bh, 0, none⟩) 32 32]
        clear hK K hb
        obtain ⟨V16_, hV_⟩ : ∃ V_, V_ = V1_.alloc (.cells #[.slice (some ⟨bh, 0, none⟩) 32 32] 22) := ⟨_, rfl⟩
        rw [← hV_] at H16_ B1_16 ⊢
        obtain ⟨gB1_16, hg_⟩ : ∃ g_, g_ = V1_.heap.size := ⟨_, rfl⟩
        rw [← hg_] at B1_16 ⊢
        clear hV_ hg_
        try simp only [Act.put, List.setIfInBounds_toArray, List.set_cons_zero, List.set_cons_succ]
        refine wpAnyH_ready (rs := [6]) (by kernel_rfl) (by simp) ?_
        refine AllReadyH.cons (op_at rfl) (fun K hK => ?_) AllReadyH.nil
        go_simp
        go_at_call 11
        with_reducible refine (hkdA.out V16_ (heldP_b H16_)).mono ?_
        rintro e V17_ ⟨rfl, hb⟩
        go_wp2_with fail
        refine hK.out _ _ (heldP_of hb H16_) (fun H17_ => ?_)
        have B1_17 := Blk.below B1_16 hb
        clear hK K hb
        try simp only [Act.put, List.setIfInBounds_toArray, List.set_cons_zero, List.set_cons_succ]
        refine wpAnyH_ready (rs := [9]) (by kernel_rfl) (by simp) ?_
        refine AllReadyH.cons (op_at rfl) (fun K hK => ?_) AllReadyH.nil
        go_simp
        go_at_call 9
        with_reducible refine (hL1 V17_ gB1_16 B1_17 H17_).mono ?_
        rintro e V18_ ⟨rfl, hb⟩
        go_wp2_with fail
        refine hK.out _ _ (heldP_of hb H17_) (fun H18_ => ?_)
        have B1_18 := Blk.below B1_17 hb
        clear hK K hb
        try simp only [Act.put, List.setIfInBounds_toArray, List.set_cons_zero, List.set_cons_succ]
        refine wpAnyH_take (i := 10) (v := .bool true) (op_at rfl) (by kernel_rfl) (by kernel_rfl) (by kernel_rfl) (fun _ _ _ h => h) (Or.inl ⟨by rfl, fun w_ hSw => ?_⟩) H18_ ?_
        · skip; go_simp
        try simp only [Act.put, List.setIfInBounds_toArray, List.set_cons_zero, List.set_cons_succ]
        refine wpAnyH_take (i := 11) (v := .bool true) (op_at rfl) (by kernel_rfl) (by kernel_rfl) (by kernel_rfl) (fun _ _ _ h => h) (Or.inl ⟨by rfl, fun w_ hSw => ?_⟩) H18_ ?_
        · skip; go_simp
        try simp only [Act.put, List.setIfInBounds_toArray, List.set_cons_zero, List.set_cons_succ]
        refine wpAnyH_take (i := 12) (v := .bool true) (op_at rfl) (by kernel_rfl) (by kernel_rfl) (by kernel_rfl) (fun _ _ _ h => h) (Or.inl ⟨by rfl, fun w_ hSw => ?_⟩) H18_ ?_
        · skip; go_simp
        try simp only [Act.put, List.setIfInBounds_toArray, List.set_cons_zero, List.set_cons_succ]
        refine wpAnyH_take (i := 13) (v := .slice A3 t.length c3) (op_at rfl) (by kernel_rfl) (by kernel_rfl) (by kernel_rfl) (fun _ _ _ h => h) (Or.inl ⟨by rfl, fun w_ hSw => ?_⟩) H18_ ?_
        · skip; go_simp
        try simp only [Act.put, List.setIfInBounds_toArray, List.set_cons_zero, List.set_cons_succ]
        refine wpAnyH_take (i := 16) (v := .slice (some ⟨bh, 0, none⟩) 32 32) (op_at rfl) (by kernel_rfl) (by kernel_rfl) (by kernel_rfl) (fun _ _ _ h => h) (Or.inl ⟨by rfl, fun w_ hSw => ?_⟩) H18_ ?_
        · skip; go_simp
        try simp only [Act.put, List.setIfInBounds_toArray, List.set_cons_zero, List.set_cons_succ]
        refine wpAnyH_ready (rs := [14, 17]) (by kernel_rfl) (by simp) ?_
        refine AllReadyH.cons (op_at rfl) (fun K hK => ?_) (AllReadyH.cons (op_at rfl) (fun K hK => ?_) AllReadyH.nil)
        · go_simp
          have hb := below_alloc (Below.refl V18_.heap.size V18_) (.cells #[.slice A3 t.length c3] 22)
          refine hK.out _ _ (heldP_of hb H18_) (fun H19_ => ?_)
          have B1_19 := Blk.below B1_18 hb
          have B2_19 := Blk.new V18_ 22 [.slice A3 t.length c3]
          clear hK K hb
          obtain ⟨V19_, hV_⟩ : ∃ V_, V_ = V18_.alloc (.cells #[.slice A3 t.length c3] 22) := ⟨_, rfl⟩
          rw [← hV_] at H19_ B1_19 B2_19 ⊢
          obtain ⟨gB2_19, hg_⟩ : ∃ g_, g_ = V18_.heap.size := ⟨_, rfl⟩
          rw [← hg_] at B2_19 ⊢
          clear hV_ hg_
          try simp only [Act.put, List.setIfInBounds_toArray, List.set_cons_zero, List.set_cons_succ]
          refine wpAnyH_ready (rs := [15, 17]) (by kernel_rfl) (by simp) ?_
          refine AllReadyH.cons (op_at rfl) (fun K hK => ?_) (AllReadyH.cons (op_at rfl) (fun K hK => ?_) AllReadyH.nil)
          · go_simp
            go_at_call 11
            with_reducible refine (hL2 V19_ gB2_19 B2_19 H19_).mono ?_
            rintro e V20_ ⟨rfl, hb⟩
            go_wp2_with fail
            refine hK.out _ _ (heldP_of hb H19_) (fun H20_ => ?_)
            have B1_20 := Blk.below B1_19 hb
            have B2_20 := Blk.below B2_19 hb
            clear hK K hb
            try simp only [Act.put, List.setIfInBounds_toArray, List.set_cons_zero, List.set_cons_succ]
            refine wpAnyH_ready (rs := [17]) (by kernel_rfl) (by simp) ?_
            refine AllReadyH.cons (op_at rfl) (fun K hK => ?_) AllReadyH.nil
            go_simp
            have hb := below_alloc (Below.refl V20_.heap.size V20_) (.cells #[.slice (some ⟨bh, 0, none⟩) 32 32] 22)
            refine hK.out _ _ (heldP_of hb H20_) (fun H21_ => ?_)
            have B1_21 := Blk.below B1_20 hb
            have B2_21 := Blk.below B2_20 hb
            have B3_21 := Blk.new V20_ 22 [.slice (some ⟨bh, 0, none⟩) 32 32]
            clear hK K hb
            obtain ⟨V21_, hV_⟩ : ∃ V_, V_ = V20_.alloc (.cells #[.slice (some ⟨bh, 0, none⟩) 32 32] 22) := ⟨_, rfl⟩
            rw [← hV_] at H21_ B1_21 B2_21 B3_21 ⊢
            obtain ⟨gB3_21, hg_⟩ : ∃ g_, g_ = V20_.heap.size := ⟨_, rfl⟩
            rw [← hg_] at B3_21 ⊢
            clear hV_ hg_
            try simp only [Act.put, List.setIfInBounds_toArray, List.set_cons_zero, List.set_cons_succ]
            refine wpAnyH_ready (rs := [18]) (by kernel_rfl) (by simp) ?_
            refine AllReadyH.cons (op_at rfl) (fun K hK => ?_) AllReadyH.nil
            go_simp
            go_at_call 9
            with_reducible refine (hL1 V21_ gB3_21 B3_21 H21_).mono ?_
            rintro e V22_ ⟨rfl, hb⟩
            go_wp2_with fail
            refine hK.out _ _ (heldP_of hb H21_) (fun H22_ => ?_)
            have B1_22 := Blk.below B1_21 hb
            have B2_22 := Blk.below B2_21 hb
            have B3_22 := Blk.below B3_21 hb
            clear hK K hb
            try simp only [Act.put, List.setIfInBounds_toArray, List.set_cons_zero, List.set_cons_succ]
            refine wpAnyH_take (i := 19) (v := .bool true) (op_at rfl) (by kernel_rfl) (by kernel_rfl) (by kernel_rfl) (fun _ _ _ h => h) (Or.inl ⟨by rfl, fun w_ hSw => ?_⟩) H22_ ?_
            · skip; go_simp
            try simp only [Act.put, List.setIfInBounds_toArray, List.set_cons_zero, List.set_cons_succ]
            refine wpAnyH_take (i := 20) (v := .bool true) (op_at rfl) (by kernel_rfl) (by kernel_rfl) (by kernel_rfl) (fun _ _ _ h => h) (Or.inl ⟨by rfl, fun w_ hSw => ?_⟩) H22_ ?_
            · skip; go_simp
            try simp only [Act.put, List.setIfInBounds_toArray, List.set_cons_zero, List.set_cons_succ]
            refine wpAnyH_take (i := 21) (v := .bool true) (op_at rfl) (by kernel_rfl) (by kernel_rfl) (by kernel_rfl) (fun _ _ _ h => h) (Or.inl ⟨by rfl, fun w_ hSw => ?_⟩) H22_ ?_
            · skip; go_simp
            try simp only [Act.put, List.setIfInBounds_toArray, List.set_cons_zero, List.set_cons_succ]
            refine wpAnyH_done (by kernel_rfl) ?_ _
            refine NoPanic.normal ?_
            go_wp2
            go_ret
            exact ⟨rfl, heldP_b H22_⟩
          · go_simp
            have hb := below_alloc (Below.refl V19_.heap.size V19_) (.cells #[.slice (some ⟨bh, 0, none⟩) 32 32] 22)
            refine hK.out _ _ (heldP_of hb H19_) (fun H23_ => ?_)
            have B1_23 := Blk.below B1_19 hb
            have B2_23 := Blk.below B2_19 hb
            have B3_23 := Blk.new V19_ 22 [.slice (some ⟨bh, 0, none⟩) 32 32]
            clear hK K hb
            obtain ⟨V23_, hV_⟩ : ∃ V_, V_ = V19_.alloc (.cells #[.slice (some ⟨bh, 0, none⟩) 32 32] 22) := ⟨_, rfl⟩
            rw [← hV_] at H23_ B1_23 B2_23 B3_23 ⊢
            obtain ⟨gB3_23, hg_⟩ : ∃ g_, g_ = V19_.heap.size := ⟨_, rfl⟩
            rw [← hg_] at B3_23 ⊢
            clear hV_ hg_
            try simp only [Act.put, List.setIfInBounds_toArray, List.set_cons_zero, List.set_cons_succ]
            refine wpAnyH_ready (rs := [15]) (by kernel_rfl) (by simp) ?_
            refine AllReadyH.cons (op_at rfl) (fun K hK => ?_) AllReadyH.nil
            go_simp
            go_at_call 11
            with_reducible refine (hL2 V23_ gB2_19 B2_23 H23_).mono ?_
            rintro e V24_ ⟨rfl, hb⟩
            go_wp2_with fail
            refine hK.out _ _ (heldP_of hb H23_) (fun H24_ => ?_)
            have B1_24 := Blk.below B1_23 hb
            have B2_24 := Blk.below B2_23 hb
            have B3_24 := Blk.below B3_23 hb
            clear hK K hb
            try simp only [Act.put, List.setIfInBounds_toArray, List.set_cons_zero, List.set_cons_succ]
            refine wpAnyH_ready (rs := [18]) (by kernel_rfl) (by simp) ?_
            refine AllReadyH.cons (op_at rfl) (fun K hK => ?_) AllReadyH.nil
            go_simp
            go_at_call 9
            with_reducible refine (hL1 V24_ gB3_23 B3_24 H24_).mono ?_
            rintro e V25_ ⟨rfl, hb⟩
            go_wp2_with fail
            refine hK.out _ _ (heldP_of hb H24_) (fun H25_ => ?_)
            have B1_25 := Blk.below B1_24 hb
            have B2_25 := Blk.below B2_24 hb
            have B3_25 := Blk.below B3_24 hb
            clear hK K hb
            try simp only [Act.put, List.setIfInBounds_toArray, List.set_cons_zero, List.set_cons_succ]
            refine wpAnyH_take (i := 19) (v := .bool true) (op_at rfl) (by kernel_rfl) (by kernel_rfl) (by kernel_rfl) (fun _ _ _ h => h) (Or.inl ⟨by rfl, fun w_ hSw => ?_⟩) H25_ ?_
            · skip; go_simp
            try simp only [Act.put, List.setIfInBounds_toArray, List.set_cons_zero, List.set_cons_succ]
            refine wpAnyH_take (i := 20) (v := .bool true) (op_at rfl) (by kernel_rfl) (by kernel_rfl) (by kernel_rfl) (fun _ _ _ h => h) (Or.inl ⟨by rfl, fun w_ hSw => ?_⟩) H25_ ?_
            · skip; go_simp
            try simp only [Act.put, List.setIfInBounds_toArray, List.set_cons_zero, List.set_cons_succ]
            refine wpAnyH_take (i := 21) (v := .bool true) (op_at rfl) (by kernel_rfl) (by kernel_rfl) (by kernel_rfl) (fun _ _ _ h => h) (Or.inl ⟨by rfl, fun w_ hSw => ?_⟩) H25_ ?_
            · skip; go_simp
            try simp only [Act.put, List.setIfInBounds_toArray, List.set_cons_zero, List.set_cons_succ]
            refine wpAnyH_done (by kernel_rfl) ?_ _
            refine NoPanic.normal ?_
            go_wp2
            go_ret
            exact ⟨rfl, heldP_b H25_⟩
        · go_simp
          have hb := below_alloc (Below.refl V18_.heap.size V18_) (.cells #[.slice (some ⟨bh, 0, none⟩) 32 32] 22)
          refine hK.out _ _ (heldP_of hb H18_) (fun H26_ => ?_)
          have B1_26 := Blk.below B1_18 hb
          have B3_26 := Blk.new V18_ 22 [.slice (some ⟨bh, 0, none⟩) 32 32]
          clear hK K hb
          obtain ⟨V26_, hV_⟩ : ∃ V_, V_ = V18_.alloc (.cells #[.slice (some ⟨bh, 0, none⟩) 32 32] 22) := ⟨_, rfl⟩
          rw [← hV_] at H26_ B1_26 B3_26 ⊢
          obtain ⟨gB3_26, hg_⟩ : ∃ g_, g_ = V18_.heap.size := ⟨_, rfl⟩
          rw [← hg_] at B3_26 ⊢
          clear hV_ hg_
          try simp only [Act.put, List.setIfInBounds_toArray, List.set_cons_zero, List.set_cons_succ]
          refine wpAnyH_ready (rs := [14]) (by kernel_rfl) (by simp) ?_
          refine AllReadyH.cons (op_at rfl) (fun K hK => ?_) AllReadyH.nil
          go_simp
          have hb := below_alloc (Below.refl V26_.heap.size V26_) (.cells #[.slice A3 t.length c3] 22)
          refine hK.out _ _ (heldP_of hb H26_) (fun H27_ => ?_)
          have B1_27 := Blk.below B1_26 hb
          have B3_27 := Blk.below B3_26 hb
          have B2_27 := Blk.new V26_ 22 [.slice A3 t.length c3]
          clear hK K hb
          obtain ⟨V27_, hV_⟩ : ∃ V_, V_ = V26_.alloc (.cells #[.slice A3 t.length c3] 22) := ⟨_, rfl⟩
          rw [← hV_] at H27_ B1_27 B3_27 B2_27 ⊢
          obtain ⟨gB2_27, hg_⟩ : ∃ g_, g_ = V26_.heap.size := ⟨_, rfl⟩
          rw [← hg_] at B2_27 ⊢
          clear hV_ hg_
          try simp only [Act.put, List.setIfInBounds_toArray, List.set_cons_zero, List.set_cons_succ]
          refine wpAnyH_ready (rs := [15]) (by kernel_rfl) (by simp) ?_
          refine AllReadyH.cons (op_at rfl) (fun K hK => ?_) AllReadyH.nil
          go_simp
          go_at_call 11
          with_reducible refine (hL2 V27_ gB2_27 B2_27 H27_).mono ?_
          rintro e V28_ ⟨rfl, hb⟩
          go_wp2_with fail
          refine hK.out _ _ (heldP_of hb H27_) (fun H28_ => ?_)
          have B1_28 := Blk.below B1_27 hb
          have B3_28 := Blk.below B3_27 hb
          have B2_28 := Blk.below B2_27 hb
          clear hK K hb
          try simp only [Act.put, List.setIfInBounds_toArray, List.set_cons_zero, List.set_cons_succ]
          refine wpAnyH_ready (rs := [18]) (by kernel_rfl) (by simp) ?_
          refine AllReadyH.cons (op_at rfl) (fun K hK => ?_) AllReadyH.nil
          go_simp
          go_at_call 9
          with_reducible refine (hL1 V28_ gB3_26 B3_28 H28_).mono ?_
          rintro e V29_ ⟨rfl, hb⟩
          go_wp2_with fail
          refine hK.out _ _ (heldP_of hb H28_) (fun H29_ => ?_)
          have B1_29 := Blk.below B1_28 hb
          have B3_29 := Blk.below B3_28 hb
          have B2_29 := Blk.below B2_28 hb
          clear hK K hb
          try simp only [Act.put, List.setIfInBounds_toArray, List.set_cons_zero, List.set_cons_succ]
          refine wpAnyH_take (i := 19) (v := .bool true) (op_at rfl) (by kernel_rfl) (by kernel_rfl) (by kernel_rfl) (fun _ _ _ h => h) (Or.inl ⟨by rfl, fun w_ hSw => ?_⟩) H29_ ?_
          · skip; go_simp
          try simp only [Act.put, List.setIfInBounds_toArray, List.set_cons_zero, List.set_cons_succ]
          refine wpAnyH_take (i := 20) (v := .bool true) (op_at rfl) (by kernel_rfl) (by kernel_rfl) (by kernel_rfl) (fun _ _ _ h => h) (Or.inl ⟨by rfl, fun w_ hSw => ?_⟩) H29_ ?_
          · skip; go_simp
          try simp only [Act.put, List.setIfInBounds_toArray, List.set_cons_zero, List.set_cons_succ]
          refine wpAnyH_take (i := 21) (v := .bool true) (op_at rfl) (by kernel_rfl) (by kernel_rfl) (by kernel_rfl) (fun _ _ _ h => h) (Or.inl ⟨by rfl, fun w_ hSw => ?_⟩) H29_ ?_
          · skip; go_simp
          try simp only [Act.put, List.setIfInBounds_toArray, List.set_cons_zero, List.set_cons_succ]
          refine wpAnyH_done (by kernel_rfl) ?_ _
          refine NoPanic.normal ?_
          go_wp2
          go_ret
          exact ⟨rfl, heldP_b H29_⟩
      -- END
end Go.Proofs.YtibiaacgcpgkbaaDoor.Walk
