/- Any tree's digest.
   Conditions: none. -/
import Derived.Test.YtibiaacgcpgkbaaDoorShaX
set_option linter.unusedVariables false
set_option linter.unusedSimpArgs false
namespace Go.Proofs.YtibiaacgcpgkbaaDoor.Walk
open Go.RowKit Go.Proofs.YtibiaacgcpgkbaaDoorW.PrintWords Go.Proofs.YtibiaacgcpgkbaaDoorW.PrintMore Go.Proofs.YtibiaacgcpgkbaaDoor Go.Proofs.YtibiaacgcpgkbaaDoor.Bits Sha ArrK ShaW
open Go.Proofs.YtibiaacgcpgkbaaDoor.InRound (op_at)
/-- what is held while the last region goes on -/
def HeldT (w : World) (bh : Nat) (s : List Int) (V : World) : Prop := V.rangeAt bh 0 (nums .u8 s) ∧ Below w.heap.size w V ∧ bh < V.heap.size
theorem heldT_of {w V W' : World} {bh : Nat} {s : List Int} (hb : Below V.heap.size V W') (h : HeldT w bh s V) : HeldT w bh s W' :=
  ⟨fun j v hv => (hb.cell (p := ⟨bh, 0 + j, none⟩) h.2.2).trans (h.1 j v hv), below_then h.2.1 h.2.1.size hb, Nat.lt_of_lt_of_le h.2.2 hb.size⟩
set_option maxRecDepth 100000 in
set_option maxHeartbeats 1000000 in
theorem DigestTrees (L : List (List Int)) (A : Option Addr) (c : Nat) (w : World) (hK : Kst w) (hBg : Bst w) (hRs : Rst w) (hr : kh.C w A L.length L) (hc : L.length ≤ c) (hb : ∀ h ∈ L, Bytes h) :
    Calls Tryd.prog 6 #[.slice A L.length c] w fun e w' => e = .returned (.bool true) ∧ Below w.heap.size w w' := by
  have hAl := Aside0.mk (alive_calls w hK hBg)
  have hrA := Aside0.mk hr; have hKA := Aside0.mk hK; have hBgA := Aside0.mk hBg; have hRsA := Aside0.mk hRs; have hbA := Aside0.mk hb; have hcA := Aside0.mk hc
  clear hr hK hBg hRs hb hc
  by_cases h12 : L.length ≤ 12
  · have d1 : decide ((L.length : Int) > 12) = false := decide_eq_false (by omega)
    have d1' : ¬ (12 : Int) < (L.length : Int) := by omega
    have hsl : (tree L).length = 32 := tree_length L.length L (Nat.le_refl _) (kh_lens hrA.out)
    obtain ⟨s, hs⟩ : ∃ s, s = tree L := ⟨_, rfl⟩
    rw [← hs] at hsl
    have hsA := Aside0.mk hs; have hslA := Aside0.mk hsl
    clear hs hsl
    go_enter Tryd.func6, Tryd.ntmps6
    go_wp2_with (first | (go_at_call 8; with_reducible refine hAl.out.mono ?_; rintro e w1 ⟨rfl, hb1⟩; have hb1A := Aside0.mk hb1; clear hb1) | ((with_reducible refine gate_dst (N := 11) rfl ?_); refine Kd.R_lit kh (w0 := w) w.heap.size 25 ?hg (N := 11) ?hd (xs := ([] : List (List Int))) (inner := []) (ok := fun _ => True) (okp := fun _ => True) ?hr ?hp (fun _ hk => hk) trivial hb1A.out hb1A.out.size (by simp) ?_; (case hd => rfl); (case hg => rfl); (case hr => first | (go_simp; done) | (go_simp; rfl)); (case hp => exact (Reps.none _ _)); intro v11 w11 hR hB hg hn; have hR11 := Aside0.mk hR; have hB11 := Aside0.mk hB; have hC11 := Aside0.mk (Kd.C_below hrA.out hB); clear hR hB hg hn) | ((with_reducible refine gate_dst (N := 13) rfl ?_); at_builtin; refine Kd.R_append_rows kh (Rr := kh.K w11) (w0 := w) w.heap.size rfl (.tmp 11) (.tmp 12) 35 25 (hv zero32) 32 rfl Tryd.underlying35 info_hash3 rfl (by decide) (by decide) v11 [] L A L.length c (fun _ => True) (fun _ => False) rfl rfl hR11.out hC11.out kh_KM (fun _ h => h.elim) (fun _ _ => trivial) hB11.out hB11.out.size (by simp; omega) ?_; intro v13 w13 hR hB hg hn; rw [List.nil_append] at hR; obtain ⟨A3, c3, hv3, hc3, hC3⟩ := Kd.R_reads hR; subst hv3; have hB13 := Aside0.mk hB; have hC13 := Aside0.mk (Kd.C_below hrA.out hB); have hC3A := Aside0.mk hC3; have hS1' := tree_calls L A3 c3 w13 (hKA.out.below hB) (hBgA.out.below hB) hC3 hc3 (by omega) hbA.out; rw [← hsA.out] at hS1'; have hS1 := Aside0.mk hS1'; clear hR hB hg hn hR11 hB11 hC11 hC3 hc3 hS1') | (go_at_call 17; with_reducible refine hS1.out.mono ?_; rintro e w3 ⟨rfl, hb3⟩; have hb3A := Aside0.mk hb3; clear hb3) | ((with_reducible refine gate_dst (N := 4) rfl ?_); refine wpList_new_put rfl (N := 4) rfl rfl 25 (.tmp 15) rfl (nums .u8 s) (nums .u8 zero32) (by simp [nums, hslA.out]) ?hr rfl rfl (info_hash _ hslA.out) (u8_one _) ?_; (case hr => first | (go_simp; done) | (go_simp; rfl)); intro w4 hW4 hb4 hs4; have hW4A := Aside0.mk hW4; have hb4A := Aside0.mk hb4; have hbw := Aside0.mk (below_then (below_then hB13.out hB13.out.size hb3A.out) (Nat.le_trans hB13.out.size hb3A.out.size) hb4); clear hW4 hb4 hs4))
    have hR4 := hW4A.out
    have hlt3 := hR4.lt
    have hC4 := Kd.C_below hC13.out ((below_then hb3A.out hb3A.out.size hb4A.out))
    have hC43 := Kd.C_below hC3A.out ((below_then hb3A.out hb3A.out.size hb4A.out))
    have hB34 := hbw.out
    obtain ⟨bh, hbh⟩ : ∃ bh, bh = w3.heap.size := ⟨_, rfl⟩
    rw [← hbh] at hR4 hlt3 ⊢
    have hR4A := Aside0.mk hR4; have hC4A := Aside0.mk hC4; have hC43A := Aside0.mk hC43; have hB4A := Aside0.mk hB34
    clear hS1 hb3A hW4A hb4A hbw hbh hC13 hC3A hR4 hC4 hC43 hB34 hlt3 hAl hb1A hB13
    have hu := Tryd.underlying25
    go_loopw [18] (fun i wr => ∃ k : Nat, k ≤ L.length ∧ i = .int .i64 (k : Int) ∧ Below w4.heap.size w4 wr) (fun i _ => L.length - (intOf i).toNat)
    case atStart => exact ⟨0, by omega, rfl, Below.refl _ _⟩
    case round =>
      obtain ⟨k, hk, rfl, hB⟩ := hrel
      have hBA := Aside0.mk hB
      clear hB
      by_cases hlt : k < L.length
      · have p0 : (0 : Int) ≤ (k : Int) := by omega
        have p1 : (k : Int) < (L.length : Int) := by omega
        have hw4 : IntKind.i64.wrap ((k : Int) + 1) = (k : Int) + 1 := IntWalk.i64_in _ (by omega)
        obtain ⟨x, hx⟩ : ∃ h, L[k]? = some h := ⟨_, List.getElem?_eq_getElem hlt⟩
        obtain ⟨hxl, ad, hA, hat⟩ := kh_at (Kd.C_below hC4A.out hBA.out) k x hx
        obtain ⟨_, ad3, hA3, hat3⟩ := kh_at (Kd.C_below hC43A.out hBA.out) k x hx
        subst hA hA3
        have hix := info_hash x hxl
        have hxlA := Aside0.mk hxl
        clear hx hxl
        go_wp2_with fail
        refine wp_region_noPanic ?_
        refine wp_region_held_drew (S := fun V => V = wr.drew) (by kernel_rfl) rfl (fun _ => ?_)
        have hat' : ∀ V1, V1 = wr.drew → ∀ j v, (nums .u8 x)[j]? = some v → V1.cell? ((ad.add (k * 32)).add j) = some v := fun V1 e => by subst e; exact hat
        have hat3' : ∀ V1, V1 = wr.drew → ∀ j v, (nums .u8 x)[j]? = some v → V1.cell? ((ad3.add (k * 32)).add j) = some v := fun V1 e => by subst e; exact hat3
        have H0 : wr.drew = wr.drew := rfl
        -- REGION A
        refine wpAnyH_take (i := 0) (v := .slice (some ad3) L.length c3) (op_at rfl) (by kernel_rfl) (by kernel_rfl) (by kernel_rfl) (fun _ _ _ h => h) (Or.inl ⟨by rfl, fun w_ hSw => ?_⟩) H0 ?_
        · skip; go_simp
        try simp only [Act.put, List.setIfInBounds_toArray, List.set_cons_zero, List.set_cons_succ]
        refine wpAnyH_take (i := 1) (v := .int .i64 (k : Int)) (op_at rfl) (by kernel_rfl) (by kernel_rfl) (by kernel_rfl) (fun _ _ _ h => h) (Or.inl ⟨by rfl, fun w_ hSw => ?_⟩) H0 ?_
        · skip; go_simp
        try simp only [Act.put, List.setIfInBounds_toArray, List.set_cons_zero, List.set_cons_succ]
        refine wpAnyH_take (i := 2) (v := .pointer (some (ad3.add (k * 32)))) (op_at rfl) (by kernel_rfl) (by kernel_rfl) (by kernel_rfl) (fun _ _ _ h => h) (Or.inl ⟨by rfl, fun w_ hSw => ?_⟩) H0 ?_
        · skip; go_simp
        try simp only [Act.put, List.setIfInBounds_toArray, List.set_cons_zero, List.set_cons_succ]
        refine wpAnyH_take (i := 3) (v := hv x) (op_at rfl) (by kernel_rfl) (by kernel_rfl) (by kernel_rfl) (fun _ _ _ h => h) (yieldsIf_load_any (by rfl) _ _ rfl (ad3.add (k * 32)) rfl _ _ (fun w_ hSw => hat3' w_ hSw) hu rfl hix) H0 ?_
        try simp only [Act.put, List.setIfInBounds_toArray, List.set_cons_zero, List.set_cons_succ]
        refine wpAnyH_take (i := 4) (v := .slice (some ad) L.length c) (op_at rfl) (by kernel_rfl) (by kernel_rfl) (by kernel_rfl) (fun _ _ _ h => h) (Or.inl ⟨by rfl, fun w_ hSw => ?_⟩) H0 ?_
        · skip; go_simp
        try simp only [Act.put, List.setIfInBounds_toArray, List.set_cons_zero, List.set_cons_succ]
        refine wpAnyH_take (i := 5) (v := .int .i64 (k : Int)) (op_at rfl) (by kernel_rfl) (by kernel_rfl) (by kernel_rfl) (fun _ _ _ h => h) (Or.inl ⟨by rfl, fun w_ hSw => ?_⟩) H0 ?_
        · skip; go_simp
        try simp only [Act.put, List.setIfInBounds_toArray, List.set_cons_zero, List.set_cons_succ]
        refine wpAnyH_take (i := 6) (v := .pointer (some (ad.add (k * 32)))) (op_at rfl) (by kernel_rfl) (by kernel_rfl) (by kernel_rfl) (fun _ _ _ h => h) (Or.inl ⟨by rfl, fun w_ hSw => ?_⟩) H0 ?_
        · skip; go_simp
        try simp only [Act.put, List.setIfInBounds_toArray, List.set_cons_zero, List.set_cons_succ]
        refine wpAnyH_take (i := 7) (v := hv x) (op_at rfl) (by kernel_rfl) (by kernel_rfl) (by kernel_rfl) (fun _ _ _ h => h) (yieldsIf_load_any (by rfl) _ _ rfl (ad.add (k * 32)) rfl _ _ (fun w_ hSw => hat' w_ hSw) hu rfl hix) H0 ?_
        try simp only [Act.put, List.setIfInBounds_toArray, List.set_cons_zero, List.set_cons_succ]
        refine wpAnyH_take (i := 8) (v := .bool false) (op_at rfl) (by kernel_rfl) (by kernel_rfl) (by kernel_rfl) (fun _ _ _ h => h) (Or.inl ⟨by rfl, fun w_ hSw => exec_neq_same (.tmp 24) (.tmp 28) rfl x rfl rfl hxlA.out w_⟩) H0 ?_
        try simp only [Act.put, List.setIfInBounds_toArray, List.set_cons_zero, List.set_cons_succ]
        refine wpAnyH_done (by kernel_rfl) ?_ _
        refine NoPanic.normal ?_
        go_wp2
        go_roundw
        case rel => exact ⟨k + 1, by omega, by go_num, pw_below_drewN hBA.out 1⟩
        case measure => simp [intOf]; omega
        -- END A
      · obtain rfl : k = L.length := by omega
        have hRb := hR4A.out.below hBA.out
        have hBw : Below w.heap.size w wr := below_then hB4A.out hB4A.out.size hBA.out
        have hlt3 := hRb.lt
        have H0 : HeldT w bh s wr.drew := ⟨fun j v hv => by rw [Nat.zero_add]; exact hRb.get j v hv, pw_below_drewN hBw 1, hlt3⟩
        have hr1 : ∀ V : World, HeldT w bh s V → Calls Tryd.prog 18 #[.slice A L.length c] V fun e w' => e = .returned (hv s) ∧ Below V.heap.size V w' := fun V hS => by rw [hsA.out]; exact rtree_calls L.length L A c V (Nat.le_refl _) (hRsA.out.below hS.2.1) (Kd.C_below hrA.out hS.2.1) hcA.out (by omega) hbA.out
        have hr1A := Aside0.mk hr1
        have hi36 := info_hash s hslA.out
        clear hRb hBw hlt3 hr1 hR4A hC4A hC43A hB4A hBA hlt
        go_wp2_with fail
        refine wp_region_noPanic ?_
        refine wp_region_held_drew (S := HeldT w bh s) (by kernel_rfl) H0 (fun _ => ?_)
        generalize wr.drew = V0 at *
        -- REGION B
        refine wpAnyH_take (i := 0) (v := hv s) (op_at rfl) (by kernel_rfl) (by kernel_rfl) (by kernel_rfl) (fun _ _ _ h => h) (yieldsIf_load_mid (by rfl) _ _ rfl bh 0 rfl _ _ (fun w_ hSw => hSw.1) hu rfl hi36) H0 ?_
        try simp only [Act.put, List.setIfInBounds_toArray, List.set_cons_zero, List.set_cons_succ]
        refine wpAnyH_take (i := 1) (v := .slice A L.length c) (op_at rfl) (by kernel_rfl) (by kernel_rfl) (by kernel_rfl) (fun _ _ _ h => h) (Or.inl ⟨by rfl, fun w_ hSw => ?_⟩) H0 ?_
        · skip; go_simp
        try simp only [Act.put, List.setIfInBounds_toArray, List.set_cons_zero, List.set_cons_succ]
        refine wpAnyH_ready (rs := [2]) (by kernel_rfl) (by simp) ?_
        refine AllReadyH.cons (op_at rfl) (fun K hK => ?_) AllReadyH.nil
        go_simp
        go_at_call 18
        with_reducible refine (hr1A.out V0 H0).mono ?_
        rintro e V1_ ⟨rfl, hb⟩
        go_wp2_with fail
        refine hK.out _ _ (heldT_of hb H0) (fun H1_ => ?_)
        clear hK K hb
        try simp only [Act.put, List.setIfInBounds_toArray, List.set_cons_zero, List.set_cons_succ]
        refine wpAnyH_take (i := 3) (v := .bool true) (op_at rfl) (by kernel_rfl) (by kernel_rfl) (by kernel_rfl) (fun _ _ _ h => h) (Or.inl ⟨by rfl, fun w_ hSw => exec_eql_same (.tmp 31) (.tmp 33) rfl s rfl rfl hslA.out w_⟩) H1_ ?_
        try simp only [Act.put, List.setIfInBounds_toArray, List.set_cons_zero, List.set_cons_succ]
        refine wpAnyH_take (i := 4) (v := .bool true) (op_at rfl) (by kernel_rfl) (by kernel_rfl) (by kernel_rfl) (fun _ _ _ h => h) (Or.inl ⟨by rfl, fun w_ hSw => ?_⟩) H1_ ?_
        · skip; go_simp
        try simp only [Act.put, List.setIfInBounds_toArray, List.set_cons_zero, List.set_cons_succ]
        refine wpAnyH_done (by kernel_rfl) ?_ _
        refine NoPanic.normal ?_
        go_wp2
        go_ret
        exact ⟨rfl, H1_.2.1⟩
        -- END B
  · have d1 : decide ((L.length : Int) > 12) = true := decide_eq_true (by omega)
    have d1' : (12 : Int) < (L.length : Int) := by omega
    go_enter Tryd.func6, Tryd.ntmps6
    go_wp2_with (go_at_call 8; with_reducible refine hAl.out.mono ?_; rintro e w1 ⟨rfl, hb1⟩; have hb1A := Aside0.mk hb1; clear hb1)
    go_ret
    exact ⟨rfl, hb1A.out⟩
end Go.Proofs.YtibiaacgcpgkbaaDoor.Walk
