/- Bytes written behind each other (pack.Out). -/
import Derived.Test.YtlgfekllkahfaaaTxK
import Derived.Test.YtlgfekllkahfaaaInRound
set_option linter.unusedVariables false
set_option linter.unusedSimpArgs false
namespace Go.Proofs.Ytlgfekllkahfaaa.Pack
open Go.RowKit Go.Proofs.YtlgfekllkahfaaaW.PrintWords Go.Proofs.YtlgfekllkahfaaaW.PrintMore Go.Proofs.Ytlgfekllkahfaaa Go.Proofs.Ytlgfekllkahfaaa.Bits Sha ArrK ShaW
open Go.Proofs.Ytlgfekllkahfaaa.InRound (op_at)
/-- a number's bytes, the lowest first -/
def numb (n : Int) (k : Nat) : List Int := (List.range k).map fun i => n / 2 ^ (8 * i) % 256
theorem numb_length (n : Int) (k : Nat) : (numb n k).length = k := by simp [numb]
theorem numb_succ (n : Int) (k : Nat) : numb n (k + 1) = numb n k ++ [n / 2 ^ (8 * k) % 256] := by unfold numb; rw [List.range_succ, List.map_append]; rfl
theorem numb_bytes (n : Int) (k : Nat) : Bytes (numb n k) := by
  intro x hx
  obtain ⟨i, _, rfl⟩ := List.mem_map.1 hx
  have := Int.emod_nonneg (n / 2 ^ (8 * i)) (show (256 : Int) ≠ 0 by decide)
  have := Int.emod_lt_of_pos (n / 2 ^ (8 * i)) (show (0 : Int) < 256 by decide)
  omega
/-- a count's bytes -/
def cnt (n : Nat) : List Int := if n < 253 then numb n 1 else if n ≤ 65535 then 253 :: numb n 2 else 254 :: numb n 4
theorem cnt_bytes (n : Nat) : Bytes (cnt n) := by
  unfold cnt
  split
  · exact numb_bytes _ _
  · split
    all_goals
      intro x hx
      rcases List.mem_cons.1 hx with rfl | hx
      · omega
      · exact numb_bytes _ _ x hx
theorem cnt_length (n : Nat) : (cnt n).length ≤ 5 := by
  unfold cnt
  split
  · simp [numb]
  · split <;> simp [numb]
/-- what lies in an Out -/
def OutP (base : Nat) (W : World) (B : Nat) (l : List Int) : Prop := ∃ v, Blk W B 103 [v] ∧ Kd.R (Kd.int .u8) 5 W base (fun _ => True) v l
/-- all but block B and rows of bytes is as it was -/
def Kp8 (B : Nat) (W W1 : World) : Prop := W.heap.size ≤ W1.heap.size ∧ ∀ k cs t fr, k ≠ B → t ≠ 5 → W.heap[k]? = some (.cells cs t fr) → W1.heap[k]? = some (.cells cs t fr)
theorem Kp8.refl (B : Nat) (W : World) : Kp8 B W W := ⟨Nat.le_refl _, fun _ _ _ _ _ _ h => h⟩
theorem Kp8.trans {B : Nat} {A C D : World} (h : Kp8 B A C) (k : Kp8 B C D) : Kp8 B A D := ⟨Nat.le_trans h.1 k.1, fun i cs t fr h1 h2 h3 => k.2 i cs t fr h1 h2 (h.2 i cs t fr h1 h2 h3)⟩
theorem Kp8.below {B : Nat} {A C D : World} (h : Kp8 B A C) (k : Below C.heap.size C D) : Kp8 B A D := ⟨Nat.le_trans h.1 k.size, fun i cs t fr h1 h2 h3 => by
  have h4 := h.2 i cs t fr h1 h2 h3
  exact (k.block i (Array.getElem?_eq_some_iff.1 h4).1).trans h4⟩
theorem Kp8.set {B : Nat} {A C : World} (h : Kp8 B A C) (j : Nat) (u : Value) : Kp8 B A (C.setCell ⟨B, j, none⟩ u) := ⟨by simp [World.setCell]; exact h.1, fun i cs t fr h1 h2 h3 => (Below.heap_setCell C ⟨B, j, none⟩ u i h1).trans (h.2 i cs t fr h1 h2 h3)⟩
theorem Kp8.grown {B base : Nat} {ok : Nat → Prop} {A C D : World} {v : Value} {l : List Int} (h : Kp8 B A C) (hR : Kd.R (Kd.int .u8) 5 C base ok v l) (hg : C.grownBy D v.ownBlock) : Kp8 B A D := ⟨Nat.le_trans h.1 hg.size, fun i cs t fr h1 h2 h3 => by
  have h4 := h.2 i cs t fr h1 h2 h3
  refine (hg.block i (Array.getElem?_eq_some_iff.1 h4).1 (fun e => ?_)).trans h4
  obtain ⟨inner, ho⟩ := Kd.R_own hR
  obtain ⟨cells, hc⟩ := own_typed ho i e.symm
  rw [hc] at h4; cases h4; exact h2 rfl⟩
theorem Kp8.blk {B k t : Nat} {W W1 : World} {cs : List Value} (h : Kp8 B W W1) (hk : k ≠ B) (ht : t ≠ 5) (hb : Blk W k t cs) : Blk W1 k t cs := h.2 k _ t _ hk ht hb
theorem sized_calls (k : Nat) (hk : k = 1 ∨ k = 2 ∨ k = 4 ∨ k = 8) (w : World) : Calls Try.prog 54 #[.int .i64 (k : Int)] w fun e w' => e = .returned (.bool true) ∧ w = w' := by
  rcases hk with rfl | rfl | rfl | rfl
  all_goals
    go_enter Try.func54, Try.ntmps54
    go_wp2
    go_ret
    exact ⟨rfl, rfl⟩
set_option maxRecDepth 100000 in
set_option maxHeartbeats 400000 in
theorem num_calls (base B : Nat) (l : List Int) (n : Int) (k : Nat) (w : World) (hn : 0 ≤ n ∧ n < 18446744073709551616) (hk : k = 1 ∨ k = 2 ∨ k = 4 ∨ k = 8) (hO : OutP base w B l) (hb : base ≤ B) (hl : l.length ≤ 1000000000) :
    Calls Try.prog 64 #[.pointer (some ⟨B, 0, none⟩), .int .u64 n, .int .i64 (k : Int)] w fun e w' => (∃ v, e = .returned v) ∧ OutP base w' B (l ++ numb n k) ∧ Kp8 B w w' ∧ Below base w w' := by
  have hO0 := Aside0.mk hO
  have hlt0 : base ≤ w.heap.size := by obtain ⟨v, hX, _⟩ := hO; have := hX.lt; omega
  have hk8 : k ≤ 8 := by omega
  have hkA := Aside0.mk hk
  have hnA := Aside0.mk hn
  clear hO hk hn
  go_enter Try.func64, Try.ntmps64
  go_wp2_with (go_at_call 54; with_reducible refine (sized_calls k hkA.out _).mono ?_; rintro e w1 ⟨rfl, rfl⟩)
  go_loopw [15] (fun i wr => ∃ j : Nat, j ≤ k ∧ i = .int .i64 (j : Int) ∧ OutP base wr B (l ++ numb n j) ∧ Kp8 B w wr ∧ Below base w wr) (fun i _ => k - (intOf i).toNat)
  case atStart => exact ⟨0, by omega, rfl, by unfold numb; simp; exact hO0.out, Kp8.refl _ _, Below.refl _ _⟩
  case round =>
    clear hO0
    obtain ⟨j, hj, rfl, hO, hKp, hB⟩ := hrel
    obtain ⟨v, hX, hR⟩ := hO
    have hKpA := Aside0.mk hKp; have hBA := Aside0.mk hB
    clear hKp hB
    by_cases hlt : j < k
    · have p1 : (j : Int) < (k : Int) := by omega
      have e1 : IntKind.i64.wrap (8 * (j : Int)) = ((8 * j : Nat) : Int) := by rw [IntWalk.i64_in _ (by omega)]; omega
      have e2 : IntKind.i64.wrap ((j : Int) + 1) = (j : Int) + 1 := IntWalk.i64_in _ (by omega)
      have hns := numb_succ n j
      obtain ⟨s, hs⟩ : ∃ s, s = 8 * j := ⟨_, rfl⟩
      rw [← hs] at e1 hns
      have e3 : s < 64 := by omega
      obtain ⟨y, hy⟩ : ∃ y, y = n / 2 ^ s % 256 := ⟨_, rfl⟩
      rw [← hy] at hns
      have hll : (l ++ numb n j).length ≤ 1000000008 := by rw [List.length_append, numb_length]; omega
      have hyA := Aside0.mk hy.symm; have hnsA := Aside0.mk hns; have hsA := Aside0.mk hs
      clear hy hns hs
      have hRA := Aside0.mk hR; have hXA := Aside0.mk hX
      clear hR hX
      go_wp2_with fail
      obtain ⟨l2, hl2⟩ : ∃ l2, l ++ numb n j ++ [y] = l2 := ⟨_, rfl⟩
      have hl2A := Aside0.mk hl2
      clear hl2
      refine wp_region_noPanic ?_
      refine wp_region_held_drew (S := fun _ => True) (by kernel_rfl) trivial (fun _ => ?_)
      have H0 : True := trivial
      have hR0 : Aside0 (Kd.R (Kd.int .u8) 5 wr.drew base (fun _ => True) v (l ++ numb n j)) := Aside0.mk (Kd.R_below hRA.out (pw_below_drewN (Below.refl wr.heap.size wr) 1))
      have hX0 : Blk wr.drew B 103 [v] := hXA.out
      have hK0 : Aside0 (Kp8 B w wr.drew) := Aside0.mk (hKpA.out.below (pw_below_drewN (Below.refl wr.heap.size wr) 1))
      have hB0 : Aside0 (Below base w wr.drew) := Aside0.mk (pw_below_drewN hBA.out 1)
      clear hKpA hBA hRA hXA
      generalize wr.drew = V0 at *
      -- REGION A
      refine wpAnyH_take (i := 0) (v := .pointer (some ⟨B, 0, none⟩)) (op_at rfl) (by kernel_rfl) (by kernel_rfl) (by kernel_rfl) (fun _ _ _ h => h) (Or.inl ⟨by rfl, fun w_ hSw => ?_⟩) H0 ?_
      · skip; go_simp
      try simp only [Act.put, List.setIfInBounds_toArray, List.set_cons_zero, List.set_cons_succ]
      refine wpAnyH_take (i := 1) (v := .pointer (some ⟨B, 0, none⟩)) (op_at rfl) (by kernel_rfl) (by kernel_rfl) (by kernel_rfl) (fun _ _ _ h => h) (Or.inl ⟨by rfl, fun w_ hSw => ?_⟩) H0 ?_
      · skip; go_simp
      try simp only [Act.put, List.setIfInBounds_toArray, List.set_cons_zero, List.set_cons_succ]
      refine wpAnyH_take (i := 2) (v := .pointer (some ⟨B, 0, none⟩)) (op_at rfl) (by kernel_rfl) (by kernel_rfl) (by kernel_rfl) (fun _ _ _ h => h) (Or.inl ⟨by rfl, fun w_ hSw => ?_⟩) H0 ?_
      · skip; go_simp
      try simp only [Act.put, List.setIfInBounds_toArray, List.set_cons_zero, List.set_cons_succ]
      refine wpAnyH_take (i := 3) (v := .pointer (some ⟨B, 0, none⟩)) (op_at rfl) (by kernel_rfl) (by kernel_rfl) (by kernel_rfl) (fun _ _ _ h => h) (Or.inl ⟨by rfl, fun w_ hSw => ?_⟩) H0 ?_
      · skip; go_simp
      try simp only [Act.put, List.setIfInBounds_toArray, List.set_cons_zero, List.set_cons_succ]
      refine wpAnyH_take (i := 5) (v := .int .u64 n) (op_at rfl) (by kernel_rfl) (by kernel_rfl) (by kernel_rfl) (fun _ _ _ h => h) (Or.inl ⟨by rfl, fun w_ hSw => ?_⟩) H0 ?_
      · skip; go_simp
      try simp only [Act.put, List.setIfInBounds_toArray, List.set_cons_zero, List.set_cons_succ]
      refine wpAnyH_take (i := 6) (v := .int .i64 (j : Int)) (op_at rfl) (by kernel_rfl) (by kernel_rfl) (by kernel_rfl) (fun _ _ _ h => h) (Or.inl ⟨by rfl, fun w_ hSw => ?_⟩) H0 ?_
      · skip; go_simp
      try simp only [Act.put, List.setIfInBounds_toArray, List.set_cons_zero, List.set_cons_succ]
      refine wpAnyH_take (i := 7) (v := .int .i64 (s : Int)) (op_at rfl) (by kernel_rfl) (by kernel_rfl) (by kernel_rfl) (fun _ _ _ h => h) (Or.inl ⟨by rfl, fun w_ hSw => ?_⟩) H0 ?_
      · skip; go_simp
      try simp only [Act.put, List.setIfInBounds_toArray, List.set_cons_zero, List.set_cons_succ]
      refine wpAnyH_take (i := 8) (v := .int .u64 (n / 2 ^ s)) (op_at rfl) (by kernel_rfl) (by kernel_rfl) (by kernel_rfl) (fun _ _ _ h => h) (Or.inl ⟨by rfl, fun w_ hSw => ?_⟩) H0 ?_
      · have e4 : (s : Int) < 18446744073709551616 := (by omega); have e5 := hnA.out.1; have e6 := hnA.out.2; go_simp
      try simp only [Act.put, List.setIfInBounds_toArray, List.set_cons_zero, List.set_cons_succ]
      refine wpAnyH_take (i := 9) (v := .int .u8 y) (op_at rfl) (by kernel_rfl) (by kernel_rfl) (by kernel_rfl) (fun _ _ _ h => h) (Or.inl ⟨by rfl, fun w_ hSw => ?_⟩) H0 ?_
      · have e4 : IntKind.u8.wrap (n / 2 ^ s) = y := (by rw [IntKind.wrap_u8]; exact hyA.out); go_simp
      try simp only [Act.put, List.setIfInBounds_toArray, List.set_cons_zero, List.set_cons_succ]
      refine wpAnyH_ready (rs := [4, 10]) (by kernel_rfl) (by simp) ?_
      refine AllReadyH.cons (op_at rfl) (fun K hK => ?_) (AllReadyH.cons (op_at rfl) (fun K hK => ?_) AllReadyH.nil)
      · have hc_ := hX0.get 0 v rfl
        go_simp
        clear hc_
        refine hK.out _ _ H0 (fun H1_ => ?_)
        clear hK K
        try simp only [Act.put, List.setIfInBounds_toArray, List.set_cons_zero, List.set_cons_succ]
        refine wpAnyH_ready (rs := [10]) (by kernel_rfl) (by simp) ?_
        refine AllReadyH.cons (op_at rfl) (fun K hK => ?_) AllReadyH.nil
        go_simp
        refine hK.out _ _ trivial (fun H2_ => ?_)
        have XC_2 := hX0.alloc (.cells #[.int .u8 y] 5)
        clear hK K
        try simp only [Act.put, List.setIfInBounds_toArray, List.set_cons_zero, List.set_cons_succ]
        refine wpAnyH_ready (rs := [11]) (by kernel_rfl) (by simp) ?_
        refine AllReadyH.cons (op_at rfl) (fun K hK => ?_) AllReadyH.nil
        refine Kd.R_append_step (Kd.int .u8) (w0 := w) base (by rfl) (.tmp 22) (.tmp 28) 49 5 (.int .u8 0) 1 rfl Try.underlying49 info_u8 rfl (by decide) (by decide) v (l ++ numb n j) y [.int .u8 y] (fun _ => True) (fun _ => False) rfl rfl rfl (fun _ h => h.elim) (fun _ _ => trivial) hR0.out hB0.out (Nat.le_trans hlt0 hB0.out.size) (by omega) ?_
        intro v1_3 V3_ hR_ hB_ hg_ _
        rw [hl2A.out] at hR_
        refine hK.out _ _ trivial (fun H3_ => ?_)
        have X_3 := hX0.grown hg_ (Kd.R_ne hR0.out hX0 (by decide))
        have R_3 := Aside0.mk hR_
        have K_3 := Aside0.mk (hK0.out.grown hR0.out hg_)
        have B_3 := Aside0.mk hB_
        clear hK K hB_ hg_ hR_
        try simp only [Act.put, List.setIfInBounds_toArray, List.set_cons_zero, List.set_cons_succ]
        refine wpAnyH_take (i := 12) (v := .pointer (some ⟨B, 0, none⟩)) (op_at rfl) (by kernel_rfl) (by kernel_rfl) (by kernel_rfl) (fun _ _ _ h => h) (Or.inl ⟨by rfl, fun w_ hSw => ?_⟩) H3_ ?_
        · skip; go_simp
        try simp only [Act.put, List.setIfInBounds_toArray, List.set_cons_zero, List.set_cons_succ]
        refine wpAnyH_take (i := 13) (v := .pointer (some ⟨B, 0, none⟩)) (op_at rfl) (by kernel_rfl) (by kernel_rfl) (by kernel_rfl) (fun _ _ _ h => h) (Or.inl ⟨by rfl, fun w_ hSw => ?_⟩) H3_ ?_
        · skip; go_simp
        try simp only [Act.put, List.setIfInBounds_toArray, List.set_cons_zero, List.set_cons_succ]
        refine wpAnyH_ready (rs := [14]) (by kernel_rfl) (by simp) ?_
        refine AllReadyH.cons (op_at rfl) (fun K hK => ?_) AllReadyH.nil
        obtain ⟨A1_, c1_, hv_⟩ := Kd.R_slice R_3.out
        subst hv_
        have hc_ := X_3.get 0 _ rfl
        have hf_ := X_3.fz 0
        go_simp
        refine hK.out _ _ trivial (fun H4_ => ?_)
        have X_4 := X_3.set 0 (.slice A1_ (l2).length c1_)
        have R_4 := Aside0.mk (Kd.R_set R_3.out X_3 (by decide) 0 (.slice A1_ (l2).length c1_))
        have K_4 := Aside0.mk (K_3.out.set 0 (.slice A1_ (l2).length c1_))
        have B_4 := Aside0.mk (B_3.out.setCell (p := ⟨B, 0, none⟩) hb (.slice A1_ (l2).length c1_))
        clear hK K hc_ hf_
        try simp only [Act.put, List.setIfInBounds_toArray, List.set_cons_zero, List.set_cons_succ]
        refine wpAnyH_done (by kernel_rfl) ?_ _
        refine NoPanic.normal ?_
        go_wp2
        go_roundw
        case rel => exact ⟨j + 1, by omega, by go_num, ⟨_, X_4, by rw [hnsA.out, ← List.append_assoc, hl2A.out]; exact R_4.out⟩, K_4.out, B_4.out⟩
        case measure => simp [intOf]; omega
      · go_simp
        refine hK.out _ _ trivial (fun H5_ => ?_)
        have XC_5 := hX0.alloc (.cells #[.int .u8 y] 5)
        clear hK K
        try simp only [Act.put, List.setIfInBounds_toArray, List.set_cons_zero, List.set_cons_succ]
        refine wpAnyH_ready (rs := [4]) (by kernel_rfl) (by simp) ?_
        refine AllReadyH.cons (op_at rfl) (fun K hK => ?_) AllReadyH.nil
        have hc_ := XC_5.get 0 v rfl
        go_simp
        clear hc_
        refine hK.out _ _ H5_ (fun H6_ => ?_)
        clear hK K
        try simp only [Act.put, List.setIfInBounds_toArray, List.set_cons_zero, List.set_cons_succ]
        refine wpAnyH_ready (rs := [11]) (by kernel_rfl) (by simp) ?_
        refine AllReadyH.cons (op_at rfl) (fun K hK => ?_) AllReadyH.nil
        refine Kd.R_append_step (Kd.int .u8) (w0 := w) base (by rfl) (.tmp 22) (.tmp 28) 49 5 (.int .u8 0) 1 rfl Try.underlying49 info_u8 rfl (by decide) (by decide) v (l ++ numb n j) y [.int .u8 y] (fun _ => True) (fun _ => False) rfl rfl rfl (fun _ h => h.elim) (fun _ _ => trivial) hR0.out hB0.out (Nat.le_trans hlt0 hB0.out.size) (by omega) ?_
        intro v1_7 V7_ hR_ hB_ hg_ _
        rw [hl2A.out] at hR_
        refine hK.out _ _ trivial (fun H7_ => ?_)
        have X_7 := hX0.grown hg_ (Kd.R_ne hR0.out hX0 (by decide))
        have R_7 := Aside0.mk hR_
        have K_7 := Aside0.mk (hK0.out.grown hR0.out hg_)
        have B_7 := Aside0.mk hB_
        clear hK K hB_ hg_ hR_
        try simp only [Act.put, List.setIfInBounds_toArray, List.set_cons_zero, List.set_cons_succ]
        refine wpAnyH_take (i := 12) (v := .pointer (some ⟨B, 0, none⟩)) (op_at rfl) (by kernel_rfl) (by kernel_rfl) (by kernel_rfl) (fun _ _ _ h => h) (Or.inl ⟨by rfl, fun w_ hSw => ?_⟩) H7_ ?_
        · skip; go_simp
        try simp only [Act.put, List.setIfInBounds_toArray, List.set_cons_zero, List.set_cons_succ]
        refine wpAnyH_take (i := 13) (v := .pointer (some ⟨B, 0, none⟩)) (op_at rfl) (by kernel_rfl) (by kernel_rfl) (by kernel_rfl) (fun _ _ _ h => h) (Or.inl ⟨by rfl, fun w_ hSw => ?_⟩) H7_ ?_
        · skip; go_simp
        try simp only [Act.put, List.setIfInBounds_toArray, List.set_cons_zero, List.set_cons_succ]
        refine wpAnyH_ready (rs := [14]) (by kernel_rfl) (by simp) ?_
        refine AllReadyH.cons (op_at rfl) (fun K hK => ?_) AllReadyH.nil
        obtain ⟨A1_, c1_, hv_⟩ := Kd.R_slice R_7.out
        subst hv_
        have hc_ := X_7.get 0 _ rfl
        have hf_ := X_7.fz 0
        go_simp
        refine hK.out _ _ trivial (fun H8_ => ?_)
        have X_8 := X_7.set 0 (.slice A1_ (l2).length c1_)
        have R_8 := Aside0.mk (Kd.R_set R_7.out X_7 (by decide) 0 (.slice A1_ (l2).length c1_))
        have K_8 := Aside0.mk (K_7.out.set 0 (.slice A1_ (l2).length c1_))
        have B_8 := Aside0.mk (B_7.out.setCell (p := ⟨B, 0, none⟩) hb (.slice A1_ (l2).length c1_))
        clear hK K hc_ hf_
        try simp only [Act.put, List.setIfInBounds_toArray, List.set_cons_zero, List.set_cons_succ]
        refine wpAnyH_done (by kernel_rfl) ?_ _
        refine NoPanic.normal ?_
        go_wp2
        go_roundw
        case rel => exact ⟨j + 1, by omega, by go_num, ⟨_, X_8, by rw [hnsA.out, ← List.append_assoc, hl2A.out]; exact R_8.out⟩, K_8.out, B_8.out⟩
        case measure => simp [intOf]; omega
      -- END A
    · obtain rfl : j = k := by omega
      go_wp2_with fail
      exact bodyPost_end (results_none rfl _ _ _) rfl ⟨⟨_, rfl⟩, ⟨v, hX, hR⟩, hKpA.out, hBA.out⟩
end Go.Proofs.Ytlgfekllkahfaaa.Pack
