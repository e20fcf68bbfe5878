/- A tree is that of both halves' trees.
   Conditions: none. -/
import Derived.Test.YtibiaacgcpgkbaaDoorRootsR
set_option linter.unusedVariables false
set_option linter.unusedSimpArgs false
namespace Go.Proofs.YtibiaacgcpgkbaaDoor.Walk
open Go.RowKit Go.Proofs.YtibiaacgcpgkbaaDoorW.PrintWords Go.Proofs.YtibiaacgcpgkbaaDoorW.PrintMore Go.Proofs.YtibiaacgcpgkbaaDoor Go.Proofs.YtibiaacgcpgkbaaDoor.Bits Sha ArrK ShaW
open Go.Proofs.YtibiaacgcpgkbaaDoor.InRound (op_at)
theorem lev_two (a b : List Int) : lev [a, b] = [dbl (a ++ b)] := by simp [lev, duo, List.range_succ]
theorem lev_four (a b c d : List Int) : lev [a, b, c, d] = [dbl (a ++ b), dbl (c ++ d)] := by simp [lev, duo, List.range_succ]
theorem lev_eight (a b c d e f g h : List Int) : lev [a, b, c, d, e, f, g, h] = [dbl (a ++ b), dbl (c ++ d), dbl (e ++ f), dbl (g ++ h)] := by simp [lev, duo, List.range_succ]
theorem tree_one (a : List Int) : tree [a] = a := tree_small (by simp)
theorem tree_two (a b : List Int) : tree [a, b] = dbl (a ++ b) := by rw [tree_lev (by simp), lev_two, tree_one]
theorem tree_four (a b c d : List Int) : tree [a, b, c, d] = dbl (tree [a, b] ++ tree [c, d]) := by rw [tree_lev (by simp), lev_four, tree_two, tree_two, tree_two]
theorem tree_eight (a b c d e f g h : List Int) : tree [a, b, c, d, e, f, g, h] = dbl (tree [a, b, c, d] ++ tree [e, f, g, h]) := by rw [tree_lev (by simp), lev_eight, tree_four, tree_four, tree_four]; simp only [tree_two]
/-- two halves of 1, 2 or 4 -/
theorem tree_halves (L : List (List Int)) (h : Nat) (hh : h = 1 ∨ h = 2 ∨ h = 4) (hl : 2 * h ≤ L.length) : tree (L.take (2 * h)) = dbl (tree (L.take h) ++ tree ((L.drop h).take h)) := by
  rcases hh with rfl | rfl | rfl
  · match L, hl with
    | a :: b :: l, _ => simp [tree_two, tree_one]
  · match L, hl with
    | a :: b :: c :: d :: l, _ => simp [tree_four]
  · match L, hl with
    | a :: b :: c :: d :: e :: f :: g :: h :: l, _ => simp [tree_eight]
/-- what the three trees' calls come to -/
theorem halves (L : List (List Int)) (ad : Addr) (c h : Nat) (w : World) (hK : Kst w) (hBg : Bst w) (hr : kh.C w (some ad) L.length L) (hcl : L.length ≤ c) (hb : ∀ h ∈ L, Bytes h) (hh : h = 1 ∨ h = 2 ∨ h = 4) (hle : 2 * h ≤ L.length) :
    ∃ s1 s2 d, s1 = tree (L.take h) ∧ s2 = tree ((L.drop h).take h) ∧ d.length = 32 ∧ s1.length = 32 ∧ s2.length = 32 ∧ Bytes s1 ∧ Bytes s2 ∧
      (∀ V, Below w.heap.size w V → Calls Tryd.prog 17 #[.slice (some ad) h c] V fun e w' => e = .returned (hv s1) ∧ Below V.heap.size V w') ∧
      (∀ V, Below w.heap.size w V → Calls Tryd.prog 17 #[.slice (some (ad.add (h * 32))) h (c - h)] V fun e w' => e = .returned (hv s2) ∧ Below V.heap.size V w') ∧
      (∀ V, Below w.heap.size w V → Calls Tryd.prog 17 #[.slice (some ad) (2 * h) c] V fun e w' => e = .returned (hv d) ∧ Below V.heap.size V w') ∧
      (∀ (B4 B5 : Nat) (V : World) (b : Nat), Blk V b 22 [.slice (some ⟨B4, 0, none⟩) 32 32, .slice (some ⟨B5, 0, none⟩) 32 32] → Blk V B4 25 (nums .u8 s1) → Blk V B5 25 (nums .u8 s2) → Below w.heap.size w V → Calls Tryd.prog 11 #[.slice (some ⟨b, 0, none⟩) 2 2] V fun e w' => e = .returned (hv d) ∧ Below V.heap.size V w') := by
  have hmath := tree_halves L h hh hle
  have hlens := kh_lens hr
  have hm := hr.2.1
  have l1 : (L.take h).length = h := by rw [List.length_take]; omega
  have l2 : ((L.drop h).take h).length = h := by rw [List.length_take, List.length_drop]; omega
  have l3 : (L.take (2 * h)).length = 2 * h := by rw [List.length_take]; omega
  have s1l : (tree (L.take h)).length = 32 := tree_length _ _ (Nat.le_refl _) (fun x hx => hlens x (List.mem_of_mem_take hx))
  have s2l : (tree ((L.drop h).take h)).length = 32 := tree_length _ _ (Nat.le_refl _) (fun x hx => hlens x (List.mem_of_mem_drop (List.mem_of_mem_take hx)))
  have s1b : Bytes (tree (L.take h)) := tree_bytes _ _ (Nat.le_refl _) (fun x hx => hb x (List.mem_of_mem_take hx))
  have s2b : Bytes (tree ((L.drop h).take h)) := tree_bytes _ _ (Nat.le_refl _) (fun x hx => hb x (List.mem_of_mem_drop (List.mem_of_mem_take hx)))
  refine ⟨_, _, dbl (tree (L.take h) ++ tree ((L.drop h).take h)), rfl, rfl, sum_length _, s1l, s2l, s1b, s2b, fun V hV => ?_, fun V hV => ?_, fun V hV => ?_, fun B4 B5 V b hbb h4 h5 hV => ?_⟩
  · have h1 := Kd.C_take (m := h) (Kd.C_below hr hV) (by omega)
    have := tree_calls (L.take h) (some ad) c V (hK.below hV) (hBg.below hV) h1 (by omega) (by omega) (fun x hx => hb x (List.mem_of_mem_take hx))
    rw [l1] at this; exact this
  · have h1 := Kd.C_drop (m := h) (c := c) (Kd.C_below hr hV) (by omega) hcl
    rw [if_neg (by omega)] at h1
    have h2 := Kd.C_take (m := h) h1 (by rw [List.length_drop]; omega)
    have := tree_calls ((L.drop h).take h) (some (ad.add (h * 32))) (c - h) V (hK.below hV) (hBg.below hV) h2 (by omega) (by omega) (fun x hx => hb x (List.mem_of_mem_drop (List.mem_of_mem_take hx)))
    rw [l2] at this; exact this
  · have h1 := Kd.C_take (m := 2 * h) (Kd.C_below hr hV) (by omega)
    have := tree_calls (L.take (2 * h)) (some ad) c V (hK.below hV) (hBg.below hV) h1 (by omega) (by omega) (fun x hx => hb x (List.mem_of_mem_take hx))
    rw [l3, hmath] at this; exact this
  · generalize tree (L.take h) = s1 at *
    generalize tree ((L.drop h).take h) = s2 at *
    have hkp := kp_two (l := s1) (l' := s2) (by rw [s1l, s2l]; exact hbb) (by omega) (C_block h4 (by omega)) (by omega) (C_block h5 (by omega))
    have hf : [s1, s2].flatten = s1 ++ s2 := by simp
    have h := double_calls [s1, s2] (some ⟨b, 0, none⟩) 2 V (hK.below hV) (hBg.below hV) hkp (Nat.le_refl _) (by show 2 ≤ _; decide) (by rw [hf, List.length_append]; omega) (by rw [hf]; exact fun x hx => (List.mem_append.1 hx).elim (s1b x) (s2b x))
    rw [hf] at h
    exact h
/-- the number that the loop comes to: the greatest power of two up to 8 that the list bears -/
def Pow (n : Nat) : Prop := n = 1 ∨ n = 2 ∨ n = 4 ∨ n = 8
set_option maxRecDepth 100000 in
set_option maxHeartbeats 1000000 in
theorem DigestRoots (L : List (List Int)) (A : Option Addr) (c : Nat) (w : World) (hK : Kst w) (hBg : Bst w) (hr : kh.C w A L.length L) (hc : L.length ≤ c) (hb : ∀ h ∈ L, Bytes h) :
    Calls Tryd.prog 7 #[.slice A L.length c] w fun e w' => e = .returned (.bool true) ∧ Below w.heap.size w w' := by
  have hAl := Aside0.mk (alive_calls w hK hBg)
  have hrA := Aside0.mk hr; have hKA := Aside0.mk hK; have hBgA := Aside0.mk hBg; have hbA := Aside0.mk hb; have hcA := Aside0.mk hc
  have hLm := hr.2.1
  clear hr hK hBg hb hc
  have hu := Tryd.underlying25
  go_enter Tryd.func7, Tryd.ntmps7
  go_wp2_with (go_at_call 8; with_reducible refine hAl.out.mono ?_; rintro e w1 ⟨rfl, hb1⟩; have hb1A := Aside0.mk hb1; clear hb1)
  go_loop [3] (fun v => ∃ n : Nat, Pow n ∧ (n = 1 ∨ n ≤ L.length) ∧ v = .int .i64 (n : Int)) (fun v => 8 - (intOf v).toNat)
  case atStart => exact ⟨1, .inl rfl, .inl rfl, rfl⟩
  case round =>
    obtain ⟨n, hn, hn1, rfl⟩ := hrel
    have hn8 : 1 ≤ n ∧ n ≤ 8 := by unfold Pow at hn; omega
    have hw2 : IntKind.i64.wrap (2 * (n : Int)) = 2 * (n : Int) := IntWalk.i64_in _ (by omega)
    have hw3 : IntKind.i64.wrap ((n : Int) * 2) = (n : Int) * 2 := IntWalk.i64_in _ (by omega)
    by_cases h2 : 2 * n ≤ L.length
    · have d1 : decide (2 * (n : Int) ≤ (L.length : Int)) = true := decide_eq_true (by omega)
      have d1' : 2 * (n : Int) ≤ (L.length : Int) := by omega
      by_cases h8 : n < 8
      · have d2 : decide ((n : Int) < 8) = true := decide_eq_true (by omega)
        have d2' : (n : Int) < 8 := by omega
        have hnA := Aside0.mk hn
        clear hn
        go_wp2_with fail
        go_round
        case rel => exact ⟨2 * n, by have := hnA.out; unfold Pow at *; omega, .inr h2, by go_num⟩
        case measure => simp [intOf]; omega
      · obtain ⟨h, hh, rfl⟩ : ∃ h, (h = 1 ∨ h = 2 ∨ h = 4) ∧ n = 2 * h := ⟨4, .inr (.inr rfl), by unfold Pow at hn; omega⟩
        have hle : 2 * h ≤ L.length := by omega
        have d2 : decide (((2 * h : Nat) : Int) < 8) = false := decide_eq_false (by omega)
        have d2' : ¬ ((2 * h : Nat) : Int) < 8 := by omega
        clear hn hn1 hn8 h2 h8
        have hpos : 1 ≤ h := by omega
        have hh8 : h ≤ 4 := by omega
        have hle1 : h ≤ L.length := by omega
        have hmath := tree_halves L h hh hle
        have hlens := kh_lens hrA.out
        have hb1w := hb1A.out
        obtain ⟨ad, rfl⟩ : ∃ ad, A = some ad := by obtain ⟨ad, e, _⟩ := hrA.out.2.2 (by omega); exact ⟨ad, e⟩
        have hcl : L.length ≤ c := hcA.out
        obtain ⟨s1, s2, d, hs1, hs2, hd, s1l, s2l, s1b, s2b, t1, t2, t3, dd⟩ := halves L ad c h w hKA.out hBgA.out hrA.out hcl hbA.out hh hle
        have f5 : ¬ (L.length : Int) < 2 := by omega
        have f6 : decide ((L.length : Int) < 2) = false := decide_eq_false f5
        have t1A := Aside0.mk t1; have t2A := Aside0.mk t2; have t3A := Aside0.mk t3; have ddA := Aside0.mk dd; have hdlA := Aside0.mk hd; have s1A := Aside0.mk s1l; have s2A := Aside0.mk s2l
        clear hs1 hs2 hd t1 t2 t3 dd s1l s2l s1b s2b hmath hlens
        go_wp2_with fail
        refine region8 L ad c h s1 s2 w w1 hh8 hpos (by omega) _ _ _ _ _ _ _ _ _ _ _ _ _ _ _ _ _ _ _ _ _ _ _ _ _ _ _ _ _ _ _ _ _ _ _ _ _ _ _ _ _ _ _ _ _ _ _ _ _ _ _ _ _ _ _ _ _ _ _ _ _ _ t1A.out t2A.out s1A.out s2A.out hb1w ?_
        intro B4 B5 V hX4 hX5 hB4
        have hX4A := Aside0.mk hX4; have hX5A := Aside0.mk hX5; have hB4A := Aside0.mk hB4
        clear hX4 hX5 hB4
        go_wp2_with fail
        refine region9 L ad c h B4 B5 s1 s2 d w V hh8 hpos (by omega) _ _ _ _ _ _ _ _ _ _ _ _ _ _ _ _ _ _ _ _ _ _ _ _ _ _ _ _ _ _ _ _ _ _ _ _ _ _ _ _ _ _ _ _ _ _ _ _ _ t3A.out (ddA.out B4 B5) hdlA.out hB4A.out hX4A.out hX5A.out ?_
        intro b V2 hB2
        go_wp2_with fail
        go_ret
        exact ⟨rfl, hB2⟩
    · have d1 : decide (2 * (n : Int) ≤ (L.length : Int)) = false := decide_eq_false (by omega)
      have d1' : ¬ 2 * (n : Int) ≤ (L.length : Int) := by omega
      by_cases hl2 : L.length < 2
      · obtain rfl : n = 1 := by unfold Pow at hn; omega
        have d3 : decide ((L.length : Int) < 2) = true := decide_eq_true (by omega)
        have d3' : (L.length : Int) < 2 := by omega
        have hT := fun (V : World) (hV : Below w.heap.size w V) => tree_calls L A c V (hKA.out.below hV) (hBgA.out.below hV) (Kd.C_below hrA.out hV) hcA.out (by omega) hbA.out
        rw [tree_small (by omega)] at hT
        have hb1w := Aside0.mk hb1A.out
        clear hn hn1 hn8 h2 hw2 hw3
        by_cases h0 : L.length = 0
        · obtain rfl : L = [] := List.length_eq_zero_iff.1 h0
          rw [show ([] : List (List Int)).length = 0 from rfl] at *
          rw [show ([] : List (List Int)).headD zero32 = zero32 from rfl] at hT
          have hTA := Aside0.mk hT
          clear hT h0
          go_wp2_with fail
          refine wp_region_noPanic ?_
          have H0 : Below w.heap.size w w1.drew := pw_below_drewN hb1w.out 1
          refine wp_region_held_drew (S := fun V => Below w.heap.size w V) (by kernel_rfl) H0 (fun _ => ?_)
          generalize w1.drew = V0 at *
          -- REGION A
          refine wpAnyH_take (i := 0) (v := .slice A 0 c) (op_at rfl) (by kernel_rfl) (by kernel_rfl) (by kernel_rfl) (fun _ _ _ h => h) (Or.inl ⟨by rfl, fun w_ hSw => ?_⟩) H0 ?_
          · skip; go_simp
          try simp only [Act.put, List.setIfInBounds_toArray, List.set_cons_zero, List.set_cons_succ]
          refine wpAnyH_take (i := 1) (v := .int .i64 0) (op_at rfl) (by kernel_rfl) (by kernel_rfl) (by kernel_rfl) (fun _ _ _ h => h) (Or.inl ⟨by rfl, fun w_ hSw => ?_⟩) H0 ?_
          · skip; go_simp
          try simp only [Act.put, List.setIfInBounds_toArray, List.set_cons_zero, List.set_cons_succ]
          refine wpAnyH_take (i := 2) (v := .bool true) (op_at rfl) (by kernel_rfl) (by kernel_rfl) (by kernel_rfl) (fun _ _ _ h => h) (Or.inl ⟨by rfl, fun w_ hSw => ?_⟩) H0 ?_
          · skip; go_simp
          try simp only [Act.put, List.setIfInBounds_toArray, List.set_cons_zero, List.set_cons_succ]
          refine wpAnyH_take (i := 3) (v := .bool true) (op_at rfl) (by kernel_rfl) (by kernel_rfl) (by kernel_rfl) (fun _ _ _ h => h) (Or.inl ⟨by rfl, fun w_ hSw => ?_⟩) H0 ?_
          · skip; go_simp
          try simp only [Act.put, List.setIfInBounds_toArray, List.set_cons_zero, List.set_cons_succ]
          refine wpAnyH_take (i := 4) (v := .slice A 0 c) (op_at rfl) (by kernel_rfl) (by kernel_rfl) (by kernel_rfl) (fun _ _ _ h => h) (Or.inl ⟨by rfl, fun w_ hSw => ?_⟩) H0 ?_
          · skip; go_simp
          try simp only [Act.put, List.setIfInBounds_toArray, List.set_cons_zero, List.set_cons_succ]
          refine wpAnyH_take (i := 6) (v := .agg #[.int .u8 0, .int .u8 0, .int .u8 0, .int .u8 0, .int .u8 0, .int .u8 0, .int .u8 0, .int .u8 0, .int .u8 0, .int .u8 0, .int .u8 0, .int .u8 0, .int .u8 0, .int .u8 0, .int .u8 0, .int .u8 0, .int .u8 0, .int .u8 0, .int .u8 0, .int .u8 0, .int .u8 0, .int .u8 0, .int .u8 0, .int .u8 0, .int .u8 0, .int .u8 0, .int .u8 0, .int .u8 0, .int .u8 0, .int .u8 0, .int .u8 0, .int .u8 0]) (op_at rfl) (by kernel_rfl) (by kernel_rfl) (by kernel_rfl) (fun _ _ _ h => h) (Or.inl ⟨by rfl, fun w_ hSw => ?_⟩) H0 ?_
          · skip; go_simp
          try simp only [Act.put, List.setIfInBounds_toArray, List.set_cons_zero, List.set_cons_succ]
          refine wpAnyH_ready (rs := [5]) (by kernel_rfl) (by simp) ?_
          refine AllReadyH.cons (op_at rfl) (fun K hK => ?_) AllReadyH.nil
          go_simp
          go_at_call 17
          with_reducible refine (hTA.out V0 H0).mono ?_
          rintro e V1_ ⟨rfl, hb⟩
          go_wp2_with fail
          refine hK.out _ _ (below_then H0 H0.size hb) (fun H1_ => ?_)
          clear hK K hb
          try simp only [Act.put, List.setIfInBounds_toArray, List.set_cons_zero, List.set_cons_succ]
          refine wpAnyH_take (i := 7) (v := .bool true) (op_at rfl) (by kernel_rfl) (by kernel_rfl) (by kernel_rfl) (fun _ _ _ h => h) (Or.inl ⟨by rfl, fun w_ hSw => exec_eql_same (.tmp 27) (.tmp 28) rfl zero32 rfl rfl rfl w_⟩) H1_ ?_
          try simp only [Act.put, List.setIfInBounds_toArray, List.set_cons_zero, List.set_cons_succ]
          refine wpAnyH_take (i := 8) (v := .bool true) (op_at rfl) (by kernel_rfl) (by kernel_rfl) (by kernel_rfl) (fun _ _ _ h => h) (Or.inl ⟨by rfl, fun w_ hSw => ?_⟩) H1_ ?_
          · skip; go_simp
          try simp only [Act.put, List.setIfInBounds_toArray, List.set_cons_zero, List.set_cons_succ]
          refine wpAnyH_take (i := 9) (v := .bool true) (op_at rfl) (by kernel_rfl) (by kernel_rfl) (by kernel_rfl) (fun _ _ _ h => h) (Or.inl ⟨by rfl, fun w_ hSw => ?_⟩) H1_ ?_
          · skip; go_simp
          try simp only [Act.put, List.setIfInBounds_toArray, List.set_cons_zero, List.set_cons_succ]
          refine wpAnyH_take (i := 10) (v := undef) (op_at rfl) (by kernel_rfl) (by kernel_rfl) (by kernel_rfl) (fun _ _ _ h => h) (Or.inr ⟨by rfl, rfl⟩) H1_ ?_
          try simp only [Act.put, List.setIfInBounds_toArray, List.set_cons_zero, List.set_cons_succ]
          refine wpAnyH_take (i := 11) (v := undef) (op_at rfl) (by kernel_rfl) (by kernel_rfl) (by kernel_rfl) (fun _ _ _ h => h) (Or.inr ⟨by rfl, rfl⟩) H1_ ?_
          try simp only [Act.put, List.setIfInBounds_toArray, List.set_cons_zero, List.set_cons_succ]
          refine wpAnyH_take (i := 12) (v := undef) (op_at rfl) (by kernel_rfl) (by kernel_rfl) (by kernel_rfl) (fun _ _ _ h => h) (Or.inr ⟨by rfl, rfl⟩) H1_ ?_
          try simp only [Act.put, List.setIfInBounds_toArray, List.set_cons_zero, List.set_cons_succ]
          refine wpAnyH_take (i := 13) (v := undef) (op_at rfl) (by kernel_rfl) (by kernel_rfl) (by kernel_rfl) (fun _ _ _ h => h) (Or.inr ⟨by rfl, rfl⟩) H1_ ?_
          try simp only [Act.put, List.setIfInBounds_toArray, List.set_cons_zero, List.set_cons_succ]
          refine wpAnyH_take (i := 14) (v := undef) (op_at rfl) (by kernel_rfl) (by kernel_rfl) (by kernel_rfl) (fun _ _ _ h => h) (Or.inr ⟨by rfl, rfl⟩) H1_ ?_
          try simp only [Act.put, List.setIfInBounds_toArray, List.set_cons_zero, List.set_cons_succ]
          refine wpAnyH_take (i := 15) (v := undef) (op_at rfl) (by kernel_rfl) (by kernel_rfl) (by kernel_rfl) (fun _ _ _ h => h) (Or.inr ⟨by rfl, rfl⟩) H1_ ?_
          try simp only [Act.put, List.setIfInBounds_toArray, List.set_cons_zero, List.set_cons_succ]
          refine wpAnyH_take (i := 16) (v := undef) (op_at rfl) (by kernel_rfl) (by kernel_rfl) (by kernel_rfl) (fun _ _ _ h => h) (Or.inr ⟨by rfl, rfl⟩) H1_ ?_
          try simp only [Act.put, List.setIfInBounds_toArray, List.set_cons_zero, List.set_cons_succ]
          refine wpAnyH_take (i := 17) (v := undef) (op_at rfl) (by kernel_rfl) (by kernel_rfl) (by kernel_rfl) (fun _ _ _ h => h) (Or.inr ⟨by rfl, rfl⟩) H1_ ?_
          try simp only [Act.put, List.setIfInBounds_toArray, List.set_cons_zero, List.set_cons_succ]
          refine wpAnyH_take (i := 18) (v := undef) (op_at rfl) (by kernel_rfl) (by kernel_rfl) (by kernel_rfl) (fun _ _ _ h => h) (Or.inr ⟨by rfl, rfl⟩) H1_ ?_
          try simp only [Act.put, List.setIfInBounds_toArray, List.set_cons_zero, List.set_cons_succ]
          refine wpAnyH_take (i := 19) (v := undef) (op_at rfl) (by kernel_rfl) (by kernel_rfl) (by kernel_rfl) (fun _ _ _ h => h) (Or.inr ⟨by rfl, rfl⟩) H1_ ?_
          try simp only [Act.put, List.setIfInBounds_toArray, List.set_cons_zero, List.set_cons_succ]
          refine wpAnyH_take (i := 20) (v := undef) (op_at rfl) (by kernel_rfl) (by kernel_rfl) (by kernel_rfl) (fun _ _ _ h => h) (Or.inr ⟨by rfl, rfl⟩) H1_ ?_
          try simp only [Act.put, List.setIfInBounds_toArray, List.set_cons_zero, List.set_cons_succ]
          refine wpAnyH_take (i := 21) (v := .bool true) (op_at rfl) (by kernel_rfl) (by kernel_rfl) (by kernel_rfl) (fun _ _ _ h => h) (Or.inl ⟨by rfl, fun w_ hSw => ?_⟩) H1_ ?_
          · skip; go_simp
          try simp only [Act.put, List.setIfInBounds_toArray, List.set_cons_zero, List.set_cons_succ]
          refine wpAnyH_take (i := 22) (v := .bool true) (op_at rfl) (by kernel_rfl) (by kernel_rfl) (by kernel_rfl) (fun _ _ _ h => h) (Or.inl ⟨by rfl, fun w_ hSw => ?_⟩) H1_ ?_
          · skip; go_simp
          try simp only [Act.put, List.setIfInBounds_toArray, List.set_cons_zero, List.set_cons_succ]
          refine wpAnyH_done (by kernel_rfl) ?_ _
          refine NoPanic.normal ?_
          go_wp2
          go_ret
          exact ⟨rfl, H1_⟩
          -- END A
        · obtain ⟨x, hx⟩ : ∃ x, L = [x] := by
            match L, h0, hl2 with
            | [x], _, _ => exact ⟨x, rfl⟩
            | _ :: _ :: _, _, h => exact absurd h (by simp)
          subst hx
          have hxl := kh_lens hrA.out x (by simp)
          obtain ⟨_, ad, hA, _⟩ := kh_at hrA.out 0 x rfl
          subst hA
          have hat : ∀ V1, Below w.heap.size w V1 → ∀ j v, (nums .u8 x)[j]? = some v → V1.cell? ((ad.add 0).add j) = some v := fun V1 hS => by
            obtain ⟨_, a0, e0, h0⟩ := kh_at (Kd.C_below hrA.out hS) 0 x rfl
            cases e0
            rw [Nat.zero_mul] at h0; exact h0
          have hix := info_hash x hxl
          have hxlA := Aside0.mk hxl
          rw [show ([x] : List (List Int)).length = 1 from rfl] at *
          rw [show ([x] : List (List Int)).headD zero32 = x from rfl] at hT
          have hTA := Aside0.mk hT
          clear hT h0 hxl
          go_wp2_with fail
          refine wp_region_noPanic ?_
          have H0 : Below w.heap.size w w1.drew := pw_below_drewN hb1w.out 1
          refine wp_region_held_drew (S := fun V => Below w.heap.size w V) (by kernel_rfl) H0 (fun _ => ?_)
          generalize w1.drew = V0 at *
          -- REGION B
          refine wpAnyH_take (i := 0) (v := .slice (some ad) 1 c) (op_at rfl) (by kernel_rfl) (by kernel_rfl) (by kernel_rfl) (fun _ _ _ h => h) (Or.inl ⟨by rfl, fun w_ hSw => ?_⟩) H0 ?_
          · skip; go_simp
          try simp only [Act.put, List.setIfInBounds_toArray, List.set_cons_zero, List.set_cons_succ]
          refine wpAnyH_take (i := 1) (v := .int .i64 1) (op_at rfl) (by kernel_rfl) (by kernel_rfl) (by kernel_rfl) (fun _ _ _ h => h) (Or.inl ⟨by rfl, fun w_ hSw => ?_⟩) H0 ?_
          · skip; go_simp
          try simp only [Act.put, List.setIfInBounds_toArray, List.set_cons_zero, List.set_cons_succ]
          refine wpAnyH_take (i := 2) (v := .bool false) (op_at rfl) (by kernel_rfl) (by kernel_rfl) (by kernel_rfl) (fun _ _ _ h => h) (Or.inl ⟨by rfl, fun w_ hSw => ?_⟩) H0 ?_
          · skip; go_simp
          try simp only [Act.put, List.setIfInBounds_toArray, List.set_cons_zero, List.set_cons_succ]
          refine wpAnyH_take (i := 3) (v := .bool false) (op_at rfl) (by kernel_rfl) (by kernel_rfl) (by kernel_rfl) (fun _ _ _ h => h) (Or.inl ⟨by rfl, fun w_ hSw => ?_⟩) H0 ?_
          · skip; go_simp
          try simp only [Act.put, List.setIfInBounds_toArray, List.set_cons_zero, List.set_cons_succ]
          refine wpAnyH_take (i := 4) (v := undef) (op_at rfl) (by kernel_rfl) (by kernel_rfl) (by kernel_rfl) (fun _ _ _ h => h) (Or.inr ⟨by rfl, rfl⟩) H0 ?_
          try simp only [Act.put, List.setIfInBounds_toArray, List.set_cons_zero, List.set_cons_succ]
          refine wpAnyH_take (i := 5) (v := undef) (op_at rfl) (by kernel_rfl) (by kernel_rfl) (by kernel_rfl) (fun _ _ _ h => h) (Or.inr ⟨by rfl, rfl⟩) H0 ?_
          try simp only [Act.put, List.setIfInBounds_toArray, List.set_cons_zero, List.set_cons_succ]
          refine wpAnyH_take (i := 6) (v := undef) (op_at rfl) (by kernel_rfl) (by kernel_rfl) (by kernel_rfl) (fun _ _ _ h => h) (Or.inr ⟨by rfl, rfl⟩) H0 ?_
          try simp only [Act.put, List.setIfInBounds_toArray, List.set_cons_zero, List.set_cons_succ]
          refine wpAnyH_take (i := 7) (v := undef) (op_at rfl) (by kernel_rfl) (by kernel_rfl) (by kernel_rfl) (fun _ _ _ h => h) (Or.inr ⟨by rfl, rfl⟩) H0 ?_
          try simp only [Act.put, List.setIfInBounds_toArray, List.set_cons_zero, List.set_cons_succ]
          refine wpAnyH_take (i := 8) (v := .bool false) (op_at rfl) (by kernel_rfl) (by kernel_rfl) (by kernel_rfl) (fun _ _ _ h => h) (Or.inl ⟨by rfl, fun w_ hSw => ?_⟩) H0 ?_
          · skip; go_simp
          try simp only [Act.put, List.setIfInBounds_toArray, List.set_cons_zero, List.set_cons_succ]
          refine wpAnyH_take (i := 9) (v := .bool false) (op_at rfl) (by kernel_rfl) (by kernel_rfl) (by kernel_rfl) (fun _ _ _ h => h) (Or.inl ⟨by rfl, fun w_ hSw => ?_⟩) H0 ?_
          · skip; go_simp
          try simp only [Act.put, List.setIfInBounds_toArray, List.set_cons_zero, List.set_cons_succ]
          refine wpAnyH_take (i := 10) (v := .slice (some ad) 1 c) (op_at rfl) (by kernel_rfl) (by kernel_rfl) (by kernel_rfl) (fun _ _ _ h => h) (Or.inl ⟨by rfl, fun w_ hSw => ?_⟩) H0 ?_
          · skip; go_simp
          try simp only [Act.put, List.setIfInBounds_toArray, List.set_cons_zero, List.set_cons_succ]
          refine wpAnyH_take (i := 11) (v := .int .i64 1) (op_at rfl) (by kernel_rfl) (by kernel_rfl) (by kernel_rfl) (fun _ _ _ h => h) (Or.inl ⟨by rfl, fun w_ hSw => ?_⟩) H0 ?_
          · skip; go_simp
          try simp only [Act.put, List.setIfInBounds_toArray, List.set_cons_zero, List.set_cons_succ]
          refine wpAnyH_take (i := 12) (v := .bool true) (op_at rfl) (by kernel_rfl) (by kernel_rfl) (by kernel_rfl) (fun _ _ _ h => h) (Or.inl ⟨by rfl, fun w_ hSw => ?_⟩) H0 ?_
          · skip; go_simp
          try simp only [Act.put, List.setIfInBounds_toArray, List.set_cons_zero, List.set_cons_succ]
          refine wpAnyH_take (i := 13) (v := .bool true) (op_at rfl) (by kernel_rfl) (by kernel_rfl) (by kernel_rfl) (fun _ _ _ h => h) (Or.inl ⟨by rfl, fun w_ hSw => ?_⟩) H0 ?_
          · skip; go_simp
          try simp only [Act.put, List.setIfInBounds_toArray, List.set_cons_zero, List.set_cons_succ]
          refine wpAnyH_take (i := 14) (v := .slice (some ad) 1 c) (op_at rfl) (by kernel_rfl) (by kernel_rfl) (by kernel_rfl) (fun _ _ _ h => h) (Or.inl ⟨by rfl, fun w_ hSw => ?_⟩) H0 ?_
          · skip; go_simp
          try simp only [Act.put, List.setIfInBounds_toArray, List.set_cons_zero, List.set_cons_succ]
          refine wpAnyH_take (i := 16) (v := .slice (some ad) 1 c) (op_at rfl) (by kernel_rfl) (by kernel_rfl) (by kernel_rfl) (fun _ _ _ h => h) (Or.inl ⟨by rfl, fun w_ hSw => ?_⟩) H0 ?_
          · skip; go_simp
          try simp only [Act.put, List.setIfInBounds_toArray, List.set_cons_zero, List.set_cons_succ]
          refine wpAnyH_take (i := 17) (v := .pointer (some (ad.add 0))) (op_at rfl) (by kernel_rfl) (by kernel_rfl) (by kernel_rfl) (fun _ _ _ h => h) (Or.inl ⟨by rfl, fun w_ hSw => ?_⟩) H0 ?_
          · skip; go_simp
          try simp only [Act.put, List.setIfInBounds_toArray, List.set_cons_zero, List.set_cons_succ]
          refine wpAnyH_take (i := 18) (v := hv x) (op_at rfl) (by kernel_rfl) (by kernel_rfl) (by kernel_rfl) (fun _ _ _ h => h) (yieldsIf_load_any (by rfl) _ _ rfl (ad.add 0) rfl _ _ (fun w_ hSw => hat w_ hSw) hu rfl hix) H0 ?_
          try simp only [Act.put, List.setIfInBounds_toArray, List.set_cons_zero, List.set_cons_succ]
          refine wpAnyH_ready (rs := [15]) (by kernel_rfl) (by simp) ?_
          refine AllReadyH.cons (op_at rfl) (fun K hK => ?_) AllReadyH.nil
          go_simp
          go_at_call 17
          with_reducible refine (hTA.out V0 H0).mono ?_
          rintro e V1_ ⟨rfl, hb⟩
          go_wp2_with fail
          refine hK.out _ _ (below_then H0 H0.size hb) (fun H1_ => ?_)
          clear hK K hb
          try simp only [Act.put, List.setIfInBounds_toArray, List.set_cons_zero, List.set_cons_succ]
          refine wpAnyH_take (i := 19) (v := .bool true) (op_at rfl) (by kernel_rfl) (by kernel_rfl) (by kernel_rfl) (fun _ _ _ h => h) (Or.inl ⟨by rfl, fun w_ hSw => exec_eql_same (.tmp 37) (.tmp 40) rfl x rfl rfl hxlA.out w_⟩) H1_ ?_
          try simp only [Act.put, List.setIfInBounds_toArray, List.set_cons_zero, List.set_cons_succ]
          refine wpAnyH_take (i := 20) (v := .bool true) (op_at rfl) (by kernel_rfl) (by kernel_rfl) (by kernel_rfl) (fun _ _ _ h => h) (Or.inl ⟨by rfl, fun w_ hSw => ?_⟩) H1_ ?_
          · skip; go_simp
          try simp only [Act.put, List.setIfInBounds_toArray, List.set_cons_zero, List.set_cons_succ]
          refine wpAnyH_take (i := 21) (v := .bool true) (op_at rfl) (by kernel_rfl) (by kernel_rfl) (by kernel_rfl) (fun _ _ _ h => h) (Or.inl ⟨by rfl, fun w_ hSw => ?_⟩) H1_ ?_
          · skip; go_simp
          try simp only [Act.put, List.setIfInBounds_toArray, List.set_cons_zero, List.set_cons_succ]
          refine wpAnyH_take (i := 22) (v := .bool true) (op_at rfl) (by kernel_rfl) (by kernel_rfl) (by kernel_rfl) (fun _ _ _ h => h) (Or.inl ⟨by rfl, fun w_ hSw => ?_⟩) H1_ ?_
          · skip; go_simp
          try simp only [Act.put, List.setIfInBounds_toArray, List.set_cons_zero, List.set_cons_succ]
          refine wpAnyH_done (by kernel_rfl) ?_ _
          refine NoPanic.normal ?_
          go_wp2
          go_ret
          exact ⟨rfl, H1_⟩
          -- END B
      · obtain ⟨h, hh, rfl⟩ : ∃ h, (h = 1 ∨ h = 2 ∨ h = 4) ∧ n = 2 * h := by unfold Pow at hn; exact ⟨n / 2, by omega, by omega⟩
        have hle : 2 * h ≤ L.length := by omega
        clear hn hn1 hn8 h2
        have hpos : 1 ≤ h := by omega
        have hh8 : h ≤ 4 := by omega
        have hle1 : h ≤ L.length := by omega
        have hmath := tree_halves L h hh hle
        have hlens := kh_lens hrA.out
        have hb1w := hb1A.out
        obtain ⟨ad, rfl⟩ : ∃ ad, A = some ad := by obtain ⟨ad, e, _⟩ := hrA.out.2.2 (by omega); exact ⟨ad, e⟩
        have hcl : L.length ≤ c := hcA.out
        obtain ⟨s1, s2, d, hs1, hs2, hd, s1l, s2l, s1b, s2b, t1, t2, t3, dd⟩ := halves L ad c h w hKA.out hBgA.out hrA.out hcl hbA.out hh hle
        have f5 : ¬ (L.length : Int) < 2 := by omega
        have f6 : decide ((L.length : Int) < 2) = false := decide_eq_false f5
        have t1A := Aside0.mk t1; have t2A := Aside0.mk t2; have t3A := Aside0.mk t3; have ddA := Aside0.mk dd; have hdlA := Aside0.mk hd; have s1A := Aside0.mk s1l; have s2A := Aside0.mk s2l
        clear hs1 hs2 hd t1 t2 t3 dd s1l s2l s1b s2b hmath hlens
        go_wp2_with fail
        refine region8 L ad c h s1 s2 w w1 hh8 hpos (by omega) _ _ _ _ _ _ _ _ _ _ _ _ _ _ _ _ _ _ _ _ _ _ _ _ _ _ _ _ _ _ _ _ _ _ _ _ _ _ _ _ _ _ _ _ _ _ _ _ _ _ _ _ _ _ _ _ _ _ _ _ _ _ t1A.out t2A.out s1A.out s2A.out hb1w ?_
        intro B4 B5 V hX4 hX5 hB4
        have hX4A := Aside0.mk hX4; have hX5A := Aside0.mk hX5; have hB4A := Aside0.mk hB4
        clear hX4 hX5 hB4
        go_wp2_with fail
        refine region9 L ad c h B4 B5 s1 s2 d w V hh8 hpos (by omega) _ _ _ _ _ _ _ _ _ _ _ _ _ _ _ _ _ _ _ _ _ _ _ _ _ _ _ _ _ _ _ _ _ _ _ _ _ _ _ _ _ _ _ _ _ _ _ _ _ t3A.out (ddA.out B4 B5) hdlA.out hB4A.out hX4A.out hX5A.out ?_
        intro b V2 hB2
        go_wp2_with fail
        go_ret
        exact ⟨rfl, hB2⟩
end Go.Proofs.YtibiaacgcpgkbaaDoor.Walk
