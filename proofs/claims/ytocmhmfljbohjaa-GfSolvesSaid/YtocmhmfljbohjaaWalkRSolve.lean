/- The document's Solve: what the call comes to. -/
import Derived.Test.YtocmhmfljbohjaaQx1
import Derived.Test.YtocmhmfljbohjaaArr64
import Derived.Test.YtocmhmfljbohjaaRSolveN
import Derived.Test.YtocmhmfljbohjaaCGfRefQ
import Derived.Test.YtocmhmfljbohjaaInRound
set_option linter.unusedVariables false
set_option linter.unusedSimpArgs false
namespace Go.Proofs.Ytocmhmfljbohjaa.RSolve
open Go.RowKit Go.Proofs.Ytocmhmfljbohjaa.Q Go.Proofs.YtocmhmfljbohjaaW.PrintWords Go.Proofs.YtocmhmfljbohjaaW.PrintLast Go.Proofs.YtocmhmfljbohjaaW.PrintMore Go.Proofs.Ytocmhmfljbohjaa.Bits Go.Proofs.Ytocmhmfljbohjaa Go.Proofs.Ytocmhmfljbohjaa.Arr GF
open Go.Proofs.Ytocmhmfljbohjaa.InRound (op_at)
theorem zv (w : World) : (zeroValue 48).run Try.prog w = .ok (.agg ((rows0 0).map fun r => Value.int .u64 (q r)).toArray) w := by kernel_rfl
theorem ep_ (i : Nat) (h : i < 32) : (2 : Int) ^ i % 4294967296 = v (e i) := by
  have : ∀ i, i < 32 → (2 : Int) ^ i % 4294967296 = v (e i) := by decide +kernel
  exact this i h
theorem row_q (i : Nat) (h : i < 32) : Go.bits BinOp.or IntKind.u64 (IntKind.u64.wrap (v (mul (e i) (e i) ^^^ e i))) (IntKind.u64.wrap (4294967296 * IntKind.u64.wrap (2 ^ i))) = q (row0 i) := by
  have : ∀ i, i < 32 → Go.bits BinOp.or IntKind.u64 (IntKind.u64.wrap (v (mul (e i) (e i) ^^^ e i))) (IntKind.u64.wrap (4294967296 * IntKind.u64.wrap (2 ^ i))) = q (row0 i) := by decide +kernel
  exact this i h
theorem wide_q (c : F) : IntKind.u64.wrap (v c) = q (wide c) := by
  rw [wrap_u64]; unfold q v; rw [toNat_wide]; have := c.isLt; omega
theorem cut_at {P : Program} {c : Code} {a : Act} {W : World} {Q : Exit → Act → World → Prop} (F : Act → Exit → Act → World → Prop) (h1 : Code.wp P c (F a) a W) (h2 : ∀ e a' W', F a e a' W' → Q e a' W') : Code.wp P c Q a W := Code.wp_mono h2 h1
def kv : Option Nat → Value
  | none => .int .i64 (-1)
  | some k => .int .i64 (k : Int)
theorem lo_q (g : W) : (q g).tmod 4294967296 = v (lo g) := by
  rw [Int.tmod_eq_emod_of_nonneg (Bits.q_lt _).1]
  unfold q v lo
  rw [BitVec.toNat_setWidth]; omega
theorem hi_q (g : W) : IntKind.u64.wrap ((q g).tdiv 4294967296) = v (hi g) := by
  rw [Int.tdiv_eq_ediv_of_nonneg (Bits.q_lt _).1, wrap_u64]
  unfold q v hi
  rw [BitVec.toNat_setWidth, BitVec.toNat_ushiftRight, Nat.shiftRight_eq_div_pow]
  have := g.isLt
  omega
theorem even_sub (x : F) : v (x &&& 0xfffffffe#32) = v x - v x % 2 := by
  have h1 : (x &&& 0xfffffffe#32).toNat = x.toNat &&& 4294967294 := by rw [BitVec.toNat_and]; rfl
  have h2 : (x.toNat &&& 4294967294) / 2 = x.toNat / 2 := by
    rw [Nat.and_div_two, show 4294967294 / 2 = 2 ^ 31 - 1 by decide, Nat.and_two_pow_sub_one_eq_mod]
    have := x.isLt; omega
  have h3 : (x.toNat &&& 4294967294) % 2 = 0 := by
    have := Nat.and_mod_two_pow (a := x.toNat) (b := 4294967294) (n := 1)
    simp at this
    rw [this]
  unfold v; rw [h1]; omega
/-- what the document answers -/
def sols (c : F) : F := if lo (got c 32) = 0#32 then hi (got c 32) &&& 0xfffffffe#32 else 0#32
set_option maxRecDepth 100000 in
set_option maxHeartbeats 2000000 in
theorem rsolve_calls (c : F) (w : World) : Calls Try.prog 23 #[.int .u32 (v c)] w fun e w' => e = .returned (.tuple #[.int .u32 (v (sols c)), .bool (decide (lo (got c 32) = 0#32))]) ∧ Below w.heap.size w w' := by
  have hM := Aside0.mk (fun (a b : F) (W : World) => gossamerref01_Mul.calls 66 (v a) (v b) _ W (rmul_v a b 66 (by omega)))
  obtain ⟨V, hV⟩ : ∃ V, V = w.alloc (.cells ((rows0 0).map fun r => Value.int .u64 (q r)).toArray 48) := ⟨_, rfl⟩
  have hX : A64 V w.heap.size 48 (rows0 0) := by rw [hV]; exact A64.new w _ _
  have hB : Below w.heap.size w V := by rw [hV]; exact below_alloc (Below.refl _ _) _
  have hVA := Aside0.mk hV; have hXA := Aside0.mk hX; have hBA := Aside0.mk hB
  clear hV hX hB
  have hz := zv
  go_enter Try.func23, Try.ntmps23
  go_wp2_with fail
  rw [← hVA.out]
  go_loopw [5] (fun i wr => ∃ k : Nat, k ≤ 32 ∧ i = .int .i64 (k : Int) ∧ A64 wr w.heap.size 48 (rows0 k) ∧ Below w.heap.size w wr) (fun i _ => 32 - (intOf i).toNat)
  case atStart => exact ⟨0, by omega, rfl, hXA.out, hBA.out⟩
  case round =>
    clear hXA hBA hVA hz
    obtain ⟨k, hk, rfl, hX, hB⟩ := hrel
    by_cases hlt : k < 32
    · have p1 : (k : Int) < 32 := by omega
      have e1 : IntKind.u64.wrap (k : Int) = (k : Int) := by rw [wrap_u64]; omega
      have e2 : IntKind.i64.wrap ((k : Int) + 1) = (k : Int) + 1 := IntWalk.i64_in _ (by omega)
      have hXA := Aside0.mk hX; have hBA := Aside0.mk hB
      clear hX hB
      have ep := ep_ k hlt
      go_wp2_with (go_at_call 21; (with_reducible refine (hM.out (e k) (e k) _).mono ?_); rintro e0 w1 ⟨rfl, hd1⟩; have hX1A := Aside0.mk (hXA.out.below hd1.below); have hB1A := Aside0.mk (below_then hBA.out hBA.out.size hd1.below); have ex := xor_v (mul (e k) (e k)) (e k); have er := row_q k hlt; have hc := hX1A.out.at k (by rw [rows0_length]; exact hlt); have hf := hX1A.out.fz k; clear hd1)
      go_roundw
      · exact ⟨k + 1, by omega, by go_num, by rw [rows0_succ]; exact hX1A.out.put k (row0 k), hB1A.out.setCell (Nat.le_refl _) _⟩
      · simp [intOf]; omega
    · obtain rfl : k = 32 := by omega
      have p1 : ¬ ((32 : Nat) : Int) < 32 := by omega
      have hXA := Aside0.mk hX; have hBA := Aside0.mk hB
      clear hX hB
      go_wp2_with fail
      go_loopw [7, 8, 9] (fun g u b wr => ∃ k : Nat, k ≤ 32 ∧ b = .int .i64 (k : Int) ∧ g = .int .u64 (q (got c k)) ∧ u = .int .i64 ((sts k).2 : Int) ∧ A64 wr w.heap.size 48 (sts k).1 ∧ Below w.heap.size w wr) (fun _ _ b _ => 32 - (intOf b).toNat)
      case atStart => exact ⟨0, by omega, rfl, by rw [wide_q]; rfl, rfl, hXA.out, hBA.out⟩
      case round =>
        clear hXA hBA p1
        obtain ⟨b, hb, rfl, rfl, rfl, hX, hB⟩ := hrel
        obtain ⟨hok1, hok2⟩ := sts_ok b
        obtain ⟨g, hg⟩ : ∃ g, g = got c b := ⟨_, rfl⟩
        obtain ⟨rs, hrs⟩ : ∃ r, r = (sts b).1 := ⟨_, rfl⟩
        obtain ⟨u, hu⟩ : ∃ r, r = (sts b).2 := ⟨_, rfl⟩
        have hst : sts b = (rs, u) := by rw [hrs, hu]
        rw [← hrs] at hX hok1
        rw [← hu] at hok2 ⊢
        rw [← hg]
        have hgA := Aside0.mk hg; have hstA := Aside0.mk hst; have hlA := Aside0.mk hok1
        clear hg hrs hu hst hok1
        by_cases hlb : b < 32
        · have p1 : (b : Int) < 32 := by omega
          have e1 : IntKind.u64.wrap (b : Int) = (b : Int) := by rw [wrap_u64]; omega
          have e2 : IntKind.i64.wrap ((b : Int) + 1) = (b : Int) + 1 := IntWalk.i64_in _ (by omega)
          have hXA := Aside0.mk hX; have hBA := Aside0.mk hB
          clear hX hB
          go_wp2_with fail
          go_loopw [10, 11] (fun kx i wr => ∃ m : Nat, u ≤ m ∧ m ≤ 32 ∧ i = .int .i64 (m : Int) ∧ kx = kv (kk rs b u (m - u)) ∧ A64 wr w.heap.size 48 rs ∧ Below w.heap.size w wr) (fun _ i _ => 32 - (intOf i).toNat)
          case atStart => exact ⟨u, by omega, by omega, rfl, by rw [Nat.sub_self]; rfl, hXA.out, hBA.out⟩
          case round =>
            clear hXA hBA
            obtain ⟨m, hm1, hm2, rfl, rfl, hX, hB⟩ := hrel
            by_cases hlm : m < 32
            · have p2 : (m : Int) < 32 := by omega
              have p3 : (0 : Int) ≤ (m : Int) := by omega
              have e3 : IntKind.i64.wrap ((m : Int) + 1) = (m : Int) + 1 := IntWalk.i64_in _ (by omega)
              have hc := hX.at m (by have := hlA.out; omega)
              have hXA := Aside0.mk hX; have hBA := Aside0.mk hB
              have hkk : kk rs b u (m + 1 - u) = if (rs.getD m 0#64).getLsbD b then some m else kk rs b u (m - u) := by
                rw [show m + 1 - u = (m - u) + 1 by omega, kk, show u + (m - u) = m by omega]
              have hkkA := Aside0.mk hkk
              clear hX hB hkk
              obtain ⟨r, hr⟩ : ∃ r, r = rs.getD m 0#64 := ⟨_, rfl⟩
              rw [← hr] at hc hkkA
              have hrA := Aside0.mk hr
              clear hr
              cases hbt : r.getLsbD b with
              | true =>
                have hb1 := bit_true hbt
                have hbtA := Aside0.mk hbt
                clear hbt
                go_wp2_with fail
                go_roundw
                · exact ⟨m + 1, by omega, by omega, by go_num, by rw [hkkA.out, if_pos hbtA.out]; rfl, hXA.out, hBA.out⟩
                · simp [intOf]; omega
              | false =>
                have hb1 := bit_false hbt
                have hbtA := Aside0.mk hbt
                clear hbt
                go_wp2_with fail
                go_roundw
                · exact ⟨m + 1, by omega, by omega, by go_num, by rw [hkkA.out, if_neg (by rw [hbtA.out]; decide)], hXA.out, hBA.out⟩
                · simp [intOf]; omega
            · obtain rfl : m = 32 := by omega
              have p2 : ¬ ((32 : Nat) : Int) < 32 := by omega
              have hXA := Aside0.mk hX; have hBA := Aside0.mk hB
              clear hX hB
              cases hkk : kk rs b u (32 - u) with
              | none =>
                have hkA := Aside0.mk hkk
                clear hkk
                have hs1 : sts (b + 1) = (rs, u) := by show stp (sts b) b = _; rw [hstA.out]; simp only [stp, hkA.out]
                have hg1 : got c (b + 1) = g := by rw [hgA.out]; show gstep (piv (sts b) b) b (got c b) = _; rw [hstA.out]; simp only [piv, hkA.out]; rfl
                have hs1A := Aside0.mk hs1; have hg1A := Aside0.mk hg1
                clear hs1 hg1
                simp only [kv]
                go_wp2_with fail
                go_roundw
                · exact ⟨b + 1, by omega, by go_num, by rw [hg1A.out], by rw [hs1A.out], by rw [hs1A.out]; exact hXA.out, hBA.out⟩
                · simp [intOf]; omega
              | some k =>
                have hk := kk_bd rs b u (32 - u) k hkk
                obtain ⟨hk1, hk2⟩ := hk
                have hk3 : k < 32 := by omega
                have hu3 : u < 32 := by omega
                have hkA := Aside0.mk hkk
                clear hkk hk2
                simp only [kv]
                go_wp2_with fail
                have hLA := hlA
                obtain ⟨x, hx⟩ : ∃ x, rs.getD k 0#64 = x := ⟨_, rfl⟩
                obtain ⟨y, hy⟩ : ∃ x, rs.getD u 0#64 = x := ⟨_, rfl⟩
                have hswx := Aside0.mk (show swp rs u k = (rs.set u x).set k y by unfold swp; rw [hx, hy])
                have hxA := Aside0.mk hx; have hyA := Aside0.mk hy
                clear hx hy
                have q1 : (0 : Int) ≤ (u : Int) := by omega
                have q2 : (u : Int) < 32 := by omega
                have q3 : (0 : Int) ≤ (k : Int) := by omega
                have q4 : (k : Int) < 32 := by omega
                refine cut_at (fun a0 e a' W' => e = .normal ∧ a' = (((((((((a0.put (some 56) (.int .i64 (u : Int))).put (some 57) (.int .i64 (k : Int))).put (some 58) (.int .i64 (k : Int))).put (some 59) (.pointer (some ⟨w.heap.size, k, none⟩))).put (some 60) (.int .u64 (q x))).put (some 61) (.int .i64 (u : Int))).put (some 62) (.pointer (some ⟨w.heap.size, u, none⟩))).put (some 63) (.int .u64 (q y))).put (some 64) (.pointer (some ⟨w.heap.size, u, none⟩))).put (some 65) (.pointer (some ⟨w.heap.size, k, none⟩)) ∧ A64 W' w.heap.size 48 (swp rs u k) ∧ Below w.heap.size w W') ?_ ?_
                · refine wp_region_noPanic ?_
                  have XX0 : Aside0 (A64 wr.drew w.heap.size 48 rs) := Aside0.mk (hXA.out.drewN 1)
                  have H0 : Below w.heap.size w wr.drew := pw_below_drewN hBA.out 1
                  refine wp_region_held_drew (S := fun V1 => Below w.heap.size w V1) (by kernel_rfl) H0 (fun _ => ?_)
                  generalize wr.drew = V0 at *
                  -- REGION 19
                  refine wpAnyH_take (i := 0) (v := .int .i64 (u : Int)) (op_at rfl) (by kernel_rfl) (by kernel_rfl) (by kernel_rfl) (fun _ _ _ h => h) (Or.inl ⟨by rfl, fun w_ hSw => ?_⟩) H0 ?_
                  · skip; go_simp
                  try simp only [Act.put, List.setIfInBounds_toArray, List.set_cons_zero, List.set_cons_succ]
                  refine wpAnyH_take (i := 1) (v := .int .i64 (k : Int)) (op_at rfl) (by kernel_rfl) (by kernel_rfl) (by kernel_rfl) (fun _ _ _ h => h) (Or.inl ⟨by rfl, fun w_ hSw => ?_⟩) H0 ?_
                  · skip; go_simp
                  try simp only [Act.put, List.setIfInBounds_toArray, List.set_cons_zero, List.set_cons_succ]
                  refine wpAnyH_take (i := 2) (v := .int .i64 (k : Int)) (op_at rfl) (by kernel_rfl) (by kernel_rfl) (by kernel_rfl) (fun _ _ _ h => h) (Or.inl ⟨by rfl, fun w_ hSw => ?_⟩) H0 ?_
                  · skip; go_simp
                  try simp only [Act.put, List.setIfInBounds_toArray, List.set_cons_zero, List.set_cons_succ]
                  refine wpAnyH_take (i := 3) (v := .pointer (some ⟨w.heap.size, k, none⟩)) (op_at rfl) (by kernel_rfl) (by kernel_rfl) (by kernel_rfl) (fun _ _ _ h => h) (Or.inl ⟨by rfl, fun w_ hSw => ?_⟩) H0 ?_
                  · skip; go_simp
                  try simp only [Act.put, List.setIfInBounds_toArray, List.set_cons_zero, List.set_cons_succ]
                  refine wpAnyH_take (i := 5) (v := .int .i64 (u : Int)) (op_at rfl) (by kernel_rfl) (by kernel_rfl) (by kernel_rfl) (fun _ _ _ h => h) (Or.inl ⟨by rfl, fun w_ hSw => ?_⟩) H0 ?_
                  · skip; go_simp
                  try simp only [Act.put, List.setIfInBounds_toArray, List.set_cons_zero, List.set_cons_succ]
                  refine wpAnyH_take (i := 6) (v := .pointer (some ⟨w.heap.size, u, none⟩)) (op_at rfl) (by kernel_rfl) (by kernel_rfl) (by kernel_rfl) (fun _ _ _ h => h) (Or.inl ⟨by rfl, fun w_ hSw => ?_⟩) H0 ?_
                  · skip; go_simp
                  try simp only [Act.put, List.setIfInBounds_toArray, List.set_cons_zero, List.set_cons_succ]
                  refine wpAnyH_ready (rs := [4, 7]) (by kernel_rfl) (by simp) ?_
                  refine AllReadyH.cons (op_at rfl) (fun K hK => ?_) (AllReadyH.cons (op_at rfl) (fun K hK => ?_) AllReadyH.nil)
                  · have hc_ := (by have h_ := XX0.out.at k (by have := hLA.out; omega); rwa [hxA.out] at h_)
                    go_simp
                    clear hc_
                    refine hK.out _ _ H0 (fun H1_ => ?_)
                    clear hK K
                    try simp only [Act.put, List.setIfInBounds_toArray, List.set_cons_zero, List.set_cons_succ]
                    refine wpAnyH_ready (rs := [7]) (by kernel_rfl) (by simp) ?_
                    refine AllReadyH.cons (op_at rfl) (fun K hK => ?_) AllReadyH.nil
                    have hc_ := (by have h_ := XX0.out.at u (by have := hLA.out; omega); rwa [hyA.out] at h_)
                    go_simp
                    clear hc_
                    refine hK.out _ _ H1_ (fun H2_ => ?_)
                    clear hK K
                    try simp only [Act.put, List.setIfInBounds_toArray, List.set_cons_zero, List.set_cons_succ]
                    refine wpAnyH_take (i := 8) (v := .pointer (some ⟨w.heap.size, u, none⟩)) (op_at rfl) (by kernel_rfl) (by kernel_rfl) (by kernel_rfl) (fun _ _ _ h => h) (Or.inl ⟨by rfl, fun w_ hSw => ?_⟩) H2_ ?_
                    · skip; go_simp
                    try simp only [Act.put, List.setIfInBounds_toArray, List.set_cons_zero, List.set_cons_succ]
                    refine wpAnyH_ready (rs := [9]) (by kernel_rfl) (by simp) ?_
                    refine AllReadyH.cons (op_at rfl) (fun K hK => ?_) AllReadyH.nil
                    have hc_ := XX0.out.at u (by first | (have := hLA.out; omega) | (rw [List.length_set]; have := hLA.out; omega))
                    have hf_ := XX0.out.fz u
                    go_simp
                    refine hK.out _ _ (H2_.setCell (p := ⟨w.heap.size, u, none⟩) (Nat.le_refl _) _) (fun H3_ => ?_)
                    have XX_3 := Aside0.mk (XX0.out.put u (x))
                    clear hK K hc_ hf_
                    try simp only [Act.put, List.setIfInBounds_toArray, List.set_cons_zero, List.set_cons_succ]
                    refine wpAnyH_take (i := 10) (v := .pointer (some ⟨w.heap.size, k, none⟩)) (op_at rfl) (by kernel_rfl) (by kernel_rfl) (by kernel_rfl) (fun _ _ _ h => h) (Or.inl ⟨by rfl, fun w_ hSw => ?_⟩) H3_ ?_
                    · skip; go_simp
                    try simp only [Act.put, List.setIfInBounds_toArray, List.set_cons_zero, List.set_cons_succ]
                    refine wpAnyH_ready (rs := [11]) (by kernel_rfl) (by simp) ?_
                    refine AllReadyH.cons (op_at rfl) (fun K hK => ?_) AllReadyH.nil
                    have hc_ := XX_3.out.at k (by first | (have := hLA.out; omega) | (rw [List.length_set]; have := hLA.out; omega))
                    have hf_ := XX_3.out.fz k
                    go_simp
                    refine hK.out _ _ (H3_.setCell (p := ⟨w.heap.size, k, none⟩) (Nat.le_refl _) _) (fun H4_ => ?_)
                    have XX_4 := Aside0.mk (XX_3.out.put k (y))
                    clear hK K hc_ hf_
                    try simp only [Act.put, List.setIfInBounds_toArray, List.set_cons_zero, List.set_cons_succ]
                    refine wpAnyH_done (by kernel_rfl) ?_ _
                    refine NoPanic.normal ?_
                    exact ⟨rfl, by simp only [Act.put, List.setIfInBounds_toArray, List.set_cons_zero, List.set_cons_succ], by rw [hswx.out]; exact XX_4.out, H4_⟩
                  · have hc_ := (by have h_ := XX0.out.at u (by have := hLA.out; omega); rwa [hyA.out] at h_)
                    go_simp
                    clear hc_
                    refine hK.out _ _ H0 (fun H5_ => ?_)
                    clear hK K
                    try simp only [Act.put, List.setIfInBounds_toArray, List.set_cons_zero, List.set_cons_succ]
                    refine wpAnyH_ready (rs := [4]) (by kernel_rfl) (by simp) ?_
                    refine AllReadyH.cons (op_at rfl) (fun K hK => ?_) AllReadyH.nil
                    have hc_ := (by have h_ := XX0.out.at k (by have := hLA.out; omega); rwa [hxA.out] at h_)
                    go_simp
                    clear hc_
                    refine hK.out _ _ H5_ (fun H6_ => ?_)
                    clear hK K
                    try simp only [Act.put, List.setIfInBounds_toArray, List.set_cons_zero, List.set_cons_succ]
                    refine wpAnyH_take (i := 8) (v := .pointer (some ⟨w.heap.size, u, none⟩)) (op_at rfl) (by kernel_rfl) (by kernel_rfl) (by kernel_rfl) (fun _ _ _ h => h) (Or.inl ⟨by rfl, fun w_ hSw => ?_⟩) H6_ ?_
                    · skip; go_simp
                    try simp only [Act.put, List.setIfInBounds_toArray, List.set_cons_zero, List.set_cons_succ]
                    refine wpAnyH_ready (rs := [9]) (by kernel_rfl) (by simp) ?_
                    refine AllReadyH.cons (op_at rfl) (fun K hK => ?_) AllReadyH.nil
                    have hc_ := XX0.out.at u (by first | (have := hLA.out; omega) | (rw [List.length_set]; have := hLA.out; omega))
                    have hf_ := XX0.out.fz u
                    go_simp
                    refine hK.out _ _ (H6_.setCell (p := ⟨w.heap.size, u, none⟩) (Nat.le_refl _) _) (fun H7_ => ?_)
                    have XX_7 := Aside0.mk (XX0.out.put u (x))
                    clear hK K hc_ hf_
                    try simp only [Act.put, List.setIfInBounds_toArray, List.set_cons_zero, List.set_cons_succ]
                    refine wpAnyH_take (i := 10) (v := .pointer (some ⟨w.heap.size, k, none⟩)) (op_at rfl) (by kernel_rfl) (by kernel_rfl) (by kernel_rfl) (fun _ _ _ h => h) (Or.inl ⟨by rfl, fun w_ hSw => ?_⟩) H7_ ?_
                    · skip; go_simp
                    try simp only [Act.put, List.setIfInBounds_toArray, List.set_cons_zero, List.set_cons_succ]
                    refine wpAnyH_ready (rs := [11]) (by kernel_rfl) (by simp) ?_
                    refine AllReadyH.cons (op_at rfl) (fun K hK => ?_) AllReadyH.nil
                    have hc_ := XX_7.out.at k (by first | (have := hLA.out; omega) | (rw [List.length_set]; have := hLA.out; omega))
                    have hf_ := XX_7.out.fz k
                    go_simp
                    refine hK.out _ _ (H7_.setCell (p := ⟨w.heap.size, k, none⟩) (Nat.le_refl _) _) (fun H8_ => ?_)
                    have XX_8 := Aside0.mk (XX_7.out.put k (y))
                    clear hK K hc_ hf_
                    try simp only [Act.put, List.setIfInBounds_toArray, List.set_cons_zero, List.set_cons_succ]
                    refine wpAnyH_done (by kernel_rfl) ?_ _
                    refine NoPanic.normal ?_
                    exact ⟨rfl, by simp only [Act.put, List.setIfInBounds_toArray, List.set_cons_zero, List.set_cons_succ], by rw [hswx.out]; exact XX_8.out, H8_⟩
                  -- END 19
                rintro e a' W9 ⟨rfl, rfl, hX9, hB9⟩
                simp only [Act.put, List.setIfInBounds_toArray, List.set_cons_zero, List.set_cons_succ]
                obtain ⟨sw, hsw⟩ : ∃ s, s = swp rs u k := ⟨_, rfl⟩
                have hswl : sw.length = 32 := by rw [hsw, swp_length]; exact hlA.out
                rw [← hsw] at hX9
                have hswA := Aside0.mk hsw; have hswlA := Aside0.mk hswl; have hX9A := Aside0.mk hX9; have hB9A := Aside0.mk hB9
                clear hsw hswl hX9 hB9 hXA hBA hLA q3 q4
                go_wp2_with fail
                go_loopw [12] (fun i wr => ∃ m : Nat, m ≤ 32 ∧ i = .int .i64 (m : Int) ∧ A64 wr w.heap.size 48 (elimN sw u b m) ∧ Below w.heap.size w wr) (fun i _ => 32 - (intOf i).toNat)
                case atStart => exact ⟨0, by omega, rfl, hX9A.out, hB9A.out⟩
                case round =>
                  clear hX9A hB9A
                  obtain ⟨m, hm, rfl, hX, hB⟩ := hrel
                  by_cases hlm : m < 32
                  · have p2 : (m : Int) < 32 := by omega
                    have p3 : (0 : Int) ≤ (m : Int) := by omega
                    have e3 : IntKind.i64.wrap ((m : Int) + 1) = (m : Int) + 1 := IntWalk.i64_in _ (by omega)
                    obtain ⟨cur, hcur⟩ : ∃ s, s = elimN sw u b m := ⟨_, rfl⟩
                    have hcl : cur.length = 32 := by rw [hcur, elimN_length]; exact hswlA.out
                    have hnx0 : elimN sw u b (m + 1) = if m ≠ u ∧ (cur.getD m 0#64).getLsbD b = true then cur.set m (cur.getD m 0#64 ^^^ cur.getD u 0#64) else cur := by rw [elimN, ← hcur]
                    rw [← hcur] at hX
                    have hXA := Aside0.mk hX; have hBA := Aside0.mk hB; have hnxA := Aside0.mk hnx0; have hLA := Aside0.mk hcl
                    have hc := hX.at m (by omega)
                    clear hX hB hnx0 hcl hcur
                    by_cases hmu : m = u
                    · have q5 : ((m : Int) != (u : Int)) = false := by rw [hmu]; simp
                      have hnx := Aside0.mk (hnxA.out.trans (if_neg (by simp [hmu])))
                      have hmuA := Aside0.mk hmu
                      clear hmu
                      go_wp2_with fail
                      go_roundw
                      · exact ⟨m + 1, by omega, by go_num, by rw [hnx.out]; exact hXA.out, hBA.out⟩
                      · simp [intOf]; omega
                    · have q5 : ((m : Int) != (u : Int)) = true := by rw [bne_iff_ne]; omega
                      obtain ⟨r, hr⟩ : ∃ r, cur.getD m 0#64 = r := ⟨_, rfl⟩
                      obtain ⟨y, hy⟩ : ∃ r, cur.getD u 0#64 = r := ⟨_, rfl⟩
                      rw [hr] at hc hnxA
                      rw [hy] at hnxA
                      have hyA := Aside0.mk hy
                      clear hy
                      have hrA := Aside0.mk hr
                      clear hr
                      cases hbt : r.getLsbD b with
                      | true =>
                        have hb1 := bit_true hbt
                        have hnx := Aside0.mk (hnxA.out.trans (if_pos ⟨hmu, hbt⟩))
                        clear hbt
                        go_wp2_with fail
                        clear hc hb1
                        refine wp_region_noPanic ?_
                        have XX0 : Aside0 (A64 wr.drew w.heap.size 48 cur) := Aside0.mk (hXA.out.drewN 1)
                        have H0 : Below w.heap.size w wr.drew := pw_below_drewN hBA.out 1
                        refine wp_region_held_drew (S := fun V1 => Below w.heap.size w V1) (by kernel_rfl) H0 (fun _ => ?_)
                        generalize wr.drew = V0 at *
                        -- REGION 24
                        refine wpAnyH_take (i := 0) (v := .int .i64 (m : Int)) (op_at rfl) (by kernel_rfl) (by kernel_rfl) (by kernel_rfl) (fun _ _ _ h => h) (Or.inl ⟨by rfl, fun w_ hSw => ?_⟩) H0 ?_
                        · skip; go_simp
                        try simp only [Act.put, List.setIfInBounds_toArray, List.set_cons_zero, List.set_cons_succ]
                        refine wpAnyH_take (i := 1) (v := .int .i64 (m : Int)) (op_at rfl) (by kernel_rfl) (by kernel_rfl) (by kernel_rfl) (fun _ _ _ h => h) (Or.inl ⟨by rfl, fun w_ hSw => ?_⟩) H0 ?_
                        · skip; go_simp
                        try simp only [Act.put, List.setIfInBounds_toArray, List.set_cons_zero, List.set_cons_succ]
                        refine wpAnyH_take (i := 2) (v := .pointer (some ⟨w.heap.size, m, none⟩)) (op_at rfl) (by kernel_rfl) (by kernel_rfl) (by kernel_rfl) (fun _ _ _ h => h) (Or.inl ⟨by rfl, fun w_ hSw => ?_⟩) H0 ?_
                        · skip; go_simp
                        try simp only [Act.put, List.setIfInBounds_toArray, List.set_cons_zero, List.set_cons_succ]
                        refine wpAnyH_take (i := 4) (v := .int .i64 (u : Int)) (op_at rfl) (by kernel_rfl) (by kernel_rfl) (by kernel_rfl) (fun _ _ _ h => h) (Or.inl ⟨by rfl, fun w_ hSw => ?_⟩) H0 ?_
                        · skip; go_simp
                        try simp only [Act.put, List.setIfInBounds_toArray, List.set_cons_zero, List.set_cons_succ]
                        refine wpAnyH_take (i := 5) (v := .pointer (some ⟨w.heap.size, u, none⟩)) (op_at rfl) (by kernel_rfl) (by kernel_rfl) (by kernel_rfl) (fun _ _ _ h => h) (Or.inl ⟨by rfl, fun w_ hSw => ?_⟩) H0 ?_
                        · skip; go_simp
                        try simp only [Act.put, List.setIfInBounds_toArray, List.set_cons_zero, List.set_cons_succ]
                        refine wpAnyH_ready (rs := [3, 6]) (by kernel_rfl) (by simp) ?_
                        refine AllReadyH.cons (op_at rfl) (fun K hK => ?_) (AllReadyH.cons (op_at rfl) (fun K hK => ?_) AllReadyH.nil)
                        · have hc_ := (by have h_ := XX0.out.at m (by have := hLA.out; omega); rwa [hrA.out] at h_)
                          go_simp
                          clear hc_
                          refine hK.out _ _ H0 (fun H1_ => ?_)
                          clear hK K
                          try simp only [Act.put, List.setIfInBounds_toArray, List.set_cons_zero, List.set_cons_succ]
                          refine wpAnyH_ready (rs := [6]) (by kernel_rfl) (by simp) ?_
                          refine AllReadyH.cons (op_at rfl) (fun K hK => ?_) AllReadyH.nil
                          have hc_ := (by have h_ := XX0.out.at u (by have := hLA.out; omega); rwa [hyA.out] at h_)
                          go_simp
                          clear hc_
                          refine hK.out _ _ H1_ (fun H2_ => ?_)
                          clear hK K
                          try simp only [Act.put, List.setIfInBounds_toArray, List.set_cons_zero, List.set_cons_succ]
                          refine wpAnyH_take (i := 7) (v := .int .u64 (q (r ^^^ y))) (op_at rfl) (by kernel_rfl) (by kernel_rfl) (by kernel_rfl) (fun _ _ _ h => h) (Or.inl ⟨by rfl, fun w_ hSw => ?_⟩) H2_ ?_
                          · have ex_ := xor_q r y; go_simp
                          try simp only [Act.put, List.setIfInBounds_toArray, List.set_cons_zero, List.set_cons_succ]
                          refine wpAnyH_take (i := 8) (v := .pointer (some ⟨w.heap.size, m, none⟩)) (op_at rfl) (by kernel_rfl) (by kernel_rfl) (by kernel_rfl) (fun _ _ _ h => h) (Or.inl ⟨by rfl, fun w_ hSw => ?_⟩) H2_ ?_
                          · skip; go_simp
                          try simp only [Act.put, List.setIfInBounds_toArray, List.set_cons_zero, List.set_cons_succ]
                          refine wpAnyH_ready (rs := [9]) (by kernel_rfl) (by simp) ?_
                          refine AllReadyH.cons (op_at rfl) (fun K hK => ?_) AllReadyH.nil
                          have hc_ := XX0.out.at m (by first | (have := hLA.out; omega) | (rw [List.length_set]; have := hLA.out; omega))
                          have hf_ := XX0.out.fz m
                          go_simp
                          refine hK.out _ _ (H2_.setCell (p := ⟨w.heap.size, m, none⟩) (Nat.le_refl _) _) (fun H3_ => ?_)
                          have XX_3 := Aside0.mk (XX0.out.put m (r ^^^ y))
                          clear hK K hc_ hf_
                          try simp only [Act.put, List.setIfInBounds_toArray, List.set_cons_zero, List.set_cons_succ]
                          refine wpAnyH_done (by kernel_rfl) ?_ _
                          refine NoPanic.normal ?_
                          go_wp2_with fail
                          go_roundw
                          · exact ⟨m + 1, by omega, by go_num, by rw [hnx.out]; exact XX_3.out, H3_⟩
                          · simp [intOf]; omega
                        · have hc_ := (by have h_ := XX0.out.at u (by have := hLA.out; omega); rwa [hyA.out] at h_)
                          go_simp
                          clear hc_
                          refine hK.out _ _ H0 (fun H4_ => ?_)
                          clear hK K
                          try simp only [Act.put, List.setIfInBounds_toArray, List.set_cons_zero, List.set_cons_succ]
                          refine wpAnyH_ready (rs := [3]) (by kernel_rfl) (by simp) ?_
                          refine AllReadyH.cons (op_at rfl) (fun K hK => ?_) AllReadyH.nil
                          have hc_ := (by have h_ := XX0.out.at m (by have := hLA.out; omega); rwa [hrA.out] at h_)
                          go_simp
                          clear hc_
                          refine hK.out _ _ H4_ (fun H5_ => ?_)
                          clear hK K
                          try simp only [Act.put, List.setIfInBounds_toArray, List.set_cons_zero, List.set_cons_succ]
                          refine wpAnyH_take (i := 7) (v := .int .u64 (q (r ^^^ y))) (op_at rfl) (by kernel_rfl) (by kernel_rfl) (by kernel_rfl) (fun _ _ _ h => h) (Or.inl ⟨by rfl, fun w_ hSw => ?_⟩) H5_ ?_
                          · have ex_ := xor_q r y; go_simp
                          try simp only [Act.put, List.setIfInBounds_toArray, List.set_cons_zero, List.set_cons_succ]
                          refine wpAnyH_take (i := 8) (v := .pointer (some ⟨w.heap.size, m, none⟩)) (op_at rfl) (by kernel_rfl) (by kernel_rfl) (by kernel_rfl) (fun _ _ _ h => h) (Or.inl ⟨by rfl, fun w_ hSw => ?_⟩) H5_ ?_
                          · skip; go_simp
                          try simp only [Act.put, List.setIfInBounds_toArray, List.set_cons_zero, List.set_cons_succ]
                          refine wpAnyH_ready (rs := [9]) (by kernel_rfl) (by simp) ?_
                          refine AllReadyH.cons (op_at rfl) (fun K hK => ?_) AllReadyH.nil
                          have hc_ := XX0.out.at m (by first | (have := hLA.out; omega) | (rw [List.length_set]; have := hLA.out; omega))
                          have hf_ := XX0.out.fz m
                          go_simp
                          refine hK.out _ _ (H5_.setCell (p := ⟨w.heap.size, m, none⟩) (Nat.le_refl _) _) (fun H6_ => ?_)
                          have XX_6 := Aside0.mk (XX0.out.put m (r ^^^ y))
                          clear hK K hc_ hf_
                          try simp only [Act.put, List.setIfInBounds_toArray, List.set_cons_zero, List.set_cons_succ]
                          refine wpAnyH_done (by kernel_rfl) ?_ _
                          refine NoPanic.normal ?_
                          go_wp2_with fail
                          go_roundw
                          · exact ⟨m + 1, by omega, by go_num, by rw [hnx.out]; exact XX_6.out, H6_⟩
                          · simp [intOf]; omega
                        -- END 24
                      | false =>
                        have hb1 := bit_false hbt
                        have hnx := Aside0.mk (hnxA.out.trans (if_neg (by rw [hbt]; simp)))
                        clear hbt
                        go_wp2_with fail
                        go_roundw
                        · exact ⟨m + 1, by omega, by go_num, by rw [hnx.out]; exact hXA.out, hBA.out⟩
                        · simp [intOf]; omega
                  · obtain rfl : m = 32 := by omega
                    have p2 : ¬ ((32 : Nat) : Int) < 32 := by omega
                    obtain ⟨el, hel⟩ : ∃ s, s = elimN sw u b 32 := ⟨_, rfl⟩
                    have hell : el.length = 32 := by rw [hel, elimN_length]; exact hswlA.out
                    rw [← hel] at hX
                    have hs1 : sts (b + 1) = (el, u + 1) := by show stp (sts b) b = _; rw [hstA.out]; simp only [stp, hkA.out, elim]; rw [hel, hswA.out]
                    have hpv : piv (sts b) b = some (el.getD u 0#64) := by rw [hstA.out]; simp only [piv, hkA.out, elim]; rw [hel, hswA.out]
                    have hg1 : got c (b + 1) = if g.getLsbD b then g ^^^ el.getD u 0#64 else g := by show gstep (piv (sts b) b) b (got c b) = _; rw [hpv, ← hgA.out]; rfl
                    have hc := hX.at u (by omega)
                    obtain ⟨y, hy⟩ : ∃ r, el.getD u 0#64 = r := ⟨_, rfl⟩
                    rw [hy] at hc hg1
                    clear hy
                    have hXA := Aside0.mk hX; have hBA := Aside0.mk hB; have hs1A := Aside0.mk hs1; have hg1A := Aside0.mk hg1
                    have e4 : IntKind.i64.wrap ((u : Int) + 1) = (u : Int) + 1 := IntWalk.i64_in _ (by omega)
                    clear hX hB hs1 hpv hg1 hel hell
                    cases hbt : g.getLsbD b with
                    | true =>
                      have hb1 := bit_true hbt
                      have ex := xor_q g y
                      have hbtA := Aside0.mk hbt
                      clear hbt
                      go_wp2_with fail
                      go_roundw
                      · exact ⟨b + 1, by omega, by go_num, by rw [hg1A.out, if_pos hbtA.out], by rw [hs1A.out]; go_num, by rw [hs1A.out]; exact hXA.out, hBA.out⟩
                      · simp [intOf]; omega
                    | false =>
                      have hb1 := bit_false hbt
                      have hbtA := Aside0.mk hbt
                      clear hbt
                      go_wp2_with fail
                      go_roundw
                      · exact ⟨b + 1, by omega, by go_num, by rw [hg1A.out, if_neg (by rw [hbtA.out]; decide)], by rw [hs1A.out]; go_num, by rw [hs1A.out]; exact hXA.out, hBA.out⟩
                      · simp [intOf]; omega
        · obtain rfl : b = 32 := by omega
          have p1 : ¬ ((32 : Nat) : Int) < 32 := by omega
          have hBA := Aside0.mk hB
          clear hX hB
          by_cases hlo : lo g = 0#32
          · have em : (q g).tmod 4294967296 = 0 := by rw [lo_q, hlo]; rfl
            have eh := hi_q g
            obtain ⟨h, hh⟩ : ∃ h, v (hi g) = h := ⟨_, rfl⟩
            rw [hh] at eh
            have hr : v (sols c) = h - h % 2 := by unfold sols; rw [← hgA.out, if_pos hlo, even_sub, hh]
            have hlt : 0 ≤ h ∧ h < 4294967296 := by rw [← hh]; exact v_lt _
            have ed : decide (lo (got c 32) = 0#32) = true := by rw [← hgA.out]; exact decide_eq_true hlo
            have hrA := Aside0.mk hr; have hltA := Aside0.mk hlt; have edA := Aside0.mk ed
            clear hlo hh hr hlt ed
            go_wp2_with fail
            rw [show (v (sols c)) = h - h % 2 from hrA.out, edA.out]
            have e5 : h % 4294967296 - h % 2 = h - h % 2 := by have := hltA.out; omega
            rw [e5]
            exact bodyPost_ret (results_tmp2 rfl _ _ _) rfl ⟨rfl, hBA.out⟩
          · obtain ⟨l, hl⟩ : ∃ l, v (lo g) = l := ⟨_, rfl⟩
            have em : (q g).tmod 4294967296 = l := by rw [lo_q, hl]
            have en : (l != 0) = true := by
              rw [bne_iff_ne]; intro h; apply hlo
              rw [← v_inj, hl, h]; rfl
            have hr : v (sols c) = 0 := by unfold sols; rw [← hgA.out, if_neg hlo]; rfl
            have ed : decide (lo (got c 32) = 0#32) = false := by rw [← hgA.out]; exact decide_eq_false hlo
            have hrA := Aside0.mk hr; have edA := Aside0.mk ed
            clear hlo hl hr ed
            go_wp2_with fail
            exact bodyPost_ret (results_tmp2 rfl _ _ _) rfl ⟨by rw [hrA.out, edA.out]; rfl, hBA.out⟩
end Go.Proofs.Ytocmhmfljbohjaa.RSolve
