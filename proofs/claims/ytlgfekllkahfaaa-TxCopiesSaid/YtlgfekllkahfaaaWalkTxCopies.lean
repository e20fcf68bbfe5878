/- A copy of a transaction is another one.
   Conditions: none. -/
import Derived.Test.YtlgfekllkahfaaaTyN
import Derived.Test.YtlgfekllkahfaaaTyY
set_option linter.unusedVariables false
set_option linter.unusedSimpArgs false
namespace Go.Proofs.Ytlgfekllkahfaaa.Walk
open Go.RowKit Go.Proofs.YtlgfekllkahfaaaW.PrintWords Go.Proofs.YtlgfekllkahfaaaW.PrintMore Go.Proofs.Ytlgfekllkahfaaa Go.Proofs.Ytlgfekllkahfaaa.Bits Sha ArrK ShaW Pack
theorem alike_self {α : Type} (f : α → α → Bool) (hf : ∀ x, f x x = true) (l : List α) : alike f l l = true := by
  unfold alike
  rw [List.all_eq_true]
  intro p hp
  have : p.1 = p.2 := by
    obtain ⟨i, hi⟩ := List.mem_iff_getElem?.1 hp
    rw [List.getElem?_zip_eq_some] at hi
    exact Option.some.inj (hi.1.symm.trans hi.2)
  rw [this]; exact hf _
theorem eqS_self (s : Sp) : eqS s s = true := by simp [eqS]
theorem eqC_self (c : Co) : eqC c c = true := by simp [eqC]
def spoilt : Sp := ⟨zero32, 0, ⟨#[115, 112, 111, 105, 108, 116]⟩, 0⟩
theorem spoilt_ok : SpO spoilt := ⟨by decide, by intro x hx; simp [spoilt, zero32] at hx; omega, by decide, by decide, by decide⟩
theorem spoilt_co : CoOk ⟨77, 0⟩ := ⟨by decide, by decide⟩
theorem rowS {base : Nat} {W : World} {A : Option Addr} {n c : Nat} {l : List Sp} (h : RSp base W (.slice A n c) l) : SpR0 W A l.length l := (Kd.R_reads' h).2.2
theorem rowC {base : Nat} {W : World} {A : Option Addr} {n c : Nat} {l : List Co} (h : RCo base W (.slice A n c) l) : CoR W A l.length l := (Kd.R_reads' h).2.2
theorem kSp_put {W : World} {base : Nat} {okp : Nat → Prop} {c : List Value} {s : Sp} (hcl : c.length = kSp.sz) (hs : SpO s) : kSp.M W base okp s (c.take 0 ++ spc s ++ c.drop (0 + (spc s).length)) := by
  refine ⟨hs, ?_⟩
  have : c.length = 35 := hcl
  rw [List.take_zero, List.nil_append, Nat.zero_add, List.drop_of_length_le (by rw [this, spc_length s hs.1]; exact Nat.le_refl _), List.append_nil]
theorem kCo_put {W : World} {base : Nat} {okp : Nat → Prop} {c : List Value} {s : Co} (hcl : c.length = kCo.sz) (hs : CoOk s) : kCo.M W base okp s (c.take 0 ++ coc s ++ c.drop (0 + (coc s).length)) := by
  refine ⟨hs, ?_⟩
  have : c.length = 2 := hcl
  rw [List.take_zero, List.nil_append, Nat.zero_add, List.drop_of_length_le (by rw [this]; exact Nat.le_refl _), List.append_nil]
theorem info_tx3 (x y z : Value) : (Try.prog.info? 25).map (·.size) = some [x, y, z].length := by show _ = some 3; kernel_rfl
set_option maxRecDepth 100000 in
set_option maxHeartbeats 800000 in
theorem TxCopies (t : Tr) (A1 A2 : Option Addr) (c1 c2 : Nat) (w : World) (hS : SpR0 w A1 t.sp.length t.sp) (hC : CoR w A2 t.co.length t.co) :
    Calls Try.prog 3 #[trv t A1 A2 c1 c2] w fun e w' => e = .returned (.bool true) ∧ Below w.heap.size w w' := by
  obtain ⟨V, hV⟩ : ∃ V, V = w.alloc (.cells (trc t A1 A2 c1 c2).toArray 25) := ⟨_, rfl⟩
  have hX : Blk V w.heap.size 25 (trc t A1 A2 c1 c2) := by rw [hV]; exact Blk.new w _ _
  have hB : Below w.heap.size w V := by rw [hV]; exact below_alloc (Below.refl _ _) _
  have hAl := alive10_calls V
  have hVA := Aside0.mk hV; have hXA := Aside0.mk hX; have hBA := Aside0.mk hB; have hAlA := Aside0.mk hAl; have hiA := Aside0.mk (info_tx t A1 A2 c1 c2); have hSA := Aside0.mk hS; have hCA := Aside0.mk hC
  clear hV hX hB hAl hS hC
  generalize hlg : large t = g
  have hlA := Aside0.mk hlg
  clear hlg
  have hLgA := Aside0.mk (fun (W1 : World) (hW : Below w.heap.size w W1) => large_calls (W1.alloc (.cells (trc t A1 A2 c1 c2).toArray 25)) W1.heap.size (Blk.new W1 _ _) (hSA.out.imp_ (below_alloc hW _) (fun _ _ h => h)))
  cases g
  · obtain ⟨l1, l2, l3⟩ := large_no hlA.out
    have hi3A := Aside0.mk info_tx3
    have hCpA := Aside0.mk (fun (W : World) (hW : Below w.heap.size w W) => copy_calls W (hSA.out.imp_ hW (fun _ _ h => h)) (hCA.out.imp_ hW (fun _ _ h => h)) (c1 := c1) (c2 := c2) (by omega) (by omega))
    have hTcA := Aside0.mk (fun (W : World) (B1 B2 : Option Addr) (k1 k2 : Nat) (h1 : SpR0 W B1 t.sp.length t.sp) (h2 : CoR W B2 t.co.length t.co) => txcopy_calls W h1 h2 (c1 := k1) (c2 := k2) (by omega) (by omega))
    have hNmA := Aside0.mk (fun (W : World) (B1 B2 : Option Addr) (k1 k2 : Nat) (h1 : SpR0 W B1 t.sp.length t.sp) (h2 : CoR W B2 t.co.length t.co) (hW : Below w.heap.size w W) => by
      have h := same_calls W t.sp t.sp t.co t.co t.firm B1 B2 A1 A2 k1 k2 c1 c2 h1 h2 (hSA.out.imp_ hW (fun _ _ h => h)) (hCA.out.imp_ hW (fun _ _ h => h)) (by omega) (by omega)
      rw [alike_self eqS eqS_self, alike_self eqC eqC_self] at h
      exact h)
    go_enter Try.func3, Try.ntmps3
    go_wp2_with (first | (go_at_call 6; (rw [show (w.alloc (.cells #[.slice A1 t.sp.length c1, .slice A2 t.co.length c2, .bool t.firm] 25)) = V from hVA.out.symm]; (with_reducible refine hAlA.out.mono ?_); rintro e w1 ⟨rfl, hb1⟩; have hXtA := Aside0.mk (hXA.out.below hb1); have hb1A := Aside0.mk (below_then hBA.out hBA.out.size hb1); clear hb1)) | ((with_reducible refine gate_dst (N := 10) rfl ?_); (refine wpList_load_blk rfl 25 (.tmp 1) rfl w.heap.size 25 rfl (trc t A1 A2 c1 c2) _ hXtA.out Try.underlying25 rfl hiA.out ?_)) | (go_at_call 7; ((with_reducible refine (hLgA.out _ hb1A.out).mono ?_); rintro e w3 ⟨rfl, hb3⟩; rw [hlA.out]; have hX3A := Aside0.mk (hXtA.out.below ((below_alloc (Below.refl _ _) _).trans (hb3.mono (by simp)))); have hb3A := Aside0.mk (below_then hb1A.out hb1A.out.size ((below_alloc (Below.refl _ _) _).trans (hb3.mono (by simp)))); clear hb3)) | ((with_reducible refine gate_dst (N := 13) rfl ?_); (refine wpList_load_blk rfl 25 (.tmp 1) rfl w.heap.size 25 rfl (trc t A1 A2 c1 c2) _ hX3A.out Try.underlying25 rfl hiA.out ?_)) | (go_at_call 8; ((with_reducible refine (hCpA.out _ hb3A.out).mono ?_); rintro e w4 ⟨⟨u1, u2, rfl, hR1, hR2⟩, hb4⟩; obtain ⟨B1, k1, hv1⟩ := Kd.R_slice hR1; obtain ⟨B2, k2, hv2⟩ := Kd.R_slice hR2; subst hv1; subst hv2; have hX4A := Aside0.mk (hX3A.out.below hb4); have hb4A := Aside0.mk (below_then hb3A.out hb3A.out.size hb4); have hR1A := Aside0.mk hR1; have hR2A := Aside0.mk hR2; clear hR1 hR2 hb4)))
    go_at_call 9
    obtain ⟨W5, hW5⟩ : ∃ W5, W5 = w4.alloc (.cells #[.slice B1 t.sp.length k1, .slice B2 t.co.length k2, .bool t.firm] 25) := ⟨_, rfl⟩
    rw [show w4.alloc (.cells #[.slice B1 t.sp.length k1, .slice B2 t.co.length k2, .bool t.firm] 25) = W5 from hW5.symm]
    have hO5 : Blk W5 w4.heap.size 25 [.slice B1 t.sp.length k1, .slice B2 t.co.length k2, .bool t.firm] := (by rw [hW5]; exact Blk.new w4 _ _)
    have h45 : Below w4.heap.size w4 W5 := (by rw [hW5]; exact below_alloc (Below.refl _ _) _)
    have hX5 := hX4A.out.below h45
    have hb5 := below_then hb4A.out hb4A.out.size h45
    have hQ1 := Kd.R_below hR1A.out h45
    have hQ2 := Kd.R_below hR2A.out h45
    have hX5A := Aside0.mk hX5
    have hO5A := Aside0.mk hO5
    have hb5A := Aside0.mk hb5
    have hQ1A := Aside0.mk hQ1
    have hQ2A := Aside0.mk hQ2
    have hW5A := Aside0.mk hW5
    clear hW5 hO5 h45 hX5 hb5 hQ1 hQ2 hR1A hR2A
    (with_reducible refine (hTcA.out W5 B1 B2 k1 k2 (rowS hQ1A.out) (rowC hQ2A.out)).mono ?_)
    rintro e w6 ⟨⟨u3, u4, rfl, hE1, hE2⟩, hb6⟩
    obtain ⟨E1, m1, hv1⟩ := Kd.R_slice hE1
    obtain ⟨E2, m2, hv2⟩ := Kd.R_slice hE2
    subst hv1
    subst hv2
    have hb6A := Aside0.mk hb6
    have hE1A := Aside0.mk hE1
    have hE2A := Aside0.mk hE2
    clear hE1 hE2 hb6
    go_wp2_with (first | ((with_reducible refine gate_dst (N := 18) rfl ?_); (obtain ⟨W7, hW7⟩ : ∃ W7, W7 = w6.alloc (.cells #[.slice E1 t.sp.length m1, .slice E2 t.co.length m2, .bool t.firm] 25) := ⟨_, rfl⟩; rw [show w6.alloc (.cells #[.slice E1 t.sp.length m1, .slice E2 t.co.length m2, .bool t.firm] 25) = W7 from hW7.symm]; have hZ7A := Aside0.mk (show Blk W7 w6.heap.size 25 [.slice E1 t.sp.length m1, .slice E2 t.co.length m2, .bool t.firm] from (by rw [hW7]; exact Blk.new w6 _ _)); have h67A := Aside0.mk (show Below w6.heap.size w6 W7 from (by rw [hW7]; exact below_alloc (Below.refl _ _) _)); have hb7A := Aside0.mk (below_then hb6A.out hb6A.out.size h67A.out); have hD1A := Aside0.mk (Kd.R_below hE1A.out h67A.out); have hD2A := Aside0.mk (Kd.R_below hE2A.out h67A.out); clear hW7 hE1A hE2A h67A; refine wpList_load_blk rfl 25 (.tmp 1) rfl w.heap.size 25 rfl (trc t A1 A2 c1 c2) _ (hX5A.out.below hb7A.out) Try.underlying25 rfl hiA.out ?_)))
    go_at_call 10
    (with_reducible refine (hNmA.out W7 E1 E2 m1 m2 (rowS hD1A.out) (rowC hD2A.out) (below_then hb5A.out hb5A.out.size hb7A.out)).mono ?_)
    rintro e w8 ⟨rfl, hb8⟩
    have hZ8 := hZ7A.out.below hb8
    have g0 := hZ8.get 0 _ rfl
    have hZ8A := Aside0.mk hZ8
    have hD3A := Aside0.mk (Kd.R_below hD1A.out hb8)
    have hD4A := Aside0.mk (Kd.R_below hD2A.out hb8)
    have hb8A := Aside0.mk (below_then hb7A.out hb7A.out.size hb8)
    clear hZ8 hb8 hD1A hD2A
    go_wp2_with fail
    clear hZ7A hX4A hb4A hb3A hX3A hb1A hXtA hlA
    go_loopw [23] (fun i wr => ∃ k : Nat, k ≤ t.sp.length ∧ i = .int .i64 (k : Int) ∧ (∃ l : List Sp, l.length = t.sp.length ∧ RSp W5.heap.size wr (.slice E1 t.sp.length m1) l) ∧ RCo W5.heap.size wr (.slice E2 t.co.length m2) t.co ∧ Blk wr w6.heap.size 25 [.slice E1 t.sp.length m1, .slice E2 t.co.length m2, .bool t.firm] ∧ Below W5.heap.size W5 wr) (fun i _ => t.sp.length - (intOf i).toNat)
    case atStart => exact ⟨0, by omega, rfl, ⟨_, rfl, hD3A.out⟩, hD4A.out, hZ8A.out, hb8A.out⟩
    case round =>
      clear g0 hD3A hD4A hZ8A hb8A hb7A hb6A
      obtain ⟨k, hk, rfl, ⟨l, hl, hRs⟩, hRc, hZ, hBl⟩ := hrel
      by_cases hlt : k < t.sp.length
      · obtain ⟨g, cap, hv, -⟩ := Kd.R_form hRs (by omega)
        obtain rfl : E1 = some ⟨g, 0, none⟩ := by injection hv
        have g0 := hZ.get 0 _ rfl
        have p0 : (0 : Int) ≤ (k : Int) := by omega
        have p1 : (k : Int) < (t.sp.length : Int) := by omega
        have e2 : IntKind.i64.wrap ((k : Int) + 1) = (k : Int) + 1 := IntWalk.i64_in _ (by omega)
        obtain ⟨c, hcl, -, hcc, -⟩ := Kd.R_elem hRs zsp (k : Int) p0 p1
        have hRsA := Aside0.mk hRs; have hRcA := Aside0.mk hRc; have hZA := Aside0.mk hZ; have hBlA := Aside0.mk hBl; have hclA := Aside0.mk hcl; have hccA := Aside0.mk hcc; have hllA := Aside0.mk hl
        clear hRs hRc hZ hBl hcl hcc hv hl
        go_wp2_with ((refine gate_ (.store 36 (.tmp 30) (.tmp 29)) rfl ?_); (refine Kd.R_store kSp (w0 := W5) W5.heap.size rfl rfl 36 (.tmp 30) (.tmp 29) rfl 36 (k : Int) 0 l spoilt (spv spoilt) (spc spoilt) c (fun _ => True) (fun _ => False) rfl rfl rfl rfl (info_spend spoilt spoilt_ok.1) (spc_one spoilt) hRsA.out p0 p1 hclA.out hccA.out (by rw [spc_length spoilt spoilt_ok.1]; exact Nat.le_refl _) (kSp_put hclA.out spoilt_ok) (fun _ h => h.elim) hBlA.out ?_); intro w9 hR9 hB9 hg9; have hZ9A := Aside0.mk (hZA.out.grown hg9 (Kd.R_ne hRsA.out hZA.out (by decide))); have hC9A := Aside0.mk (Kd.R_mono (Kd.R_grown (Kd.R_apartR hRcA.out hRsA.out (by decide)) hg9 (fun _ hk => hk.2)) (fun _ _ => trivial)); have hR9A := Aside0.mk hR9; have hB9A := Aside0.mk hB9; clear hR9 hB9 hg9 g0)
        go_roundw
        · exact ⟨k + 1, by omega, by go_num, ⟨_, by rw [List.length_set]; exact hllA.out, hR9A.out⟩, hC9A.out, hZ9A.out, hB9A.out⟩
        · simp [intOf]; omega
      · obtain rfl : k = t.sp.length := by omega
        have p1 : ¬ (t.sp.length : Int) < (t.sp.length : Int) := by omega
        have g1 := hZ.get 1 _ rfl
        have hRcA := Aside0.mk hRc; have hZA := Aside0.mk hZ; have hBlA := Aside0.mk hBl
        clear hRs hRc hZ hBl hl
        go_wp2_with fail
        go_loopw [35] (fun i wr => ∃ k : Nat, k ≤ t.co.length ∧ i = .int .i64 (k : Int) ∧ (∃ l : List Co, l.length = t.co.length ∧ RCo W5.heap.size wr (.slice E2 t.co.length m2) l) ∧ Blk wr w6.heap.size 25 [.slice E1 t.sp.length m1, .slice E2 t.co.length m2, .bool t.firm] ∧ Below W5.heap.size W5 wr) (fun i _ => t.co.length - (intOf i).toNat)
        case atStart => exact ⟨0, by omega, rfl, ⟨_, rfl, hRcA.out⟩, hZA.out, hBlA.out⟩
        case round =>
          clear g1 hRcA hZA hBlA
          obtain ⟨k, hk, rfl, ⟨l, hl, hRc⟩, hZ, hBl⟩ := hrel
          by_cases hlt : k < t.co.length
          · obtain ⟨g, cap, hv, -⟩ := Kd.R_form hRc (by omega)
            obtain rfl : E2 = some ⟨g, 0, none⟩ := by injection hv
            have g1 := hZ.get 1 _ rfl
            have p0 : (0 : Int) ≤ (k : Int) := by omega
            have p2 : (k : Int) < (t.co.length : Int) := by omega
            have e2 : IntKind.i64.wrap ((k : Int) + 1) = (k : Int) + 1 := IntWalk.i64_in _ (by omega)
            obtain ⟨c, hcl, -, hcc, -⟩ := Kd.R_elem hRc ⟨0, 0⟩ (k : Int) p0 p2
            have hRcA := Aside0.mk hRc; have hZA := Aside0.mk hZ; have hBlA := Aside0.mk hBl; have hclA := Aside0.mk hcl; have hccA := Aside0.mk hcc; have hllA := Aside0.mk hl
            clear hRc hZ hBl hcl hcc hv hl
            go_wp2_with ((refine gate_ (.store 38 (.tmp 42) (.tmp 41)) rfl ?_); (refine Kd.R_store kCo (w0 := W5) W5.heap.size rfl rfl 38 (.tmp 42) (.tmp 41) rfl 38 (k : Int) 0 l ⟨77, 0⟩ (cov ⟨77, 0⟩) (coc ⟨77, 0⟩) c (fun _ => True) (fun _ => False) rfl rfl rfl rfl (info_coin ⟨77, 0⟩) (coc_one ⟨77, 0⟩) hRcA.out p0 p2 hclA.out hccA.out (Nat.le_refl 2) (kCo_put hclA.out spoilt_co) (fun _ h => h.elim) hBlA.out ?_); intro w9 hR9 hB9 hg9; have hZ9A := Aside0.mk (hZA.out.grown hg9 (Kd.R_ne hRcA.out hZA.out (by decide))); have hR9A := Aside0.mk hR9; have hB9A := Aside0.mk hB9; clear hR9 hB9 hg9 g1)
            go_roundw
            · exact ⟨k + 1, by omega, by go_num, ⟨_, by rw [List.length_set]; exact hllA.out, hR9A.out⟩, hZ9A.out, hB9A.out⟩
            · simp [intOf]; omega
          · obtain rfl : k = t.co.length := by omega
            have p2 : ¬ (t.co.length : Int) < (t.co.length : Int) := by omega
            have hOf := hO5A.out.below hBl
            have hXf := hX5A.out.below hBl
            have q0 := hOf.get 0 _ rfl
            have q1 := hOf.get 1 _ rfl
            have q2 := hOf.get 2 _ rfl
            have r0 := hXf.get 0 _ rfl
            have r1 := hXf.get 1 _ rfl
            have r2 := hXf.get 2 _ rfl
            have hBlA := Aside0.mk hBl
            have hF := Aside0.mk (hNmA.out wr B1 B2 k1 k2 (rowS (Kd.R_below hQ1A.out hBl)) (rowC (Kd.R_below hQ2A.out hBl)) (below_then hb5A.out hb5A.out.size hBl))
            clear hRc hZ hBl hl hOf hXf
            go_wp2_with (go_at_call 10; (with_reducible refine hF.out.mono ?_); rintro e w9 ⟨rfl, hb9⟩; have hb9A := Aside0.mk hb9; clear hb9 q0 q1 q2 r0 r1 r2)
            go_ret
            exact ⟨rfl, below_then (below_then hb5A.out hb5A.out.size hBlA.out) (below_then hb5A.out hb5A.out.size hBlA.out).size hb9A.out⟩
  · go_enter Try.func3, Try.ntmps3
    go_wp2_with (first | (go_at_call 6; (rw [show (w.alloc (.cells #[.slice A1 t.sp.length c1, .slice A2 t.co.length c2, .bool t.firm] 25)) = V from hVA.out.symm]; (with_reducible refine hAlA.out.mono ?_); rintro e w1 ⟨rfl, hb1⟩; have hXtA := Aside0.mk (hXA.out.below hb1); have hb1A := Aside0.mk (below_then hBA.out hBA.out.size hb1); clear hb1)) | ((with_reducible refine gate_dst (N := 10) rfl ?_); (refine wpList_load_blk rfl 25 (.tmp 1) rfl w.heap.size 25 rfl (trc t A1 A2 c1 c2) _ hXtA.out Try.underlying25 rfl hiA.out ?_)) | (go_at_call 7; ((with_reducible refine (hLgA.out _ hb1A.out).mono ?_); rintro e w3 ⟨rfl, hb3⟩; rw [hlA.out]; have hX3A := Aside0.mk (hXtA.out.below ((below_alloc (Below.refl _ _) _).trans (hb3.mono (by simp)))); have hb3A := Aside0.mk (below_then hb1A.out hb1A.out.size ((below_alloc (Below.refl _ _) _).trans (hb3.mono (by simp)))); clear hb3)))
    go_ret
    exact ⟨rfl, hb3A.out⟩
end Go.Proofs.Ytlgfekllkahfaaa.Walk
