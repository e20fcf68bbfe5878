/- The document's texts read. -/
import Derived.Test.YtlgfekllkahfaaaMRb
set_option linter.unusedVariables false
set_option linter.unusedSimpArgs false
namespace Go.Proofs.Ytlgfekllkahfaaa.Pack
open Go.RowKit Go.Proofs.YtlgfekllkahfaaaW.PrintWords Go.Proofs.YtlgfekllkahfaaaW.PrintMore Go.Proofs.Ytlgfekllkahfaaa Go.Proofs.Ytlgfekllkahfaaa.Bits Sha ArrK ShaW
open Go.Proofs.Ytlgfekllkahfaaa.InRound (op_at)
theorem exec_text {a : Act} {o : Oper} (x : Operand) (ho : o.op = .convert 49 9 x) (A : Option Addr) (c n : Nat) (l : List Int) (hx : a.eval x = .slice A n c) (w : World) (hn : l.length = n) (hC : Kd.C (Kd.int .u8) w A l.length l) : (execOp a.eval o).run Try.prog w = .ok (.value (.string (strOfNums l))) w := by
  subst hn
  have h := run_text w A c l hC
  unfold execOp
  simp only [ho, hx, Sem.run_bind, h, Result.andThen_ok, Sem.run_pure]
theorem exec_cut {a : Act} {o : Oper} (x y : Operand) (ho : o.op = .slice 49 x (some y) none none) (A : Option Addr) (l c n : Nat) (hx : a.eval x = .slice A l c) (hy : a.eval y = .int .i64 (n : Int)) (q : n ≤ l) (hc : l ≤ c) (w : World) :
    (execOp a.eval o).run Try.prog w = .ok (.value (.slice (if c = n then A else A.map (·.add n)) (l - n) (c - n))) w := by
  have p0 : (0 : Int) ≤ (n : Int) := by omega
  have p1 : (n : Int) ≤ (l : Int) := by omega
  have p2 : (n : Int) ≤ (c : Int) := by omega
  unfold execOp
  simp only [ho, hx, Option.map_some, hy]
  by_cases h : c = n
  · subst h
    rw [if_pos rfl, Nat.sub_self]
    go_simp
  · rw [if_neg h]
    go_simp
theorem text_end {ok okw : Nat → Prop} {b : Nat} {w W : World} {A B : Option Addr} {l1 : List Int} {c n : Nat} {d : Value} (hc : l1.length ≤ c) (hF : Kd.F (Kd.int .u8) w okw A l1.length l1) (hby : Bytes l1) (q : n ≤ l1.length) (hok : ∀ k, okw k → ok k ∧ k ≠ b) (hg : w.grownBy W (some b)) (hB : B = if c = n then A else A.map (·.add n)) (hd : d = .slice B (l1.length - n) (c - n)) :
    DR ok W (.agg #[d, .bool false]) (some (l1.drop n)) := by
  subst hd
  have hF2 := Kd.F_mono (Kd.F_grown hF hg (fun k hk e => (hok k hk).2 (Option.some.inj e))) (fun k hk => (hok k hk).1)
  have h2 := Kd.F_cut hF2 q hc
  have e : (n * (Kd.int .u8).sz) = n := Nat.mul_one n
  rw [e, ← hB] at h2
  have hl : (l1.drop n).length = l1.length - n := List.length_drop
  exact ⟨B, c - n, by rw [hl], by omega, h2, fun x hx => hby x (List.mem_of_mem_drop hx)⟩
/-- a whole value stored over a block, drawn -/
theorem step_put_ {P : Program} {ops : Array Oper} {o : Oper} {a : Act} {w : World} {K : Act → World → Prop} {Q : Exit → Act → World → Prop} (hw : Region.wanted o (yielded ops a.tmps) = true) (ty : TypeId) (x y : Operand) (ho : o.op = .store ty x y)
    (b t : Nat) (vs cs : List Value) (hl : cs.length = vs.length) (hx : a.eval x = .pointer (some ⟨b, 0, none⟩)) (hy : a.eval y = .agg vs.toArray) (hbk : Blk w b t cs)
    (hi : (P.info? ty).map (·.size) = some vs.length) (h1 : ∀ u ∈ vs, u.oneCell' = true)
    (hk : ∀ W1, Blk W1 b t vs → w.grownBy W1 (some b) → W1.heap.size = w.heap.size → K (a.put o.dst undef) W1) : if Region.wanted o (yielded ops a.tmps) = true then Oper.wp P o a w K Q else K (a.put o.dst undef) w := by
  rw [if_pos hw]
  have ht : w.there b 0 vs.length := fun j hj => by
    refine ⟨?_, hbk.fz _⟩
    rw [hbk.get (0 + j) cs[j] (by simp [hl, hj])]; rfl
  refine wp_store_mid ty x y ho b 0 vs.toArray hx hy (by simpa using ht) (by simpa using hi) (by simpa using h1) ?_
  have hb := blk_setCells vs 0 w cs hbk (by omega)
  rw [List.take_zero, List.nil_append, Nat.zero_add, List.drop_of_length_le (by omega), List.append_nil] at hb
  have hs : (w.setCells b 0 vs).heap.size = w.heap.size := by
    have : ∀ (l : List Value) (o : Nat) (W : World), (W.setCells b o l).heap.size = W.heap.size := by
      intro l
      induction l with
      | nil => intro o W; rfl
      | cons u l ih => intro o W; rw [World.setCells, ih]; simp [World.setCell]
    exact this vs 0 w
  have hg : w.grownBy (w.setCells b 0 vs) (some b) := by
    have hbl := ArrK.below_setCells (w := w) b (Nat.le_refl b) vs 0 w (Below.refl _ _)
    refine ⟨hbl.os, hbl.tape, hbl.output, by omega, fun k hk hne => World.heap_setCells_other w b 0 vs hk (fun e => hne (by rw [e]))⟩
  exact hk _ hb hg hs
theorem two_one (x y : Value) (hx : x.oneCell' = true) (hy : y.oneCell' = true) : ∀ u ∈ [x, y], u.oneCell' = true := by intro u hu; simp at hu; rcases hu with rfl | rfl <;> assumption
section
variable {ok : Nat → Prop} {w : World} {v : Value} {r : Rd}
set_option maxRecDepth 100000 in
set_option maxHeartbeats 6400000 in
theorem dtext_at (most : Nat) (z : Int) (hz : (most : Int) = z) (hm : most ≤ 1000000) (hlen : RL r) (h : DR ok w v r) :
    Calls Try.prog 44 #[v, .int .i64 z] w fun e w' => (∃ v', e = .returned (.tuple #[v', .string (strOfNums (rdText most r).1)]) ∧ DR (fun k => ok k ∨ w.heap.size ≤ k) w' v' (rdText most r).2) ∧ Below w.heap.size w w' := by
  have hrl : RL (rdCount most r).2 := rl_count hlen
  have hq : DR (fun k => ok k ∧ k < w.heap.size) w v r := h.mono (fun k h1 h2 => ⟨h1, h2⟩)
  obtain ⟨l, A, c, rfl, hc, hC, hbl, hl1, hl2⟩ := h.two
  obtain ⟨V, hV⟩ : ∃ V, V = (w.alloc (.cells #[.slice A l.length c, .bool r.isNone] 79)).alloc (.cells #[.slice none 0 0, .bool false] 79) := ⟨_, rfl⟩
  have hX : Blk V w.heap.size 79 [.slice A l.length c, .bool r.isNone] := by rw [hV]; exact (Blk.new w 79 [.slice A l.length c, .bool r.isNone]).alloc _
  have hZ : Blk V (w.heap.size + 1) 79 [.slice none 0 0, .bool false] := by
    have := Blk.new (w.alloc (.cells #[.slice A l.length c, .bool r.isNone] 79)) 79 [.slice none 0 0, .bool false]
    rw [hV]; rwa [World.size_alloc] at this
  have hB : Below w.heap.size w V := by rw [hV]; exact below_alloc (below_alloc (Below.refl _ _) _) _
  have hVs : w.heap.size + 2 = V.heap.size := by rw [hV]; simp
  have x0 := hX.get 0 _ rfl
  have x1 := hX.get 1 _ rfl
  have hcA := Aside0.mk (dcnt_at most z hz hm hlen (hq.below hB))
  have hVA := Aside0.mk hV; have hXA := Aside0.mk hX; have hZA := Aside0.mk hZ; have hBA := Aside0.mk hB
  unfold rdText
  clear hV hX hZ hB hC hbl h hq hl1 hl2 hlen
  generalize rdCount most r = zc at *
  obtain ⟨n, r1⟩ := zc
  simp only at hcA hrl ⊢
  cases r1 with
  | none =>
    rw [show rdNext n none = ([], none) from rfl]
    go_enter Try.func44, Try.ntmps44
    go_wp2_with (first | ((with_reducible refine gate_dst (N := 8) rfl ?_); rw [show (w.alloc (.cells #[.slice A l.length c, .bool r.isNone] 79)).alloc (.cells #[.slice none 0 0, .bool false] 79) = V from hVA.out.symm]) | (go_at_call 41; ((with_reducible refine hcA.out.mono ?_); rintro e w3 ⟨⟨v1, rfl, hD⟩, hb⟩; obtain ⟨A1, c1, rfl⟩ := hD; have hD3 := True.intro; have hS3 : w.heap.size + 2 ≤ w3.heap.size := (by have := hb.size; omega); have hX3A := Aside0.mk (hXA.out.below hb); have hZ3A := Aside0.mk (hZA.out.below hb); have hb3A := Aside0.mk (below_then hBA.out hBA.out.size hb); have hD3A := Aside0.mk hD3; clear hb hD3 x0 x1)) | (refine wpList_put_blk rfl 79 (.tmp 2) (.tmp 11) rfl w.heap.size 79 [.slice A1 0 c1, .bool true] [.slice A l.length c, .bool r.isNone] rfl rfl rfl hX3A.out (info_in2 _ _) (two_one _ _ rfl rfl) ?_; intro w4 hX4 hg4 hs4; have x0 := hX4.get 0 _ rfl; have x1 := hX4.get 1 _ rfl; have hX4A := Aside0.mk hX4; have hZ4A := Aside0.mk (hZ3A.out.grown hg4 (by intro e; have := Option.some.inj e; omega)); have hb4A := Aside0.mk (hb3A.out.grown hg4 hb3A.out.size (fun k e => by have := Option.some.inj e; omega)); have hD4A := Aside0.mk (True.intro); clear hg4 hX4) | (go_at_call 60; ((with_reducible refine (dwrong_calls _).mono ?_); rintro e w8 ⟨⟨A8, c8, rfl⟩, hb⟩; have hZ8A := Aside0.mk (hZ4A.out.below hb); have hb8A := Aside0.mk (below_then hb4A.out hb4A.out.size hb); clear hb x0 x1)) | (refine wpList_put_blk rfl 79 (.tmp 4) (.tmp 22) rfl (w.heap.size + 1) 79 [.slice A8 0 c8, .bool true] [.slice none 0 0, .bool false] rfl rfl rfl hZ8A.out (info_in2 _ _) (two_one _ _ rfl rfl) ?_; intro w9 hZ9 hg9 hs9))
    exact bodyPost_ret (results_ct rfl _ _ (w.heap.size + 1) 79 #[.slice A8 0 c8, .bool true] (0, 0) _ rfl hZ9 Try.underlying79 rfl (info_in2 _ _)) rfl ⟨⟨_, rfl, A8, c8, rfl⟩, hb8A.out.grown hg9 hb8A.out.size (fun k e => by have := Option.some.inj e; omega)⟩
  | some l1 =>
    have hl9 := hrl l1 rfl
    clear hrl
    by_cases q : n ≤ l1.length
    · have p1 : ¬ (l1.length : Int) < (n : Int) := by omega
      have p3 : (0 : Int) ≤ (n : Int) := by omega
      have p4 : (n : Int) ≤ (l1.length : Int) := by omega
      have hlt : (l1.take n).length = n := by rw [List.length_take]; omega
      have hld : (l1.drop n).length = l1.length - n := List.length_drop
      have hltA := Aside0.mk hlt; have hldA := Aside0.mk hld
      clear hlt hld
      rw [show rdNext n (some l1) = (l1.take n, some (l1.drop n)) by rw [rdNext, if_pos q]]
      go_enter Try.func44, Try.ntmps44
      go_wp2_with (first | ((with_reducible refine gate_dst (N := 8) rfl ?_); rw [show (w.alloc (.cells #[.slice A l.length c, .bool r.isNone] 79)).alloc (.cells #[.slice none 0 0, .bool false] 79) = V from hVA.out.symm]) | (go_at_call 41; ((with_reducible refine hcA.out.mono ?_); rintro e w3 ⟨⟨v1, rfl, hD⟩, hb⟩; obtain ⟨A1, c1, rfl, hc1, hF1, hBy1⟩ := hD; have hD3 : DR (fun k => (ok k ∧ k < w.heap.size) ∨ V.heap.size ≤ k) w3 (.agg #[.slice A1 l1.length c1, .bool false]) (some l1) := ⟨A1, c1, rfl, hc1, hF1, hBy1⟩; clear hF1 hBy1; have hS3 : w.heap.size + 2 ≤ w3.heap.size := (by have := hb.size; omega); have hX3A := Aside0.mk (hXA.out.below hb); have hZ3A := Aside0.mk (hZA.out.below hb); have hb3A := Aside0.mk (below_then hBA.out hBA.out.size hb); have hD3A := Aside0.mk hD3; clear hb hD3 x0 x1)) | (refine wpList_put_blk rfl 79 (.tmp 2) (.tmp 11) rfl w.heap.size 79 [.slice A1 l1.length c1, .bool false] [.slice A l.length c, .bool r.isNone] rfl rfl rfl hX3A.out (info_in2 _ _) (two_one _ _ rfl rfl) ?_; intro w4 hX4 hg4 hs4; have x0 := hX4.get 0 _ rfl; have x1 := hX4.get 1 _ rfl; have hX4A := Aside0.mk hX4; have hZ4A := Aside0.mk (hZ3A.out.grown hg4 (by intro e; have := Option.some.inj e; omega)); have hb4A := Aside0.mk (hb3A.out.grown hg4 hb3A.out.size (fun k e => by have := Option.some.inj e; omega)); have hD4A := Aside0.mk (hD3A.out.grown hg4 (by intro k hk e; have := Option.some.inj e; rcases hk with hk | hk <;> omega)); clear hg4 hX4))
      obtain ⟨A', c', e', hc1, hFA, hByA⟩ := hD4A.out
      simp at e'
      obtain ⟨rfl, rfl⟩ := e'
      have hFA := Aside0.mk hFA; have hByA := Aside0.mk hByA
      have p5 : (n : Int) ≤ (c1 : Int) := by omega
      obtain ⟨B, hBe⟩ : ∃ B, B = if c1 = n then A1 else A1.map (·.add n) := ⟨_, rfl⟩
      have hBeA := Aside0.mk hBe
      clear hBe
      refine wp_region_noPanic ?_
      have hx0A := Aside0.mk (fun W' (hW : w4.grownBy W' (some (w.heap.size + 1))) => (hX4A.out.grown hW (by intro e; have := Option.some.inj e; omega)).get 0 _ rfl)
      have hrowA := Aside0.mk (fun W' (hW : w4.grownBy W' (some (w.heap.size + 1))) => Kd.F_now (Kd.F_take (Kd.F_grown hFA.out hW (by intro k hk e; have := Option.some.inj e; rcases hk with hk | hk <;> omega)) q))
      clear x0 x1
      have H0 : w4.grownBy w4.drew (some (w.heap.size + 1)) := grown_of_below (pw_below_drewN (Below.refl _ _) 1) _
      refine wp_region_held_drew (S := fun V1 => w4.grownBy V1 (some (w.heap.size + 1))) (by kernel_rfl) H0 (fun _ => ?_)
      have hZ0 : Blk w4.drew (w.heap.size + 1) 79 [.slice none 0 0, .bool false] := hZ4A.out
      generalize w4.drew = V0 at *
      refine wpAnyH_take (i := 0) (v := .pointer (some ⟨w.heap.size, 0, none⟩)) (op_at rfl) (by kernel_rfl) (by kernel_rfl) (by kernel_rfl) (fun _ _ _ h => h) (Or.inl ⟨by rfl, fun w_ hSw => ?_⟩) H0 ?_
      · skip; go_simp
      try simp only [Act.put, List.setIfInBounds_toArray, List.set_cons_zero, List.set_cons_succ]
      refine wpAnyH_take (i := 1) (v := .slice A1 l1.length c1) (op_at rfl) (by kernel_rfl) (by kernel_rfl) (by kernel_rfl) (fun _ _ _ h => h) (Or.inl ⟨by rfl, fun w_ hSw => ?_⟩) H0 ?_
      · have hc_ := hx0A.out w_ hSw; go_simp
      try simp only [Act.put, List.setIfInBounds_toArray, List.set_cons_zero, List.set_cons_succ]
      refine wpAnyH_take (i := 2) (v := .int .i64 (n : Int)) (op_at rfl) (by kernel_rfl) (by kernel_rfl) (by kernel_rfl) (fun _ _ _ h => h) (Or.inl ⟨by rfl, fun w_ hSw => ?_⟩) H0 ?_
      · skip; go_simp
      try simp only [Act.put, List.setIfInBounds_toArray, List.set_cons_zero, List.set_cons_succ]
      refine wpAnyH_take (i := 3) (v := .slice B (l1.length - n) (c1 - n)) (op_at rfl) (by kernel_rfl) (by kernel_rfl) (by kernel_rfl) (fun _ _ _ h => h) (Or.inl ⟨by rfl, fun w_ hSw => (by rw [hBeA.out]; exact exec_cut (.tmp 24) (.tmp 25) rfl A1 l1.length c1 n rfl rfl q (by omega) w_)⟩) H0 ?_
      try simp only [Act.put, List.setIfInBounds_toArray, List.set_cons_zero, List.set_cons_succ]
      refine wpAnyH_take (i := 4) (v := .agg #[.slice B (l1.length - n) (c1 - n), .bool false]) (op_at rfl) (by kernel_rfl) (by kernel_rfl) (by kernel_rfl) (fun _ _ _ h => h) (Or.inl ⟨by rfl, fun w_ hSw => ?_⟩) H0 ?_
      · skip; go_simp
      try simp only [Act.put, List.setIfInBounds_toArray, List.set_cons_zero, List.set_cons_succ]
      refine wpAnyH_take (i := 5) (v := .pointer (some ⟨w.heap.size, 0, none⟩)) (op_at rfl) (by kernel_rfl) (by kernel_rfl) (by kernel_rfl) (fun _ _ _ h => h) (Or.inl ⟨by rfl, fun w_ hSw => ?_⟩) H0 ?_
      · skip; go_simp
      try simp only [Act.put, List.setIfInBounds_toArray, List.set_cons_zero, List.set_cons_succ]
      refine wpAnyH_take (i := 6) (v := .slice A1 l1.length c1) (op_at rfl) (by kernel_rfl) (by kernel_rfl) (by kernel_rfl) (fun _ _ _ h => h) (Or.inl ⟨by rfl, fun w_ hSw => ?_⟩) H0 ?_
      · have hc_ := hx0A.out w_ hSw; go_simp
      try simp only [Act.put, List.setIfInBounds_toArray, List.set_cons_zero, List.set_cons_succ]
      refine wpAnyH_take (i := 7) (v := .int .i64 (n : Int)) (op_at rfl) (by kernel_rfl) (by kernel_rfl) (by kernel_rfl) (fun _ _ _ h => h) (Or.inl ⟨by rfl, fun w_ hSw => ?_⟩) H0 ?_
      · skip; go_simp
      try simp only [Act.put, List.setIfInBounds_toArray, List.set_cons_zero, List.set_cons_succ]
      refine wpAnyH_take (i := 8) (v := .slice A1 n c1) (op_at rfl) (by kernel_rfl) (by kernel_rfl) (by kernel_rfl) (fun _ _ _ h => h) (Or.inl ⟨by rfl, fun w_ hSw => ?_⟩) H0 ?_
      · skip; go_simp
      try simp only [Act.put, List.setIfInBounds_toArray, List.set_cons_zero, List.set_cons_succ]
      refine wpAnyH_take (i := 9) (v := .string (strOfNums (l1.take n))) (op_at rfl) (by kernel_rfl) (by kernel_rfl) (by kernel_rfl) (fun _ _ _ h => h) (Or.inl ⟨by rfl, fun w_ hSw => (exec_text (.tmp 31) rfl A1 c1 n (l1.take n) rfl w_ hltA.out (hrowA.out w_ hSw))⟩) H0 ?_
      try simp only [Act.put, List.setIfInBounds_toArray, List.set_cons_zero, List.set_cons_succ]
      refine wpAnyH_ready (rs := [10]) (by kernel_rfl) (by simp) ?_
      refine AllReadyH.cons (op_at rfl) (fun K hK => ?_) AllReadyH.nil
      refine step_put_ (by rfl) 79 (.tmp 4) (.tmp 27) rfl (w.heap.size + 1) 79 [.slice B (l1.length - n) (c1 - n), .bool false] [.slice none 0 0, .bool false] rfl rfl rfl hZ0 (info_in2 _ _) (two_one _ _ rfl rfl) ?_
      intro V1_ hZ_1 hg_1 hs_1
      refine hK.out _ _ (grown_trans H0 hg_1) (fun H1_ => ?_)
      clear hK K
      try simp only [Act.put, List.setIfInBounds_toArray, List.set_cons_zero, List.set_cons_succ]
      refine wpAnyH_take (i := 11) (v := .string (strOfNums (l1.take n))) (op_at rfl) (by kernel_rfl) (by kernel_rfl) (by kernel_rfl) (fun _ _ _ h => h) (Or.inl ⟨by rfl, fun w_ hSw => ?_⟩) H1_ ?_
      · skip; go_simp
      try simp only [Act.put, List.setIfInBounds_toArray, List.set_cons_zero, List.set_cons_succ]
      refine wpAnyH_done (by kernel_rfl) ?_ _
      refine NoPanic.normal ?_
      have hZf := Aside0.mk hZ_1
      have hHf := Aside0.mk H1_
      go_wp2
      exact bodyPost_ret (results_ct rfl _ _ (w.heap.size + 1) 79 #[.slice B (l1.length - n) (c1 - n), .bool false] (0, 0) _ rfl hZf.out Try.underlying79 rfl (info_in2 _ _)) rfl ⟨⟨_, rfl, text_end hc1 hFA.out hByA.out q (by intro k hk; rcases hk with hk | hk <;> first | exact ⟨.inl hk.1, by omega⟩ | exact ⟨.inr (by omega), by omega⟩) hHf.out hBeA.out rfl⟩, hb4A.out.grown hHf.out hb4A.out.size (fun k e => by have := Option.some.inj e; omega)⟩
    · have p1 : (l1.length : Int) < (n : Int) := by omega
      rw [show rdNext n (some l1) = ([], none) by rw [rdNext, if_neg q]]
      go_enter Try.func44, Try.ntmps44
      go_wp2_with (first | ((with_reducible refine gate_dst (N := 8) rfl ?_); rw [show (w.alloc (.cells #[.slice A l.length c, .bool r.isNone] 79)).alloc (.cells #[.slice none 0 0, .bool false] 79) = V from hVA.out.symm]) | (go_at_call 41; ((with_reducible refine hcA.out.mono ?_); rintro e w3 ⟨⟨v1, rfl, hD⟩, hb⟩; obtain ⟨A1, c1, rfl, hc1, hF1, hBy1⟩ := hD; have hD3 : DR (fun k => (ok k ∧ k < w.heap.size) ∨ V.heap.size ≤ k) w3 (.agg #[.slice A1 l1.length c1, .bool false]) (some l1) := ⟨A1, c1, rfl, hc1, hF1, hBy1⟩; clear hF1 hBy1; have hS3 : w.heap.size + 2 ≤ w3.heap.size := (by have := hb.size; omega); have hX3A := Aside0.mk (hXA.out.below hb); have hZ3A := Aside0.mk (hZA.out.below hb); have hb3A := Aside0.mk (below_then hBA.out hBA.out.size hb); have hD3A := Aside0.mk hD3; clear hb hD3 x0 x1)) | (refine wpList_put_blk rfl 79 (.tmp 2) (.tmp 11) rfl w.heap.size 79 [.slice A1 l1.length c1, .bool false] [.slice A l.length c, .bool r.isNone] rfl rfl rfl hX3A.out (info_in2 _ _) (two_one _ _ rfl rfl) ?_; intro w4 hX4 hg4 hs4; have x0 := hX4.get 0 _ rfl; have x1 := hX4.get 1 _ rfl; have hX4A := Aside0.mk hX4; have hZ4A := Aside0.mk (hZ3A.out.grown hg4 (by intro e; have := Option.some.inj e; omega)); have hb4A := Aside0.mk (hb3A.out.grown hg4 hb3A.out.size (fun k e => by have := Option.some.inj e; omega)); have hD4A := Aside0.mk (hD3A.out.grown hg4 (by intro k hk e; have := Option.some.inj e; rcases hk with hk | hk <;> omega)); clear hg4 hX4) | (go_at_call 60; ((with_reducible refine (dwrong_calls _).mono ?_); rintro e w8 ⟨⟨A8, c8, rfl⟩, hb⟩; have hZ8A := Aside0.mk (hZ4A.out.below hb); have hb8A := Aside0.mk (below_then hb4A.out hb4A.out.size hb); clear hb x0 x1)) | (refine wpList_put_blk rfl 79 (.tmp 4) (.tmp 22) rfl (w.heap.size + 1) 79 [.slice A8 0 c8, .bool true] [.slice none 0 0, .bool false] rfl rfl rfl hZ8A.out (info_in2 _ _) (two_one _ _ rfl rfl) ?_; intro w9 hZ9 hg9 hs9))
      exact bodyPost_ret (results_ct rfl _ _ (w.heap.size + 1) 79 #[.slice A8 0 c8, .bool true] (0, 0) _ rfl hZ9 Try.underlying79 rfl (info_in2 _ _)) rfl ⟨⟨_, rfl, A8, c8, rfl⟩, hb8A.out.grown hg9 hb8A.out.size (fun k e => by have := Option.some.inj e; omega)⟩
end
end Go.Proofs.Ytlgfekllkahfaaa.Pack
/- The document's digests read; its end. -/
set_option linter.unusedVariables false
set_option linter.unusedSimpArgs false
namespace Go.Proofs.Ytlgfekllkahfaaa.Pack
open Go.RowKit Go.Proofs.YtlgfekllkahfaaaW.PrintWords Go.Proofs.YtlgfekllkahfaaaW.PrintMore Go.Proofs.Ytlgfekllkahfaaa Go.Proofs.Ytlgfekllkahfaaa.Bits Sha ArrK ShaW
open Go.Proofs.Ytlgfekllkahfaaa.InRound (op_at)
theorem hash_yes {l : List Int} (h : 32 ≤ l.length) : rdHash (some l) = (l.take 32, some (l.drop 32)) := by
  unfold rdHash
  rw [show rdNext 32 (some l) = (l.take 32, some (l.drop 32)) by rw [rdNext, if_pos h]]
  simp only
  rw [if_pos (by rw [List.length_take]; omega)]
theorem hash_no {l : List Int} (h : ¬ 32 ≤ l.length) : rdHash (some l) = (zero32, none) := by
  unfold rdHash
  rw [show rdNext 32 (some l) = ([], none) by rw [rdNext, if_neg h]]
  rfl
theorem nums_step (l : List Int) (k : Nat) (hk : k < 32) (hl : 32 ≤ l.length) : (nums .u8 (l.take k ++ zero32.drop k)).set k (.int .u8 (rd l (k : Int))) = nums .u8 (l.take (k + 1) ++ zero32.drop (k + 1)) := by
  have hr : rd l (k : Int) = l[k]'(by omega) := by unfold rd; rw [Int.toNat_natCast, List.getD_eq_getElem?_getD, List.getElem?_eq_getElem (by omega)]; rfl
  unfold nums
  rw [hr, ← List.map_set]
  congr 1
  rw [List.set_append_right _ _ (by rw [List.length_take]; omega), List.length_take, show k - min k l.length = 0 by omega, List.drop_eq_getElem_cons (by simp [zero32]; omega : k < zero32.length), List.set_cons_zero, List.take_succ_eq_append_getElem (by omega), List.append_assoc]
  rfl
section
variable {ok : Nat → Prop} {w : World} {v : Value} {r : Rd}
set_option maxRecDepth 100000 in
set_option maxHeartbeats 3200000 in
theorem dhash_at (h : DR ok w v r) :
    Calls Try.prog 42 #[v] w fun e w' => (∃ v', e = .returned (.tuple #[v', hv (rdHash r).1]) ∧ DR (fun k => ok k ∨ w.heap.size ≤ k) w' v' (rdHash r).2) ∧ Below w.heap.size w w' := by
  have hq : DR (fun k => ok k ∧ k < w.heap.size) w v r := h.mono (fun k h1 h2 => ⟨h1, h2⟩)
  obtain ⟨l, A, c, rfl, hc, hC, hbl, hl1, hl2⟩ := hq.two
  obtain ⟨V1, hV1⟩ : ∃ V, V = (w.alloc (.cells #[.slice A l.length c, .bool r.isNone] 79)).alloc (.cells #[.slice none 0 0, .bool false] 79) := ⟨_, rfl⟩
  have hX : Blk V1 w.heap.size 79 [.slice A l.length c, .bool r.isNone] := by rw [hV1]; exact (Blk.new w 79 [.slice A l.length c, .bool r.isNone]).alloc _
  have hZ : Blk V1 (w.heap.size + 1) 79 [.slice none 0 0, .bool false] := by
    have := Blk.new (w.alloc (.cells #[.slice A l.length c, .bool r.isNone] 79)) 79 [.slice none 0 0, .bool false]
    rw [hV1]; rwa [World.size_alloc] at this
  have hB1 : Below w.heap.size w V1 := by rw [hV1]; exact below_alloc (below_alloc (Below.refl _ _) _) _
  have hV1s : V1.heap.size = w.heap.size + 1 + 1 := by rw [hV1]; simp
  obtain ⟨V, hV⟩ : ∃ V, V = (V1.alloc (.cells (nums .u8 zero32).toArray 31)).alloc (.cells (nums .u8 zero32).toArray 31) := ⟨_, rfl⟩
  have hX2 : Blk V w.heap.size 79 [.slice A l.length c, .bool r.isNone] := by rw [hV]; exact (hX.alloc _).alloc _
  have hZ2 : Blk V (w.heap.size + 1) 79 [.slice none 0 0, .bool false] := by rw [hV]; exact (hZ.alloc _).alloc _
  have hH2 : Blk V (w.heap.size + 1 + 1) 31 (nums .u8 zero32) := by rw [hV, ← hV1s]; exact (Blk.new V1 _ _).alloc _
  have hH3 : Blk V (w.heap.size + 1 + 1 + 1) 31 (nums .u8 zero32) := by
    have := Blk.new (V1.alloc (.cells (nums .u8 zero32).toArray 31)) 31 (nums .u8 zero32)
    rw [hV, ← hV1s]; rwa [World.size_alloc] at this
  have hB : Below w.heap.size w V := by rw [hV]; exact below_alloc (below_alloc hB1 _) _
  have hVs : V.heap.size = w.heap.size + 1 + 1 + 1 + 1 := by rw [hV]; simp [hV1s]
  have x0 := hX2.get 0 _ rfl
  have x1 := hX2.get 1 _ rfl
  have eV : (((w.alloc (.cells #[.slice A l.length c, .bool r.isNone] 79)).alloc (.cells #[.slice none 0 0, .bool false] 79)).alloc (.cells #[.int .u8 0, .int .u8 0, .int .u8 0, .int .u8 0, .int .u8 0, .int .u8 0, .int .u8 0, .int .u8 0, .int .u8 0, .int .u8 0, .int .u8 0, .int .u8 0, .int .u8 0, .int .u8 0, .int .u8 0, .int .u8 0, .int .u8 0, .int .u8 0, .int .u8 0, .int .u8 0, .int .u8 0, .int .u8 0, .int .u8 0, .int .u8 0, .int .u8 0, .int .u8 0, .int .u8 0, .int .u8 0, .int .u8 0, .int .u8 0, .int .u8 0, .int .u8 0] 31)).alloc (.cells #[.int .u8 0, .int .u8 0, .int .u8 0, .int .u8 0, .int .u8 0, .int .u8 0, .int .u8 0, .int .u8 0, .int .u8 0, .int .u8 0, .int .u8 0, .int .u8 0, .int .u8 0, .int .u8 0, .int .u8 0, .int .u8 0, .int .u8 0, .int .u8 0, .int .u8 0, .int .u8 0, .int .u8 0, .int .u8 0, .int .u8 0, .int .u8 0, .int .u8 0, .int .u8 0, .int .u8 0, .int .u8 0, .int .u8 0, .int .u8 0, .int .u8 0, .int .u8 0] 31) = V := by rw [← hV1]; exact hV.symm
  have eVA := Aside0.mk eV
  have hFA := Aside0.mk (Kd.F_below hC hB); have hbA := Aside0.mk hbl; have hXA := Aside0.mk hX2; have hZA := Aside0.mk hZ2; have hH2A := Aside0.mk hH2; have hH3A := Aside0.mk hH3; have hBA := Aside0.mk hB
  clear eV hV hV1 hX hZ hX2 hZ2 hH2 hH3 hB1 hV1s hB hC hbl hq h
  by_cases q : r = none ∨ ¬ 32 ≤ l.length
  · have hno : rdHash r = (zero32, none) := by
      rcases q with rfl | q
      · rfl
      · cases r with
        | none => rfl
        | some m => obtain rfl := hl1 m rfl; exact hash_no q
    rw [hno]
    have pq : r.isNone = true ∨ (r.isNone = false ∧ (l.length : Int) < 32) := by
      cases r with
      | none => exact .inl rfl
      | some m => refine .inr ⟨rfl, ?_⟩; rcases q with q | q; cases q; omega
    clear hno hl1 hl2 q
    generalize r.isNone = b at *
    rcases pq with rfl | ⟨rfl, p1⟩
    · go_enter Try.func42, Try.ntmps42
      go_wp2_with ((with_reducible refine gate_dst (N := 6) rfl ?_); rw [eVA.out])
      refine wp_region_noPanic ?_
      have H0 : Blk V.drew (w.heap.size + 1 + 1 + 1) 31 (nums .u8 zero32) := hH3A.out
      have hb0 := Aside0.mk (show Below w.heap.size w V.drew from pw_below_drewN hBA.out 1)
      have hz0 : Blk V.drew (w.heap.size + 1) 79 [.slice none 0 0, .bool false] := hZA.out
      have hh0 : Blk V.drew (w.heap.size + 1 + 1) 31 (nums .u8 zero32) := hH2A.out
      refine wp_region_held_drew (S := fun V1 => Blk V1 (w.heap.size + 1 + 1 + 1) 31 (nums .u8 zero32)) (by kernel_rfl) H0 (fun _ => ?_)
      clear x0 x1
      generalize V.drew = V0 at *
      refine wpAnyH_take (i := 1) (v := .agg (nums .u8 zero32).toArray) (op_at rfl) (by kernel_rfl) (by kernel_rfl) (by kernel_rfl) (fun _ _ _ h => h) (yieldsIf_load_any (by rfl) _ _ rfl ⟨w.heap.size + 1 + 1 + 1, 0, none⟩ rfl (nums .u8 zero32) _ (fun w_ hSw => Blk.add hSw) Try.underlying31 rfl (info_hash zero32 rfl)) H0 ?_
      try simp only [Act.put, List.setIfInBounds_toArray, List.set_cons_zero, List.set_cons_succ]
      refine wpAnyH_ready (rs := [0]) (by kernel_rfl) (by simp) ?_
      refine AllReadyH.cons (op_at rfl) (fun K hK => ?_) AllReadyH.nil
      go_simp
      go_at_call 60
      refine (dwrong_calls V0).mono ?_
      rintro e W0 ⟨⟨A8, c8, rfl⟩, hb⟩
      go_wp2_with fail
      refine hK.out _ _ (H0.below hb) (fun H1 => ?_)
      have hz1 := Aside0.mk (hz0.below hb); have hh1 := Aside0.mk (hh0.below hb); have hb1 := Aside0.mk (below_then hb0.out hb0.out.size hb)
      clear hK K hz0 hh0 hb
      try simp only [Act.put, List.setIfInBounds_toArray, List.set_cons_zero, List.set_cons_succ]
      refine wpAnyH_ready (rs := [2]) (by kernel_rfl) (by simp) ?_
      refine AllReadyH.cons (op_at rfl) (fun K hK => ?_) AllReadyH.nil
      refine step_put_ (by rfl) 79 (.tmp 2) (.tmp 14) rfl (w.heap.size + 1) 79 [.slice A8 0 c8, .bool true] [.slice none 0 0, .bool false] rfl rfl rfl hz1.out (info_in2 _ _) (two_one _ _ rfl rfl) ?_
      intro W2 hN2 hG2 hs2
      refine hK.out _ _ (H1.grown hG2 (by intro e; have := Option.some.inj e; omega)) (fun H2 => ?_)
      have hh2 := Aside0.mk (hh1.out.grown hG2 (by intro e; have := Option.some.inj e; omega)); have hb2 := Aside0.mk (hb1.out.grown hG2 hb1.out.size (fun k e => by have := Option.some.inj e; omega)); have hN2A := Aside0.mk hN2
      clear hK K
      try simp only [Act.put, List.setIfInBounds_toArray, List.set_cons_zero, List.set_cons_succ]
      refine wpAnyH_ready (rs := [3]) (by kernel_rfl) (by simp) ?_
      refine AllReadyH.cons (op_at rfl) (fun K hK => ?_) AllReadyH.nil
      refine step_put_ (by rfl) 31 (.tmp 3) (.tmp 15) rfl (w.heap.size + 1 + 1) 31 (nums .u8 zero32) (nums .u8 zero32) rfl rfl rfl hh2.out (info_hash zero32 rfl) (u8_one _) ?_
      intro W3 hN3 hG3 hs3
      refine hK.out _ _ (H2.grown hG3 (by intro e; have := Option.some.inj e; omega)) (fun H3 => ?_)
      have hN3A := Aside0.mk hN3; have hN4A := Aside0.mk (hN2A.out.grown hG3 (by intro e; have := Option.some.inj e; omega)); have hb3 := Aside0.mk (hb2.out.grown hG3 hb2.out.size (fun k e => by have := Option.some.inj e; omega))
      clear hK K
      try simp only [Act.put, List.setIfInBounds_toArray, List.set_cons_zero, List.set_cons_succ]
      refine wpAnyH_done (by kernel_rfl) ?_ _
      refine NoPanic.normal ?_
      go_wp2
      exact bodyPost_ret (results_cc rfl _ _ (w.heap.size + 1) (w.heap.size + 1 + 1) 79 31 #[.slice A8 0 c8, .bool true] (nums .u8 zero32).toArray (0, 0) (0, 0) _ _ rfl hN4A.out Try.underlying79 rfl (info_in2 _ _) rfl hN3A.out Try.underlying31 rfl (info_hash zero32 rfl)) rfl ⟨⟨_, rfl, A8, c8, rfl⟩, hb3.out⟩
    · go_enter Try.func42, Try.ntmps42
      go_wp2_with ((with_reducible refine gate_dst (N := 6) rfl ?_); rw [eVA.out])
      refine wp_region_noPanic ?_
      have H0 : Blk V.drew (w.heap.size + 1 + 1 + 1) 31 (nums .u8 zero32) := hH3A.out
      have hb0 := Aside0.mk (show Below w.heap.size w V.drew from pw_below_drewN hBA.out 1)
      have hz0 : Blk V.drew (w.heap.size + 1) 79 [.slice none 0 0, .bool false] := hZA.out
      have hh0 : Blk V.drew (w.heap.size + 1 + 1) 31 (nums .u8 zero32) := hH2A.out
      refine wp_region_held_drew (S := fun V1 => Blk V1 (w.heap.size + 1 + 1 + 1) 31 (nums .u8 zero32)) (by kernel_rfl) H0 (fun _ => ?_)
      clear x0 x1
      generalize V.drew = V0 at *
      refine wpAnyH_take (i := 1) (v := .agg (nums .u8 zero32).toArray) (op_at rfl) (by kernel_rfl) (by kernel_rfl) (by kernel_rfl) (fun _ _ _ h => h) (yieldsIf_load_any (by rfl) _ _ rfl ⟨w.heap.size + 1 + 1 + 1, 0, none⟩ rfl (nums .u8 zero32) _ (fun w_ hSw => Blk.add hSw) Try.underlying31 rfl (info_hash zero32 rfl)) H0 ?_
      try simp only [Act.put, List.setIfInBounds_toArray, List.set_cons_zero, List.set_cons_succ]
      refine wpAnyH_ready (rs := [0]) (by kernel_rfl) (by simp) ?_
      refine AllReadyH.cons (op_at rfl) (fun K hK => ?_) AllReadyH.nil
      go_simp
      go_at_call 60
      refine (dwrong_calls V0).mono ?_
      rintro e W0 ⟨⟨A8, c8, rfl⟩, hb⟩
      go_wp2_with fail
      refine hK.out _ _ (H0.below hb) (fun H1 => ?_)
      have hz1 := Aside0.mk (hz0.below hb); have hh1 := Aside0.mk (hh0.below hb); have hb1 := Aside0.mk (below_then hb0.out hb0.out.size hb)
      clear hK K hz0 hh0 hb
      try simp only [Act.put, List.setIfInBounds_toArray, List.set_cons_zero, List.set_cons_succ]
      refine wpAnyH_ready (rs := [2]) (by kernel_rfl) (by simp) ?_
      refine AllReadyH.cons (op_at rfl) (fun K hK => ?_) AllReadyH.nil
      refine step_put_ (by rfl) 79 (.tmp 2) (.tmp 14) rfl (w.heap.size + 1) 79 [.slice A8 0 c8, .bool true] [.slice none 0 0, .bool false] rfl rfl rfl hz1.out (info_in2 _ _) (two_one _ _ rfl rfl) ?_
      intro W2 hN2 hG2 hs2
      refine hK.out _ _ (H1.grown hG2 (by intro e; have := Option.some.inj e; omega)) (fun H2 => ?_)
      have hh2 := Aside0.mk (hh1.out.grown hG2 (by intro e; have := Option.some.inj e; omega)); have hb2 := Aside0.mk (hb1.out.grown hG2 hb1.out.size (fun k e => by have := Option.some.inj e; omega)); have hN2A := Aside0.mk hN2
      clear hK K
      try simp only [Act.put, List.setIfInBounds_toArray, List.set_cons_zero, List.set_cons_succ]
      refine wpAnyH_ready (rs := [3]) (by kernel_rfl) (by simp) ?_
      refine AllReadyH.cons (op_at rfl) (fun K hK => ?_) AllReadyH.nil
      refine step_put_ (by rfl) 31 (.tmp 3) (.tmp 15) rfl (w.heap.size + 1 + 1) 31 (nums .u8 zero32) (nums .u8 zero32) rfl rfl rfl hh2.out (info_hash zero32 rfl) (u8_one _) ?_
      intro W3 hN3 hG3 hs3
      refine hK.out _ _ (H2.grown hG3 (by intro e; have := Option.some.inj e; omega)) (fun H3 => ?_)
      have hN3A := Aside0.mk hN3; have hN4A := Aside0.mk (hN2A.out.grown hG3 (by intro e; have := Option.some.inj e; omega)); have hb3 := Aside0.mk (hb2.out.grown hG3 hb2.out.size (fun k e => by have := Option.some.inj e; omega))
      clear hK K
      try simp only [Act.put, List.setIfInBounds_toArray, List.set_cons_zero, List.set_cons_succ]
      refine wpAnyH_done (by kernel_rfl) ?_ _
      refine NoPanic.normal ?_
      go_wp2
      exact bodyPost_ret (results_cc rfl _ _ (w.heap.size + 1) (w.heap.size + 1 + 1) 79 31 #[.slice A8 0 c8, .bool true] (nums .u8 zero32).toArray (0, 0) (0, 0) _ _ rfl hN4A.out Try.underlying79 rfl (info_in2 _ _) rfl hN3A.out Try.underlying31 rfl (info_hash zero32 rfl)) rfl ⟨⟨_, rfl, A8, c8, rfl⟩, hb3.out⟩
  · obtain ⟨m, rfl⟩ : ∃ m, r = some m := by cases r with | none => exact absurd (Or.inl rfl) q | some m => exact ⟨m, rfl⟩
    obtain rfl := hl1 m rfl
    have q32 : 32 ≤ m.length := by by_cases h : 32 ≤ m.length; exact h; exact absurd (Or.inr h) q
    rw [hash_yes q32]
    clear hl1 hl2 q
    have p1 : ¬ (m.length : Int) < 32 := by omega
    simp only [Option.isNone] at eVA hXA x1 ⊢
    go_enter Try.func42, Try.ntmps42
    go_wp2_with ((with_reducible refine gate_dst (N := 6) rfl ?_); rw [eVA.out])
    go_loopw [5] (fun i wr => ∃ k : Nat, k ≤ 32 ∧ i = .int .i64 (k : Int) ∧ Blk wr (w.heap.size + 1 + 1 + 1) 31 (nums .u8 (m.take k ++ zero32.drop k)) ∧ V.grownBy wr (some (w.heap.size + 1 + 1 + 1))) (fun i _ => 32 - (intOf i).toNat)
    case atStart => exact ⟨0, by omega, rfl, hH3A.out, grown_refl _ _⟩
    case round =>
      clear x0 x1
      obtain ⟨k, hk, rfl, hH, hg⟩ := hrel
      have x0 := (hXA.out.grown hg (by intro e; have := Option.some.inj e; omega)).get 0 _ rfl
      by_cases hlt : k < 32
      · have p2 : (k : Int) < 32 := by omega
        have p0 : (0 : Int) ≤ (k : Int) := by omega
        have p3 : (k : Int) < (m.length : Int) := by omega
        have e2 : IntKind.i64.wrap ((k : Int) + 1) = (k : Int) + 1 := IntWalk.i64_in _ (by omega)
        have hCr := Kd.F_now (Kd.F_grown hFA.out hg (fun k hk e => by have := Option.some.inj e; have := hk.2; omega))
        obtain ⟨ad, rfl, -⟩ := hCr.2.2 (by omega)
        have g := Kd.foot_int hCr (k : Int) p0 p3
        rw [Int.toNat_natCast] at g
        have hlk : (m.take k ++ zero32.drop k).length = 32 := by simp [zero32]; omega
        obtain ⟨z0, h0⟩ : ∃ z, wr.cell? ⟨w.heap.size + 1 + 1 + 1, k, none⟩ = some z := ⟨_, hH.get k _ (List.getElem?_eq_getElem (by unfold nums; rw [List.length_map, hlk]; exact hlt))⟩
        have f0 := hH.fz k
        have hH' := hH.set k (.int .u8 (rd m (k : Int)))
        rw [nums_step m k hlt q32] at hH'
        have hHA := Aside0.mk hH'; have hgA := Aside0.mk (grown_trans hg (grown_set wr (w.heap.size + 1 + 1 + 1) k (.int .u8 (rd m (k : Int)))))
        clear hH hg hH' hCr hlk
        go_wp2_with fail
        go_roundw
        · exact ⟨k + 1, by omega, by go_num, hHA.out, hgA.out⟩
        · simp [intOf]; omega
      · obtain rfl : k = 32 := by omega
        have p2 : ¬ ((32 : Nat) : Int) < 32 := by omega
        rw [show m.take 32 ++ zero32.drop 32 = m.take 32 by simp [zero32]] at hH
        have ht32 : (m.take 32).length = 32 := by rw [List.length_take]; omega
        have hX' := hXA.out.grown hg (by intro e; have := Option.some.inj e; omega)
        have hZ' := Aside0.mk (hZA.out.grown hg (by intro e; have := Option.some.inj e; omega))
        have hH2' := Aside0.mk (hH2A.out.grown hg (by intro e; have := Option.some.inj e; omega))
        have hF' := Aside0.mk (Kd.F_grown hFA.out hg (fun k hk e => by have := Option.some.inj e; have := hk.2; omega))
        have hb' := Aside0.mk (hBA.out.grown hg hBA.out.size (fun k e => by have := Option.some.inj e; omega))
        have hHX := Aside0.mk (And.intro hX' hH); have htA := Aside0.mk ht32
        obtain ⟨B, hBe⟩ : ∃ B, B = if c = 32 then A else A.map (·.add 32) := ⟨_, rfl⟩
        have hBeA := Aside0.mk hBe
        clear hBe hX' hH hg ht32
        go_wp2_with fail
        refine wp_region_noPanic ?_
        have H0 : Blk wr.drew w.heap.size 79 [.slice A m.length c, .bool false] ∧ Blk wr.drew (w.heap.size + 1 + 1 + 1) 31 (nums .u8 (m.take 32)) := hHX.out
        have hb0 := Aside0.mk (show Below w.heap.size w wr.drew from pw_below_drewN hb'.out 1)
        have hz0 := Aside0.mk (show Blk wr.drew (w.heap.size + 1) 79 [.slice none 0 0, .bool false] from hZ'.out)
        have hh0 := Aside0.mk (show Blk wr.drew (w.heap.size + 1 + 1) 31 (nums .u8 zero32) from hH2'.out)
        have hf0 := Aside0.mk (Kd.F_drew hF'.out)
        refine wp_region_held_drew (S := (fun V1 => Blk V1 w.heap.size 79 [.slice A m.length c, .bool false] ∧ Blk V1 (w.heap.size + 1 + 1 + 1) 31 (nums .u8 (m.take 32)))) (by kernel_rfl) H0 (fun _ => ?_)
        clear x0 hHX hF' hb' hZ' hH2'
        generalize wr.drew = V0 at *
        refine wpAnyH_take (i := 0) (v := .pointer (some ⟨w.heap.size, 0, none⟩)) (op_at rfl) (by kernel_rfl) (by kernel_rfl) (by kernel_rfl) (fun _ _ _ h => h) (Or.inl ⟨by rfl, fun w_ hSw => ?_⟩) H0 ?_
        · skip; go_simp
        try simp only [Act.put, List.setIfInBounds_toArray, List.set_cons_zero, List.set_cons_succ]
        refine wpAnyH_take (i := 1) (v := .slice A m.length c) (op_at rfl) (by kernel_rfl) (by kernel_rfl) (by kernel_rfl) (fun _ _ _ h => h) (Or.inl ⟨by rfl, fun w_ hSw => ?_⟩) H0 ?_
        · have hc_ := hSw.1.get 0 _ rfl; clear hSw H0; go_simp
        try simp only [Act.put, List.setIfInBounds_toArray, List.set_cons_zero, List.set_cons_succ]
        refine wpAnyH_take (i := 2) (v := .slice B (m.length - 32) (c - 32)) (op_at rfl) (by kernel_rfl) (by kernel_rfl) (by kernel_rfl) (fun _ _ _ h => h) (Or.inl ⟨by rfl, fun w_ hSw => (by rw [hBeA.out]; exact exec_cut (.tmp 28) (.const (.int .i64 32)) rfl A m.length c 32 rfl rfl q32 hc w_)⟩) H0 ?_
        try simp only [Act.put, List.setIfInBounds_toArray, List.set_cons_zero, List.set_cons_succ]
        refine wpAnyH_take (i := 3) (v := .agg #[.slice B (m.length - 32) (c - 32), .bool false]) (op_at rfl) (by kernel_rfl) (by kernel_rfl) (by kernel_rfl) (fun _ _ _ h => h) (Or.inl ⟨by rfl, fun w_ hSw => ?_⟩) H0 ?_
        · clear hSw H0; go_simp
        try simp only [Act.put, List.setIfInBounds_toArray, List.set_cons_zero, List.set_cons_succ]
        refine wpAnyH_take (i := 4) (v := .agg (nums .u8 (m.take 32)).toArray) (op_at rfl) (by kernel_rfl) (by kernel_rfl) (by kernel_rfl) (fun _ _ _ h => h) (yieldsIf_load_any (by rfl) _ _ rfl ⟨w.heap.size + 1 + 1 + 1, 0, none⟩ rfl (nums .u8 (m.take 32)) _ (fun w_ hSw => Blk.add hSw.2) Try.underlying31 rfl (info_hash _ htA.out)) H0 ?_
        try simp only [Act.put, List.setIfInBounds_toArray, List.set_cons_zero, List.set_cons_succ]
        refine wpAnyH_ready (rs := [5]) (by kernel_rfl) (by simp) ?_
        refine AllReadyH.cons (op_at rfl) (fun K hK => ?_) AllReadyH.nil
        refine step_put_ (by rfl) 79 (.tmp 2) (.tmp 30) rfl (w.heap.size + 1) 79 [.slice B (m.length - 32) (c - 32), .bool false] [.slice none 0 0, .bool false] rfl rfl rfl hz0.out (info_in2 _ _) (two_one _ _ rfl rfl) ?_
        intro W5 hN5 hG5 hs5
        refine hK.out _ _ ⟨H0.1.grown hG5 (by intro e; have := Option.some.inj e; omega), H0.2.grown hG5 (by intro e; have := Option.some.inj e; omega)⟩ (fun H5 => ?_)
        have hh5 := Aside0.mk (hh0.out.grown hG5 (by intro e; have := Option.some.inj e; omega)); have hb5 := Aside0.mk (hb0.out.grown hG5 hb0.out.size (fun k e => by have := Option.some.inj e; omega)); have hf5 := Aside0.mk (Kd.F_grown hf0.out hG5 (fun k hk e => by have := Option.some.inj e; have := hk.2; omega)); have hN5A := Aside0.mk hN5
        clear hK K
        try simp only [Act.put, List.setIfInBounds_toArray, List.set_cons_zero, List.set_cons_succ]
        refine wpAnyH_ready (rs := [6]) (by kernel_rfl) (by simp) ?_
        refine AllReadyH.cons (op_at rfl) (fun K hK => ?_) AllReadyH.nil
        refine step_put_ (by rfl) 31 (.tmp 3) (.tmp 31) rfl (w.heap.size + 1 + 1) 31 (nums .u8 (m.take 32)) (nums .u8 zero32) (by unfold nums; rw [List.length_map, List.length_map, htA.out]; rfl) rfl rfl hh5.out (info_hash _ htA.out) (u8_one _) ?_
        intro W6 hN6 hG6 hs6
        refine hK.out _ _ ⟨H5.1.grown hG6 (by intro e; have := Option.some.inj e; omega), H5.2.grown hG6 (by intro e; have := Option.some.inj e; omega)⟩ (fun H6 => ?_)
        have hN6A := Aside0.mk hN6; have hN7A := Aside0.mk (hN5A.out.grown hG6 (by intro e; have := Option.some.inj e; omega)); have hb6 := Aside0.mk (hb5.out.grown hG6 hb5.out.size (fun k e => by have := Option.some.inj e; omega)); have hG6A := Aside0.mk hG6
        clear hK K
        try simp only [Act.put, List.setIfInBounds_toArray, List.set_cons_zero, List.set_cons_succ]
        refine wpAnyH_done (by kernel_rfl) ?_ _
        refine NoPanic.normal ?_
        clear H0 H5 H6
        go_wp2
        exact bodyPost_ret (results_cc rfl _ _ (w.heap.size + 1) (w.heap.size + 1 + 1) 79 31 #[.slice B (m.length - 32) (c - 32), .bool false] (nums .u8 (m.take 32)).toArray (0, 0) (0, 0) _ _ rfl hN7A.out Try.underlying79 rfl (info_in2 _ _) rfl hN6A.out Try.underlying31 rfl (info_hash _ htA.out)) rfl ⟨⟨_, rfl, text_end hc hf5.out hbA.out q32 (fun k hk => ⟨.inl hk.1, by have := hk.2; omega⟩) hG6A.out hBeA.out rfl⟩, hb6.out⟩
end
end Go.Proofs.Ytlgfekllkahfaaa.Pack
/- The document's transaction read. -/
set_option linter.unusedVariables false
set_option linter.unusedSimpArgs false
namespace Go.Proofs.Ytlgfekllkahfaaa.Pack
open Go.RowKit Go.Proofs.YtlgfekllkahfaaaW.PrintWords Go.Proofs.YtlgfekllkahfaaaW.PrintMore Go.Proofs.Ytlgfekllkahfaaa Go.Proofs.Ytlgfekllkahfaaa.Bits Sha ArrK ShaW
open Go.Proofs.Ytlgfekllkahfaaa.InRound (op_at)
theorem dend_calls {ok : Nat → Prop} {w : World} {v : Value} {r : Rd} (h : DR ok w v r) : Calls Try.prog 46 #[v] w fun e w' => e = .returned (.bool (rdEnd r).isNone) ∧ Below w.heap.size w w' := by
  obtain ⟨l, A, c, rfl, hc, hC, -, h1, h2⟩ := h.two
  refine Go.Proofs.Ytlgfekllkahfaaa.V.gossamerref08_End.calls A c l r.isNone (rdEnd r).isNone w (Kd.F_now hC) hc ?_
  unfold Go.Proofs.Ytlgfekllkahfaaa.V.gossamerref08_End.f
  cases r with
  | none => rfl
  | some m =>
    obtain rfl := h1 m rfl
    rw [if_neg (by simp)]
    cases m with
    | nil => rfl
    | cons x m => simp [rdEnd]; try omega
/-- a whole value stored over a block's first cells -/
theorem wpList_put_front {P : Program} {ops : Array Oper} {rest : List Oper} {op : Oper} {a : Act} {w : World} {Q : Exit → Act → World → Prop} (hgd : op.guard = none) (ty : TypeId) (x y : Operand) (ho : op.op = .store ty x y)
    (b t : Nat) (vs cs : List Value) (hl : vs.length ≤ cs.length) (hx : a.eval x = .pointer (some ⟨b, 0, none⟩)) (hy : a.eval y = .agg vs.toArray) (hbk : Blk w b t cs)
    (hi : (P.info? ty).map (·.size) = some vs.length) (h1 : ∀ u ∈ vs, u.oneCell' = true)
    (hk : ∀ W1, Blk W1 b t (vs ++ cs.drop vs.length) → w.grownBy W1 (some b) → W1.heap.size = w.heap.size → wpList P ops Q rest (a.put op.dst undef) W1) : wpList P ops Q (op :: rest) a w := by
  have ht : w.there b 0 vs.length := fun j hj => by
    refine ⟨?_, hbk.fz _⟩
    rw [hbk.get (0 + j) (cs[j]'(by omega)) (by rw [Nat.zero_add]; exact List.getElem?_eq_getElem (by omega))]; rfl
  refine wpList_store_mid hgd ty x y ho b 0 vs.toArray hx hy (by simpa using ht) (by simpa using hi) (by simpa using h1) ?_
  have hb := blk_setCells vs 0 w cs hbk (by omega)
  rw [List.take_zero, List.nil_append, Nat.zero_add] at hb
  have hs : (w.setCells b 0 vs).heap.size = w.heap.size := by
    have : ∀ (l : List Value) (o : Nat) (W : World), (W.setCells b o l).heap.size = W.heap.size := by
      intro l
      induction l with
      | nil => intro o W; rfl
      | cons u l ih => intro o W; rw [World.setCells, ih]; simp [World.setCell]
    exact this vs 0 w
  have hg : w.grownBy (w.setCells b 0 vs) (some b) := by
    have hbl := ArrK.below_setCells (w := w) b (Nat.le_refl b) vs 0 w (Below.refl _ _)
    refine ⟨hbl.os, hbl.tape, hbl.output, by omega, fun k hk hne => World.heap_setCells_other w b 0 vs hk (fun e => hne (by rw [e]))⟩
  exact hk _ hb hg hs
theorem spc_front (h : List Int) : nums .u8 h ++ (spc zsp).drop 32 = spc ⟨h, 0, ByteArray.empty, 0⟩ := rfl
theorem spc_set32 (h : List Int) (n n' : Int) (k : ByteArray) (s : Int) (hl : h.length = 32) : (spc ⟨h, n, k, s⟩).set 32 (.int .i64 n') = spc ⟨h, n', k, s⟩ := by
  unfold spc; rw [List.set_append_right _ _ (by simp [nums, hl])]; simp [nums, hl]
theorem DR.form {ok : Nat → Prop} {w : World} {v : Value} {r : Rd} (h : DR ok w v r) : ∃ (A : Option Addr) (n c : Nat) (b : Bool), v = .agg #[.slice A n c, .bool b] := by
  cases r with
  | none => obtain ⟨A, c, rfl⟩ := h; exact ⟨A, 0, c, true, rfl⟩
  | some l => obtain ⟨A, c, rfl, -⟩ := h; exact ⟨A, l.length, c, false, rfl⟩
/-- the blocks in which the reader may read -/
def okk (w : World) (S : Nat) (x y : Value) (k : Nat) : Prop := k ≠ w.heap.size ∧ k ≠ w.heap.size + 1 ∧ k ≠ w.heap.size + 1 + 1 ∧ k ≠ S ∧ some k ≠ x.ownBlock ∧ some k ≠ y.ownBlock
/-- what the document's Read keeps: its reader, its transaction; S: a box that is written -/
structure RdSt (w : World) (S : Nat) (W : World) (r : Rd) (ls : List Sp) (lc : List Co) (x y : Value) (fm : Bool) (a b : Value) : Prop where
  d : DR (okk w S x y) W (.agg #[a, b]) r
  i : Blk W (w.heap.size + 1) 79 [a, b]
  t : Blk W (w.heap.size + 1 + 1) 25 [x, y, .bool fm]
  z : Blk W w.heap.size 25 [.slice none 0 0, .slice none 0 0, .bool false]
  s : Kd.R kSp 36 W (w.heap.size + 1 + 1 + 1) (fun k => k ≠ S) x ls
  c : Kd.R kCo 38 W (w.heap.size + 1 + 1 + 1) (fun k => k ≠ S) y lc
  b : Below w.heap.size w W
  n : w.heap.size + 1 + 1 + 1 ≤ W.heap.size
  l : S < W.heap.size
section
variable {w W W1 : World} {S : Nat} {r : Rd} {ls ls1 : List Sp} {lc lc1 : List Co} {x y x1 y1 a b : Value} {fm : Bool}
theorem RdSt.below (h : RdSt w S W r ls lc x y fm a b) (hb : Below W.heap.size W W1) : RdSt w S W1 r ls lc x y fm a b :=
  ⟨h.d.below hb, h.i.below hb, h.t.below hb, h.z.below hb, Kd.R_below h.s hb, Kd.R_below h.c hb, below_then h.b h.b.size hb, Nat.le_trans h.n hb.size, Nat.lt_of_lt_of_le h.l hb.size⟩
theorem RdSt.new (h : RdSt w S W r ls lc x y fm a b) : ∀ k, okk w S x y k ∨ W.heap.size ≤ k → okk w S x y k := by
  rintro k (hk | hk)
  · exact hk
  · have h1 := h.n; have h2 := h.l
    exact ⟨by omega, by omega, by omega, by omega, fun e => by have := Kd.R_lt h.s k e.symm; omega, fun e => by have := Kd.R_lt h.c k e.symm; omega⟩
/-- the reader stored -/
theorem RdSt.put (h : RdSt w S W r ls lc x y fm a b) (hg : W.grownBy W1 (some (w.heap.size + 1))) {r' : Rd} {a' b' : Value} (hd : DR (okk w S x y) W (.agg #[a', b']) r') (hi : Blk W1 (w.heap.size + 1) 79 [a', b']) : RdSt w S W1 r' ls lc x y fm a' b' :=
  ⟨hd.grown hg (fun k hk e => hk.2.1 (Option.some.inj e)), hi, h.t.grown hg (by intro e; have := Option.some.inj e; omega), h.z.grown hg (by intro e; have := Option.some.inj e; omega), R_over_P h.s (by omega) hg, R_over_P h.c (by omega) hg, h.b.grown hg h.b.size (fun k e => by have := Option.some.inj e; omega), Nat.le_trans h.n hg.size, Nat.lt_of_lt_of_le h.l hg.size⟩
/-- a new box -/
theorem RdSt.enter {S0 : Nat} (h : RdSt w S0 W r ls lc x y fm a b) (hb : Below W.heap.size W W1) (hs : W.heap.size < W1.heap.size) : RdSt w W.heap.size W1 r ls lc x y fm a b :=
  ⟨(h.d.mono (fun k hk hl => ⟨hk.1, hk.2.1, hk.2.2.1, by omega, hk.2.2.2.2.1, hk.2.2.2.2.2⟩)).below hb, h.i.below hb, h.t.below hb, h.z.below hb, Kd.R_below (R_elders h.s) hb, Kd.R_below (R_elders h.c) hb, below_then h.b h.b.size hb, Nat.le_trans h.n hb.size, hs⟩
/-- the box written -/
theorem RdSt.box (h : RdSt w S W r ls lc x y fm a b) (hS : w.heap.size + 1 + 1 + 1 ≤ S) (hg : W.grownBy W1 (some S)) : RdSt w S W1 r ls lc x y fm a b :=
  ⟨h.d.grown hg (fun k hk e => hk.2.2.2.1 (Option.some.inj e)), h.i.grown hg (by intro e; have := Option.some.inj e; omega), h.t.grown hg (by intro e; have := Option.some.inj e; omega), h.z.grown hg (by intro e; have := Option.some.inj e; omega), Kd.R_grown h.s hg (fun k hk e => hk (Option.some.inj e)), Kd.R_grown h.c hg (fun k hk e => hk (Option.some.inj e)), h.b.grown hg h.b.size (fun k e => by have := Option.some.inj e; omega), Nat.le_trans h.n hg.size, Nat.lt_of_lt_of_le h.l hg.size⟩
theorem R_noS {α : Type} {d : Kd α} {e base : Nat} {ok : Nat → Prop} {W : World} {v : Value} {l : List α} (hR : Kd.R d e W base ok v l) {q : Nat} (hq : q < base) : Kd.R d e W base (fun k => k ≠ q) v l := Kd.R_mono (Kd.R_bound hR) (fun k hk => by have := hk.2.1; omega)
theorem own_fresh {v v1 : Value} {k n : Nat} (hat : v1.ownBlock = v.ownBlock ∨ ∃ b, v1.ownBlock = some b ∧ n ≤ b) (hk : k < n) (h : some k ≠ v.ownBlock) : some k ≠ v1.ownBlock := by
  rcases hat with hat | ⟨b, hat, hb⟩
  · rw [hat]; exact h
  · rw [hat]; intro e; have := Option.some.inj e; omega
/-- a spend appended, and stored -/
theorem RdSt.appS (h : RdSt w S W r ls lc x y fm a b) (hR : Kd.R kSp 36 W1 (w.heap.size + 1 + 1 + 1) (fun k => k ≠ S) x1 ls1) (hg : W.grownBy W1 x.ownBlock) (hat : x1.ownBlock = x.ownBlock ∨ ∃ b, x1.ownBlock = some b ∧ W.heap.size ≤ b) :
    RdSt w w.heap.size (W1.setCell ⟨w.heap.size + 1 + 1, 0, none⟩ x1) r ls1 lc x1 y fm a b := by
  have hnb : ∀ q, q < w.heap.size + 1 + 1 + 1 → some q ≠ x.ownBlock := fun q hq e => by have := Kd.R_base h.s q e.symm; omega
  have ht := (h.t.grown hg (hnb _ (by omega))).set 0 x1
  have hg2 := grown_set W1 (w.heap.size + 1 + 1) 0 x1
  have hc := Kd.R_grown (Kd.R_apartR h.c h.s (by decide)) hg (fun _ hk => hk.2)
  have hd := (((h.d.mono (ok' := fun k => okk w S x y k ∧ k < W.heap.size) (fun k h1 h2 => ⟨h1, h2⟩)).grown hg (fun k hk => hk.1.2.2.2.2.1)).grown hg2 (fun k hk e => hk.1.2.2.1 (Option.some.inj e))).mono (ok' := okk w w.heap.size x1 y) (fun k hk _ => ⟨hk.1.1, hk.1.2.1, hk.1.2.2.1, hk.1.1, own_fresh hat hk.2 hk.1.2.2.2.2.1, hk.1.2.2.2.2.2⟩)
  exact ⟨hd, (h.i.grown hg (hnb _ (by omega))).grown hg2 (by intro e; have := Option.some.inj e; omega), ht, (h.z.grown hg (hnb _ (by omega))).grown hg2 (by intro e; have := Option.some.inj e; omega), R_over_P (R_noS hR (by omega)) (by omega) hg2, R_over_P (R_noS hc (by omega)) (by omega) hg2, (h.b.grown hg h.b.size (fun k e => by have := Kd.R_base h.s k e; omega)).grown hg2 (Nat.le_trans h.b.size hg.size) (fun k e => by have := Option.some.inj e; omega), Nat.le_trans h.n (Nat.le_trans hg.size hg2.size), Nat.lt_of_lt_of_le (by have := h.n; omega) (Nat.le_trans hg.size hg2.size)⟩
/-- a coin appended, and stored -/
theorem RdSt.appC (h : RdSt w S W r ls lc x y fm a b) (hR : Kd.R kCo 38 W1 (w.heap.size + 1 + 1 + 1) (fun k => k ≠ S) y1 lc1) (hg : W.grownBy W1 y.ownBlock) (hat : y1.ownBlock = y.ownBlock ∨ ∃ b, y1.ownBlock = some b ∧ W.heap.size ≤ b) :
    RdSt w w.heap.size (W1.setCell ⟨w.heap.size + 1 + 1, 1, none⟩ y1) r ls lc1 x y1 fm a b := by
  have hnb : ∀ q, q < w.heap.size + 1 + 1 + 1 → some q ≠ y.ownBlock := fun q hq e => by have := Kd.R_base h.c q e.symm; omega
  have ht := (h.t.grown hg (hnb _ (by omega))).set 1 y1
  have hg2 := grown_set W1 (w.heap.size + 1 + 1) 1 y1
  have hc := Kd.R_grown (Kd.R_apartR h.s h.c (by decide)) hg (fun _ hk => hk.2)
  have hd := (((h.d.mono (ok' := fun k => okk w S x y k ∧ k < W.heap.size) (fun k h1 h2 => ⟨h1, h2⟩)).grown hg (fun k hk => hk.1.2.2.2.2.2)).grown hg2 (fun k hk e => hk.1.2.2.1 (Option.some.inj e))).mono (ok' := okk w w.heap.size x y1) (fun k hk _ => ⟨hk.1.1, hk.1.2.1, hk.1.2.2.1, hk.1.1, hk.1.2.2.2.2.1, own_fresh hat hk.2 hk.1.2.2.2.2.2⟩)
  exact ⟨hd, (h.i.grown hg (hnb _ (by omega))).grown hg2 (by intro e; have := Option.some.inj e; omega), ht, (h.z.grown hg (hnb _ (by omega))).grown hg2 (by intro e; have := Option.some.inj e; omega), R_over_P (R_noS hc (by omega)) (by omega) hg2, R_over_P (R_noS hR (by omega)) (by omega) hg2, (h.b.grown hg h.b.size (fun k e => by have := Kd.R_base h.c k e; omega)).grown hg2 (Nat.le_trans h.b.size hg.size) (fun k e => by have := Option.some.inj e; omega), Nat.le_trans h.n (Nat.le_trans hg.size hg2.size), Nat.lt_of_lt_of_le (by have := h.n; omega) (Nat.le_trans hg.size hg2.size)⟩
/-- whether it is firm, stored -/
theorem RdSt.firm (h : RdSt w w.heap.size W r ls lc x y fm a b) (f : Bool) : RdSt w w.heap.size (W.setCell ⟨w.heap.size + 1 + 1, 2, none⟩ (.bool f)) r ls lc x y f a b := by
  have hg2 := grown_set W (w.heap.size + 1 + 1) 2 (.bool f)
  exact ⟨h.d.grown hg2 (fun k hk e => hk.2.2.1 (Option.some.inj e)), h.i.grown hg2 (by intro e; have := Option.some.inj e; omega), h.t.set 2 (.bool f), h.z.grown hg2 (by intro e; have := Option.some.inj e; omega), R_over_P h.s (by omega) hg2, R_over_P h.c (by omega) hg2, h.b.grown hg2 h.b.size (fun k e => by have := Option.some.inj e; omega), Nat.le_trans h.n hg2.size, Nat.lt_of_lt_of_le h.l hg2.size⟩
end
end Go.Proofs.Ytlgfekllkahfaaa.Pack
/- The document's transaction read: the walk. -/
set_option linter.unusedVariables false
set_option linter.unusedSimpArgs false
namespace Go.Proofs.Ytlgfekllkahfaaa.Pack
open Go.RowKit Go.Proofs.YtlgfekllkahfaaaW.PrintWords Go.Proofs.YtlgfekllkahfaaaW.PrintMore Go.Proofs.Ytlgfekllkahfaaa Go.Proofs.Ytlgfekllkahfaaa.Bits Sha ArrK ShaW
open Go.Proofs.Ytlgfekllkahfaaa.InRound (op_at)
theorem rgood_calls (x : Int) (W : World) : Calls Try.prog 45 #[.int .i64 x] W fun e w' => e = .returned (.bool (good x)) ∧ Drawn0 W w' :=
  Go.Proofs.Ytlgfekllkahfaaa.V.gossamerref09_Good.calls x (good x) W (by
    unfold Go.Proofs.Ytlgfekllkahfaaa.V.gossamerref09_Good.f good
    by_cases h : 0 ≤ x
    · rw [if_pos h]; simp [h]
    · rw [if_neg h]; simp [h])
set_option maxRecDepth 100000 in
set_option maxHeartbeats 12800000 in
theorem dread_calls (w : World) (A : Option Addr) (c : Nat) (l : List Int) (hC : Kd.C (Kd.int .u8) w A l.length l) (hc : l.length ≤ c) (hb : Bytes l) (hl : l.length ≤ 1000000000) :
    Calls Try.prog 18 #[.slice A l.length c] w fun e w' => (∃ v1 v2, e = .returned (.tuple #[.agg #[v1, v2, .bool ((rdTx l).getD ztx).firm], .bool (!rdBad l)]) ∧ RSp w.heap.size w' v1 ((rdTx l).getD ztx).sp ∧ RCo w.heap.size w' v2 ((rdTx l).getD ztx).co) ∧ Below w.heap.size w w' := by
  have hrb0 : RB (some l) := fun m h => by cases h; exact hb
  have hrl0 : RL (some l) := fun m h => by cases h; exact hl
  have hrb1 := rb_count (most := 8) hrb0
  have hrl1 := rl_count (most := 8) hrl0
  have hle1 := count_le 8 (some l)
  obtain ⟨V, hV⟩ : ∃ V, V = ((w.alloc (.cells #[.slice none 0 0, .slice none 0 0, .bool false] 25)).alloc (.cells #[.slice A l.length c, .bool false] 79)).alloc (.cells #[.slice none 0 0, .slice none 0 0, .bool false] 25) := ⟨_, rfl⟩
  have hB : Below w.heap.size w V := by rw [hV]; exact below_alloc (below_alloc (below_alloc (Below.refl _ _) _) _) _
  have hVs : V.heap.size = w.heap.size + 1 + 1 + 1 := by rw [hV]; simp
  have hS0 : RdSt w w.heap.size V (some l) [] [] (.slice none 0 0) (.slice none 0 0) false (.slice A l.length c) (.bool false) := by
    refine ⟨⟨A, c, rfl, hc, Kd.F_mono (Kd.F_below (F_of_C8 hC) hB) (fun k hk => ⟨by omega, by omega, by omega, by omega, by simp [Value.ownBlock], by simp [Value.ownBlock]⟩), hb⟩, ?_, ?_, ?_, Kd.R_nil _ _ _ _ _, Kd.R_nil _ _ _ _ _, hB, by omega, by omega⟩
    · rw [hV]
      have := (Blk.new (w.alloc (.cells #[.slice none 0 0, .slice none 0 0, .bool false] 25)) 79 [.slice A l.length c, .bool false]).alloc (.cells #[.slice none 0 0, .slice none 0 0, .bool false] 25)
      rwa [World.size_alloc] at this
    · rw [hV]
      have := Blk.new ((w.alloc (.cells #[.slice none 0 0, .slice none 0 0, .bool false] 25)).alloc (.cells #[.slice A l.length c, .bool false] 79)) 25 [.slice none 0 0, .slice none 0 0, .bool false]
      rwa [World.size_alloc, World.size_alloc] at this
    · rw [hV]
      exact ((Blk.new w 25 [.slice none 0 0, .slice none 0 0, .bool false]).alloc _).alloc _
  have hVA := Aside0.mk hV
  have cCnt := Aside0.mk (dcnt_at 8 8 rfl (by decide) hrl0 hS0.d)
  have hS0 := Aside0.mk hS0
  have x0 := hS0.out.i.get 0 _ rfl
  have x1 := hS0.out.i.get 1 _ rfl
  clear hV hB hC hc hb hl
  have hspd : rdSpends (some l) = rdList rdSpend (rdCount 8 (some l)).1 (rdCount 8 (some l)).2 := rfl
  have hcod : rdCoins (rdSpends (some l)).2 = rdList rdCoin (rdCount 8 (rdSpends (some l)).2).1 (rdCount 8 (rdSpends (some l)).2).2 := rfl
  have hrb2 : RB (rdSpends (some l)).2 := rb_list rb_spend _ hrb1
  have hrl2 : RL (rdSpends (some l)).2 := rl_list rl_spend _ hrl1
  have hrb3 := rb_count (most := 8) hrb2
  have hrl3 := rl_count (most := 8) hrl2
  have hle3 := count_le 8 (rdSpends (some l)).2
  have hrb4 : RB (rdCoins (rdSpends (some l)).2).2 := rb_list rb_coin _ hrb3
  have hfb := num_bound (n := 1) hrb4
  obtain ⟨T, hT⟩ : ∃ T, (rdTx l).getD ztx = T := ⟨_, rfl⟩
  obtain ⟨bad, hbad⟩ : ∃ b, rdBad l = b := ⟨_, rfl⟩
  rw [hT, hbad]
  unfold rdTx at hT
  rw [hbad] at hT
  unfold rdBad at hbad
  unfold rdFirm at hT hbad
  generalize rdSpends (some l) = zS at *
  obtain ⟨lsA, r2⟩ := zS
  generalize rdCount 8 (some l) = z1 at *
  obtain ⟨n, r1⟩ := z1
  simp only at cCnt hrb1 hrl1 hle1 hspd hcod hrb2 hrl2 hrb3 hrl3 hle3 hrb4 hfb hT hbad
  have cC2 := Aside0.mk (fun (ok : Nat → Prop) W u (h : DR ok W u r2) => dcnt_at 8 8 rfl (by decide) hrl2 h)
  generalize rdCoins r2 = zC at *
  obtain ⟨lcA, r3⟩ := zC
  generalize rdCount 8 r2 = z2 at *
  obtain ⟨n2, rc1⟩ := z2
  simp only at cC2 hrb3 hrl3 hle3 hcod hrb4 hfb hT hbad
  have cF := Aside0.mk (fun (ok : Nat → Prop) W u (h : DR ok W u r3) => dnum_at 1 1 rfl (.inl rfl) h)
  generalize rdNum 1 r3 = z3 at *
  obtain ⟨f, r4⟩ := z3
  simp only at cF hfb hT hbad
  have cE := Aside0.mk (fun (ok : Nat → Prop) W u (h : DR ok W u r4) => dend_calls h)
  generalize rdEnd r4 = en at *
  have hspA := Aside0.mk hspd; have hcoA := Aside0.mk hcod; have hTA := Aside0.mk hT; have hbadA := Aside0.mk hbad
  clear hspd hcod hrb0 hrl0 hT hbad hrb2 hrl2 hrb4
  go_enter Try.func18, Try.ntmps18
  go_wp2_with (first | (go_at_call 41; rw [show ((w.alloc (.cells #[.slice none 0 0, .slice none 0 0, .bool false] 25)).alloc (.cells #[.slice A l.length c, .bool false] 79)).alloc (.cells #[.slice none 0 0, .slice none 0 0, .bool false] 25) = V from hVA.out.symm]; ((with_reducible refine (cCnt.out).mono ?_); rintro e w1 ⟨⟨v', rfl, hD⟩, hb⟩; obtain ⟨A1, n1, c1, b1, rfl⟩ := hD.form; have hD1 := Aside0.mk ((hD.mono (fun k hk _ => hS0.out.new k hk))); have hS1 := Aside0.mk (hS0.out.below hb); clear x0 x1; clear hb hD)) | (refine wpList_put_blk rfl 79 (.tmp 4) (.tmp 19) rfl (w.heap.size + 1) 79 [.slice A1 n1 c1, .bool b1] [.slice A l.length c, .bool false] rfl rfl rfl hS1.out.i (info_in2 _ _) (two_one _ _ rfl rfl) ?_; intro w2 hi hg hs_; have hS2 := Aside0.mk ((hS1.out.put hg ((hD1.out)) hi)); clear hi hg hs_))
  go_loopw [9, 6] (fun i o wr => ∃ k : Nat, k ≤ n ∧ i = .int .i64 (k : Int) ∧ o = .bool (!((rdList rdSpend k r1).1.any far)) ∧ ∃ x A1 n1 c1 b1, RdSt w w.heap.size wr (rdList rdSpend k r1).2 (rdList rdSpend k r1).1 [] x (.slice none 0 0) false (.slice A1 n1 c1) (.bool b1)) (fun i _ _ => n - (intOf i).toNat)
  case atStart => exact ⟨0, by omega, rfl, rfl, _, _, _, _, _, hS2.out⟩
  case round =>
    clear hS0 hS1 hS2 hD1 cCnt hVA
    obtain ⟨k, hk, rfl, rfl, x, A0, n0, c0, b0, hS0⟩ := hrel
    by_cases hlt : k < n
    · have p1 : (k : Int) < (n : Int) := by omega
      have e2 : IntKind.i64.wrap ((k : Int) + 1) = (k : Int) + 1 := IntWalk.i64_in _ (by omega)
      have hll := rdList_len rdSpend k r1
      have hrk : RB (rdList rdSpend k r1).2 := rb_list rb_spend k hrb1
      have hrlk : RL (rdList rdSpend k r1).2 := rl_list rl_spend k hrl1
      have hso := spend_ok hrk
      have hstep : rdList rdSpend (k + 1) r1 = ((rdList rdSpend k r1).1 ++ [(rdSpend (rdList rdSpend k r1).2).1], (rdSpend (rdList rdSpend k r1).2).2) := rfl
      generalize hrlq : rdList rdSpend k r1 = y at *
      obtain ⟨ls, rk⟩ := y
      have hsp : rdSpend rk = (⟨(rdHash rk).1, (rdNum 4 (rdHash rk).2).1, strOfNums (rdText 32 (rdNum 4 (rdHash rk).2).2).1, (rdNum 8 (rdText 32 (rdNum 4 (rdHash rk).2).2).2).1⟩, (rdNum 8 (rdText 32 (rdNum 4 (rdHash rk).2).2).2).2) := rfl
      simp only at hll hrk hrlk hso hstep hS0
      rw [hsp] at hso hstep
      clear hsp hrlq
      have cH := Aside0.mk (fun (ok : Nat → Prop) W u (h : DR ok W u rk) => dhash_at h)
      have cM := Aside0.mk (fun (ok : Nat → Prop) W u (h : DR ok W u (rdHash rk).2) => dnum_at 4 4 rfl (.inr (.inr (.inl rfl))) h)
      have cT := Aside0.mk (fun (ok : Nat → Prop) W u (h : DR ok W u (rdNum 4 (rdHash rk).2).2) => dtext_at 32 32 rfl (by decide) (rl_num (rl_hash hrlk)) h)
      have cS := Aside0.mk (fun (ok : Nat → Prop) W u (h : DR ok W u (rdText 32 (rdNum 4 (rdHash rk).2).2).2) => dnum_at 8 8 rfl (.inr (.inr (.inr rfl))) h)
      have hh := (hash_ok hrk).1
      have hm := num_bound (n := 4) (rb_hash hrk)
      generalize rdHash rk = zh at *
      obtain ⟨hd, rh⟩ := zh
      simp only at cH cM cT cS hh hm hso hstep
      generalize rdNum 4 rh = zm at *
      obtain ⟨m, rm⟩ := zm
      simp only at cM cT cS hm hso hstep
      generalize rdText 32 rm = zt at *
      obtain ⟨tx, rt⟩ := zt
      simp only at cT cS hso hstep
      generalize rdNum 8 rt = zs at *
      obtain ⟨sl, rs⟩ := zs
      simp only at cS hso hstep
      have e4 : IntKind.i64.wrap m = m := IntWalk.i64_in _ (by omega)
      generalize strOfNums tx = key at *
      have hany : (!((ls ++ [(⟨hd, m, key, sl⟩ : Sp)]).any far)) = ((!(ls.any far)) && decide (m < 8)) := by
        rw [List.any_append, Bool.not_or]
        congr 1
        show (!((decide (m ≥ 8)) || false)) = decide (m < 8)
        rw [Bool.or_false]
        by_cases h8 : m < 8
        · rw [decide_eq_true h8, decide_eq_false (by omega)]; rfl
        · rw [decide_eq_false h8, decide_eq_true (by omega)]; rfl
      generalize (!(ls.any far)) = ob at *
      have hstepA := Aside0.mk hstep; have hanyA := Aside0.mk hany
      clear hstep hany
      have hSb : w.heap.size + 1 + 1 + 1 ≤ wr.heap.size := hS0.n
      have hS0A := Aside0.mk hS0; have hhA := Aside0.mk hh; have hsoA := Aside0.mk hso; have hllA := Aside0.mk hll
      have hsl := spc_length ⟨hd, m, key, sl⟩ hh
      clear hS0 hso hll hrk hrlk hm hh hrb1 hrl1
      cases ob
      · as_aux_lemma =>
          go_wp2_with (first | ((with_reducible refine gate_dst (N := 10) rfl ?_); (refine wpList_new_put rfl (N := 10) rfl rfl 36 (.tmp 26) rfl (spc zsp) (spc zsp) rfl ?hr rfl rfl (info_spend zsp rfl) (spc_one zsp) ?_; (case hr => first | (go_simp; done) | (go_simp; rfl)); intro V9 hx9 hb9 hs9; have hS9 := Aside0.mk (hS0A.out.enter hb9 (by omega)); have hX9 := Aside0.mk hx9; clear hx9 hb9 hs9)) | ((with_reducible refine gate_dst (N := 28) rfl ?_); (refine wpList_load_blk rfl 79 (.tmp 4) rfl (w.heap.size + 1) 79 rfl [.slice A0 n0 c0, .bool b0] _ hS9.out.i Try.underlying79 rfl (info_in2 _ _) ?_)) | (go_at_call 42; ((with_reducible refine (cH.out _ _ _ hS9.out.d).mono ?_); rintro e w10 ⟨⟨v', rfl, hD⟩, hb⟩; obtain ⟨A10, n10, c10, b10, rfl⟩ := hD.form; have hD10 := Aside0.mk ((hD.mono (fun k hk _ => hS9.out.new k hk))); have hS10 := Aside0.mk (hS9.out.below hb); have hX10 := Aside0.mk (hX9.out.below hb); clear hb hD)) | (refine wpList_put_blk rfl 79 (.tmp 4) (.tmp 30) rfl (w.heap.size + 1) 79 [.slice A10 n10 c10, .bool b10] [.slice A0 n0 c0, .bool b0] rfl rfl rfl hS10.out.i (info_in2 _ _) (two_one _ _ rfl rfl) ?_; intro w11 hi hg hs_; have hS11 := Aside0.mk ((hS10.out.put hg ((hD10.out)) hi)); have hX11 := Aside0.mk (hX10.out.grown hg (by intro e; have := Option.some.inj e; omega)); clear hi hg hs_) | (refine wpList_put_front rfl 31 (.tmp 33) (.tmp 31) rfl wr.heap.size 36 (nums .u8 hd) (spc zsp) (by unfold nums; rw [List.length_map, hhA.out]; decide) rfl rfl hX11.out (info_hash hd hhA.out) (u8_one hd) ?_; intro w12 hx hg hs_; rw [show (nums .u8 hd).length = 32 by unfold nums; rw [List.length_map]; exact hhA.out, spc_front] at hx; have hS12 := Aside0.mk (hS11.out.box hSb hg); have hX12 := Aside0.mk hx; clear hx hg hs_) | ((with_reducible refine gate_dst (N := 35) rfl ?_); refine wpList_load_blk rfl 79 (.tmp 4) rfl (w.heap.size + 1) 79 rfl [.slice A10 n10 c10, .bool b10] _ hS12.out.i Try.underlying79 rfl (info_in2 _ _) ?_) | (refine wpList_put_blk rfl 79 (.tmp 4) (.tmp 37) rfl (w.heap.size + 1) 79 [.slice A13 n13 c13, .bool b13] [.slice A10 n10 c10, .bool b10] rfl rfl rfl hS13.out.i (info_in2 _ _) (two_one _ _ rfl rfl) ?_; intro w14 hi hg hs_; have hS14 := Aside0.mk ((hS13.out.put hg ((hD13.out)) hi)); have hX14 := Aside0.mk (hX13.out.grown hg (by intro e; have := Option.some.inj e; omega)); have g32 := hX14.out.get 32 _ (spc_n _ hhA.out); have f32 := hX14.out.fz 32; have hS15 := Aside0.mk (hS14.out.box hSb (grown_set w14 wr.heap.size 32 (.int .i64 m))); have hX15 := Aside0.mk (by have h := hX14.out.set 32 (.int .i64 m); rw [spc_set32 _ _ _ _ _ hhA.out] at h; exact h); clear hi hg hs_) | ((with_reducible refine gate_dst (N := 49) rfl ?_); refine wpList_load_blk rfl 79 (.tmp 4) rfl (w.heap.size + 1) 79 rfl [.slice A13 n13 c13, .bool b13] _ hS15.out.i Try.underlying79 rfl (info_in2 _ _) ?_) | (go_at_call 44; ((with_reducible refine (cT.out _ _ _ hS15.out.d).mono ?_); rintro e w16 ⟨⟨v', rfl, hD⟩, hb⟩; obtain ⟨A16, n16, c16, b16, rfl⟩ := hD.form; have hD16 := Aside0.mk ((hD.mono (fun k hk _ => hS15.out.new k hk))); have hS16 := Aside0.mk (hS15.out.below hb); have hX16 := Aside0.mk (hX15.out.below hb); clear g32 f32; clear hb hD)) | (refine wpList_put_blk rfl 79 (.tmp 4) (.tmp 51) rfl (w.heap.size + 1) 79 [.slice A16 n16 c16, .bool b16] [.slice A13 n13 c13, .bool b13] rfl rfl rfl hS16.out.i (info_in2 _ _) (two_one _ _ rfl rfl) ?_; intro w17 hi hg hs_; have hS17 := Aside0.mk ((hS16.out.put hg ((hD16.out)) hi)); have hX17 := Aside0.mk (hX16.out.grown hg (by intro e; have := Option.some.inj e; omega)); have g33 := hX17.out.get 33 _ (spc_key _ hhA.out); have f33 := hX17.out.fz 33; have hS18 := Aside0.mk (hS17.out.box hSb (grown_set w17 wr.heap.size 33 (.string key))); have hX18 := Aside0.mk (by have h := hX17.out.set 33 (.string key); rw [spc_set33 _ _ _ _ _ hhA.out] at h; exact h); clear hi hg hs_) | ((with_reducible refine gate_dst (N := 55) rfl ?_); refine wpList_load_blk rfl 79 (.tmp 4) rfl (w.heap.size + 1) 79 rfl [.slice A16 n16 c16, .bool b16] _ hS18.out.i Try.underlying79 rfl (info_in2 _ _) ?_) | (refine wpList_put_blk rfl 79 (.tmp 4) (.tmp 57) rfl (w.heap.size + 1) 79 [.slice A19 n19 c19, .bool b19] [.slice A16 n16 c16, .bool b16] rfl rfl rfl hS19.out.i (info_in2 _ _) (two_one _ _ rfl rfl) ?_; intro w20 hi hg hs_; have hS20 := Aside0.mk ((hS19.out.put hg ((hD19.out)) hi)); have hX20 := Aside0.mk (hX19.out.grown hg (by intro e; have := Option.some.inj e; omega)); have g34 := hX20.out.get 34 _ (spc_seal _ hhA.out); have f34 := hX20.out.fz 34; have hS21 := Aside0.mk (hS20.out.box hSb (grown_set w20 wr.heap.size 34 (.int .u64 sl))); have hX21 := Aside0.mk (by have h := hX20.out.set 34 (.int .u64 sl); rw [spc_set34 _ _ _ _ _ hhA.out] at h; exact h); have q0 := hS21.out.t.get 0 _ rfl; clear hi hg hs_) | (go_at_call 43; (first | ((with_reducible refine (cM.out _ _ _ hS12.out.d).mono ?_); rintro e w13 ⟨⟨v', rfl, hD⟩, hb⟩; obtain ⟨A13, n13, c13, b13, rfl⟩ := hD.form; have hD13 := Aside0.mk ((hD.mono (fun k hk _ => hS12.out.new k hk))); have hS13 := Aside0.mk (hS12.out.below hb); have hX13 := Aside0.mk (hX12.out.below hb); clear hb hD) | ((with_reducible refine (cS.out _ _ _ hS18.out.d).mono ?_); rintro e w19 ⟨⟨v', rfl, hD⟩, hb⟩; obtain ⟨A19, n19, c19, b19, rfl⟩ := hD.form; have hD19 := Aside0.mk ((hD.mono (fun k hk _ => hS18.out.new k hk))); have hS19 := Aside0.mk (hS18.out.below hb); have hX19 := Aside0.mk (hX18.out.below hb); clear g33 f33; clear hb hD))) | ((with_reducible refine gate_dst (N := 62) rfl ?_); (clear g34 f34; refine wpList_load_blk rfl 36 (.tmp 10) rfl wr.heap.size 36 rfl (spc ⟨hd, m, key, sl⟩) _ hX21.out Try.underlying36 rfl (info_spend _ hhA.out) ?_)) | ((with_reducible refine gate_dst (N := 63) rfl ?_); (refine wpList_slice_one rfl 22 36 (.tmp 62) rfl (spc ⟨hd, m, key, sl⟩) (spv zsp) 35 64 rfl (spc_length _ hhA.out) Try.underlying22 info_sp rfl (by decide) (by decide) ?_)) | ((with_reducible refine gate_dst (N := 64) rfl ?_); at_builtin; (refine Kd.R_append kSp (w0 := (w20.setCell ⟨wr.heap.size, 34, none⟩ (.int .u64 sl))) (W := (w20.setCell ⟨wr.heap.size, 34, none⟩ (.int .u64 sl))) (w.heap.size + 1 + 1 + 1) rfl (.tmp 61) (.tmp 63) 22 36 (spv zsp) 64 rfl Try.underlying22 info_sp rfl (by decide) (by omega) _ ls ⟨hd, m, key, sl⟩ (spc ⟨hd, m, key, sl⟩) (fun k => k ≠ wr.heap.size) (fun _ => False) rfl (by rw [show (w20.setCell ⟨wr.heap.size, 34, none⟩ (.int .u64 sl)).heap.size = w20.heap.size by simp [World.setCell]]; rfl) ⟨hsoA.out, rfl⟩ (fun _ hk => hk.elim) (fun k hk => by have := hS21.out.l; omega) hS21.out.s (Below.refl _ _) hS21.out.n (by have := hllA.out; omega) ?_; intro v22 w22 hR hb hg hat; obtain ⟨E22, k22, hv22⟩ := Kd.R_slice hR; generalize hn22 : (ls ++ [(⟨hd, m, key, sl⟩ : Sp)]).length = n22 at hv22; subst hv22; have hTt := hS21.out.t.grown hg (by intro e; have := Kd.R_base hS21.out.s _ e.symm; omega); clear q0; have q0 := hTt.get 0 _ rfl; have qf := hTt.fz 0; have hSF := Aside0.mk (hS21.out.appS hR hg hat); clear hR hb hg hat hTt)))
          go_roundw
          · exact ⟨k + 1, by omega, by go_num, by rw [hstepA.out]; exact congrArg Value.bool hanyA.out.symm, _, _, _, _, _, by rw [hstepA.out]; exact hSF.out⟩
          · simp [intOf]; omega
      · as_aux_lemma =>
          go_wp2_with (first | ((with_reducible refine gate_dst (N := 10) rfl ?_); (refine wpList_new_put rfl (N := 10) rfl rfl 36 (.tmp 26) rfl (spc zsp) (spc zsp) rfl ?hr rfl rfl (info_spend zsp rfl) (spc_one zsp) ?_; (case hr => first | (go_simp; done) | (go_simp; rfl)); intro V9 hx9 hb9 hs9; have hS9 := Aside0.mk (hS0A.out.enter hb9 (by omega)); have hX9 := Aside0.mk hx9; clear hx9 hb9 hs9)) | ((with_reducible refine gate_dst (N := 28) rfl ?_); (refine wpList_load_blk rfl 79 (.tmp 4) rfl (w.heap.size + 1) 79 rfl [.slice A0 n0 c0, .bool b0] _ hS9.out.i Try.underlying79 rfl (info_in2 _ _) ?_)) | (go_at_call 42; ((with_reducible refine (cH.out _ _ _ hS9.out.d).mono ?_); rintro e w10 ⟨⟨v', rfl, hD⟩, hb⟩; obtain ⟨A10, n10, c10, b10, rfl⟩ := hD.form; have hD10 := Aside0.mk ((hD.mono (fun k hk _ => hS9.out.new k hk))); have hS10 := Aside0.mk (hS9.out.below hb); have hX10 := Aside0.mk (hX9.out.below hb); clear hb hD)) | (refine wpList_put_blk rfl 79 (.tmp 4) (.tmp 30) rfl (w.heap.size + 1) 79 [.slice A10 n10 c10, .bool b10] [.slice A0 n0 c0, .bool b0] rfl rfl rfl hS10.out.i (info_in2 _ _) (two_one _ _ rfl rfl) ?_; intro w11 hi hg hs_; have hS11 := Aside0.mk ((hS10.out.put hg ((hD10.out)) hi)); have hX11 := Aside0.mk (hX10.out.grown hg (by intro e; have := Option.some.inj e; omega)); clear hi hg hs_) | (refine wpList_put_front rfl 31 (.tmp 33) (.tmp 31) rfl wr.heap.size 36 (nums .u8 hd) (spc zsp) (by unfold nums; rw [List.length_map, hhA.out]; decide) rfl rfl hX11.out (info_hash hd hhA.out) (u8_one hd) ?_; intro w12 hx hg hs_; rw [show (nums .u8 hd).length = 32 by unfold nums; rw [List.length_map]; exact hhA.out, spc_front] at hx; have hS12 := Aside0.mk (hS11.out.box hSb hg); have hX12 := Aside0.mk hx; clear hx hg hs_) | ((with_reducible refine gate_dst (N := 35) rfl ?_); refine wpList_load_blk rfl 79 (.tmp 4) rfl (w.heap.size + 1) 79 rfl [.slice A10 n10 c10, .bool b10] _ hS12.out.i Try.underlying79 rfl (info_in2 _ _) ?_) | (refine wpList_put_blk rfl 79 (.tmp 4) (.tmp 37) rfl (w.heap.size + 1) 79 [.slice A13 n13 c13, .bool b13] [.slice A10 n10 c10, .bool b10] rfl rfl rfl hS13.out.i (info_in2 _ _) (two_one _ _ rfl rfl) ?_; intro w14 hi hg hs_; have hS14 := Aside0.mk ((hS13.out.put hg ((hD13.out)) hi)); have hX14 := Aside0.mk (hX13.out.grown hg (by intro e; have := Option.some.inj e; omega)); have g32 := hX14.out.get 32 _ (spc_n _ hhA.out); have f32 := hX14.out.fz 32; have hS15 := Aside0.mk (hS14.out.box hSb (grown_set w14 wr.heap.size 32 (.int .i64 m))); have hX15 := Aside0.mk (by have h := hX14.out.set 32 (.int .i64 m); rw [spc_set32 _ _ _ _ _ hhA.out] at h; exact h); clear hi hg hs_) | ((with_reducible refine gate_dst (N := 49) rfl ?_); refine wpList_load_blk rfl 79 (.tmp 4) rfl (w.heap.size + 1) 79 rfl [.slice A13 n13 c13, .bool b13] _ hS15.out.i Try.underlying79 rfl (info_in2 _ _) ?_) | (go_at_call 44; ((with_reducible refine (cT.out _ _ _ hS15.out.d).mono ?_); rintro e w16 ⟨⟨v', rfl, hD⟩, hb⟩; obtain ⟨A16, n16, c16, b16, rfl⟩ := hD.form; have hD16 := Aside0.mk ((hD.mono (fun k hk _ => hS15.out.new k hk))); have hS16 := Aside0.mk (hS15.out.below hb); have hX16 := Aside0.mk (hX15.out.below hb); clear g32 f32; clear hb hD)) | (refine wpList_put_blk rfl 79 (.tmp 4) (.tmp 51) rfl (w.heap.size + 1) 79 [.slice A16 n16 c16, .bool b16] [.slice A13 n13 c13, .bool b13] rfl rfl rfl hS16.out.i (info_in2 _ _) (two_one _ _ rfl rfl) ?_; intro w17 hi hg hs_; have hS17 := Aside0.mk ((hS16.out.put hg ((hD16.out)) hi)); have hX17 := Aside0.mk (hX16.out.grown hg (by intro e; have := Option.some.inj e; omega)); have g33 := hX17.out.get 33 _ (spc_key _ hhA.out); have f33 := hX17.out.fz 33; have hS18 := Aside0.mk (hS17.out.box hSb (grown_set w17 wr.heap.size 33 (.string key))); have hX18 := Aside0.mk (by have h := hX17.out.set 33 (.string key); rw [spc_set33 _ _ _ _ _ hhA.out] at h; exact h); clear hi hg hs_) | ((with_reducible refine gate_dst (N := 55) rfl ?_); refine wpList_load_blk rfl 79 (.tmp 4) rfl (w.heap.size + 1) 79 rfl [.slice A16 n16 c16, .bool b16] _ hS18.out.i Try.underlying79 rfl (info_in2 _ _) ?_) | (refine wpList_put_blk rfl 79 (.tmp 4) (.tmp 57) rfl (w.heap.size + 1) 79 [.slice A19 n19 c19, .bool b19] [.slice A16 n16 c16, .bool b16] rfl rfl rfl hS19.out.i (info_in2 _ _) (two_one _ _ rfl rfl) ?_; intro w20 hi hg hs_; have hS20 := Aside0.mk ((hS19.out.put hg ((hD19.out)) hi)); have hX20 := Aside0.mk (hX19.out.grown hg (by intro e; have := Option.some.inj e; omega)); have g34 := hX20.out.get 34 _ (spc_seal _ hhA.out); have f34 := hX20.out.fz 34; have hS21 := Aside0.mk (hS20.out.box hSb (grown_set w20 wr.heap.size 34 (.int .u64 sl))); have hX21 := Aside0.mk (by have h := hX20.out.set 34 (.int .u64 sl); rw [spc_set34 _ _ _ _ _ hhA.out] at h; exact h); have q0 := hS21.out.t.get 0 _ rfl; clear hi hg hs_) | (go_at_call 43; (first | ((with_reducible refine (cM.out _ _ _ hS12.out.d).mono ?_); rintro e w13 ⟨⟨v', rfl, hD⟩, hb⟩; obtain ⟨A13, n13, c13, b13, rfl⟩ := hD.form; have hD13 := Aside0.mk ((hD.mono (fun k hk _ => hS12.out.new k hk))); have hS13 := Aside0.mk (hS12.out.below hb); have hX13 := Aside0.mk (hX12.out.below hb); clear hb hD) | ((with_reducible refine (cS.out _ _ _ hS18.out.d).mono ?_); rintro e w19 ⟨⟨v', rfl, hD⟩, hb⟩; obtain ⟨A19, n19, c19, b19, rfl⟩ := hD.form; have hD19 := Aside0.mk ((hD.mono (fun k hk _ => hS18.out.new k hk))); have hS19 := Aside0.mk (hS18.out.below hb); have hX19 := Aside0.mk (hX18.out.below hb); clear g33 f33; clear hb hD))) | ((with_reducible refine gate_dst (N := 62) rfl ?_); (clear g34 f34; refine wpList_load_blk rfl 36 (.tmp 10) rfl wr.heap.size 36 rfl (spc ⟨hd, m, key, sl⟩) _ hX21.out Try.underlying36 rfl (info_spend _ hhA.out) ?_)) | ((with_reducible refine gate_dst (N := 63) rfl ?_); (refine wpList_slice_one rfl 22 36 (.tmp 62) rfl (spc ⟨hd, m, key, sl⟩) (spv zsp) 35 64 rfl (spc_length _ hhA.out) Try.underlying22 info_sp rfl (by decide) (by decide) ?_)) | ((with_reducible refine gate_dst (N := 64) rfl ?_); at_builtin; (refine Kd.R_append kSp (w0 := (w20.setCell ⟨wr.heap.size, 34, none⟩ (.int .u64 sl))) (W := (w20.setCell ⟨wr.heap.size, 34, none⟩ (.int .u64 sl))) (w.heap.size + 1 + 1 + 1) rfl (.tmp 61) (.tmp 63) 22 36 (spv zsp) 64 rfl Try.underlying22 info_sp rfl (by decide) (by omega) _ ls ⟨hd, m, key, sl⟩ (spc ⟨hd, m, key, sl⟩) (fun k => k ≠ wr.heap.size) (fun _ => False) rfl (by rw [show (w20.setCell ⟨wr.heap.size, 34, none⟩ (.int .u64 sl)).heap.size = w20.heap.size by simp [World.setCell]]; rfl) ⟨hsoA.out, rfl⟩ (fun _ hk => hk.elim) (fun k hk => by have := hS21.out.l; omega) hS21.out.s (Below.refl _ _) hS21.out.n (by have := hllA.out; omega) ?_; intro v22 w22 hR hb hg hat; obtain ⟨E22, k22, hv22⟩ := Kd.R_slice hR; generalize hn22 : (ls ++ [(⟨hd, m, key, sl⟩ : Sp)]).length = n22 at hv22; subst hv22; have hTt := hS21.out.t.grown hg (by intro e; have := Kd.R_base hS21.out.s _ e.symm; omega); clear q0; have q0 := hTt.get 0 _ rfl; have qf := hTt.fz 0; have hSF := Aside0.mk (hS21.out.appS hR hg hat); clear hR hb hg hat hTt)))
          go_roundw
          · exact ⟨k + 1, by omega, by go_num, by rw [hstepA.out]; exact congrArg Value.bool hanyA.out.symm, _, _, _, _, _, by rw [hstepA.out]; exact hSF.out⟩
          · simp [intOf]; omega
    · obtain rfl : k = n := by omega
      have p1 : ¬ (k : Int) < (k : Int) := by omega
      rw [← hspA.out] at hS0 ⊢
      simp only at hS0
      have hS0 := Aside0.mk hS0
      clear hrb1 hrl1 hle1
      go_wp2_with (first | ((with_reducible refine gate_dst (N := 67) rfl ?_); refine wpList_load_blk rfl 79 (.tmp 4) rfl (w.heap.size + 1) 79 rfl [.slice A0 n0 c0, .bool b0] _ hS0.out.i Try.underlying79 rfl (info_in2 _ _) ?_) | (go_at_call 41; ((with_reducible refine (cC2.out _ _ _ hS0.out.d).mono ?_); rintro e w1 ⟨⟨v', rfl, hD⟩, hb⟩; obtain ⟨A1, n1, c1, b1, rfl⟩ := hD.form; have hD1 := Aside0.mk ((hD.mono (fun k hk _ => hS0.out.new k hk))); have hS1 := Aside0.mk (hS0.out.below hb); clear hb hD)) | (refine wpList_put_blk rfl 79 (.tmp 4) (.tmp 69) rfl (w.heap.size + 1) 79 [.slice A1 n1 c1, .bool b1] [.slice A0 n0 c0, .bool b0] rfl rfl rfl hS1.out.i (info_in2 _ _) (two_one _ _ rfl rfl) ?_; intro w2 hi hg hs_; have hS2 := Aside0.mk ((hS1.out.put hg ((hD1.out)) hi)); clear hi hg hs_))
      go_loopw [11, 6] (fun i o wr => ∃ k : Nat, k ≤ n2 ∧ i = .int .i64 (k : Int) ∧ o = .bool (!(lsA.any far) && !((rdList rdCoin k rc1).1.any oddc)) ∧ ∃ y A1 n1 c1 b1, RdSt w w.heap.size wr (rdList rdCoin k rc1).2 lsA (rdList rdCoin k rc1).1 x y false (.slice A1 n1 c1) (.bool b1)) (fun i _ _ => n2 - (intOf i).toNat)
      case atStart => exact ⟨0, by omega, rfl, by simp [rdList], _, _, _, _, _, hS2.out⟩
      case round =>
        clear hS0 hS1 hS2 hD1 cC2 p1
        obtain ⟨k, hk, rfl, rfl, y, A0, n0, c0, b0, hS0⟩ := hrel
        by_cases hlt : k < n2
        · have p1 : (k : Int) < (n2 : Int) := by omega
          have e2 : IntKind.i64.wrap ((k : Int) + 1) = (k : Int) + 1 := IntWalk.i64_in _ (by omega)
          have hll := rdList_len rdCoin k rc1
          have hrk : RB (rdList rdCoin k rc1).2 := rb_list rb_coin k hrb3
          have hso := coin_ok hrk
          have hstep : rdList rdCoin (k + 1) rc1 = ((rdList rdCoin k rc1).1 ++ [(rdCoin (rdList rdCoin k rc1).2).1], (rdCoin (rdList rdCoin k rc1).2).2) := rfl
          generalize hrlq : rdList rdCoin k rc1 = yy at *
          obtain ⟨lc, rk⟩ := yy
          have hsp : rdCoin rk = (⟨IntKind.i64.wrap (rdNum 8 rk).1, (rdNum 8 (rdNum 8 rk).2).1⟩, (rdNum 8 (rdNum 8 rk).2).2) := rfl
          simp only at hll hrk hso hstep hS0
          rw [hsp] at hso hstep
          clear hsp hrlq
          have cM := Aside0.mk (fun (ok : Nat → Prop) W u (h : DR ok W u rk) => dnum_at 8 8 rfl (.inr (.inr (.inr rfl))) h)
          have cS := Aside0.mk (fun (ok : Nat → Prop) W u (h : DR ok W u (rdNum 8 rk).2) => dnum_at 8 8 rfl (.inr (.inr (.inr rfl))) h)
          generalize rdNum 8 rk = zm at *
          obtain ⟨m, rm⟩ := zm
          simp only at cM cS hso hstep
          generalize rdNum 8 rm = zs at *
          obtain ⟨sl, rs⟩ := zs
          simp only at cS hso hstep
          obtain ⟨q, hq⟩ : ∃ q, IntKind.i64.wrap m = q := ⟨_, rfl⟩
          rw [hq] at hso hstep
          have hany : (!((lc ++ [(⟨q, sl⟩ : Co)]).any oddc)) = ((!(lc.any oddc)) && good q) := by
            rw [List.any_append, Bool.not_or]
            congr 1
            show (!((!good q) || false)) = good q
            rw [Bool.or_false, Bool.not_not]
          have hob : (!(lsA.any far) && !((lc ++ [(⟨q, sl⟩ : Co)]).any oddc)) = ((!(lsA.any far) && !(lc.any oddc)) && good q) := by rw [hany, Bool.and_assoc]
          generalize (!(lsA.any far) && !(lc.any oddc)) = ob at *
          have hGd := Aside0.mk (fun W => rgood_calls q W)
          generalize good q = gq at *
          have hstepA := Aside0.mk hstep; have hobA := Aside0.mk hob
          have hSb : w.heap.size + 1 + 1 + 1 ≤ wr.heap.size := hS0.n
          have hS0A := Aside0.mk hS0; have hsoA := Aside0.mk hso; have hllA := Aside0.mk hll
          have hsl : (coc ⟨q, sl⟩).length = 2 := rfl
          clear hstep hany hob hS0 hso hll hrk hrb3 hrl3
          cases ob
          · as_aux_lemma =>
              go_wp2_with (first | ((with_reducible refine gate_dst (N := 12) rfl ?_); (refine wpList_new_put rfl (N := 12) rfl rfl 38 (.tmp 76) rfl (coc ⟨0, 0⟩) (coc ⟨0, 0⟩) rfl ?hr rfl rfl (info_coin _) (coc_one _) ?_; (case hr => first | (go_simp; done) | (go_simp; rfl)); intro V9 hx9 hb9 hs9; have hS9 := Aside0.mk (hS0A.out.enter hb9 (by omega)); have hX9 := Aside0.mk hx9; clear hx9 hb9 hs9)) | ((with_reducible refine gate_dst (N := 78) rfl ?_); refine wpList_load_blk rfl 79 (.tmp 4) rfl (w.heap.size + 1) 79 rfl [.slice A0 n0 c0, .bool b0] _ hS9.out.i Try.underlying79 rfl (info_in2 _ _) ?_) | (refine wpList_put_blk rfl 79 (.tmp 4) (.tmp 80) rfl (w.heap.size + 1) 79 [.slice A10 n10 c10, .bool b10] [.slice A0 n0 c0, .bool b0] rfl rfl rfl hS10.out.i (info_in2 _ _) (two_one _ _ rfl rfl) ?_; intro w11 hi hg hs_; have hS11 := Aside0.mk ((hS10.out.put hg ((hD10.out)) hi)); have hX11 := Aside0.mk (hX10.out.grown hg (by intro e; have := Option.some.inj e; omega)); have g0 := hX11.out.get 0 _ rfl; have f0 := hX11.out.fz 0; have hS12 := Aside0.mk (hS11.out.box hSb (grown_set w11 wr.heap.size 0 (.int .i64 q))); have hX12 := Aside0.mk (show Blk _ wr.heap.size 38 (coc ⟨q, 0⟩) from hX11.out.set 0 (.int .i64 q)); have hS13 := hS12; have hX13 := hX12; clear hi hg hs_) | ((with_reducible refine gate_dst (N := 92) rfl ?_); refine wpList_load_blk rfl 79 (.tmp 4) rfl (w.heap.size + 1) 79 rfl [.slice A10 n10 c10, .bool b10] _ hS13.out.i Try.underlying79 rfl (info_in2 _ _) ?_) | (refine wpList_put_blk rfl 79 (.tmp 4) (.tmp 94) rfl (w.heap.size + 1) 79 [.slice A14 n14 c14, .bool b14] [.slice A10 n10 c10, .bool b10] rfl rfl rfl hS14.out.i (info_in2 _ _) (two_one _ _ rfl rfl) ?_; intro w15 hi hg hs_; have hS15 := Aside0.mk ((hS14.out.put hg ((hD14.out)) hi)); have hX15 := Aside0.mk (hX14.out.grown hg (by intro e; have := Option.some.inj e; omega)); have g1 := hX15.out.get 1 _ rfl; have f1 := hX15.out.fz 1; have hS16 := Aside0.mk (hS15.out.box hSb (grown_set w15 wr.heap.size 1 (.int .u64 sl))); have hX16 := Aside0.mk (show Blk _ wr.heap.size 38 (coc ⟨q, sl⟩) from hX15.out.set 1 (.int .u64 sl)); have q1 := hS16.out.t.get 1 _ rfl; clear hi hg hs_) | (go_at_call 43; (first | ((with_reducible refine (cM.out _ _ _ hS9.out.d).mono ?_); rintro e w10 ⟨⟨v', rfl, hD⟩, hb⟩; obtain ⟨A10, n10, c10, b10, rfl⟩ := hD.form; have hD10 := Aside0.mk ((hD.mono (fun k hk _ => hS9.out.new k hk))); have hS10 := Aside0.mk (hS9.out.below hb); have hX10 := Aside0.mk (hX9.out.below hb); clear hb hD) | ((with_reducible refine (cS.out _ _ _ hS13.out.d).mono ?_); rintro e w14 ⟨⟨v', rfl, hD⟩, hb⟩; obtain ⟨A14, n14, c14, b14, rfl⟩ := hD.form; have hD14 := Aside0.mk ((hD.mono (fun k hk _ => hS13.out.new k hk))); have hS14 := Aside0.mk (hS13.out.below hb); have hX14 := Aside0.mk (hX13.out.below hb); clear g0 f0; clear hb hD))) | ((with_reducible refine gate_dst (N := 99) rfl ?_); (clear g1 f1; refine wpList_load_blk rfl 38 (.tmp 12) rfl wr.heap.size 38 rfl (coc ⟨q, sl⟩) _ hX16.out Try.underlying38 rfl (info_coin _) ?_)) | ((with_reducible refine gate_dst (N := 100) rfl ?_); (refine wpList_slice_one rfl 23 38 (.tmp 99) rfl (coc ⟨q, sl⟩) (cov ⟨0, 0⟩) 2 16 rfl rfl Try.underlying23 info_co rfl (by decide) (by decide) ?_)) | ((with_reducible refine gate_dst (N := 101) rfl ?_); at_builtin; (refine Kd.R_append kCo (w0 := (w15.setCell ⟨wr.heap.size, 1, none⟩ (.int .u64 sl))) (W := (w15.setCell ⟨wr.heap.size, 1, none⟩ (.int .u64 sl))) (w.heap.size + 1 + 1 + 1) rfl (.tmp 98) (.tmp 100) 23 38 (cov ⟨0, 0⟩) 16 rfl Try.underlying23 info_co rfl (by decide) (by omega) _ lc ⟨q, sl⟩ (coc ⟨q, sl⟩) (fun k => k ≠ wr.heap.size) (fun _ => False) rfl (by rw [show (w15.setCell ⟨wr.heap.size, 1, none⟩ (.int .u64 sl)).heap.size = w15.heap.size by simp [World.setCell]]; rfl) ⟨hsoA.out, rfl⟩ (fun _ hk => hk.elim) (fun k hk => by have := hS16.out.l; omega) hS16.out.c (Below.refl _ _) hS16.out.n (by have := hllA.out; omega) ?_; intro v22 w22 hR hb hg hat; obtain ⟨E22, k22, hv22⟩ := Kd.R_slice hR; generalize hn22 : (lc ++ [(⟨q, sl⟩ : Co)]).length = n22 at hv22; subst hv22; have hTt := hS16.out.t.grown hg (by intro e; have := Kd.R_base hS16.out.c _ e.symm; omega); clear q1; have q1 := hTt.get 1 _ rfl; have qf := hTt.fz 1; have hSF := Aside0.mk (hS16.out.appC hR hg hat); clear hR hb hg hat hTt)))
              go_roundw
              · exact ⟨k + 1, by omega, by go_num, by rw [hstepA.out]; exact congrArg Value.bool hobA.out.symm, _, _, _, _, _, by rw [hstepA.out]; exact hSF.out⟩
              · simp [intOf]; omega
          · as_aux_lemma =>
              go_wp2_with (first | ((with_reducible refine gate_dst (N := 12) rfl ?_); (refine wpList_new_put rfl (N := 12) rfl rfl 38 (.tmp 76) rfl (coc ⟨0, 0⟩) (coc ⟨0, 0⟩) rfl ?hr rfl rfl (info_coin _) (coc_one _) ?_; (case hr => first | (go_simp; done) | (go_simp; rfl)); intro V9 hx9 hb9 hs9; have hS9 := Aside0.mk (hS0A.out.enter hb9 (by omega)); have hX9 := Aside0.mk hx9; clear hx9 hb9 hs9)) | ((with_reducible refine gate_dst (N := 78) rfl ?_); refine wpList_load_blk rfl 79 (.tmp 4) rfl (w.heap.size + 1) 79 rfl [.slice A0 n0 c0, .bool b0] _ hS9.out.i Try.underlying79 rfl (info_in2 _ _) ?_) | (refine wpList_put_blk rfl 79 (.tmp 4) (.tmp 80) rfl (w.heap.size + 1) 79 [.slice A10 n10 c10, .bool b10] [.slice A0 n0 c0, .bool b0] rfl rfl rfl hS10.out.i (info_in2 _ _) (two_one _ _ rfl rfl) ?_; intro w11 hi hg hs_; have hS11 := Aside0.mk ((hS10.out.put hg ((hD10.out)) hi)); have hX11 := Aside0.mk (hX10.out.grown hg (by intro e; have := Option.some.inj e; omega)); have g0 := hX11.out.get 0 _ rfl; have f0 := hX11.out.fz 0; have hS12 := Aside0.mk (hS11.out.box hSb (grown_set w11 wr.heap.size 0 (.int .i64 q))); have hX12 := Aside0.mk (show Blk _ wr.heap.size 38 (coc ⟨q, 0⟩) from hX11.out.set 0 (.int .i64 q)); have h0 := hX12.out.get 0 _ rfl; clear hi hg hs_) | (go_at_call 45; ((with_reducible refine (hGd.out _).mono ?_); rintro e w13 ⟨rfl, hd⟩; have hb := hd.below; have hS13 := Aside0.mk (hS12.out.below hb); have hX13 := Aside0.mk (hX12.out.below hb); clear hd hb g0 f0 h0)) | ((with_reducible refine gate_dst (N := 92) rfl ?_); refine wpList_load_blk rfl 79 (.tmp 4) rfl (w.heap.size + 1) 79 rfl [.slice A10 n10 c10, .bool b10] _ hS13.out.i Try.underlying79 rfl (info_in2 _ _) ?_) | (refine wpList_put_blk rfl 79 (.tmp 4) (.tmp 94) rfl (w.heap.size + 1) 79 [.slice A14 n14 c14, .bool b14] [.slice A10 n10 c10, .bool b10] rfl rfl rfl hS14.out.i (info_in2 _ _) (two_one _ _ rfl rfl) ?_; intro w15 hi hg hs_; have hS15 := Aside0.mk ((hS14.out.put hg ((hD14.out)) hi)); have hX15 := Aside0.mk (hX14.out.grown hg (by intro e; have := Option.some.inj e; omega)); have g1 := hX15.out.get 1 _ rfl; have f1 := hX15.out.fz 1; have hS16 := Aside0.mk (hS15.out.box hSb (grown_set w15 wr.heap.size 1 (.int .u64 sl))); have hX16 := Aside0.mk (show Blk _ wr.heap.size 38 (coc ⟨q, sl⟩) from hX15.out.set 1 (.int .u64 sl)); have q1 := hS16.out.t.get 1 _ rfl; clear hi hg hs_) | (go_at_call 43; (first | ((with_reducible refine (cM.out _ _ _ hS9.out.d).mono ?_); rintro e w10 ⟨⟨v', rfl, hD⟩, hb⟩; obtain ⟨A10, n10, c10, b10, rfl⟩ := hD.form; have hD10 := Aside0.mk ((hD.mono (fun k hk _ => hS9.out.new k hk))); have hS10 := Aside0.mk (hS9.out.below hb); have hX10 := Aside0.mk (hX9.out.below hb); clear hb hD) | ((with_reducible refine (cS.out _ _ _ hS13.out.d).mono ?_); rintro e w14 ⟨⟨v', rfl, hD⟩, hb⟩; obtain ⟨A14, n14, c14, b14, rfl⟩ := hD.form; have hD14 := Aside0.mk ((hD.mono (fun k hk _ => hS13.out.new k hk))); have hS14 := Aside0.mk (hS13.out.below hb); have hX14 := Aside0.mk (hX13.out.below hb); clear hb hD))) | ((with_reducible refine gate_dst (N := 99) rfl ?_); (clear g1 f1; refine wpList_load_blk rfl 38 (.tmp 12) rfl wr.heap.size 38 rfl (coc ⟨q, sl⟩) _ hX16.out Try.underlying38 rfl (info_coin _) ?_)) | ((with_reducible refine gate_dst (N := 100) rfl ?_); (refine wpList_slice_one rfl 23 38 (.tmp 99) rfl (coc ⟨q, sl⟩) (cov ⟨0, 0⟩) 2 16 rfl rfl Try.underlying23 info_co rfl (by decide) (by decide) ?_)) | ((with_reducible refine gate_dst (N := 101) rfl ?_); at_builtin; (refine Kd.R_append kCo (w0 := (w15.setCell ⟨wr.heap.size, 1, none⟩ (.int .u64 sl))) (W := (w15.setCell ⟨wr.heap.size, 1, none⟩ (.int .u64 sl))) (w.heap.size + 1 + 1 + 1) rfl (.tmp 98) (.tmp 100) 23 38 (cov ⟨0, 0⟩) 16 rfl Try.underlying23 info_co rfl (by decide) (by omega) _ lc ⟨q, sl⟩ (coc ⟨q, sl⟩) (fun k => k ≠ wr.heap.size) (fun _ => False) rfl (by rw [show (w15.setCell ⟨wr.heap.size, 1, none⟩ (.int .u64 sl)).heap.size = w15.heap.size by simp [World.setCell]]; rfl) ⟨hsoA.out, rfl⟩ (fun _ hk => hk.elim) (fun k hk => by have := hS16.out.l; omega) hS16.out.c (Below.refl _ _) hS16.out.n (by have := hllA.out; omega) ?_; intro v22 w22 hR hb hg hat; obtain ⟨E22, k22, hv22⟩ := Kd.R_slice hR; generalize hn22 : (lc ++ [(⟨q, sl⟩ : Co)]).length = n22 at hv22; subst hv22; have hTt := hS16.out.t.grown hg (by intro e; have := Kd.R_base hS16.out.c _ e.symm; omega); clear q1; have q1 := hTt.get 1 _ rfl; have qf := hTt.fz 1; have hSF := Aside0.mk (hS16.out.appC hR hg hat); clear hR hb hg hat hTt)))
              go_roundw
              · exact ⟨k + 1, by omega, by go_num, by rw [hstepA.out]; exact congrArg Value.bool hobA.out.symm, _, _, _, _, _, by rw [hstepA.out]; exact hSF.out⟩
              · simp [intOf]; omega
        · obtain rfl : k = n2 := by omega
          have p1 : ¬ (k : Int) < (k : Int) := by omega
          rw [← hcoA.out] at hS0 ⊢
          simp only at hS0
          obtain ⟨Ex, kx, hxv⟩ := Kd.R_slice hS0.s
          obtain ⟨Ey, ky, hyv⟩ := Kd.R_slice hS0.c
          subst hxv; subst hyv
          have hS0 := Aside0.mk hS0
          have hbad := hbadA.out
          have hT := hTA.out
          generalize lsA.any far = bf at *
          generalize lcA.any oddc = bo at *
          clear hrb3 hrl3 hle3 p1 hbadA hTA
          cases bf
          · cases bo
            · by_cases q1 : 1 < f
              · have hbe : Aside0 (bad = true) := Aside0.mk (by rw [← hbad]; simp [q1])
                have hTe : Aside0 (T = ztx) := Aside0.mk (by rw [← hT, hbe.out]; rfl)
                clear hbad hT
                as_aux_lemma =>
                  go_wp2_with (first | ((with_reducible refine gate_dst (N := 104) rfl ?_); refine wpList_load_blk rfl 79 (.tmp 4) rfl (w.heap.size + 1) 79 rfl [.slice A0 n0 c0, .bool b0] _ hS0.out.i Try.underlying79 rfl (info_in2 _ _) ?_) | (go_at_call 43; ((with_reducible refine (cF.out _ _ _ hS0.out.d).mono ?_); rintro e w1 ⟨⟨v', rfl, hD⟩, hb⟩; obtain ⟨A1, n1, c1, b1, rfl⟩ := hD.form; have hD1 := Aside0.mk ((hD.mono (fun k hk _ => hS0.out.new k hk))); have hS1 := Aside0.mk (hS0.out.below hb); clear hb hD)) | (refine wpList_put_blk rfl 79 (.tmp 4) (.tmp 106) rfl (w.heap.size + 1) 79 [.slice A1 n1 c1, .bool b1] [.slice A0 n0 c0, .bool b0] rfl rfl rfl hS1.out.i (info_in2 _ _) (two_one _ _ rfl rfl) ?_; intro w2 hi hg hs_; have hS2 := Aside0.mk ((hS1.out.put hg ((hD1.out)) hi)); have k2 := hS2.out.t.get 2 _ rfl; have kf := hS2.out.t.fz 2; have hS3 := Aside0.mk (hS2.out.firm (f == 1)); have hS4 := hS3; clear hi hg hs_) | (refine wpList_put_blk rfl 25 (.tmp 2) (.tmp 122) rfl w.heap.size 25 [.slice none 0 0, .slice none 0 0, .bool false] [.slice none 0 0, .slice none 0 0, .bool false] rfl rfl rfl hS4.out.z (info_tx3_ _ _ _) (by intro u hu; simp at hu; rcases hu with rfl | rfl | rfl <;> rfl) ?_; intro w11 hX11 hg11 hs11))
                  exact bodyPost_ret (results_ct rfl _ _ w.heap.size 25 #[.slice none 0 0, .slice none 0 0, .bool false] (0, 0) _ rfl hX11 Try.underlying25 rfl (info_tx3_ _ _ _)) rfl (by rw [hTe.out, hbe.out]; exact ⟨⟨_, _, rfl, Kd.R_nil _ _ _ _ _, Kd.R_nil _ _ _ _ _⟩, hS4.out.b.grown hg11 hS4.out.b.size (fun k e => by have := Option.some.inj e; omega)⟩)
              · cases en with
                | some z =>
                  simp only [Option.isNone] at cE
                  have hbe : Aside0 (bad = true) := Aside0.mk (by rw [← hbad]; simp)
                  have hTe : Aside0 (T = ztx) := Aside0.mk (by rw [← hT, hbe.out]; rfl)
                  clear hbad hT
                  as_aux_lemma =>
                    go_wp2_with (first | ((with_reducible refine gate_dst (N := 104) rfl ?_); refine wpList_load_blk rfl 79 (.tmp 4) rfl (w.heap.size + 1) 79 rfl [.slice A0 n0 c0, .bool b0] _ hS0.out.i Try.underlying79 rfl (info_in2 _ _) ?_) | (go_at_call 43; ((with_reducible refine (cF.out _ _ _ hS0.out.d).mono ?_); rintro e w1 ⟨⟨v', rfl, hD⟩, hb⟩; obtain ⟨A1, n1, c1, b1, rfl⟩ := hD.form; have hD1 := Aside0.mk ((hD.mono (fun k hk _ => hS0.out.new k hk))); have hS1 := Aside0.mk (hS0.out.below hb); clear hb hD)) | (refine wpList_put_blk rfl 79 (.tmp 4) (.tmp 106) rfl (w.heap.size + 1) 79 [.slice A1 n1 c1, .bool b1] [.slice A0 n0 c0, .bool b0] rfl rfl rfl hS1.out.i (info_in2 _ _) (two_one _ _ rfl rfl) ?_; intro w2 hi hg hs_; have hS2 := Aside0.mk ((hS1.out.put hg ((hD1.out)) hi)); have k2 := hS2.out.t.get 2 _ rfl; have kf := hS2.out.t.fz 2; have hS3 := Aside0.mk (hS2.out.firm (f == 1)); have m0 := hS3.out.i.get 0 _ rfl; have m1 := hS3.out.i.get 1 _ rfl; clear hi hg hs_) | (go_at_call 46; ((with_reducible refine (cE.out _ _ _ hS3.out.d).mono ?_); rintro e w4 ⟨rfl, hb⟩; have hS4 := Aside0.mk (hS3.out.below hb); clear hb k2 kf m0 m1)) | (refine wpList_put_blk rfl 25 (.tmp 2) (.tmp 122) rfl w.heap.size 25 [.slice none 0 0, .slice none 0 0, .bool false] [.slice none 0 0, .slice none 0 0, .bool false] rfl rfl rfl hS4.out.z (info_tx3_ _ _ _) (by intro u hu; simp at hu; rcases hu with rfl | rfl | rfl <;> rfl) ?_; intro w11 hX11 hg11 hs11))
                    exact bodyPost_ret (results_ct rfl _ _ w.heap.size 25 #[.slice none 0 0, .slice none 0 0, .bool false] (0, 0) _ rfl hX11 Try.underlying25 rfl (info_tx3_ _ _ _)) rfl (by rw [hTe.out, hbe.out]; exact ⟨⟨_, _, rfl, Kd.R_nil _ _ _ _ _, Kd.R_nil _ _ _ _ _⟩, hS4.out.b.grown hg11 hS4.out.b.size (fun k e => by have := Option.some.inj e; omega)⟩)
                | none =>
                  simp only [Option.isNone] at cE
                  have hbe : Aside0 (bad = false) := Aside0.mk (by rw [← hbad]; simp [q1])
                  have hTe : Aside0 (T = ⟨lsA, lcA, f == 1⟩) := Aside0.mk (by rw [← hT, hbe.out]; rfl)
                  clear hbad hT
                  as_aux_lemma =>
                    go_wp2_with (first | ((with_reducible refine gate_dst (N := 104) rfl ?_); refine wpList_load_blk rfl 79 (.tmp 4) rfl (w.heap.size + 1) 79 rfl [.slice A0 n0 c0, .bool b0] _ hS0.out.i Try.underlying79 rfl (info_in2 _ _) ?_) | (go_at_call 43; ((with_reducible refine (cF.out _ _ _ hS0.out.d).mono ?_); rintro e w1 ⟨⟨v', rfl, hD⟩, hb⟩; obtain ⟨A1, n1, c1, b1, rfl⟩ := hD.form; have hD1 := Aside0.mk ((hD.mono (fun k hk _ => hS0.out.new k hk))); have hS1 := Aside0.mk (hS0.out.below hb); clear hb hD)) | (refine wpList_put_blk rfl 79 (.tmp 4) (.tmp 106) rfl (w.heap.size + 1) 79 [.slice A1 n1 c1, .bool b1] [.slice A0 n0 c0, .bool b0] rfl rfl rfl hS1.out.i (info_in2 _ _) (two_one _ _ rfl rfl) ?_; intro w2 hi hg hs_; have hS2 := Aside0.mk ((hS1.out.put hg ((hD1.out)) hi)); have k2 := hS2.out.t.get 2 _ rfl; have kf := hS2.out.t.fz 2; have hS3 := Aside0.mk (hS2.out.firm (f == 1)); have m0 := hS3.out.i.get 0 _ rfl; have m1 := hS3.out.i.get 1 _ rfl; clear hi hg hs_) | (go_at_call 46; ((with_reducible refine (cE.out _ _ _ hS3.out.d).mono ?_); rintro e w4 ⟨rfl, hb⟩; have hS4 := Aside0.mk (hS3.out.below hb); clear hb k2 kf m0 m1)) | ((with_reducible refine gate_dst (N := 123) rfl ?_); refine wpList_load_blk rfl 25 (.tmp 5) rfl (w.heap.size + 1 + 1) 25 rfl [.slice Ex lsA.length kx, .slice Ey lcA.length ky, .bool (f == 1)] _ hS4.out.t Try.underlying25 rfl (info_tx3_ _ _ _) ?_) | (refine wpList_put_blk rfl 25 (.tmp 2) (.tmp 123) rfl w.heap.size 25 [.slice Ex lsA.length kx, .slice Ey lcA.length ky, .bool (f == 1)] [.slice none 0 0, .slice none 0 0, .bool false] rfl rfl rfl hS4.out.z (info_tx3_ _ _ _) (by intro u hu; simp at hu; rcases hu with rfl | rfl | rfl <;> rfl) ?_; intro w11 hX11 hg11 hs11))
                    exact bodyPost_ret (results_ct rfl _ _ w.heap.size 25 #[.slice Ex lsA.length kx, .slice Ey lcA.length ky, .bool (f == 1)] (0, 0) _ rfl hX11 Try.underlying25 rfl (info_tx3_ _ _ _)) rfl (by rw [hTe.out, hbe.out]; exact ⟨⟨_, _, rfl, Kd.R_lower (Kd.R_mono (Kd.R_grown hS4.out.s hg11 (fun k hk e => hk (Option.some.inj e))) (fun _ _ => trivial)) (by omega), Kd.R_lower (Kd.R_mono (Kd.R_grown hS4.out.c hg11 (fun k hk e => hk (Option.some.inj e))) (fun _ _ => trivial)) (by omega)⟩, hS4.out.b.grown hg11 hS4.out.b.size (fun k e => by have := Option.some.inj e; omega)⟩)
            · have hbe : Aside0 (bad = true) := Aside0.mk (by rw [← hbad]; simp)
              have hTe : Aside0 (T = ztx) := Aside0.mk (by rw [← hT, hbe.out]; rfl)
              clear hbad hT
              as_aux_lemma =>
                go_wp2_with (first | ((with_reducible refine gate_dst (N := 104) rfl ?_); refine wpList_load_blk rfl 79 (.tmp 4) rfl (w.heap.size + 1) 79 rfl [.slice A0 n0 c0, .bool b0] _ hS0.out.i Try.underlying79 rfl (info_in2 _ _) ?_) | (go_at_call 43; ((with_reducible refine (cF.out _ _ _ hS0.out.d).mono ?_); rintro e w1 ⟨⟨v', rfl, hD⟩, hb⟩; obtain ⟨A1, n1, c1, b1, rfl⟩ := hD.form; have hD1 := Aside0.mk ((hD.mono (fun k hk _ => hS0.out.new k hk))); have hS1 := Aside0.mk (hS0.out.below hb); clear hb hD)) | (refine wpList_put_blk rfl 79 (.tmp 4) (.tmp 106) rfl (w.heap.size + 1) 79 [.slice A1 n1 c1, .bool b1] [.slice A0 n0 c0, .bool b0] rfl rfl rfl hS1.out.i (info_in2 _ _) (two_one _ _ rfl rfl) ?_; intro w2 hi hg hs_; have hS2 := Aside0.mk ((hS1.out.put hg ((hD1.out)) hi)); have k2 := hS2.out.t.get 2 _ rfl; have kf := hS2.out.t.fz 2; have hS3 := Aside0.mk (hS2.out.firm (f == 1)); have hS4 := hS3; clear hi hg hs_) | (refine wpList_put_blk rfl 25 (.tmp 2) (.tmp 122) rfl w.heap.size 25 [.slice none 0 0, .slice none 0 0, .bool false] [.slice none 0 0, .slice none 0 0, .bool false] rfl rfl rfl hS4.out.z (info_tx3_ _ _ _) (by intro u hu; simp at hu; rcases hu with rfl | rfl | rfl <;> rfl) ?_; intro w11 hX11 hg11 hs11))
                exact bodyPost_ret (results_ct rfl _ _ w.heap.size 25 #[.slice none 0 0, .slice none 0 0, .bool false] (0, 0) _ rfl hX11 Try.underlying25 rfl (info_tx3_ _ _ _)) rfl (by rw [hTe.out, hbe.out]; exact ⟨⟨_, _, rfl, Kd.R_nil _ _ _ _ _, Kd.R_nil _ _ _ _ _⟩, hS4.out.b.grown hg11 hS4.out.b.size (fun k e => by have := Option.some.inj e; omega)⟩)
          · have hbe : Aside0 (bad = true) := Aside0.mk (by rw [← hbad]; simp)
            have hTe : Aside0 (T = ztx) := Aside0.mk (by rw [← hT, hbe.out]; rfl)
            clear hbad hT
            as_aux_lemma =>
              go_wp2_with (first | ((with_reducible refine gate_dst (N := 104) rfl ?_); refine wpList_load_blk rfl 79 (.tmp 4) rfl (w.heap.size + 1) 79 rfl [.slice A0 n0 c0, .bool b0] _ hS0.out.i Try.underlying79 rfl (info_in2 _ _) ?_) | (go_at_call 43; ((with_reducible refine (cF.out _ _ _ hS0.out.d).mono ?_); rintro e w1 ⟨⟨v', rfl, hD⟩, hb⟩; obtain ⟨A1, n1, c1, b1, rfl⟩ := hD.form; have hD1 := Aside0.mk ((hD.mono (fun k hk _ => hS0.out.new k hk))); have hS1 := Aside0.mk (hS0.out.below hb); clear hb hD)) | (refine wpList_put_blk rfl 79 (.tmp 4) (.tmp 106) rfl (w.heap.size + 1) 79 [.slice A1 n1 c1, .bool b1] [.slice A0 n0 c0, .bool b0] rfl rfl rfl hS1.out.i (info_in2 _ _) (two_one _ _ rfl rfl) ?_; intro w2 hi hg hs_; have hS2 := Aside0.mk ((hS1.out.put hg ((hD1.out)) hi)); have k2 := hS2.out.t.get 2 _ rfl; have kf := hS2.out.t.fz 2; have hS3 := Aside0.mk (hS2.out.firm (f == 1)); have hS4 := hS3; clear hi hg hs_) | (refine wpList_put_blk rfl 25 (.tmp 2) (.tmp 122) rfl w.heap.size 25 [.slice none 0 0, .slice none 0 0, .bool false] [.slice none 0 0, .slice none 0 0, .bool false] rfl rfl rfl hS4.out.z (info_tx3_ _ _ _) (by intro u hu; simp at hu; rcases hu with rfl | rfl | rfl <;> rfl) ?_; intro w11 hX11 hg11 hs11))
              exact bodyPost_ret (results_ct rfl _ _ w.heap.size 25 #[.slice none 0 0, .slice none 0 0, .bool false] (0, 0) _ rfl hX11 Try.underlying25 rfl (info_tx3_ _ _ _)) rfl (by rw [hTe.out, hbe.out]; exact ⟨⟨_, _, rfl, Kd.R_nil _ _ _ _ _, Kd.R_nil _ _ _ _ _⟩, hS4.out.b.grown hg11 hS4.out.b.size (fun k e => by have := Option.some.inj e; omega)⟩)
end Go.Proofs.Ytlgfekllkahfaaa.Pack
