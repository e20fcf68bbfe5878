/- The last statements of DigestRoots: both halves' trees laid into variables; the whole tree held against the digest of both.
   Printed by dig_roots.py, a program of this session. -/
import Derived.Test.YtibiaacgcpgkbaaDoorShaV
set_option linter.unusedVariables false
set_option linter.unusedSimpArgs false
namespace Go.Proofs.YtibiaacgcpgkbaaDoor.Walk
open Go.RowKit Go.Proofs.YtibiaacgcpgkbaaDoorW.PrintWords Go.Proofs.YtibiaacgcpgkbaaDoorW.PrintMore Go.Proofs.YtibiaacgcpgkbaaDoor Go.Proofs.YtibiaacgcpgkbaaDoor.Bits Sha ArrK ShaW
open Go.Proofs.YtibiaacgcpgkbaaDoor.InRound (op_at)
set_option maxRecDepth 100000 in
set_option maxHeartbeats 4000000 in
theorem region8 {Q : Exit → Act → World → Prop} (L : List (List Int)) (ad : Addr) (c h : Nat) (s1 s2 : List Int) (w W : World) (hh : h ≤ 4) (hpos : 1 ≤ h) (hcl : 2 * h ≤ c) (u1 u2 u4 u5 u6 u7 u8 u9 u10 u11 u12 u13 u14 u15 u16 u17 u18 u19 u20 u21 u22 u23 u24 u25 u26 u27 u28 u29 u30 u31 u32 u33 u34 u35 u36 u37 u38 u39 u40 u41 u42 u43 u44 u45 u46 u47 u48 u49 u50 u51 u52 u53 u54 u55 u56 u57 u58 u59 u60 u61 u62 u63 : Value)
    (t1 : ∀ V, Below w.heap.size w V → Calls Tryd.prog 17 #[.slice (some ad) h c] V fun e w' => e = .returned (hv s1) ∧ Below V.heap.size V w')
    (t2 : ∀ V, Below w.heap.size w V → Calls Tryd.prog 17 #[.slice (some (ad.add (h * 32))) h (c - h)] V fun e w' => e = .returned (hv s2) ∧ Below V.heap.size V w')
    (s1l : s1.length = 32) (s2l : s2.length = 32) (hB : Below w.heap.size w W)
    (hk : ∀ B4 B5 V, Blk V B4 25 (nums .u8 s1) → Blk V B5 25 (nums .u8 s2) → Below w.heap.size w V → Q .normal { tmps := #[.slice (some ad) L.length c, u1, u2, .int .i64 (2 * (h : Int)), .pointer (some ⟨B4, 0, none⟩), .pointer (some ⟨B5, 0, none⟩), u6, u7, u8, u9, u10, u11, u12, u13, u14, u15, u16, u17, u18, u19, u20, u21, u22, u23, u24, u25, u26, u27, u28, u29, u30, u31, u32, u33, u34, u35, u36, u37, u38, u39, u40, u41, u42, u43, .slice (some ad) L.length c, .int .i64 (2 * (h : Int)), .int .i64 (h : Int), .slice (some ad) h c, hv s1, .slice (some ad) L.length c, .int .i64 (2 * (h : Int)), .int .i64 (h : Int), .int .i64 (2 * (h : Int)), .slice (some (ad.add (h * 32))) h (c - h), hv s2, u55, u56, u57, u58, u59, u60, u61, u62, u63], defers := [] } V) :
    Code.wp Tryd.prog (Code.region 8 #[{ dst := some 44, op := Go.Op.move (Go.Operand.tmp 0), type := 35, pos := "law.go:86", after := #[], guard := none }, { dst := some 45, op := Go.Op.move (Go.Operand.tmp 3), type := 3, pos := "law.go:86", after := #[], guard := none }, { dst := some 46, op := Go.Op.binOp Go.BinOp.quo 3 (Go.Operand.tmp 45) (Go.Operand.const (Go.Value.int Go.IntKind.i64 2)) 3, type := 3, pos := "law.go:86", after := #[{ on := 1, ground := Go.Ground.data }], guard := none }, { dst := some 47, op := Go.Op.slice 35 (Go.Operand.tmp 44) none (some (Go.Operand.tmp 46)) none, type := 35, pos := "law.go:86", after := #[{ on := 0, ground := Go.Ground.data }, { on := 2, ground := Go.Ground.data }], guard := none }, { dst := some 48, op := Go.Op.call { callee := Go.Callee.value (Go.Operand.func 17), args := #[Go.Operand.tmp 47], argTypes := #[35] }, type := 25, pos := "law.go:86", after := #[{ on := 3, ground := Go.Ground.data }], guard := none }, { dst := some 49, op := Go.Op.move (Go.Operand.tmp 0), type := 35, pos := "law.go:86", after := #[], guard := none }, { dst := some 50, op := Go.Op.move (Go.Operand.tmp 3), type := 3, pos := "law.go:86", after := #[], guard := none }, { dst := some 51, op := Go.Op.binOp Go.BinOp.quo 3 (Go.Operand.tmp 50) (Go.Operand.const (Go.Value.int Go.IntKind.i64 2)) 3, type := 3, pos := "law.go:86", after := #[{ on := 6, ground := Go.Ground.data }], guard := none }, { dst := some 52, op := Go.Op.move (Go.Operand.tmp 3), type := 3, pos := "law.go:86", after := #[], guard := none }, { dst := some 53, op := Go.Op.slice 35 (Go.Operand.tmp 49) (some (Go.Operand.tmp 51)) (some (Go.Operand.tmp 52)) none, type := 35, pos := "law.go:86", after := #[{ on := 5, ground := Go.Ground.data }, { on := 7, ground := Go.Ground.data }, { on := 8, ground := Go.Ground.data }], guard := none }, { dst := some 54, op := Go.Op.call { callee := Go.Callee.value (Go.Operand.func 17), args := #[Go.Operand.tmp 53], argTypes := #[35] }, type := 25, pos := "law.go:86", after := #[{ on := 9, ground := Go.Ground.data }, { on := 4, ground := Go.Ground.chain }], guard := none }, { dst := some 4, op := Go.Op.alloc 25, type := 0, pos := "law.go:86", after := #[], guard := none }, { dst := some 5, op := Go.Op.alloc 25, type := 0, pos := "law.go:86", after := #[], guard := none }, { dst := none, op := Go.Op.store 25 (Go.Operand.tmp 4) (Go.Operand.tmp 48), type := 0, pos := "law.go:86", after := #[{ on := 11, ground := Go.Ground.data }, { on := 4, ground := Go.Ground.data }, { on := 10, ground := Go.Ground.chain }, { on := 0, ground := Go.Ground.phase }, { on := 1, ground := Go.Ground.phase }, { on := 2, ground := Go.Ground.phase }, { on := 3, ground := Go.Ground.phase }, { on := 4, ground := Go.Ground.phase }, { on := 5, ground := Go.Ground.textOnly Go.Departure.lateStores }, { on := 6, ground := Go.Ground.textOnly Go.Departure.lateStores }, { on := 7, ground := Go.Ground.textOnly Go.Departure.lateStores }, { on := 8, ground := Go.Ground.textOnly Go.Departure.lateStores }, { on := 9, ground := Go.Ground.textOnly Go.Departure.lateStoresUnsure }, { on := 10, ground := Go.Ground.phase }, { on := 11, ground := Go.Ground.phase }, { on := 12, ground := Go.Ground.phase }], guard := none }, { dst := none, op := Go.Op.store 25 (Go.Operand.tmp 5) (Go.Operand.tmp 54), type := 0, pos := "law.go:86", after := #[{ on := 12, ground := Go.Ground.data }, { on := 10, ground := Go.Ground.data }, { on := 13, ground := Go.Ground.chain }, { on := 0, ground := Go.Ground.phase }, { on := 1, ground := Go.Ground.phase }, { on := 2, ground := Go.Ground.phase }, { on := 3, ground := Go.Ground.phase }, { on := 4, ground := Go.Ground.phase }, { on := 5, ground := Go.Ground.phase }, { on := 6, ground := Go.Ground.phase }, { on := 7, ground := Go.Ground.phase }, { on := 8, ground := Go.Ground.phase }, { on := 9, ground := Go.Ground.phase }, { on := 10, ground := Go.Ground.phase }, { on := 11, ground := Go.Ground.phase }, { on := 12, ground := Go.Ground.phase }, { on := 13, ground := Go.Ground.phase }], guard := none }] true) Q { tmps := #[.slice (some ad) L.length c, u1, u2, .int .i64 (2 * (h : Int)), u4, u5, u6, u7, u8, u9, u10, u11, u12, u13, u14, u15, u16, u17, u18, u19, u20, u21, u22, u23, u24, u25, u26, u27, u28, u29, u30, u31, u32, u33, u34, u35, u36, u37, u38, u39, u40, u41, u42, u43, u44, u45, u46, u47, u48, u49, u50, u51, u52, u53, u54, u55, u56, u57, u58, u59, u60, u61, u62, u63], defers := [] } W := by
  have hs1i := Aside0.mk (info_hash s1 s1l); have hs2i := Aside0.mk (info_hash s2 s2l); have s1A := Aside0.mk s1l; have s2A := Aside0.mk s2l; have t1A := Aside0.mk t1; have t2A := Aside0.mk t2
  clear s1l s2l t1 t2
  have e2 : Int.tdiv (2 * (h : Int)) 2 = (h : Int) := by rw [Int.tdiv_eq_ediv_of_nonneg (by omega)]; omega
  have e3 : (2 * (h : Int)) / 2 = (h : Int) := by omega
  have f1 : (h : Int) ≤ (c : Int) := by omega
  have f2 : 2 * (h : Int) ≤ (c : Int) := by omega
  have f3 : (0 : Int) ≤ (h : Int) := by omega
  have f5 : IntKind.i64.wrap (h : Int) = (h : Int) := IntWalk.i64_in _ (by omega)
  have f6 : ¬ c = h := by omega
  have f7 : (2 * (h : Int)).toNat - h = h := by omega
  have f4 : (h : Int) ≤ 2 * (h : Int) := by omega
  refine wp_region_noPanic ?_
  have H0 : Below w.heap.size w W.drew := pw_below_drewN hB 1
  refine wp_region_held_drew (S := fun V => Below w.heap.size w V) (by kernel_rfl) H0 (fun _ => ?_)
  generalize W.drew = V0 at *
  refine wpAnyH_take (i := 0) (v := .slice (some ad) L.length c) (op_at rfl) (by kernel_rfl) (by kernel_rfl) (by kernel_rfl) (fun _ _ _ h => h) (Or.inl ⟨by rfl, fun w_ hSw => ?_⟩) H0 ?_
  · skip; go_simp
  try simp only [Act.put, List.setIfInBounds_toArray, List.set_cons_zero, List.set_cons_succ]
  refine wpAnyH_take (i := 1) (v := .int .i64 (2 * (h : Int))) (op_at rfl) (by kernel_rfl) (by kernel_rfl) (by kernel_rfl) (fun _ _ _ h => h) (Or.inl ⟨by rfl, fun w_ hSw => ?_⟩) H0 ?_
  · skip; go_simp
  try simp only [Act.put, List.setIfInBounds_toArray, List.set_cons_zero, List.set_cons_succ]
  refine wpAnyH_take (i := 2) (v := .int .i64 (h : Int)) (op_at rfl) (by kernel_rfl) (by kernel_rfl) (by kernel_rfl) (fun _ _ _ h => h) (Or.inl ⟨by rfl, fun w_ hSw => ?_⟩) H0 ?_
  · skip; go_simp
  try simp only [Act.put, List.setIfInBounds_toArray, List.set_cons_zero, List.set_cons_succ]
  refine wpAnyH_take (i := 3) (v := .slice (some ad) h c) (op_at rfl) (by kernel_rfl) (by kernel_rfl) (by kernel_rfl) (fun _ _ _ h => h) (Or.inl ⟨by rfl, fun w_ hSw => ?_⟩) H0 ?_
  · skip; go_simp
  try simp only [Act.put, List.setIfInBounds_toArray, List.set_cons_zero, List.set_cons_succ]
  refine wpAnyH_take (i := 5) (v := .slice (some ad) L.length c) (op_at rfl) (by kernel_rfl) (by kernel_rfl) (by kernel_rfl) (fun _ _ _ h => h) (Or.inl ⟨by rfl, fun w_ hSw => ?_⟩) H0 ?_
  · skip; go_simp
  try simp only [Act.put, List.setIfInBounds_toArray, List.set_cons_zero, List.set_cons_succ]
  refine wpAnyH_take (i := 6) (v := .int .i64 (2 * (h : Int))) (op_at rfl) (by kernel_rfl) (by kernel_rfl) (by kernel_rfl) (fun _ _ _ h => h) (Or.inl ⟨by rfl, fun w_ hSw => ?_⟩) H0 ?_
  · skip; go_simp
  try simp only [Act.put, List.setIfInBounds_toArray, List.set_cons_zero, List.set_cons_succ]
  refine wpAnyH_take (i := 7) (v := .int .i64 (h : Int)) (op_at rfl) (by kernel_rfl) (by kernel_rfl) (by kernel_rfl) (fun _ _ _ h => h) (Or.inl ⟨by rfl, fun w_ hSw => ?_⟩) H0 ?_
  · skip; go_simp
  try simp only [Act.put, List.setIfInBounds_toArray, List.set_cons_zero, List.set_cons_succ]
  refine wpAnyH_take (i := 8) (v := .int .i64 (2 * (h : Int))) (op_at rfl) (by kernel_rfl) (by kernel_rfl) (by kernel_rfl) (fun _ _ _ h => h) (Or.inl ⟨by rfl, fun w_ hSw => ?_⟩) H0 ?_
  · skip; go_simp
  try simp only [Act.put, List.setIfInBounds_toArray, List.set_cons_zero, List.set_cons_succ]
  refine wpAnyH_take (i := 9) (v := .slice (some (ad.add (h * 32))) h (c - h)) (op_at rfl) (by kernel_rfl) (by kernel_rfl) (by kernel_rfl) (fun _ _ _ h => h) (Or.inl ⟨by rfl, fun w_ hSw => ?_⟩) H0 ?_
  · skip; go_simp
  try simp only [Act.put, List.setIfInBounds_toArray, List.set_cons_zero, List.set_cons_succ]
  refine wpAnyH_ready (rs := [4, 11, 12]) (by kernel_rfl) (by simp) ?_
  refine AllReadyH.cons (op_at rfl) (fun K hK => ?_) (AllReadyH.cons (op_at rfl) (fun K hK => ?_) (AllReadyH.cons (op_at rfl) (fun K hK => ?_) AllReadyH.nil))
  · go_simp
    go_at_call 17
    with_reducible refine (t1A.out V0 H0).mono ?_
    rintro e V1_ ⟨rfl, hb⟩
    go_wp2_with fail
    refine hK.out _ _ (below_then H0 H0.size hb) (fun H1_ => ?_)
    clear hK K hb
    try simp only [Act.put, List.setIfInBounds_toArray, List.set_cons_zero, List.set_cons_succ]
    refine wpAnyH_ready (rs := [10, 11, 12]) (by kernel_rfl) (by simp) ?_
    refine AllReadyH.cons (op_at rfl) (fun K hK => ?_) (AllReadyH.cons (op_at rfl) (fun K hK => ?_) (AllReadyH.cons (op_at rfl) (fun K hK => ?_) AllReadyH.nil))
    · go_simp
      go_at_call 17
      with_reducible refine (t2A.out V1_ H1_).mono ?_
      rintro e V2_ ⟨rfl, hb⟩
      go_wp2_with fail
      refine hK.out _ _ (below_then H1_ H1_.size hb) (fun H2_ => ?_)
      clear hK K hb
      try simp only [Act.put, List.setIfInBounds_toArray, List.set_cons_zero, List.set_cons_succ]
      refine wpAnyH_ready (rs := [11, 12]) (by kernel_rfl) (by simp) ?_
      refine AllReadyH.cons (op_at rfl) (fun K hK => ?_) (AllReadyH.cons (op_at rfl) (fun K hK => ?_) AllReadyH.nil)
      · go_simp
        have hb := below_alloc (Below.refl V2_.heap.size V2_) (.cells #[.int .u8 0, .int .u8 0, .int .u8 0, .int .u8 0, .int .u8 0, .int .u8 0, .int .u8 0, .int .u8 0, .int .u8 0, .int .u8 0, .int .u8 0, .int .u8 0, .int .u8 0, .int .u8 0, .int .u8 0, .int .u8 0, .int .u8 0, .int .u8 0, .int .u8 0, .int .u8 0, .int .u8 0, .int .u8 0, .int .u8 0, .int .u8 0, .int .u8 0, .int .u8 0, .int .u8 0, .int .u8 0, .int .u8 0, .int .u8 0, .int .u8 0, .int .u8 0] 25)
        refine hK.out _ _ (below_then H2_ H2_.size hb) (fun H3_ => ?_)
        have Z4_3 := Blk.new V2_ 25 [.int .u8 0, .int .u8 0, .int .u8 0, .int .u8 0, .int .u8 0, .int .u8 0, .int .u8 0, .int .u8 0, .int .u8 0, .int .u8 0, .int .u8 0, .int .u8 0, .int .u8 0, .int .u8 0, .int .u8 0, .int .u8 0, .int .u8 0, .int .u8 0, .int .u8 0, .int .u8 0, .int .u8 0, .int .u8 0, .int .u8 0, .int .u8 0, .int .u8 0, .int .u8 0, .int .u8 0, .int .u8 0, .int .u8 0, .int .u8 0, .int .u8 0, .int .u8 0]
        clear hK K hb
        obtain ⟨V3_, hV_⟩ : ∃ V_, V_ = V2_.alloc (.cells #[.int .u8 0, .int .u8 0, .int .u8 0, .int .u8 0, .int .u8 0, .int .u8 0, .int .u8 0, .int .u8 0, .int .u8 0, .int .u8 0, .int .u8 0, .int .u8 0, .int .u8 0, .int .u8 0, .int .u8 0, .int .u8 0, .int .u8 0, .int .u8 0, .int .u8 0, .int .u8 0, .int .u8 0, .int .u8 0, .int .u8 0, .int .u8 0, .int .u8 0, .int .u8 0, .int .u8 0, .int .u8 0, .int .u8 0, .int .u8 0, .int .u8 0, .int .u8 0] 25) := ⟨_, rfl⟩
        rw [← hV_] at H3_ Z4_3 ⊢
        obtain ⟨gZ4_3, hg_⟩ : ∃ g_, g_ = V2_.heap.size := ⟨_, rfl⟩
        rw [← hg_] at Z4_3 ⊢
        have gL_Z4 : w.heap.size ≤ gZ4_3 := by have h_ := Below.size H2_; omega
        clear hV_ hg_
        try simp only [Act.put, List.setIfInBounds_toArray, List.set_cons_zero, List.set_cons_succ]
        refine wpAnyH_ready (rs := [12]) (by kernel_rfl) (by simp) ?_
        refine AllReadyH.cons (op_at rfl) (fun K hK => ?_) AllReadyH.nil
        go_simp
        have hb := below_alloc (Below.refl V3_.heap.size V3_) (.cells #[.int .u8 0, .int .u8 0, .int .u8 0, .int .u8 0, .int .u8 0, .int .u8 0, .int .u8 0, .int .u8 0, .int .u8 0, .int .u8 0, .int .u8 0, .int .u8 0, .int .u8 0, .int .u8 0, .int .u8 0, .int .u8 0, .int .u8 0, .int .u8 0, .int .u8 0, .int .u8 0, .int .u8 0, .int .u8 0, .int .u8 0, .int .u8 0, .int .u8 0, .int .u8 0, .int .u8 0, .int .u8 0, .int .u8 0, .int .u8 0, .int .u8 0, .int .u8 0] 25)
        refine hK.out _ _ (below_then H3_ H3_.size hb) (fun H4_ => ?_)
        have Z4_4 := Blk.below Z4_3 hb
        have Z5_4 := Blk.new V3_ 25 [.int .u8 0, .int .u8 0, .int .u8 0, .int .u8 0, .int .u8 0, .int .u8 0, .int .u8 0, .int .u8 0, .int .u8 0, .int .u8 0, .int .u8 0, .int .u8 0, .int .u8 0, .int .u8 0, .int .u8 0, .int .u8 0, .int .u8 0, .int .u8 0, .int .u8 0, .int .u8 0, .int .u8 0, .int .u8 0, .int .u8 0, .int .u8 0, .int .u8 0, .int .u8 0, .int .u8 0, .int .u8 0, .int .u8 0, .int .u8 0, .int .u8 0, .int .u8 0]
        clear hK K hb
        obtain ⟨V4_, hV_⟩ : ∃ V_, V_ = V3_.alloc (.cells #[.int .u8 0, .int .u8 0, .int .u8 0, .int .u8 0, .int .u8 0, .int .u8 0, .int .u8 0, .int .u8 0, .int .u8 0, .int .u8 0, .int .u8 0, .int .u8 0, .int .u8 0, .int .u8 0, .int .u8 0, .int .u8 0, .int .u8 0, .int .u8 0, .int .u8 0, .int .u8 0, .int .u8 0, .int .u8 0, .int .u8 0, .int .u8 0, .int .u8 0, .int .u8 0, .int .u8 0, .int .u8 0, .int .u8 0, .int .u8 0, .int .u8 0, .int .u8 0] 25) := ⟨_, rfl⟩
        rw [← hV_] at H4_ Z4_4 Z5_4 ⊢
        obtain ⟨gZ5_4, hg_⟩ : ∃ g_, g_ = V3_.heap.size := ⟨_, rfl⟩
        rw [← hg_] at Z5_4 ⊢
        have gL_Z5 : w.heap.size ≤ gZ5_4 := by have h_ := Below.size H3_; omega
        have ne_ : gZ4_3 ≠ gZ5_4 := by have h_ := Blk.lt Z4_3; omega
        clear hV_ hg_
        try simp only [Act.put, List.setIfInBounds_toArray, List.set_cons_zero, List.set_cons_succ]
        refine wpAnyH_ready (rs := [13]) (by kernel_rfl) (by simp) ?_
        refine AllReadyH.cons (op_at rfl) (fun K hK => ?_) AllReadyH.nil
        have gL4_ : w.heap.size ≤ gZ4_3 := by assumption
        refine step_put_blk (by rfl) 25 (.tmp 4) (.tmp 48) rfl gZ4_3 25 (nums .u8 s1) _ (by simp [nums, s1A.out]) rfl rfl Z4_4 hs1i.out (u8_one _) ?_
        intro V5_ hW_ hg_ _
        refine hK.out _ _ (Below.grown H4_ hg_ H4_.size (fun k e => by cases e; exact gL4_)) (fun H5_ => ?_)
        have X5_5 := Z5_4.grown hg_ (fun e => by have e2 := Option.some.inj e; first | exact ne_ e2 | exact ne_ e2.symm)
        have X4_5 := hW_
        clear hK K hg_ hW_
        try simp only [Act.put, List.setIfInBounds_toArray, List.set_cons_zero, List.set_cons_succ]
        refine wpAnyH_ready (rs := [14]) (by kernel_rfl) (by simp) ?_
        refine AllReadyH.cons (op_at rfl) (fun K hK => ?_) AllReadyH.nil
        have gL5_ : w.heap.size ≤ gZ5_4 := by assumption
        refine step_put_blk (by rfl) 25 (.tmp 5) (.tmp 54) rfl gZ5_4 25 (nums .u8 s2) _ (by simp [nums, s2A.out]) rfl rfl X5_5 hs2i.out (u8_one _) ?_
        intro V6_ hW_ hg_ _
        refine hK.out _ _ (Below.grown H5_ hg_ H5_.size (fun k e => by cases e; exact gL5_)) (fun H6_ => ?_)
        have X4_6 := X4_5.grown hg_ (fun e => by have e2 := Option.some.inj e; first | exact ne_ e2 | exact ne_ e2.symm)
        have X5_6 := hW_
        clear hK K hg_ hW_
        try simp only [Act.put, List.setIfInBounds_toArray, List.set_cons_zero, List.set_cons_succ]
        refine wpAnyH_done (by kernel_rfl) ?_ _
        refine NoPanic.normal ?_
        exact hk _ _ _ X4_6 X5_6 H6_
      · go_simp
        have hb := below_alloc (Below.refl V2_.heap.size V2_) (.cells #[.int .u8 0, .int .u8 0, .int .u8 0, .int .u8 0, .int .u8 0, .int .u8 0, .int .u8 0, .int .u8 0, .int .u8 0, .int .u8 0, .int .u8 0, .int .u8 0, .int .u8 0, .int .u8 0, .int .u8 0, .int .u8 0, .int .u8 0, .int .u8 0, .int .u8 0, .int .u8 0, .int .u8 0, .int .u8 0, .int .u8 0, .int .u8 0, .int .u8 0, .int .u8 0, .int .u8 0, .int .u8 0, .int .u8 0, .int .u8 0, .int .u8 0, .int .u8 0] 25)
        refine hK.out _ _ (below_then H2_ H2_.size hb) (fun H7_ => ?_)
        have Z5_7 := Blk.new V2_ 25 [.int .u8 0, .int .u8 0, .int .u8 0, .int .u8 0, .int .u8 0, .int .u8 0, .int .u8 0, .int .u8 0, .int .u8 0, .int .u8 0, .int .u8 0, .int .u8 0, .int .u8 0, .int .u8 0, .int .u8 0, .int .u8 0, .int .u8 0, .int .u8 0, .int .u8 0, .int .u8 0, .int .u8 0, .int .u8 0, .int .u8 0, .int .u8 0, .int .u8 0, .int .u8 0, .int .u8 0, .int .u8 0, .int .u8 0, .int .u8 0, .int .u8 0, .int .u8 0]
        clear hK K hb
        obtain ⟨V7_, hV_⟩ : ∃ V_, V_ = V2_.alloc (.cells #[.int .u8 0, .int .u8 0, .int .u8 0, .int .u8 0, .int .u8 0, .int .u8 0, .int .u8 0, .int .u8 0, .int .u8 0, .int .u8 0, .int .u8 0, .int .u8 0, .int .u8 0, .int .u8 0, .int .u8 0, .int .u8 0, .int .u8 0, .int .u8 0, .int .u8 0, .int .u8 0, .int .u8 0, .int .u8 0, .int .u8 0, .int .u8 0, .int .u8 0, .int .u8 0, .int .u8 0, .int .u8 0, .int .u8 0, .int .u8 0, .int .u8 0, .int .u8 0] 25) := ⟨_, rfl⟩
        rw [← hV_] at H7_ Z5_7 ⊢
        obtain ⟨gZ5_7, hg_⟩ : ∃ g_, g_ = V2_.heap.size := ⟨_, rfl⟩
        rw [← hg_] at Z5_7 ⊢
        have gL_Z5 : w.heap.size ≤ gZ5_7 := by have h_ := Below.size H2_; omega
        clear hV_ hg_
        try simp only [Act.put, List.setIfInBounds_toArray, List.set_cons_zero, List.set_cons_succ]
        refine wpAnyH_ready (rs := [11]) (by kernel_rfl) (by simp) ?_
        refine AllReadyH.cons (op_at rfl) (fun K hK => ?_) AllReadyH.nil
        go_simp
        have hb := below_alloc (Below.refl V7_.heap.size V7_) (.cells #[.int .u8 0, .int .u8 0, .int .u8 0, .int .u8 0, .int .u8 0, .int .u8 0, .int .u8 0, .int .u8 0, .int .u8 0, .int .u8 0, .int .u8 0, .int .u8 0, .int .u8 0, .int .u8 0, .int .u8 0, .int .u8 0, .int .u8 0, .int .u8 0, .int .u8 0, .int .u8 0, .int .u8 0, .int .u8 0, .int .u8 0, .int .u8 0, .int .u8 0, .int .u8 0, .int .u8 0, .int .u8 0, .int .u8 0, .int .u8 0, .int .u8 0, .int .u8 0] 25)
        refine hK.out _ _ (below_then H7_ H7_.size hb) (fun H8_ => ?_)
        have Z5_8 := Blk.below Z5_7 hb
        have Z4_8 := Blk.new V7_ 25 [.int .u8 0, .int .u8 0, .int .u8 0, .int .u8 0, .int .u8 0, .int .u8 0, .int .u8 0, .int .u8 0, .int .u8 0, .int .u8 0, .int .u8 0, .int .u8 0, .int .u8 0, .int .u8 0, .int .u8 0, .int .u8 0, .int .u8 0, .int .u8 0, .int .u8 0, .int .u8 0, .int .u8 0, .int .u8 0, .int .u8 0, .int .u8 0, .int .u8 0, .int .u8 0, .int .u8 0, .int .u8 0, .int .u8 0, .int .u8 0, .int .u8 0, .int .u8 0]
        clear hK K hb
        obtain ⟨V8_, hV_⟩ : ∃ V_, V_ = V7_.alloc (.cells #[.int .u8 0, .int .u8 0, .int .u8 0, .int .u8 0, .int .u8 0, .int .u8 0, .int .u8 0, .int .u8 0, .int .u8 0, .int .u8 0, .int .u8 0, .int .u8 0, .int .u8 0, .int .u8 0, .int .u8 0, .int .u8 0, .int .u8 0, .int .u8 0, .int .u8 0, .int .u8 0, .int .u8 0, .int .u8 0, .int .u8 0, .int .u8 0, .int .u8 0, .int .u8 0, .int .u8 0, .int .u8 0, .int .u8 0, .int .u8 0, .int .u8 0, .int .u8 0] 25) := ⟨_, rfl⟩
        rw [← hV_] at H8_ Z5_8 Z4_8 ⊢
        obtain ⟨gZ4_8, hg_⟩ : ∃ g_, g_ = V7_.heap.size := ⟨_, rfl⟩
        rw [← hg_] at Z4_8 ⊢
        have gL_Z4 : w.heap.size ≤ gZ4_8 := by have h_ := Below.size H7_; omega
        have ne_ : gZ5_7 ≠ gZ4_8 := by have h_ := Blk.lt Z5_7; omega
        clear hV_ hg_
        try simp only [Act.put, List.setIfInBounds_toArray, List.set_cons_zero, List.set_cons_succ]
        refine wpAnyH_ready (rs := [13]) (by kernel_rfl) (by simp) ?_
        refine AllReadyH.cons (op_at rfl) (fun K hK => ?_) AllReadyH.nil
        have gL4_ : w.heap.size ≤ gZ4_8 := by assumption
        refine step_put_blk (by rfl) 25 (.tmp 4) (.tmp 48) rfl gZ4_8 25 (nums .u8 s1) _ (by simp [nums, s1A.out]) rfl rfl Z4_8 hs1i.out (u8_one _) ?_
        intro V9_ hW_ hg_ _
        refine hK.out _ _ (Below.grown H8_ hg_ H8_.size (fun k e => by cases e; exact gL4_)) (fun H9_ => ?_)
        have X5_9 := Z5_8.grown hg_ (fun e => by have e2 := Option.some.inj e; first | exact ne_ e2 | exact ne_ e2.symm)
        have X4_9 := hW_
        clear hK K hg_ hW_
        try simp only [Act.put, List.setIfInBounds_toArray, List.set_cons_zero, List.set_cons_succ]
        refine wpAnyH_ready (rs := [14]) (by kernel_rfl) (by simp) ?_
        refine AllReadyH.cons (op_at rfl) (fun K hK => ?_) AllReadyH.nil
        have gL5_ : w.heap.size ≤ gZ5_7 := by assumption
        refine step_put_blk (by rfl) 25 (.tmp 5) (.tmp 54) rfl gZ5_7 25 (nums .u8 s2) _ (by simp [nums, s2A.out]) rfl rfl X5_9 hs2i.out (u8_one _) ?_
        intro V10_ hW_ hg_ _
        refine hK.out _ _ (Below.grown H9_ hg_ H9_.size (fun k e => by cases e; exact gL5_)) (fun H10_ => ?_)
        have X4_10 := X4_9.grown hg_ (fun e => by have e2 := Option.some.inj e; first | exact ne_ e2 | exact ne_ e2.symm)
        have X5_10 := hW_
        clear hK K hg_ hW_
        try simp only [Act.put, List.setIfInBounds_toArray, List.set_cons_zero, List.set_cons_succ]
        refine wpAnyH_done (by kernel_rfl) ?_ _
        refine NoPanic.normal ?_
        exact hk _ _ _ X4_10 X5_10 H10_
    · go_simp
      have hb := below_alloc (Below.refl V1_.heap.size V1_) (.cells #[.int .u8 0, .int .u8 0, .int .u8 0, .int .u8 0, .int .u8 0, .int .u8 0, .int .u8 0, .int .u8 0, .int .u8 0, .int .u8 0, .int .u8 0, .int .u8 0, .int .u8 0, .int .u8 0, .int .u8 0, .int .u8 0, .int .u8 0, .int .u8 0, .int .u8 0, .int .u8 0, .int .u8 0, .int .u8 0, .int .u8 0, .int .u8 0, .int .u8 0, .int .u8 0, .int .u8 0, .int .u8 0, .int .u8 0, .int .u8 0, .int .u8 0, .int .u8 0] 25)
      refine hK.out _ _ (below_then H1_ H1_.size hb) (fun H11_ => ?_)
      have Z4_11 := Blk.new V1_ 25 [.int .u8 0, .int .u8 0, .int .u8 0, .int .u8 0, .int .u8 0, .int .u8 0, .int .u8 0, .int .u8 0, .int .u8 0, .int .u8 0, .int .u8 0, .int .u8 0, .int .u8 0, .int .u8 0, .int .u8 0, .int .u8 0, .int .u8 0, .int .u8 0, .int .u8 0, .int .u8 0, .int .u8 0, .int .u8 0, .int .u8 0, .int .u8 0, .int .u8 0, .int .u8 0, .int .u8 0, .int .u8 0, .int .u8 0, .int .u8 0, .int .u8 0, .int .u8 0]
      clear hK K hb
      obtain ⟨V11_, hV_⟩ : ∃ V_, V_ = V1_.alloc (.cells #[.int .u8 0, .int .u8 0, .int .u8 0, .int .u8 0, .int .u8 0, .int .u8 0, .int .u8 0, .int .u8 0, .int .u8 0, .int .u8 0, .int .u8 0, .int .u8 0, .int .u8 0, .int .u8 0, .int .u8 0, .int .u8 0, .int .u8 0, .int .u8 0, .int .u8 0, .int .u8 0, .int .u8 0, .int .u8 0, .int .u8 0, .int .u8 0, .int .u8 0, .int .u8 0, .int .u8 0, .int .u8 0, .int .u8 0, .int .u8 0, .int .u8 0, .int .u8 0] 25) := ⟨_, rfl⟩
      rw [← hV_] at H11_ Z4_11 ⊢
      obtain ⟨gZ4_11, hg_⟩ : ∃ g_, g_ = V1_.heap.size := ⟨_, rfl⟩
      rw [← hg_] at Z4_11 ⊢
      have gL_Z4 : w.heap.size ≤ gZ4_11 := by have h_ := Below.size H1_; omega
      clear hV_ hg_
      try simp only [Act.put, List.setIfInBounds_toArray, List.set_cons_zero, List.set_cons_succ]
      refine wpAnyH_ready (rs := [10, 12]) (by kernel_rfl) (by simp) ?_
      refine AllReadyH.cons (op_at rfl) (fun K hK => ?_) (AllReadyH.cons (op_at rfl) (fun K hK => ?_) AllReadyH.nil)
      · go_simp
        go_at_call 17
        with_reducible refine (t2A.out V11_ H11_).mono ?_
        rintro e V12_ ⟨rfl, hb⟩
        go_wp2_with fail
        refine hK.out _ _ (below_then H11_ H11_.size hb) (fun H12_ => ?_)
        have Z4_12 := Blk.below Z4_11 hb
        clear hK K hb
        try simp only [Act.put, List.setIfInBounds_toArray, List.set_cons_zero, List.set_cons_succ]
        refine wpAnyH_ready (rs := [12]) (by kernel_rfl) (by simp) ?_
        refine AllReadyH.cons (op_at rfl) (fun K hK => ?_) AllReadyH.nil
        go_simp
        have hb := below_alloc (Below.refl V12_.heap.size V12_) (.cells #[.int .u8 0, .int .u8 0, .int .u8 0, .int .u8 0, .int .u8 0, .int .u8 0, .int .u8 0, .int .u8 0, .int .u8 0, .int .u8 0, .int .u8 0, .int .u8 0, .int .u8 0, .int .u8 0, .int .u8 0, .int .u8 0, .int .u8 0, .int .u8 0, .int .u8 0, .int .u8 0, .int .u8 0, .int .u8 0, .int .u8 0, .int .u8 0, .int .u8 0, .int .u8 0, .int .u8 0, .int .u8 0, .int .u8 0, .int .u8 0, .int .u8 0, .int .u8 0] 25)
        refine hK.out _ _ (below_then H12_ H12_.size hb) (fun H13_ => ?_)
        have Z4_13 := Blk.below Z4_12 hb
        have Z5_13 := Blk.new V12_ 25 [.int .u8 0, .int .u8 0, .int .u8 0, .int .u8 0, .int .u8 0, .int .u8 0, .int .u8 0, .int .u8 0, .int .u8 0, .int .u8 0, .int .u8 0, .int .u8 0, .int .u8 0, .int .u8 0, .int .u8 0, .int .u8 0, .int .u8 0, .int .u8 0, .int .u8 0, .int .u8 0, .int .u8 0, .int .u8 0, .int .u8 0, .int .u8 0, .int .u8 0, .int .u8 0, .int .u8 0, .int .u8 0, .int .u8 0, .int .u8 0, .int .u8 0, .int .u8 0]
        clear hK K hb
        obtain ⟨V13_, hV_⟩ : ∃ V_, V_ = V12_.alloc (.cells #[.int .u8 0, .int .u8 0, .int .u8 0, .int .u8 0, .int .u8 0, .int .u8 0, .int .u8 0, .int .u8 0, .int .u8 0, .int .u8 0, .int .u8 0, .int .u8 0, .int .u8 0, .int .u8 0, .int .u8 0, .int .u8 0, .int .u8 0, .int .u8 0, .int .u8 0, .int .u8 0, .int .u8 0, .int .u8 0, .int .u8 0, .int .u8 0, .int .u8 0, .int .u8 0, .int .u8 0, .int .u8 0, .int .u8 0, .int .u8 0, .int .u8 0, .int .u8 0] 25) := ⟨_, rfl⟩
        rw [← hV_] at H13_ Z4_13 Z5_13 ⊢
        obtain ⟨gZ5_13, hg_⟩ : ∃ g_, g_ = V12_.heap.size := ⟨_, rfl⟩
        rw [← hg_] at Z5_13 ⊢
        have gL_Z5 : w.heap.size ≤ gZ5_13 := by have h_ := Below.size H12_; omega
        have ne_ : gZ4_11 ≠ gZ5_13 := by have h_ := Blk.lt Z4_12; omega
        clear hV_ hg_
        try simp only [Act.put, List.setIfInBounds_toArray, List.set_cons_zero, List.set_cons_succ]
        refine wpAnyH_ready (rs := [13]) (by kernel_rfl) (by simp) ?_
        refine AllReadyH.cons (op_at rfl) (fun K hK => ?_) AllReadyH.nil
        have gL4_ : w.heap.size ≤ gZ4_11 := by assumption
        refine step_put_blk (by rfl) 25 (.tmp 4) (.tmp 48) rfl gZ4_11 25 (nums .u8 s1) _ (by simp [nums, s1A.out]) rfl rfl Z4_13 hs1i.out (u8_one _) ?_
        intro V14_ hW_ hg_ _
        refine hK.out _ _ (Below.grown H13_ hg_ H13_.size (fun k e => by cases e; exact gL4_)) (fun H14_ => ?_)
        have X5_14 := Z5_13.grown hg_ (fun e => by have e2 := Option.some.inj e; first | exact ne_ e2 | exact ne_ e2.symm)
        have X4_14 := hW_
        clear hK K hg_ hW_
        try simp only [Act.put, List.setIfInBounds_toArray, List.set_cons_zero, List.set_cons_succ]
        refine wpAnyH_ready (rs := [14]) (by kernel_rfl) (by simp) ?_
        refine AllReadyH.cons (op_at rfl) (fun K hK => ?_) AllReadyH.nil
        have gL5_ : w.heap.size ≤ gZ5_13 := by assumption
        refine step_put_blk (by rfl) 25 (.tmp 5) (.tmp 54) rfl gZ5_13 25 (nums .u8 s2) _ (by simp [nums, s2A.out]) rfl rfl X5_14 hs2i.out (u8_one _) ?_
        intro V15_ hW_ hg_ _
        refine hK.out _ _ (Below.grown H14_ hg_ H14_.size (fun k e => by cases e; exact gL5_)) (fun H15_ => ?_)
        have X4_15 := X4_14.grown hg_ (fun e => by have e2 := Option.some.inj e; first | exact ne_ e2 | exact ne_ e2.symm)
        have X5_15 := hW_
        clear hK K hg_ hW_
        try simp only [Act.put, List.setIfInBounds_toArray, List.set_cons_zero, List.set_cons_succ]
        refine wpAnyH_done (by kernel_rfl) ?_ _
        refine NoPanic.normal ?_
        exact hk _ _ _ X4_15 X5_15 H15_
      · go_simp
        have hb := below_alloc (Below.refl V11_.heap.size V11_) (.cells #[.int .u8 0, .int .u8 0, .int .u8 0, .int .u8 0, .int .u8 0, .int .u8 0, .int .u8 0, .int .u8 0, .int .u8 0, .int .u8 0, .int .u8 0, .int .u8 0, .int .u8 0, .int .u8 0, .int .u8 0, .int .u8 0, .int .u8 0, .int .u8 0, .int .u8 0, .int .u8 0, .int .u8 0, .int .u8 0, .int .u8 0, .int .u8 0, .int .u8 0, .int .u8 0, .int .u8 0, .int .u8 0, .int .u8 0, .int .u8 0, .int .u8 0, .int .u8 0] 25)
        refine hK.out _ _ (below_then H11_ H11_.size hb) (fun H16_ => ?_)
        have Z4_16 := Blk.below Z4_11 hb
        have Z5_16 := Blk.new V11_ 25 [.int .u8 0, .int .u8 0, .int .u8 0, .int .u8 0, .int .u8 0, .int .u8 0, .int .u8 0, .int .u8 0, .int .u8 0, .int .u8 0, .int .u8 0, .int .u8 0, .int .u8 0, .int .u8 0, .int .u8 0, .int .u8 0, .int .u8 0, .int .u8 0, .int .u8 0, .int .u8 0, .int .u8 0, .int .u8 0, .int .u8 0, .int .u8 0, .int .u8 0, .int .u8 0, .int .u8 0, .int .u8 0, .int .u8 0, .int .u8 0, .int .u8 0, .int .u8 0]
        clear hK K hb
        obtain ⟨V16_, hV_⟩ : ∃ V_, V_ = V11_.alloc (.cells #[.int .u8 0, .int .u8 0, .int .u8 0, .int .u8 0, .int .u8 0, .int .u8 0, .int .u8 0, .int .u8 0, .int .u8 0, .int .u8 0, .int .u8 0, .int .u8 0, .int .u8 0, .int .u8 0, .int .u8 0, .int .u8 0, .int .u8 0, .int .u8 0, .int .u8 0, .int .u8 0, .int .u8 0, .int .u8 0, .int .u8 0, .int .u8 0, .int .u8 0, .int .u8 0, .int .u8 0, .int .u8 0, .int .u8 0, .int .u8 0, .int .u8 0, .int .u8 0] 25) := ⟨_, rfl⟩
        rw [← hV_] at H16_ Z4_16 Z5_16 ⊢
        obtain ⟨gZ5_16, hg_⟩ : ∃ g_, g_ = V11_.heap.size := ⟨_, rfl⟩
        rw [← hg_] at Z5_16 ⊢
        have gL_Z5 : w.heap.size ≤ gZ5_16 := by have h_ := Below.size H11_; omega
        have ne_ : gZ4_11 ≠ gZ5_16 := by have h_ := Blk.lt Z4_11; omega
        clear hV_ hg_
        try simp only [Act.put, List.setIfInBounds_toArray, List.set_cons_zero, List.set_cons_succ]
        refine wpAnyH_ready (rs := [10]) (by kernel_rfl) (by simp) ?_
        refine AllReadyH.cons (op_at rfl) (fun K hK => ?_) AllReadyH.nil
        go_simp
        go_at_call 17
        with_reducible refine (t2A.out V16_ H16_).mono ?_
        rintro e V17_ ⟨rfl, hb⟩
        go_wp2_with fail
        refine hK.out _ _ (below_then H16_ H16_.size hb) (fun H17_ => ?_)
        have Z4_17 := Blk.below Z4_16 hb
        have Z5_17 := Blk.below Z5_16 hb
        clear hK K hb
        try simp only [Act.put, List.setIfInBounds_toArray, List.set_cons_zero, List.set_cons_succ]
        refine wpAnyH_ready (rs := [13]) (by kernel_rfl) (by simp) ?_
        refine AllReadyH.cons (op_at rfl) (fun K hK => ?_) AllReadyH.nil
        have gL4_ : w.heap.size ≤ gZ4_11 := by assumption
        refine step_put_blk (by rfl) 25 (.tmp 4) (.tmp 48) rfl gZ4_11 25 (nums .u8 s1) _ (by simp [nums, s1A.out]) rfl rfl Z4_17 hs1i.out (u8_one _) ?_
        intro V18_ hW_ hg_ _
        refine hK.out _ _ (Below.grown H17_ hg_ H17_.size (fun k e => by cases e; exact gL4_)) (fun H18_ => ?_)
        have X5_18 := Z5_17.grown hg_ (fun e => by have e2 := Option.some.inj e; first | exact ne_ e2 | exact ne_ e2.symm)
        have X4_18 := hW_
        clear hK K hg_ hW_
        try simp only [Act.put, List.setIfInBounds_toArray, List.set_cons_zero, List.set_cons_succ]
        refine wpAnyH_ready (rs := [14]) (by kernel_rfl) (by simp) ?_
        refine AllReadyH.cons (op_at rfl) (fun K hK => ?_) AllReadyH.nil
        have gL5_ : w.heap.size ≤ gZ5_16 := by assumption
        refine step_put_blk (by rfl) 25 (.tmp 5) (.tmp 54) rfl gZ5_16 25 (nums .u8 s2) _ (by simp [nums, s2A.out]) rfl rfl X5_18 hs2i.out (u8_one _) ?_
        intro V19_ hW_ hg_ _
        refine hK.out _ _ (Below.grown H18_ hg_ H18_.size (fun k e => by cases e; exact gL5_)) (fun H19_ => ?_)
        have X4_19 := X4_18.grown hg_ (fun e => by have e2 := Option.some.inj e; first | exact ne_ e2 | exact ne_ e2.symm)
        have X5_19 := hW_
        clear hK K hg_ hW_
        try simp only [Act.put, List.setIfInBounds_toArray, List.set_cons_zero, List.set_cons_succ]
        refine wpAnyH_done (by kernel_rfl) ?_ _
        refine NoPanic.normal ?_
        exact hk _ _ _ X4_19 X5_19 H19_
    · go_simp
      have hb := below_alloc (Below.refl V1_.heap.size V1_) (.cells #[.int .u8 0, .int .u8 0, .int .u8 0, .int .u8 0, .int .u8 0, .int .u8 0, .int .u8 0, .int .u8 0, .int .u8 0, .int .u8 0, .int .u8 0, .int .u8 0, .int .u8 0, .int .u8 0, .int .u8 0, .int .u8 0, .int .u8 0, .int .u8 0, .int .u8 0, .int .u8 0, .int .u8 0, .int .u8 0, .int .u8 0, .int .u8 0, .int .u8 0, .int .u8 0, .int .u8 0, .int .u8 0, .int .u8 0, .int .u8 0, .int .u8 0, .int .u8 0] 25)
      refine hK.out _ _ (below_then H1_ H1_.size hb) (fun H20_ => ?_)
      have Z5_20 := Blk.new V1_ 25 [.int .u8 0, .int .u8 0, .int .u8 0, .int .u8 0, .int .u8 0, .int .u8 0, .int .u8 0, .int .u8 0, .int .u8 0, .int .u8 0, .int .u8 0, .int .u8 0, .int .u8 0, .int .u8 0, .int .u8 0, .int .u8 0, .int .u8 0, .int .u8 0, .int .u8 0, .int .u8 0, .int .u8 0, .int .u8 0, .int .u8 0, .int .u8 0, .int .u8 0, .int .u8 0, .int .u8 0, .int .u8 0, .int .u8 0, .int .u8 0, .int .u8 0, .int .u8 0]
      clear hK K hb
      obtain ⟨V20_, hV_⟩ : ∃ V_, V_ = V1_.alloc (.cells #[.int .u8 0, .int .u8 0, .int .u8 0, .int .u8 0, .int .u8 0, .int .u8 0, .int .u8 0, .int .u8 0, .int .u8 0, .int .u8 0, .int .u8 0, .int .u8 0, .int .u8 0, .int .u8 0, .int .u8 0, .int .u8 0, .int .u8 0, .int .u8 0, .int .u8 0, .int .u8 0, .int .u8 0, .int .u8 0, .int .u8 0, .int .u8 0, .int .u8 0, .int .u8 0, .int .u8 0, .int .u8 0, .int .u8 0, .int .u8 0, .int .u8 0, .int .u8 0] 25) := ⟨_, rfl⟩
      rw [← hV_] at H20_ Z5_20 ⊢
      obtain ⟨gZ5_20, hg_⟩ : ∃ g_, g_ = V1_.heap.size := ⟨_, rfl⟩
      rw [← hg_] at Z5_20 ⊢
      have gL_Z5 : w.heap.size ≤ gZ5_20 := by have h_ := Below.size H1_; omega
      clear hV_ hg_
      try simp only [Act.put, List.setIfInBounds_toArray, List.set_cons_zero, List.set_cons_succ]
      refine wpAnyH_ready (rs := [10, 11]) (by kernel_rfl) (by simp) ?_
      refine AllReadyH.cons (op_at rfl) (fun K hK => ?_) (AllReadyH.cons (op_at rfl) (fun K hK => ?_) AllReadyH.nil)
      · go_simp
        go_at_call 17
        with_reducible refine (t2A.out V20_ H20_).mono ?_
        rintro e V21_ ⟨rfl, hb⟩
        go_wp2_with fail
        refine hK.out _ _ (below_then H20_ H20_.size hb) (fun H21_ => ?_)
        have Z5_21 := Blk.below Z5_20 hb
        clear hK K hb
        try simp only [Act.put, List.setIfInBounds_toArray, List.set_cons_zero, List.set_cons_succ]
        refine wpAnyH_ready (rs := [11]) (by kernel_rfl) (by simp) ?_
        refine AllReadyH.cons (op_at rfl) (fun K hK => ?_) AllReadyH.nil
        go_simp
        have hb := below_alloc (Below.refl V21_.heap.size V21_) (.cells #[.int .u8 0, .int .u8 0, .int .u8 0, .int .u8 0, .int .u8 0, .int .u8 0, .int .u8 0, .int .u8 0, .int .u8 0, .int .u8 0, .int .u8 0, .int .u8 0, .int .u8 0, .int .u8 0, .int .u8 0, .int .u8 0, .int .u8 0, .int .u8 0, .int .u8 0, .int .u8 0, .int .u8 0, .int .u8 0, .int .u8 0, .int .u8 0, .int .u8 0, .int .u8 0, .int .u8 0, .int .u8 0, .int .u8 0, .int .u8 0, .int .u8 0, .int .u8 0] 25)
        refine hK.out _ _ (below_then H21_ H21_.size hb) (fun H22_ => ?_)
        have Z5_22 := Blk.below Z5_21 hb
        have Z4_22 := Blk.new V21_ 25 [.int .u8 0, .int .u8 0, .int .u8 0, .int .u8 0, .int .u8 0, .int .u8 0, .int .u8 0, .int .u8 0, .int .u8 0, .int .u8 0, .int .u8 0, .int .u8 0, .int .u8 0, .int .u8 0, .int .u8 0, .int .u8 0, .int .u8 0, .int .u8 0, .int .u8 0, .int .u8 0, .int .u8 0, .int .u8 0, .int .u8 0, .int .u8 0, .int .u8 0, .int .u8 0, .int .u8 0, .int .u8 0, .int .u8 0, .int .u8 0, .int .u8 0, .int .u8 0]
        clear hK K hb
        obtain ⟨V22_, hV_⟩ : ∃ V_, V_ = V21_.alloc (.cells #[.int .u8 0, .int .u8 0, .int .u8 0, .int .u8 0, .int .u8 0, .int .u8 0, .int .u8 0, .int .u8 0, .int .u8 0, .int .u8 0, .int .u8 0, .int .u8 0, .int .u8 0, .int .u8 0, .int .u8 0, .int .u8 0, .int .u8 0, .int .u8 0, .int .u8 0, .int .u8 0, .int .u8 0, .int .u8 0, .int .u8 0, .int .u8 0, .int .u8 0, .int .u8 0, .int .u8 0, .int .u8 0, .int .u8 0, .int .u8 0, .int .u8 0, .int .u8 0] 25) := ⟨_, rfl⟩
        rw [← hV_] at H22_ Z5_22 Z4_22 ⊢
        obtain ⟨gZ4_22, hg_⟩ : ∃ g_, g_ = V21_.heap.size := ⟨_, rfl⟩
        rw [← hg_] at Z4_22 ⊢
        have gL_Z4 : w.heap.size ≤ gZ4_22 := by have h_ := Below.size H21_; omega
        have ne_ : gZ5_20 ≠ gZ4_22 := by have h_ := Blk.lt Z5_21; omega
        clear hV_ hg_
        try simp only [Act.put, List.setIfInBounds_toArray, List.set_cons_zero, List.set_cons_succ]
        refine wpAnyH_ready (rs := [13]) (by kernel_rfl) (by simp) ?_
        refine AllReadyH.cons (op_at rfl) (fun K hK => ?_) AllReadyH.nil
        have gL4_ : w.heap.size ≤ gZ4_22 := by assumption
        refine step_put_blk (by rfl) 25 (.tmp 4) (.tmp 48) rfl gZ4_22 25 (nums .u8 s1) _ (by simp [nums, s1A.out]) rfl rfl Z4_22 hs1i.out (u8_one _) ?_
        intro V23_ hW_ hg_ _
        refine hK.out _ _ (Below.grown H22_ hg_ H22_.size (fun k e => by cases e; exact gL4_)) (fun H23_ => ?_)
        have X5_23 := Z5_22.grown hg_ (fun e => by have e2 := Option.some.inj e; first | exact ne_ e2 | exact ne_ e2.symm)
        have X4_23 := hW_
        clear hK K hg_ hW_
        try simp only [Act.put, List.setIfInBounds_toArray, List.set_cons_zero, List.set_cons_succ]
        refine wpAnyH_ready (rs := [14]) (by kernel_rfl) (by simp) ?_
        refine AllReadyH.cons (op_at rfl) (fun K hK => ?_) AllReadyH.nil
        have gL5_ : w.heap.size ≤ gZ5_20 := by assumption
        refine step_put_blk (by rfl) 25 (.tmp 5) (.tmp 54) rfl gZ5_20 25 (nums .u8 s2) _ (by simp [nums, s2A.out]) rfl rfl X5_23 hs2i.out (u8_one _) ?_
        intro V24_ hW_ hg_ _
        refine hK.out _ _ (Below.grown H23_ hg_ H23_.size (fun k e => by cases e; exact gL5_)) (fun H24_ => ?_)
        have X4_24 := X4_23.grown hg_ (fun e => by have e2 := Option.some.inj e; first | exact ne_ e2 | exact ne_ e2.symm)
        have X5_24 := hW_
        clear hK K hg_ hW_
        try simp only [Act.put, List.setIfInBounds_toArray, List.set_cons_zero, List.set_cons_succ]
        refine wpAnyH_done (by kernel_rfl) ?_ _
        refine NoPanic.normal ?_
        exact hk _ _ _ X4_24 X5_24 H24_
      · go_simp
        have hb := below_alloc (Below.refl V20_.heap.size V20_) (.cells #[.int .u8 0, .int .u8 0, .int .u8 0, .int .u8 0, .int .u8 0, .int .u8 0, .int .u8 0, .int .u8 0, .int .u8 0, .int .u8 0, .int .u8 0, .int .u8 0, .int .u8 0, .int .u8 0, .int .u8 0, .int .u8 0, .int .u8 0, .int .u8 0, .int .u8 0, .int .u8 0, .int .u8 0, .int .u8 0, .int .u8 0, .int .u8 0, .int .u8 0, .int .u8 0, .int .u8 0, .int .u8 0, .int .u8 0, .int .u8 0, .int .u8 0, .int .u8 0] 25)
        refine hK.out _ _ (below_then H20_ H20_.size hb) (fun H25_ => ?_)
        have Z5_25 := Blk.below Z5_20 hb
        have Z4_25 := Blk.new V20_ 25 [.int .u8 0, .int .u8 0, .int .u8 0, .int .u8 0, .int .u8 0, .int .u8 0, .int .u8 0, .int .u8 0, .int .u8 0, .int .u8 0, .int .u8 0, .int .u8 0, .int .u8 0, .int .u8 0, .int .u8 0, .int .u8 0, .int .u8 0, .int .u8 0, .int .u8 0, .int .u8 0, .int .u8 0, .int .u8 0, .int .u8 0, .int .u8 0, .int .u8 0, .int .u8 0, .int .u8 0, .int .u8 0, .int .u8 0, .int .u8 0, .int .u8 0, .int .u8 0]
        clear hK K hb
        obtain ⟨V25_, hV_⟩ : ∃ V_, V_ = V20_.alloc (.cells #[.int .u8 0, .int .u8 0, .int .u8 0, .int .u8 0, .int .u8 0, .int .u8 0, .int .u8 0, .int .u8 0, .int .u8 0, .int .u8 0, .int .u8 0, .int .u8 0, .int .u8 0, .int .u8 0, .int .u8 0, .int .u8 0, .int .u8 0, .int .u8 0, .int .u8 0, .int .u8 0, .int .u8 0, .int .u8 0, .int .u8 0, .int .u8 0, .int .u8 0, .int .u8 0, .int .u8 0, .int .u8 0, .int .u8 0, .int .u8 0, .int .u8 0, .int .u8 0] 25) := ⟨_, rfl⟩
        rw [← hV_] at H25_ Z5_25 Z4_25 ⊢
        obtain ⟨gZ4_25, hg_⟩ : ∃ g_, g_ = V20_.heap.size := ⟨_, rfl⟩
        rw [← hg_] at Z4_25 ⊢
        have gL_Z4 : w.heap.size ≤ gZ4_25 := by have h_ := Below.size H20_; omega
        have ne_ : gZ5_20 ≠ gZ4_25 := by have h_ := Blk.lt Z5_20; omega
        clear hV_ hg_
        try simp only [Act.put, List.setIfInBounds_toArray, List.set_cons_zero, List.set_cons_succ]
        refine wpAnyH_ready (rs := [10]) (by kernel_rfl) (by simp) ?_
        refine AllReadyH.cons (op_at rfl) (fun K hK => ?_) AllReadyH.nil
        go_simp
        go_at_call 17
        with_reducible refine (t2A.out V25_ H25_).mono ?_
        rintro e V26_ ⟨rfl, hb⟩
        go_wp2_with fail
        refine hK.out _ _ (below_then H25_ H25_.size hb) (fun H26_ => ?_)
        have Z5_26 := Blk.below Z5_25 hb
        have Z4_26 := Blk.below Z4_25 hb
        clear hK K hb
        try simp only [Act.put, List.setIfInBounds_toArray, List.set_cons_zero, List.set_cons_succ]
        refine wpAnyH_ready (rs := [13]) (by kernel_rfl) (by simp) ?_
        refine AllReadyH.cons (op_at rfl) (fun K hK => ?_) AllReadyH.nil
        have gL4_ : w.heap.size ≤ gZ4_25 := by assumption
        refine step_put_blk (by rfl) 25 (.tmp 4) (.tmp 48) rfl gZ4_25 25 (nums .u8 s1) _ (by simp [nums, s1A.out]) rfl rfl Z4_26 hs1i.out (u8_one _) ?_
        intro V27_ hW_ hg_ _
        refine hK.out _ _ (Below.grown H26_ hg_ H26_.size (fun k e => by cases e; exact gL4_)) (fun H27_ => ?_)
        have X5_27 := Z5_26.grown hg_ (fun e => by have e2 := Option.some.inj e; first | exact ne_ e2 | exact ne_ e2.symm)
        have X4_27 := hW_
        clear hK K hg_ hW_
        try simp only [Act.put, List.setIfInBounds_toArray, List.set_cons_zero, List.set_cons_succ]
        refine wpAnyH_ready (rs := [14]) (by kernel_rfl) (by simp) ?_
        refine AllReadyH.cons (op_at rfl) (fun K hK => ?_) AllReadyH.nil
        have gL5_ : w.heap.size ≤ gZ5_20 := by assumption
        refine step_put_blk (by rfl) 25 (.tmp 5) (.tmp 54) rfl gZ5_20 25 (nums .u8 s2) _ (by simp [nums, s2A.out]) rfl rfl X5_27 hs2i.out (u8_one _) ?_
        intro V28_ hW_ hg_ _
        refine hK.out _ _ (Below.grown H27_ hg_ H27_.size (fun k e => by cases e; exact gL5_)) (fun H28_ => ?_)
        have X4_28 := X4_27.grown hg_ (fun e => by have e2 := Option.some.inj e; first | exact ne_ e2 | exact ne_ e2.symm)
        have X5_28 := hW_
        clear hK K hg_ hW_
        try simp only [Act.put, List.setIfInBounds_toArray, List.set_cons_zero, List.set_cons_succ]
        refine wpAnyH_done (by kernel_rfl) ?_ _
        refine NoPanic.normal ?_
        exact hk _ _ _ X4_28 X5_28 H28_
  · go_simp
    have hb := below_alloc (Below.refl V0.heap.size V0) (.cells #[.int .u8 0, .int .u8 0, .int .u8 0, .int .u8 0, .int .u8 0, .int .u8 0, .int .u8 0, .int .u8 0, .int .u8 0, .int .u8 0, .int .u8 0, .int .u8 0, .int .u8 0, .int .u8 0, .int .u8 0, .int .u8 0, .int .u8 0, .int .u8 0, .int .u8 0, .int .u8 0, .int .u8 0, .int .u8 0, .int .u8 0, .int .u8 0, .int .u8 0, .int .u8 0, .int .u8 0, .int .u8 0, .int .u8 0, .int .u8 0, .int .u8 0, .int .u8 0] 25)
    refine hK.out _ _ (below_then H0 H0.size hb) (fun H29_ => ?_)
    have Z4_29 := Blk.new V0 25 [.int .u8 0, .int .u8 0, .int .u8 0, .int .u8 0, .int .u8 0, .int .u8 0, .int .u8 0, .int .u8 0, .int .u8 0, .int .u8 0, .int .u8 0, .int .u8 0, .int .u8 0, .int .u8 0, .int .u8 0, .int .u8 0, .int .u8 0, .int .u8 0, .int .u8 0, .int .u8 0, .int .u8 0, .int .u8 0, .int .u8 0, .int .u8 0, .int .u8 0, .int .u8 0, .int .u8 0, .int .u8 0, .int .u8 0, .int .u8 0, .int .u8 0, .int .u8 0]
    clear hK K hb
    obtain ⟨V29_, hV_⟩ : ∃ V_, V_ = V0.alloc (.cells #[.int .u8 0, .int .u8 0, .int .u8 0, .int .u8 0, .int .u8 0, .int .u8 0, .int .u8 0, .int .u8 0, .int .u8 0, .int .u8 0, .int .u8 0, .int .u8 0, .int .u8 0, .int .u8 0, .int .u8 0, .int .u8 0, .int .u8 0, .int .u8 0, .int .u8 0, .int .u8 0, .int .u8 0, .int .u8 0, .int .u8 0, .int .u8 0, .int .u8 0, .int .u8 0, .int .u8 0, .int .u8 0, .int .u8 0, .int .u8 0, .int .u8 0, .int .u8 0] 25) := ⟨_, rfl⟩
    rw [← hV_] at H29_ Z4_29 ⊢
    obtain ⟨gZ4_29, hg_⟩ : ∃ g_, g_ = V0.heap.size := ⟨_, rfl⟩
    rw [← hg_] at Z4_29 ⊢
    have gL_Z4 : w.heap.size ≤ gZ4_29 := by have h_ := Below.size H0; omega
    clear hV_ hg_
    try simp only [Act.put, List.setIfInBounds_toArray, List.set_cons_zero, List.set_cons_succ]
    refine wpAnyH_ready (rs := [4, 12]) (by kernel_rfl) (by simp) ?_
    refine AllReadyH.cons (op_at rfl) (fun K hK => ?_) (AllReadyH.cons (op_at rfl) (fun K hK => ?_) AllReadyH.nil)
    · go_simp
      go_at_call 17
      with_reducible refine (t1A.out V29_ H29_).mono ?_
      rintro e V30_ ⟨rfl, hb⟩
      go_wp2_with fail
      refine hK.out _ _ (below_then H29_ H29_.size hb) (fun H30_ => ?_)
      have Z4_30 := Blk.below Z4_29 hb
      clear hK K hb
      try simp only [Act.put, List.setIfInBounds_toArray, List.set_cons_zero, List.set_cons_succ]
      refine wpAnyH_ready (rs := [10, 12]) (by kernel_rfl) (by simp) ?_
      refine AllReadyH.cons (op_at rfl) (fun K hK => ?_) (AllReadyH.cons (op_at rfl) (fun K hK => ?_) AllReadyH.nil)
      · go_simp
        go_at_call 17
        with_reducible refine (t2A.out V30_ H30_).mono ?_
        rintro e V31_ ⟨rfl, hb⟩
        go_wp2_with fail
        refine hK.out _ _ (below_then H30_ H30_.size hb) (fun H31_ => ?_)
        have Z4_31 := Blk.below Z4_30 hb
        clear hK K hb
        try simp only [Act.put, List.setIfInBounds_toArray, List.set_cons_zero, List.set_cons_succ]
        refine wpAnyH_ready (rs := [12]) (by kernel_rfl) (by simp) ?_
        refine AllReadyH.cons (op_at rfl) (fun K hK => ?_) AllReadyH.nil
        go_simp
        have hb := below_alloc (Below.refl V31_.heap.size V31_) (.cells #[.int .u8 0, .int .u8 0, .int .u8 0, .int .u8 0, .int .u8 0, .int .u8 0, .int .u8 0, .int .u8 0, .int .u8 0, .int .u8 0, .int .u8 0, .int .u8 0, .int .u8 0, .int .u8 0, .int .u8 0, .int .u8 0, .int .u8 0, .int .u8 0, .int .u8 0, .int .u8 0, .int .u8 0, .int .u8 0, .int .u8 0, .int .u8 0, .int .u8 0, .int .u8 0, .int .u8 0, .int .u8 0, .int .u8 0, .int .u8 0, .int .u8 0, .int .u8 0] 25)
        refine hK.out _ _ (below_then H31_ H31_.size hb) (fun H32_ => ?_)
        have Z4_32 := Blk.below Z4_31 hb
        have Z5_32 := Blk.new V31_ 25 [.int .u8 0, .int .u8 0, .int .u8 0, .int .u8 0, .int .u8 0, .int .u8 0, .int .u8 0, .int .u8 0, .int .u8 0, .int .u8 0, .int .u8 0, .int .u8 0, .int .u8 0, .int .u8 0, .int .u8 0, .int .u8 0, .int .u8 0, .int .u8 0, .int .u8 0, .int .u8 0, .int .u8 0, .int .u8 0, .int .u8 0, .int .u8 0, .int .u8 0, .int .u8 0, .int .u8 0, .int .u8 0, .int .u8 0, .int .u8 0, .int .u8 0, .int .u8 0]
        clear hK K hb
        obtain ⟨V32_, hV_⟩ : ∃ V_, V_ = V31_.alloc (.cells #[.int .u8 0, .int .u8 0, .int .u8 0, .int .u8 0, .int .u8 0, .int .u8 0, .int .u8 0, .int .u8 0, .int .u8 0, .int .u8 0, .int .u8 0, .int .u8 0, .int .u8 0, .int .u8 0, .int .u8 0, .int .u8 0, .int .u8 0, .int .u8 0, .int .u8 0, .int .u8 0, .int .u8 0, .int .u8 0, .int .u8 0, .int .u8 0, .int .u8 0, .int .u8 0, .int .u8 0, .int .u8 0, .int .u8 0, .int .u8 0, .int .u8 0, .int .u8 0] 25) := ⟨_, rfl⟩
        rw [← hV_] at H32_ Z4_32 Z5_32 ⊢
        obtain ⟨gZ5_32, hg_⟩ : ∃ g_, g_ = V31_.heap.size := ⟨_, rfl⟩
        rw [← hg_] at Z5_32 ⊢
        have gL_Z5 : w.heap.size ≤ gZ5_32 := by have h_ := Below.size H31_; omega
        have ne_ : gZ4_29 ≠ gZ5_32 := by have h_ := Blk.lt Z4_31; omega
        clear hV_ hg_
        try simp only [Act.put, List.setIfInBounds_toArray, List.set_cons_zero, List.set_cons_succ]
        refine wpAnyH_ready (rs := [13]) (by kernel_rfl) (by simp) ?_
        refine AllReadyH.cons (op_at rfl) (fun K hK => ?_) AllReadyH.nil
        have gL4_ : w.heap.size ≤ gZ4_29 := by assumption
        refine step_put_blk (by rfl) 25 (.tmp 4) (.tmp 48) rfl gZ4_29 25 (nums .u8 s1) _ (by simp [nums, s1A.out]) rfl rfl Z4_32 hs1i.out (u8_one _) ?_
        intro V33_ hW_ hg_ _
        refine hK.out _ _ (Below.grown H32_ hg_ H32_.size (fun k e => by cases e; exact gL4_)) (fun H33_ => ?_)
        have X5_33 := Z5_32.grown hg_ (fun e => by have e2 := Option.some.inj e; first | exact ne_ e2 | exact ne_ e2.symm)
        have X4_33 := hW_
        clear hK K hg_ hW_
        try simp only [Act.put, List.setIfInBounds_toArray, List.set_cons_zero, List.set_cons_succ]
        refine wpAnyH_ready (rs := [14]) (by kernel_rfl) (by simp) ?_
        refine AllReadyH.cons (op_at rfl) (fun K hK => ?_) AllReadyH.nil
        have gL5_ : w.heap.size ≤ gZ5_32 := by assumption
        refine step_put_blk (by rfl) 25 (.tmp 5) (.tmp 54) rfl gZ5_32 25 (nums .u8 s2) _ (by simp [nums, s2A.out]) rfl rfl X5_33 hs2i.out (u8_one _) ?_
        intro V34_ hW_ hg_ _
        refine hK.out _ _ (Below.grown H33_ hg_ H33_.size (fun k e => by cases e; exact gL5_)) (fun H34_ => ?_)
        have X4_34 := X4_33.grown hg_ (fun e => by have e2 := Option.some.inj e; first | exact ne_ e2 | exact ne_ e2.symm)
        have X5_34 := hW_
        clear hK K hg_ hW_
        try simp only [Act.put, List.setIfInBounds_toArray, List.set_cons_zero, List.set_cons_succ]
        refine wpAnyH_done (by kernel_rfl) ?_ _
        refine NoPanic.normal ?_
        exact hk _ _ _ X4_34 X5_34 H34_
      · go_simp
        have hb := below_alloc (Below.refl V30_.heap.size V30_) (.cells #[.int .u8 0, .int .u8 0, .int .u8 0, .int .u8 0, .int .u8 0, .int .u8 0, .int .u8 0, .int .u8 0, .int .u8 0, .int .u8 0, .int .u8 0, .int .u8 0, .int .u8 0, .int .u8 0, .int .u8 0, .int .u8 0, .int .u8 0, .int .u8 0, .int .u8 0, .int .u8 0, .int .u8 0, .int .u8 0, .int .u8 0, .int .u8 0, .int .u8 0, .int .u8 0, .int .u8 0, .int .u8 0, .int .u8 0, .int .u8 0, .int .u8 0, .int .u8 0] 25)
        refine hK.out _ _ (below_then H30_ H30_.size hb) (fun H35_ => ?_)
        have Z4_35 := Blk.below Z4_30 hb
        have Z5_35 := Blk.new V30_ 25 [.int .u8 0, .int .u8 0, .int .u8 0, .int .u8 0, .int .u8 0, .int .u8 0, .int .u8 0, .int .u8 0, .int .u8 0, .int .u8 0, .int .u8 0, .int .u8 0, .int .u8 0, .int .u8 0, .int .u8 0, .int .u8 0, .int .u8 0, .int .u8 0, .int .u8 0, .int .u8 0, .int .u8 0, .int .u8 0, .int .u8 0, .int .u8 0, .int .u8 0, .int .u8 0, .int .u8 0, .int .u8 0, .int .u8 0, .int .u8 0, .int .u8 0, .int .u8 0]
        clear hK K hb
        obtain ⟨V35_, hV_⟩ : ∃ V_, V_ = V30_.alloc (.cells #[.int .u8 0, .int .u8 0, .int .u8 0, .int .u8 0, .int .u8 0, .int .u8 0, .int .u8 0, .int .u8 0, .int .u8 0, .int .u8 0, .int .u8 0, .int .u8 0, .int .u8 0, .int .u8 0, .int .u8 0, .int .u8 0, .int .u8 0, .int .u8 0, .int .u8 0, .int .u8 0, .int .u8 0, .int .u8 0, .int .u8 0, .int .u8 0, .int .u8 0, .int .u8 0, .int .u8 0, .int .u8 0, .int .u8 0, .int .u8 0, .int .u8 0, .int .u8 0] 25) := ⟨_, rfl⟩
        rw [← hV_] at H35_ Z4_35 Z5_35 ⊢
        obtain ⟨gZ5_35, hg_⟩ : ∃ g_, g_ = V30_.heap.size := ⟨_, rfl⟩
        rw [← hg_] at Z5_35 ⊢
        have gL_Z5 : w.heap.size ≤ gZ5_35 := by have h_ := Below.size H30_; omega
        have ne_ : gZ4_29 ≠ gZ5_35 := by have h_ := Blk.lt Z4_30; omega
        clear hV_ hg_
        try simp only [Act.put, List.setIfInBounds_toArray, List.set_cons_zero, List.set_cons_succ]
        refine wpAnyH_ready (rs := [10]) (by kernel_rfl) (by simp) ?_
        refine AllReadyH.cons (op_at rfl) (fun K hK => ?_) AllReadyH.nil
        go_simp
        go_at_call 17
        with_reducible refine (t2A.out V35_ H35_).mono ?_
        rintro e V36_ ⟨rfl, hb⟩
        go_wp2_with fail
        refine hK.out _ _ (below_then H35_ H35_.size hb) (fun H36_ => ?_)
        have Z4_36 := Blk.below Z4_35 hb
        have Z5_36 := Blk.below Z5_35 hb
        clear hK K hb
        try simp only [Act.put, List.setIfInBounds_toArray, List.set_cons_zero, List.set_cons_succ]
        refine wpAnyH_ready (rs := [13]) (by kernel_rfl) (by simp) ?_
        refine AllReadyH.cons (op_at rfl) (fun K hK => ?_) AllReadyH.nil
        have gL4_ : w.heap.size ≤ gZ4_29 := by assumption
        refine step_put_blk (by rfl) 25 (.tmp 4) (.tmp 48) rfl gZ4_29 25 (nums .u8 s1) _ (by simp [nums, s1A.out]) rfl rfl Z4_36 hs1i.out (u8_one _) ?_
        intro V37_ hW_ hg_ _
        refine hK.out _ _ (Below.grown H36_ hg_ H36_.size (fun k e => by cases e; exact gL4_)) (fun H37_ => ?_)
        have X5_37 := Z5_36.grown hg_ (fun e => by have e2 := Option.some.inj e; first | exact ne_ e2 | exact ne_ e2.symm)
        have X4_37 := hW_
        clear hK K hg_ hW_
        try simp only [Act.put, List.setIfInBounds_toArray, List.set_cons_zero, List.set_cons_succ]
        refine wpAnyH_ready (rs := [14]) (by kernel_rfl) (by simp) ?_
        refine AllReadyH.cons (op_at rfl) (fun K hK => ?_) AllReadyH.nil
        have gL5_ : w.heap.size ≤ gZ5_35 := by assumption
        refine step_put_blk (by rfl) 25 (.tmp 5) (.tmp 54) rfl gZ5_35 25 (nums .u8 s2) _ (by simp [nums, s2A.out]) rfl rfl X5_37 hs2i.out (u8_one _) ?_
        intro V38_ hW_ hg_ _
        refine hK.out _ _ (Below.grown H37_ hg_ H37_.size (fun k e => by cases e; exact gL5_)) (fun H38_ => ?_)
        have X4_38 := X4_37.grown hg_ (fun e => by have e2 := Option.some.inj e; first | exact ne_ e2 | exact ne_ e2.symm)
        have X5_38 := hW_
        clear hK K hg_ hW_
        try simp only [Act.put, List.setIfInBounds_toArray, List.set_cons_zero, List.set_cons_succ]
        refine wpAnyH_done (by kernel_rfl) ?_ _
        refine NoPanic.normal ?_
        exact hk _ _ _ X4_38 X5_38 H38_
    · go_simp
      have hb := below_alloc (Below.refl V29_.heap.size V29_) (.cells #[.int .u8 0, .int .u8 0, .int .u8 0, .int .u8 0, .int .u8 0, .int .u8 0, .int .u8 0, .int .u8 0, .int .u8 0, .int .u8 0, .int .u8 0, .int .u8 0, .int .u8 0, .int .u8 0, .int .u8 0, .int .u8 0, .int .u8 0, .int .u8 0, .int .u8 0, .int .u8 0, .int .u8 0, .int .u8 0, .int .u8 0, .int .u8 0, .int .u8 0, .int .u8 0, .int .u8 0, .int .u8 0, .int .u8 0, .int .u8 0, .int .u8 0, .int .u8 0] 25)
      refine hK.out _ _ (below_then H29_ H29_.size hb) (fun H39_ => ?_)
      have Z4_39 := Blk.below Z4_29 hb
      have Z5_39 := Blk.new V29_ 25 [.int .u8 0, .int .u8 0, .int .u8 0, .int .u8 0, .int .u8 0, .int .u8 0, .int .u8 0, .int .u8 0, .int .u8 0, .int .u8 0, .int .u8 0, .int .u8 0, .int .u8 0, .int .u8 0, .int .u8 0, .int .u8 0, .int .u8 0, .int .u8 0, .int .u8 0, .int .u8 0, .int .u8 0, .int .u8 0, .int .u8 0, .int .u8 0, .int .u8 0, .int .u8 0, .int .u8 0, .int .u8 0, .int .u8 0, .int .u8 0, .int .u8 0, .int .u8 0]
      clear hK K hb
      obtain ⟨V39_, hV_⟩ : ∃ V_, V_ = V29_.alloc (.cells #[.int .u8 0, .int .u8 0, .int .u8 0, .int .u8 0, .int .u8 0, .int .u8 0, .int .u8 0, .int .u8 0, .int .u8 0, .int .u8 0, .int .u8 0, .int .u8 0, .int .u8 0, .int .u8 0, .int .u8 0, .int .u8 0, .int .u8 0, .int .u8 0, .int .u8 0, .int .u8 0, .int .u8 0, .int .u8 0, .int .u8 0, .int .u8 0, .int .u8 0, .int .u8 0, .int .u8 0, .int .u8 0, .int .u8 0, .int .u8 0, .int .u8 0, .int .u8 0] 25) := ⟨_, rfl⟩
      rw [← hV_] at H39_ Z4_39 Z5_39 ⊢
      obtain ⟨gZ5_39, hg_⟩ : ∃ g_, g_ = V29_.heap.size := ⟨_, rfl⟩
      rw [← hg_] at Z5_39 ⊢
      have gL_Z5 : w.heap.size ≤ gZ5_39 := by have h_ := Below.size H29_; omega
      have ne_ : gZ4_29 ≠ gZ5_39 := by have h_ := Blk.lt Z4_29; omega
      clear hV_ hg_
      try simp only [Act.put, List.setIfInBounds_toArray, List.set_cons_zero, List.set_cons_succ]
      refine wpAnyH_ready (rs := [4]) (by kernel_rfl) (by simp) ?_
      refine AllReadyH.cons (op_at rfl) (fun K hK => ?_) AllReadyH.nil
      go_simp
      go_at_call 17
      with_reducible refine (t1A.out V39_ H39_).mono ?_
      rintro e V40_ ⟨rfl, hb⟩
      go_wp2_with fail
      refine hK.out _ _ (below_then H39_ H39_.size hb) (fun H40_ => ?_)
      have Z4_40 := Blk.below Z4_39 hb
      have Z5_40 := Blk.below Z5_39 hb
      clear hK K hb
      try simp only [Act.put, List.setIfInBounds_toArray, List.set_cons_zero, List.set_cons_succ]
      refine wpAnyH_ready (rs := [10]) (by kernel_rfl) (by simp) ?_
      refine AllReadyH.cons (op_at rfl) (fun K hK => ?_) AllReadyH.nil
      go_simp
      go_at_call 17
      with_reducible refine (t2A.out V40_ H40_).mono ?_
      rintro e V41_ ⟨rfl, hb⟩
      go_wp2_with fail
      refine hK.out _ _ (below_then H40_ H40_.size hb) (fun H41_ => ?_)
      have Z4_41 := Blk.below Z4_40 hb
      have Z5_41 := Blk.below Z5_40 hb
      clear hK K hb
      try simp only [Act.put, List.setIfInBounds_toArray, List.set_cons_zero, List.set_cons_succ]
      refine wpAnyH_ready (rs := [13]) (by kernel_rfl) (by simp) ?_
      refine AllReadyH.cons (op_at rfl) (fun K hK => ?_) AllReadyH.nil
      have gL4_ : w.heap.size ≤ gZ4_29 := by assumption
      refine step_put_blk (by rfl) 25 (.tmp 4) (.tmp 48) rfl gZ4_29 25 (nums .u8 s1) _ (by simp [nums, s1A.out]) rfl rfl Z4_41 hs1i.out (u8_one _) ?_
      intro V42_ hW_ hg_ _
      refine hK.out _ _ (Below.grown H41_ hg_ H41_.size (fun k e => by cases e; exact gL4_)) (fun H42_ => ?_)
      have X5_42 := Z5_41.grown hg_ (fun e => by have e2 := Option.some.inj e; first | exact ne_ e2 | exact ne_ e2.symm)
      have X4_42 := hW_
      clear hK K hg_ hW_
      try simp only [Act.put, List.setIfInBounds_toArray, List.set_cons_zero, List.set_cons_succ]
      refine wpAnyH_ready (rs := [14]) (by kernel_rfl) (by simp) ?_
      refine AllReadyH.cons (op_at rfl) (fun K hK => ?_) AllReadyH.nil
      have gL5_ : w.heap.size ≤ gZ5_39 := by assumption
      refine step_put_blk (by rfl) 25 (.tmp 5) (.tmp 54) rfl gZ5_39 25 (nums .u8 s2) _ (by simp [nums, s2A.out]) rfl rfl X5_42 hs2i.out (u8_one _) ?_
      intro V43_ hW_ hg_ _
      refine hK.out _ _ (Below.grown H42_ hg_ H42_.size (fun k e => by cases e; exact gL5_)) (fun H43_ => ?_)
      have X4_43 := X4_42.grown hg_ (fun e => by have e2 := Option.some.inj e; first | exact ne_ e2 | exact ne_ e2.symm)
      have X5_43 := hW_
      clear hK K hg_ hW_
      try simp only [Act.put, List.setIfInBounds_toArray, List.set_cons_zero, List.set_cons_succ]
      refine wpAnyH_done (by kernel_rfl) ?_ _
      refine NoPanic.normal ?_
      exact hk _ _ _ X4_43 X5_43 H43_
  · go_simp
    have hb := below_alloc (Below.refl V0.heap.size V0) (.cells #[.int .u8 0, .int .u8 0, .int .u8 0, .int .u8 0, .int .u8 0, .int .u8 0, .int .u8 0, .int .u8 0, .int .u8 0, .int .u8 0, .int .u8 0, .int .u8 0, .int .u8 0, .int .u8 0, .int .u8 0, .int .u8 0, .int .u8 0, .int .u8 0, .int .u8 0, .int .u8 0, .int .u8 0, .int .u8 0, .int .u8 0, .int .u8 0, .int .u8 0, .int .u8 0, .int .u8 0, .int .u8 0, .int .u8 0, .int .u8 0, .int .u8 0, .int .u8 0] 25)
    refine hK.out _ _ (below_then H0 H0.size hb) (fun H44_ => ?_)
    have Z5_44 := Blk.new V0 25 [.int .u8 0, .int .u8 0, .int .u8 0, .int .u8 0, .int .u8 0, .int .u8 0, .int .u8 0, .int .u8 0, .int .u8 0, .int .u8 0, .int .u8 0, .int .u8 0, .int .u8 0, .int .u8 0, .int .u8 0, .int .u8 0, .int .u8 0, .int .u8 0, .int .u8 0, .int .u8 0, .int .u8 0, .int .u8 0, .int .u8 0, .int .u8 0, .int .u8 0, .int .u8 0, .int .u8 0, .int .u8 0, .int .u8 0, .int .u8 0, .int .u8 0, .int .u8 0]
    clear hK K hb
    obtain ⟨V44_, hV_⟩ : ∃ V_, V_ = V0.alloc (.cells #[.int .u8 0, .int .u8 0, .int .u8 0, .int .u8 0, .int .u8 0, .int .u8 0, .int .u8 0, .int .u8 0, .int .u8 0, .int .u8 0, .int .u8 0, .int .u8 0, .int .u8 0, .int .u8 0, .int .u8 0, .int .u8 0, .int .u8 0, .int .u8 0, .int .u8 0, .int .u8 0, .int .u8 0, .int .u8 0, .int .u8 0, .int .u8 0, .int .u8 0, .int .u8 0, .int .u8 0, .int .u8 0, .int .u8 0, .int .u8 0, .int .u8 0, .int .u8 0] 25) := ⟨_, rfl⟩
    rw [← hV_] at H44_ Z5_44 ⊢
    obtain ⟨gZ5_44, hg_⟩ : ∃ g_, g_ = V0.heap.size := ⟨_, rfl⟩
    rw [← hg_] at Z5_44 ⊢
    have gL_Z5 : w.heap.size ≤ gZ5_44 := by have h_ := Below.size H0; omega
    clear hV_ hg_
    try simp only [Act.put, List.setIfInBounds_toArray, List.set_cons_zero, List.set_cons_succ]
    refine wpAnyH_ready (rs := [4, 11]) (by kernel_rfl) (by simp) ?_
    refine AllReadyH.cons (op_at rfl) (fun K hK => ?_) (AllReadyH.cons (op_at rfl) (fun K hK => ?_) AllReadyH.nil)
    · go_simp
      go_at_call 17
      with_reducible refine (t1A.out V44_ H44_).mono ?_
      rintro e V45_ ⟨rfl, hb⟩
      go_wp2_with fail
      refine hK.out _ _ (below_then H44_ H44_.size hb) (fun H45_ => ?_)
      have Z5_45 := Blk.below Z5_44 hb
      clear hK K hb
      try simp only [Act.put, List.setIfInBounds_toArray, List.set_cons_zero, List.set_cons_succ]
      refine wpAnyH_ready (rs := [10, 11]) (by kernel_rfl) (by simp) ?_
      refine AllReadyH.cons (op_at rfl) (fun K hK => ?_) (AllReadyH.cons (op_at rfl) (fun K hK => ?_) AllReadyH.nil)
      · go_simp
        go_at_call 17
        with_reducible refine (t2A.out V45_ H45_).mono ?_
        rintro e V46_ ⟨rfl, hb⟩
        go_wp2_with fail
        refine hK.out _ _ (below_then H45_ H45_.size hb) (fun H46_ => ?_)
        have Z5_46 := Blk.below Z5_45 hb
        clear hK K hb
        try simp only [Act.put, List.setIfInBounds_toArray, List.set_cons_zero, List.set_cons_succ]
        refine wpAnyH_ready (rs := [11]) (by kernel_rfl) (by simp) ?_
        refine AllReadyH.cons (op_at rfl) (fun K hK => ?_) AllReadyH.nil
        go_simp
        have hb := below_alloc (Below.refl V46_.heap.size V46_) (.cells #[.int .u8 0, .int .u8 0, .int .u8 0, .int .u8 0, .int .u8 0, .int .u8 0, .int .u8 0, .int .u8 0, .int .u8 0, .int .u8 0, .int .u8 0, .int .u8 0, .int .u8 0, .int .u8 0, .int .u8 0, .int .u8 0, .int .u8 0, .int .u8 0, .int .u8 0, .int .u8 0, .int .u8 0, .int .u8 0, .int .u8 0, .int .u8 0, .int .u8 0, .int .u8 0, .int .u8 0, .int .u8 0, .int .u8 0, .int .u8 0, .int .u8 0, .int .u8 0] 25)
        refine hK.out _ _ (below_then H46_ H46_.size hb) (fun H47_ => ?_)
        have Z5_47 := Blk.below Z5_46 hb
        have Z4_47 := Blk.new V46_ 25 [.int .u8 0, .int .u8 0, .int .u8 0, .int .u8 0, .int .u8 0, .int .u8 0, .int .u8 0, .int .u8 0, .int .u8 0, .int .u8 0, .int .u8 0, .int .u8 0, .int .u8 0, .int .u8 0, .int .u8 0, .int .u8 0, .int .u8 0, .int .u8 0, .int .u8 0, .int .u8 0, .int .u8 0, .int .u8 0, .int .u8 0, .int .u8 0, .int .u8 0, .int .u8 0, .int .u8 0, .int .u8 0, .int .u8 0, .int .u8 0, .int .u8 0, .int .u8 0]
        clear hK K hb
        obtain ⟨V47_, hV_⟩ : ∃ V_, V_ = V46_.alloc (.cells #[.int .u8 0, .int .u8 0, .int .u8 0, .int .u8 0, .int .u8 0, .int .u8 0, .int .u8 0, .int .u8 0, .int .u8 0, .int .u8 0, .int .u8 0, .int .u8 0, .int .u8 0, .int .u8 0, .int .u8 0, .int .u8 0, .int .u8 0, .int .u8 0, .int .u8 0, .int .u8 0, .int .u8 0, .int .u8 0, .int .u8 0, .int .u8 0, .int .u8 0, .int .u8 0, .int .u8 0, .int .u8 0, .int .u8 0, .int .u8 0, .int .u8 0, .int .u8 0] 25) := ⟨_, rfl⟩
        rw [← hV_] at H47_ Z5_47 Z4_47 ⊢
        obtain ⟨gZ4_47, hg_⟩ : ∃ g_, g_ = V46_.heap.size := ⟨_, rfl⟩
        rw [← hg_] at Z4_47 ⊢
        have gL_Z4 : w.heap.size ≤ gZ4_47 := by have h_ := Below.size H46_; omega
        have ne_ : gZ5_44 ≠ gZ4_47 := by have h_ := Blk.lt Z5_46; omega
        clear hV_ hg_
        try simp only [Act.put, List.setIfInBounds_toArray, List.set_cons_zero, List.set_cons_succ]
        refine wpAnyH_ready (rs := [13]) (by kernel_rfl) (by simp) ?_
        refine AllReadyH.cons (op_at rfl) (fun K hK => ?_) AllReadyH.nil
        have gL4_ : w.heap.size ≤ gZ4_47 := by assumption
        refine step_put_blk (by rfl) 25 (.tmp 4) (.tmp 48) rfl gZ4_47 25 (nums .u8 s1) _ (by simp [nums, s1A.out]) rfl rfl Z4_47 hs1i.out (u8_one _) ?_
        intro V48_ hW_ hg_ _
        refine hK.out _ _ (Below.grown H47_ hg_ H47_.size (fun k e => by cases e; exact gL4_)) (fun H48_ => ?_)
        have X5_48 := Z5_47.grown hg_ (fun e => by have e2 := Option.some.inj e; first | exact ne_ e2 | exact ne_ e2.symm)
        have X4_48 := hW_
        clear hK K hg_ hW_
        try simp only [Act.put, List.setIfInBounds_toArray, List.set_cons_zero, List.set_cons_succ]
        refine wpAnyH_ready (rs := [14]) (by kernel_rfl) (by simp) ?_
        refine AllReadyH.cons (op_at rfl) (fun K hK => ?_) AllReadyH.nil
        have gL5_ : w.heap.size ≤ gZ5_44 := by assumption
        refine step_put_blk (by rfl) 25 (.tmp 5) (.tmp 54) rfl gZ5_44 25 (nums .u8 s2) _ (by simp [nums, s2A.out]) rfl rfl X5_48 hs2i.out (u8_one _) ?_
        intro V49_ hW_ hg_ _
        refine hK.out _ _ (Below.grown H48_ hg_ H48_.size (fun k e => by cases e; exact gL5_)) (fun H49_ => ?_)
        have X4_49 := X4_48.grown hg_ (fun e => by have e2 := Option.some.inj e; first | exact ne_ e2 | exact ne_ e2.symm)
        have X5_49 := hW_
        clear hK K hg_ hW_
        try simp only [Act.put, List.setIfInBounds_toArray, List.set_cons_zero, List.set_cons_succ]
        refine wpAnyH_done (by kernel_rfl) ?_ _
        refine NoPanic.normal ?_
        exact hk _ _ _ X4_49 X5_49 H49_
      · go_simp
        have hb := below_alloc (Below.refl V45_.heap.size V45_) (.cells #[.int .u8 0, .int .u8 0, .int .u8 0, .int .u8 0, .int .u8 0, .int .u8 0, .int .u8 0, .int .u8 0, .int .u8 0, .int .u8 0, .int .u8 0, .int .u8 0, .int .u8 0, .int .u8 0, .int .u8 0, .int .u8 0, .int .u8 0, .int .u8 0, .int .u8 0, .int .u8 0, .int .u8 0, .int .u8 0, .int .u8 0, .int .u8 0, .int .u8 0, .int .u8 0, .int .u8 0, .int .u8 0, .int .u8 0, .int .u8 0, .int .u8 0, .int .u8 0] 25)
        refine hK.out _ _ (below_then H45_ H45_.size hb) (fun H50_ => ?_)
        have Z5_50 := Blk.below Z5_45 hb
        have Z4_50 := Blk.new V45_ 25 [.int .u8 0, .int .u8 0, .int .u8 0, .int .u8 0, .int .u8 0, .int .u8 0, .int .u8 0, .int .u8 0, .int .u8 0, .int .u8 0, .int .u8 0, .int .u8 0, .int .u8 0, .int .u8 0, .int .u8 0, .int .u8 0, .int .u8 0, .int .u8 0, .int .u8 0, .int .u8 0, .int .u8 0, .int .u8 0, .int .u8 0, .int .u8 0, .int .u8 0, .int .u8 0, .int .u8 0, .int .u8 0, .int .u8 0, .int .u8 0, .int .u8 0, .int .u8 0]
        clear hK K hb
        obtain ⟨V50_, hV_⟩ : ∃ V_, V_ = V45_.alloc (.cells #[.int .u8 0, .int .u8 0, .int .u8 0, .int .u8 0, .int .u8 0, .int .u8 0, .int .u8 0, .int .u8 0, .int .u8 0, .int .u8 0, .int .u8 0, .int .u8 0, .int .u8 0, .int .u8 0, .int .u8 0, .int .u8 0, .int .u8 0, .int .u8 0, .int .u8 0, .int .u8 0, .int .u8 0, .int .u8 0, .int .u8 0, .int .u8 0, .int .u8 0, .int .u8 0, .int .u8 0, .int .u8 0, .int .u8 0, .int .u8 0, .int .u8 0, .int .u8 0] 25) := ⟨_, rfl⟩
        rw [← hV_] at H50_ Z5_50 Z4_50 ⊢
        obtain ⟨gZ4_50, hg_⟩ : ∃ g_, g_ = V45_.heap.size := ⟨_, rfl⟩
        rw [← hg_] at Z4_50 ⊢
        have gL_Z4 : w.heap.size ≤ gZ4_50 := by have h_ := Below.size H45_; omega
        have ne_ : gZ5_44 ≠ gZ4_50 := by have h_ := Blk.lt Z5_45; omega
        clear hV_ hg_
        try simp only [Act.put, List.setIfInBounds_toArray, List.set_cons_zero, List.set_cons_succ]
        refine wpAnyH_ready (rs := [10]) (by kernel_rfl) (by simp) ?_
        refine AllReadyH.cons (op_at rfl) (fun K hK => ?_) AllReadyH.nil
        go_simp
        go_at_call 17
        with_reducible refine (t2A.out V50_ H50_).mono ?_
        rintro e V51_ ⟨rfl, hb⟩
        go_wp2_with fail
        refine hK.out _ _ (below_then H50_ H50_.size hb) (fun H51_ => ?_)
        have Z5_51 := Blk.below Z5_50 hb
        have Z4_51 := Blk.below Z4_50 hb
        clear hK K hb
        try simp only [Act.put, List.setIfInBounds_toArray, List.set_cons_zero, List.set_cons_succ]
        refine wpAnyH_ready (rs := [13]) (by kernel_rfl) (by simp) ?_
        refine AllReadyH.cons (op_at rfl) (fun K hK => ?_) AllReadyH.nil
        have gL4_ : w.heap.size ≤ gZ4_50 := by assumption
        refine step_put_blk (by rfl) 25 (.tmp 4) (.tmp 48) rfl gZ4_50 25 (nums .u8 s1) _ (by simp [nums, s1A.out]) rfl rfl Z4_51 hs1i.out (u8_one _) ?_
        intro V52_ hW_ hg_ _
        refine hK.out _ _ (Below.grown H51_ hg_ H51_.size (fun k e => by cases e; exact gL4_)) (fun H52_ => ?_)
        have X5_52 := Z5_51.grown hg_ (fun e => by have e2 := Option.some.inj e; first | exact ne_ e2 | exact ne_ e2.symm)
        have X4_52 := hW_
        clear hK K hg_ hW_
        try simp only [Act.put, List.setIfInBounds_toArray, List.set_cons_zero, List.set_cons_succ]
        refine wpAnyH_ready (rs := [14]) (by kernel_rfl) (by simp) ?_
        refine AllReadyH.cons (op_at rfl) (fun K hK => ?_) AllReadyH.nil
        have gL5_ : w.heap.size ≤ gZ5_44 := by assumption
        refine step_put_blk (by rfl) 25 (.tmp 5) (.tmp 54) rfl gZ5_44 25 (nums .u8 s2) _ (by simp [nums, s2A.out]) rfl rfl X5_52 hs2i.out (u8_one _) ?_
        intro V53_ hW_ hg_ _
        refine hK.out _ _ (Below.grown H52_ hg_ H52_.size (fun k e => by cases e; exact gL5_)) (fun H53_ => ?_)
        have X4_53 := X4_52.grown hg_ (fun e => by have e2 := Option.some.inj e; first | exact ne_ e2 | exact ne_ e2.symm)
        have X5_53 := hW_
        clear hK K hg_ hW_
        try simp only [Act.put, List.setIfInBounds_toArray, List.set_cons_zero, List.set_cons_succ]
        refine wpAnyH_done (by kernel_rfl) ?_ _
        refine NoPanic.normal ?_
        exact hk _ _ _ X4_53 X5_53 H53_
    · go_simp
      have hb := below_alloc (Below.refl V44_.heap.size V44_) (.cells #[.int .u8 0, .int .u8 0, .int .u8 0, .int .u8 0, .int .u8 0, .int .u8 0, .int .u8 0, .int .u8 0, .int .u8 0, .int .u8 0, .int .u8 0, .int .u8 0, .int .u8 0, .int .u8 0, .int .u8 0, .int .u8 0, .int .u8 0, .int .u8 0, .int .u8 0, .int .u8 0, .int .u8 0, .int .u8 0, .int .u8 0, .int .u8 0, .int .u8 0, .int .u8 0, .int .u8 0, .int .u8 0, .int .u8 0, .int .u8 0, .int .u8 0, .int .u8 0] 25)
      refine hK.out _ _ (below_then H44_ H44_.size hb) (fun H54_ => ?_)
      have Z5_54 := Blk.below Z5_44 hb
      have Z4_54 := Blk.new V44_ 25 [.int .u8 0, .int .u8 0, .int .u8 0, .int .u8 0, .int .u8 0, .int .u8 0, .int .u8 0, .int .u8 0, .int .u8 0, .int .u8 0, .int .u8 0, .int .u8 0, .int .u8 0, .int .u8 0, .int .u8 0, .int .u8 0, .int .u8 0, .int .u8 0, .int .u8 0, .int .u8 0, .int .u8 0, .int .u8 0, .int .u8 0, .int .u8 0, .int .u8 0, .int .u8 0, .int .u8 0, .int .u8 0, .int .u8 0, .int .u8 0, .int .u8 0, .int .u8 0]
      clear hK K hb
      obtain ⟨V54_, hV_⟩ : ∃ V_, V_ = V44_.alloc (.cells #[.int .u8 0, .int .u8 0, .int .u8 0, .int .u8 0, .int .u8 0, .int .u8 0, .int .u8 0, .int .u8 0, .int .u8 0, .int .u8 0, .int .u8 0, .int .u8 0, .int .u8 0, .int .u8 0, .int .u8 0, .int .u8 0, .int .u8 0, .int .u8 0, .int .u8 0, .int .u8 0, .int .u8 0, .int .u8 0, .int .u8 0, .int .u8 0, .int .u8 0, .int .u8 0, .int .u8 0, .int .u8 0, .int .u8 0, .int .u8 0, .int .u8 0, .int .u8 0] 25) := ⟨_, rfl⟩
      rw [← hV_] at H54_ Z5_54 Z4_54 ⊢
      obtain ⟨gZ4_54, hg_⟩ : ∃ g_, g_ = V44_.heap.size := ⟨_, rfl⟩
      rw [← hg_] at Z4_54 ⊢
      have gL_Z4 : w.heap.size ≤ gZ4_54 := by have h_ := Below.size H44_; omega
      have ne_ : gZ5_44 ≠ gZ4_54 := by have h_ := Blk.lt Z5_44; omega
      clear hV_ hg_
      try simp only [Act.put, List.setIfInBounds_toArray, List.set_cons_zero, List.set_cons_succ]
      refine wpAnyH_ready (rs := [4]) (by kernel_rfl) (by simp) ?_
      refine AllReadyH.cons (op_at rfl) (fun K hK => ?_) AllReadyH.nil
      go_simp
      go_at_call 17
      with_reducible refine (t1A.out V54_ H54_).mono ?_
      rintro e V55_ ⟨rfl, hb⟩
      go_wp2_with fail
      refine hK.out _ _ (below_then H54_ H54_.size hb) (fun H55_ => ?_)
      have Z5_55 := Blk.below Z5_54 hb
      have Z4_55 := Blk.below Z4_54 hb
      clear hK K hb
      try simp only [Act.put, List.setIfInBounds_toArray, List.set_cons_zero, List.set_cons_succ]
      refine wpAnyH_ready (rs := [10]) (by kernel_rfl) (by simp) ?_
      refine AllReadyH.cons (op_at rfl) (fun K hK => ?_) AllReadyH.nil
      go_simp
      go_at_call 17
      with_reducible refine (t2A.out V55_ H55_).mono ?_
      rintro e V56_ ⟨rfl, hb⟩
      go_wp2_with fail
      refine hK.out _ _ (below_then H55_ H55_.size hb) (fun H56_ => ?_)
      have Z5_56 := Blk.below Z5_55 hb
      have Z4_56 := Blk.below Z4_55 hb
      clear hK K hb
      try simp only [Act.put, List.setIfInBounds_toArray, List.set_cons_zero, List.set_cons_succ]
      refine wpAnyH_ready (rs := [13]) (by kernel_rfl) (by simp) ?_
      refine AllReadyH.cons (op_at rfl) (fun K hK => ?_) AllReadyH.nil
      have gL4_ : w.heap.size ≤ gZ4_54 := by assumption
      refine step_put_blk (by rfl) 25 (.tmp 4) (.tmp 48) rfl gZ4_54 25 (nums .u8 s1) _ (by simp [nums, s1A.out]) rfl rfl Z4_56 hs1i.out (u8_one _) ?_
      intro V57_ hW_ hg_ _
      refine hK.out _ _ (Below.grown H56_ hg_ H56_.size (fun k e => by cases e; exact gL4_)) (fun H57_ => ?_)
      have X5_57 := Z5_56.grown hg_ (fun e => by have e2 := Option.some.inj e; first | exact ne_ e2 | exact ne_ e2.symm)
      have X4_57 := hW_
      clear hK K hg_ hW_
      try simp only [Act.put, List.setIfInBounds_toArray, List.set_cons_zero, List.set_cons_succ]
      refine wpAnyH_ready (rs := [14]) (by kernel_rfl) (by simp) ?_
      refine AllReadyH.cons (op_at rfl) (fun K hK => ?_) AllReadyH.nil
      have gL5_ : w.heap.size ≤ gZ5_44 := by assumption
      refine step_put_blk (by rfl) 25 (.tmp 5) (.tmp 54) rfl gZ5_44 25 (nums .u8 s2) _ (by simp [nums, s2A.out]) rfl rfl X5_57 hs2i.out (u8_one _) ?_
      intro V58_ hW_ hg_ _
      refine hK.out _ _ (Below.grown H57_ hg_ H57_.size (fun k e => by cases e; exact gL5_)) (fun H58_ => ?_)
      have X4_58 := X4_57.grown hg_ (fun e => by have e2 := Option.some.inj e; first | exact ne_ e2 | exact ne_ e2.symm)
      have X5_58 := hW_
      clear hK K hg_ hW_
      try simp only [Act.put, List.setIfInBounds_toArray, List.set_cons_zero, List.set_cons_succ]
      refine wpAnyH_done (by kernel_rfl) ?_ _
      refine NoPanic.normal ?_
      exact hk _ _ _ X4_58 X5_58 H58_
set_option maxRecDepth 100000 in
set_option maxHeartbeats 4000000 in
theorem region9 {Q : Exit → Act → World → Prop} (L : List (List Int)) (ad : Addr) (c h B4 B5 : Nat) (s1 s2 d : List Int) (w W : World) (hh : h ≤ 4) (hpos : 1 ≤ h) (hcl : 2 * h ≤ c) (u1 u2 u6 u7 u8 u9 u10 u11 u12 u13 u14 u15 u16 u17 u18 u19 u20 u21 u22 u23 u24 u25 u26 u27 u28 u29 u30 u31 u32 u33 u34 u35 u36 u37 u38 u39 u40 u41 u42 u43 u55 u56 u57 u58 u59 u60 u61 u62 u63 : Value)
    (t3 : ∀ V, Below w.heap.size w V → Calls Tryd.prog 17 #[.slice (some ad) (2 * h) c] V fun e w' => e = .returned (hv d) ∧ Below V.heap.size V w')
    (dd : ∀ (V : World) (b : Nat), Blk V b 22 [.slice (some ⟨B4, 0, none⟩) 32 32, .slice (some ⟨B5, 0, none⟩) 32 32] → Blk V B4 25 (nums .u8 s1) → Blk V B5 25 (nums .u8 s2) → Below w.heap.size w V → Calls Tryd.prog 11 #[.slice (some ⟨b, 0, none⟩) 2 2] V fun e w' => e = .returned (hv d) ∧ Below V.heap.size V w')
    (dl : d.length = 32) (hB : Below w.heap.size w W) (hX4 : Blk W B4 25 (nums .u8 s1)) (hX5 : Blk W B5 25 (nums .u8 s2))
    (hk : ∀ b V, Below w.heap.size w V → Q .normal { tmps := #[.slice (some ad) L.length c, u1, .bool true, .int .i64 (2 * (h : Int)), .pointer (some ⟨B4, 0, none⟩), .pointer (some ⟨B5, 0, none⟩), u6, u7, u8, u9, u10, u11, u12, u13, u14, u15, u16, u17, u18, u19, u20, u21, u22, u23, u24, u25, u26, u27, u28, u29, u30, u31, u32, u33, u34, u35, u36, u37, u38, u39, u40, u41, u42, u43, .slice (some ad) L.length c, .int .i64 (2 * (h : Int)), .int .i64 (h : Int), .slice (some ad) h c, hv s1, .slice (some ad) L.length c, .int .i64 (2 * (h : Int)), .int .i64 (h : Int), .int .i64 (2 * (h : Int)), .slice (some (ad.add (h * 32))) h (c - h), hv s2, .slice (some ad) L.length c, .int .i64 (2 * (h : Int)), .slice (some ad) (2 * h) c, hv d, .slice (some ⟨B4, 0, none⟩) 32 32, .slice (some ⟨B5, 0, none⟩) 32 32, .slice (some ⟨b, 0, none⟩) 2 2, hv d, .bool true], defers := [] } V) :
    Code.wp Tryd.prog (Code.region 9 #[{ dst := some 55, op := Go.Op.move (Go.Operand.tmp 0), type := 35, pos := "law.go:87", after := #[], guard := none }, { dst := some 56, op := Go.Op.move (Go.Operand.tmp 3), type := 3, pos := "law.go:87", after := #[], guard := none }, { dst := some 57, op := Go.Op.slice 35 (Go.Operand.tmp 55) none (some (Go.Operand.tmp 56)) none, type := 35, pos := "law.go:87", after := #[{ on := 0, ground := Go.Ground.data }, { on := 1, ground := Go.Ground.data }], guard := none }, { dst := some 58, op := Go.Op.call { callee := Go.Callee.value (Go.Operand.func 17), args := #[Go.Operand.tmp 57], argTypes := #[35] }, type := 25, pos := "law.go:87", after := #[{ on := 2, ground := Go.Ground.data }], guard := none }, { dst := some 59, op := Go.Op.slice 25 (Go.Operand.tmp 4) none none none, type := 22, pos := "law.go:87", after := #[], guard := none }, { dst := some 60, op := Go.Op.slice 25 (Go.Operand.tmp 5) none none none, type := 22, pos := "law.go:87", after := #[], guard := none }, { dst := some 61, op := Go.Op.buildSlice 31 2 #[(0, Go.Operand.tmp 59), (1, Go.Operand.tmp 60)], type := 31, pos := "law.go:87", after := #[{ on := 4, ground := Go.Ground.data }, { on := 5, ground := Go.Ground.data }], guard := none }, { dst := some 62, op := Go.Op.call { callee := Go.Callee.value (Go.Operand.func 11), args := #[Go.Operand.tmp 61], argTypes := #[31] }, type := 25, pos := "law.go:87", after := #[{ on := 6, ground := Go.Ground.data }, { on := 3, ground := Go.Ground.chain }], guard := none }, { dst := some 63, op := Go.Op.binOp Go.BinOp.eql 25 (Go.Operand.tmp 58) (Go.Operand.tmp 62) 25, type := 4, pos := "law.go:87", after := #[{ on := 3, ground := Go.Ground.data }, { on := 7, ground := Go.Ground.data }], guard := none }, { dst := some 2, op := Go.Op.assign (Go.Operand.tmp 63), type := 4, pos := "law.go:87", after := #[{ on := 8, ground := Go.Ground.data }, { on := 7, ground := Go.Ground.chain }, { on := 0, ground := Go.Ground.phase }, { on := 1, ground := Go.Ground.phase }, { on := 2, ground := Go.Ground.phase }, { on := 3, ground := Go.Ground.phase }, { on := 4, ground := Go.Ground.phase }, { on := 5, ground := Go.Ground.phase }, { on := 6, ground := Go.Ground.phase }, { on := 7, ground := Go.Ground.phase }, { on := 8, ground := Go.Ground.phase }], guard := none }] true) Q { tmps := #[.slice (some ad) L.length c, u1, u2, .int .i64 (2 * (h : Int)), .pointer (some ⟨B4, 0, none⟩), .pointer (some ⟨B5, 0, none⟩), u6, u7, u8, u9, u10, u11, u12, u13, u14, u15, u16, u17, u18, u19, u20, u21, u22, u23, u24, u25, u26, u27, u28, u29, u30, u31, u32, u33, u34, u35, u36, u37, u38, u39, u40, u41, u42, u43, .slice (some ad) L.length c, .int .i64 (2 * (h : Int)), .int .i64 (h : Int), .slice (some ad) h c, hv s1, .slice (some ad) L.length c, .int .i64 (2 * (h : Int)), .int .i64 (h : Int), .int .i64 (2 * (h : Int)), .slice (some (ad.add (h * 32))) h (c - h), hv s2, u55, u56, u57, u58, u59, u60, u61, u62, u63], defers := [] } W := by
  have dlA := Aside0.mk dl; have t3A := Aside0.mk t3; have ddA := Aside0.mk dd
  clear dl t3 dd
  replace hX4 : Blk W.drew B4 25 (nums .u8 s1) := hX4
  replace hX5 : Blk W.drew B5 25 (nums .u8 s2) := hX5
  have f2 : 2 * (h : Int) ≤ (c : Int) := by omega
  have f3 : (0 : Int) ≤ 2 * (h : Int) := by omega
  have f5 : IntKind.i64.wrap (2 * (h : Int)) = 2 * (h : Int) := IntWalk.i64_in _ (by omega)
  have f7 : (2 * (h : Int)).toNat = 2 * h := by omega
  refine wp_region_noPanic ?_
  have H0 : Below w.heap.size w W.drew := pw_below_drewN hB 1
  refine wp_region_held_drew (S := fun V => Below w.heap.size w V) (by kernel_rfl) H0 (fun _ => ?_)
  generalize W.drew = V0 at *
  refine wpAnyH_take (i := 0) (v := .slice (some ad) L.length c) (op_at rfl) (by kernel_rfl) (by kernel_rfl) (by kernel_rfl) (fun _ _ _ h => h) (Or.inl ⟨by rfl, fun w_ hSw => ?_⟩) H0 ?_
  · skip; go_simp
  try simp only [Act.put, List.setIfInBounds_toArray, List.set_cons_zero, List.set_cons_succ]
  refine wpAnyH_take (i := 1) (v := .int .i64 (2 * (h : Int))) (op_at rfl) (by kernel_rfl) (by kernel_rfl) (by kernel_rfl) (fun _ _ _ h => h) (Or.inl ⟨by rfl, fun w_ hSw => ?_⟩) H0 ?_
  · skip; go_simp
  try simp only [Act.put, List.setIfInBounds_toArray, List.set_cons_zero, List.set_cons_succ]
  refine wpAnyH_take (i := 2) (v := .slice (some ad) (2 * h) c) (op_at rfl) (by kernel_rfl) (by kernel_rfl) (by kernel_rfl) (fun _ _ _ h => h) (Or.inl ⟨by rfl, fun w_ hSw => ?_⟩) H0 ?_
  · skip; go_simp
  try simp only [Act.put, List.setIfInBounds_toArray, List.set_cons_zero, List.set_cons_succ]
  refine wpAnyH_take (i := 4) (v := .slice (some ⟨B4, 0, none⟩) 32 32) (op_at rfl) (by kernel_rfl) (by kernel_rfl) (by kernel_rfl) (fun _ _ _ h => h) (Or.inl ⟨by rfl, fun w_ hSw => ?_⟩) H0 ?_
  · skip; go_simp
  try simp only [Act.put, List.setIfInBounds_toArray, List.set_cons_zero, List.set_cons_succ]
  refine wpAnyH_take (i := 5) (v := .slice (some ⟨B5, 0, none⟩) 32 32) (op_at rfl) (by kernel_rfl) (by kernel_rfl) (by kernel_rfl) (fun _ _ _ h => h) (Or.inl ⟨by rfl, fun w_ hSw => ?_⟩) H0 ?_
  · skip; go_simp
  try simp only [Act.put, List.setIfInBounds_toArray, List.set_cons_zero, List.set_cons_succ]
  refine wpAnyH_ready (rs := [3, 6]) (by kernel_rfl) (by simp) ?_
  refine AllReadyH.cons (op_at rfl) (fun K hK => ?_) (AllReadyH.cons (op_at rfl) (fun K hK => ?_) AllReadyH.nil)
  · go_simp
    go_at_call 17
    with_reducible refine (t3A.out V0 H0).mono ?_
    rintro e V1_ ⟨rfl, hb⟩
    go_wp2_with fail
    refine hK.out _ _ (below_then H0 H0.size hb) (fun H1_ => ?_)
    have X4_1 := Blk.below hX4 hb
    have X5_1 := Blk.below hX5 hb
    clear hK K hb
    try simp only [Act.put, List.setIfInBounds_toArray, List.set_cons_zero, List.set_cons_succ]
    refine wpAnyH_ready (rs := [6]) (by kernel_rfl) (by simp) ?_
    refine AllReadyH.cons (op_at rfl) (fun K hK => ?_) AllReadyH.nil
    go_simp
    have hb := below_alloc (Below.refl V1_.heap.size V1_) (.cells #[.slice (some ⟨B4, 0, none⟩) 32 32, .slice (some ⟨B5, 0, none⟩) 32 32] 22)
    refine hK.out _ _ (below_then H1_ H1_.size hb) (fun H2_ => ?_)
    have X4_2 := Blk.below X4_1 hb
    have X5_2 := Blk.below X5_1 hb
    have B1_2 := Blk.new V1_ 22 [.slice (some ⟨B4, 0, none⟩) 32 32, .slice (some ⟨B5, 0, none⟩) 32 32]
    clear hK K hb
    obtain ⟨V2_, hV_⟩ : ∃ V_, V_ = V1_.alloc (.cells #[.slice (some ⟨B4, 0, none⟩) 32 32, .slice (some ⟨B5, 0, none⟩) 32 32] 22) := ⟨_, rfl⟩
    rw [← hV_] at H2_ X4_2 X5_2 B1_2 ⊢
    obtain ⟨gB1_2, hg_⟩ : ∃ g_, g_ = V1_.heap.size := ⟨_, rfl⟩
    rw [← hg_] at B1_2 ⊢
    clear hV_ hg_
    try simp only [Act.put, List.setIfInBounds_toArray, List.set_cons_zero, List.set_cons_succ]
    refine wpAnyH_ready (rs := [7]) (by kernel_rfl) (by simp) ?_
    refine AllReadyH.cons (op_at rfl) (fun K hK => ?_) AllReadyH.nil
    go_simp
    go_at_call 11
    with_reducible refine (ddA.out V2_ gB1_2 B1_2 X4_2 X5_2 H2_).mono ?_
    rintro e V3_ ⟨rfl, hb⟩
    go_wp2_with fail
    refine hK.out _ _ (below_then H2_ H2_.size hb) (fun H3_ => ?_)
    have X4_3 := Blk.below X4_2 hb
    have X5_3 := Blk.below X5_2 hb
    have B1_3 := Blk.below B1_2 hb
    clear hK K hb
    try simp only [Act.put, List.setIfInBounds_toArray, List.set_cons_zero, List.set_cons_succ]
    refine wpAnyH_take (i := 8) (v := .bool true) (op_at rfl) (by kernel_rfl) (by kernel_rfl) (by kernel_rfl) (fun _ _ _ h => h) (Or.inl ⟨by rfl, fun w_ hSw => exec_eql_same (.tmp 58) (.tmp 62) rfl d rfl rfl dlA.out w_⟩) H3_ ?_
    try simp only [Act.put, List.setIfInBounds_toArray, List.set_cons_zero, List.set_cons_succ]
    refine wpAnyH_take (i := 9) (v := .bool true) (op_at rfl) (by kernel_rfl) (by kernel_rfl) (by kernel_rfl) (fun _ _ _ h => h) (Or.inl ⟨by rfl, fun w_ hSw => ?_⟩) H3_ ?_
    · skip; go_simp
    try simp only [Act.put, List.setIfInBounds_toArray, List.set_cons_zero, List.set_cons_succ]
    refine wpAnyH_done (by kernel_rfl) ?_ _
    refine NoPanic.normal ?_
    exact hk _ _ H3_
  · go_simp
    have hb := below_alloc (Below.refl V0.heap.size V0) (.cells #[.slice (some ⟨B4, 0, none⟩) 32 32, .slice (some ⟨B5, 0, none⟩) 32 32] 22)
    refine hK.out _ _ (below_then H0 H0.size hb) (fun H4_ => ?_)
    have X4_4 := Blk.below hX4 hb
    have X5_4 := Blk.below hX5 hb
    have B1_4 := Blk.new V0 22 [.slice (some ⟨B4, 0, none⟩) 32 32, .slice (some ⟨B5, 0, none⟩) 32 32]
    clear hK K hb
    obtain ⟨V4_, hV_⟩ : ∃ V_, V_ = V0.alloc (.cells #[.slice (some ⟨B4, 0, none⟩) 32 32, .slice (some ⟨B5, 0, none⟩) 32 32] 22) := ⟨_, rfl⟩
    rw [← hV_] at H4_ X4_4 X5_4 B1_4 ⊢
    obtain ⟨gB1_4, hg_⟩ : ∃ g_, g_ = V0.heap.size := ⟨_, rfl⟩
    rw [← hg_] at B1_4 ⊢
    clear hV_ hg_
    try simp only [Act.put, List.setIfInBounds_toArray, List.set_cons_zero, List.set_cons_succ]
    refine wpAnyH_ready (rs := [3]) (by kernel_rfl) (by simp) ?_
    refine AllReadyH.cons (op_at rfl) (fun K hK => ?_) AllReadyH.nil
    go_simp
    go_at_call 17
    with_reducible refine (t3A.out V4_ H4_).mono ?_
    rintro e V5_ ⟨rfl, hb⟩
    go_wp2_with fail
    refine hK.out _ _ (below_then H4_ H4_.size hb) (fun H5_ => ?_)
    have X4_5 := Blk.below X4_4 hb
    have X5_5 := Blk.below X5_4 hb
    have B1_5 := Blk.below B1_4 hb
    clear hK K hb
    try simp only [Act.put, List.setIfInBounds_toArray, List.set_cons_zero, List.set_cons_succ]
    refine wpAnyH_ready (rs := [7]) (by kernel_rfl) (by simp) ?_
    refine AllReadyH.cons (op_at rfl) (fun K hK => ?_) AllReadyH.nil
    go_simp
    go_at_call 11
    with_reducible refine (ddA.out V5_ gB1_4 B1_5 X4_5 X5_5 H5_).mono ?_
    rintro e V6_ ⟨rfl, hb⟩
    go_wp2_with fail
    refine hK.out _ _ (below_then H5_ H5_.size hb) (fun H6_ => ?_)
    have X4_6 := Blk.below X4_5 hb
    have X5_6 := Blk.below X5_5 hb
    have B1_6 := Blk.below B1_5 hb
    clear hK K hb
    try simp only [Act.put, List.setIfInBounds_toArray, List.set_cons_zero, List.set_cons_succ]
    refine wpAnyH_take (i := 8) (v := .bool true) (op_at rfl) (by kernel_rfl) (by kernel_rfl) (by kernel_rfl) (fun _ _ _ h => h) (Or.inl ⟨by rfl, fun w_ hSw => exec_eql_same (.tmp 58) (.tmp 62) rfl d rfl rfl dlA.out w_⟩) H6_ ?_
    try simp only [Act.put, List.setIfInBounds_toArray, List.set_cons_zero, List.set_cons_succ]
    refine wpAnyH_take (i := 9) (v := .bool true) (op_at rfl) (by kernel_rfl) (by kernel_rfl) (by kernel_rfl) (fun _ _ _ h => h) (Or.inl ⟨by rfl, fun w_ hSw => ?_⟩) H6_ ?_
    · skip; go_simp
    try simp only [Act.put, List.setIfInBounds_toArray, List.set_cons_zero, List.set_cons_succ]
    refine wpAnyH_done (by kernel_rfl) ?_ _
    refine NoPanic.normal ?_
    exact hk _ _ H6_
end Go.Proofs.YtibiaacgcpgkbaaDoor.Walk
