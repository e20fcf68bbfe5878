/- Does a spend open a coin? -/
import Derived.Test.YthnfjbnebfjjfaaDoorLockB
import Derived.Test.YthnfjbnebfjjfaaDoorInRound
set_option linter.unusedVariables false
set_option linter.unusedSimpArgs false
namespace Go.Proofs.YthnfjbnebfjjfaaDoor.ShaW
open Go.RowKit Go.Proofs.YthnfjbnebfjjfaaDoorW.PrintWords Go.Proofs.YthnfjbnebfjjfaaDoorW.PrintMore Go.Proofs.YthnfjbnebfjjfaaDoor Go.Proofs.YthnfjbnebfjjfaaDoor.Bits Sha ArrK
open Go.Proofs.YthnfjbnebfjjfaaDoor.InRound (op_at)
/-- a spend, its cells -/
structure Sp where
  tx : List Int
  n : Int
  key : ByteArray
  sel : Int
def spc (s : Sp) : List Value := nums .u8 s.tx ++ [.int .i64 s.n, .string s.key, .int .u64 s.sel]
abbrev spv (s : Sp) : Value := .agg (spc s).toArray
/-- a coin, its cells -/
structure Co where
  value : Int
  lock : Int
def coc (c : Co) : List Value := [.int .i64 c.value, .int .u64 c.lock]
abbrev cov (c : Co) : Value := .agg (coc c).toArray
def opens (s : Sp) (c : Co) (id : List Int) : Bool := decide (lk s.key = c.lock) && decide (s.sel = sl s.key id)
theorem spc_length (s : Sp) (h : s.tx.length = 32) : (spc s).length = 35 := by simp [spc, nums, h]
theorem spc_n (s : Sp) (h : s.tx.length = 32) : (spc s)[32]? = some (.int .i64 s.n) := by
  unfold spc; rw [List.getElem?_append_right (by simp [nums, h])]; simp [nums, h]
theorem spc_key (s : Sp) (h : s.tx.length = 32) : (spc s)[33]? = some (.string s.key) := by
  unfold spc; rw [List.getElem?_append_right (by simp [nums, h])]; simp [nums, h]
theorem spc_seal (s : Sp) (h : s.tx.length = 32) : (spc s)[34]? = some (.int .u64 s.sel) := by
  unfold spc; rw [List.getElem?_append_right (by simp [nums, h])]; simp [nums, h]
theorem spc_one (s : Sp) : ∀ u ∈ spc s, u.oneCell' = true := by
  intro u hu
  simp only [spc, List.mem_append, List.mem_cons, List.not_mem_nil, or_false] at hu
  rcases hu with hu | rfl | rfl | rfl
  · exact u8_one _ u hu
  · rfl
  · rfl
  · rfl
theorem coc_one (c : Co) : ∀ u ∈ coc c, u.oneCell' = true := by
  intro u hu
  simp only [coc, List.mem_cons, List.not_mem_nil, or_false] at hu
  rcases hu with rfl | rfl <;> rfl
theorem info_spend (s : Sp) (h : s.tx.length = 32) : (Tryd.prog.info? 28).map (·.size) = some (spc s).length := by rw [spc_length s h]; kernel_rfl
theorem info_coin (c : Co) : (Tryd.prog.info? 30).map (·.size) = some (coc c).length := by kernel_rfl
theorem open_l (x y : Int) : Ending.returned (.bool (y == x)) = Ending.returned (.bool (decide True && decide (y = x))) := by rw [decide_true, Bool.true_and]; rfl
theorem open_r (x y : Int) : Ending.returned (.bool (x == y)) = Ending.returned (.bool (decide True && decide (y = x))) := by
  rw [decide_true, Bool.true_and]
  by_cases h : x = y
  · subst h; simp
  · have h2 : ¬ y = x := fun e => h e.symm
    simp [h, h2]
set_option maxRecDepth 100000 in
set_option maxHeartbeats 400000 in
theorem opens_calls (s : Sp) (c : Co) (id : List Int) (hs : s.key.size ≤ 1000000) (ht : s.tx.length = 32) (hid : id.length = 32) (hib : Bytes id) (w : World) (hK : Kst w) (hBg : Bst w) :
    Calls Tryd.prog 11 #[spv s, cov c, hv id] w fun e w' => e = .returned (.bool (opens s c id)) ∧ Below w.heap.size w w' := by
  -- HEAD
  obtain ⟨V, hV⟩ : ∃ V, V = (((w.alloc (.cells (spc s).toArray 28)).alloc (.cells (coc c).toArray 30)).alloc (.cells (nums .u8 id).toArray 23)) := ⟨_, rfl⟩
  have hB : Below w.heap.size w V := by rw [hV]; exact below_alloc (below_alloc (below_alloc (Below.refl _ _) _) _) _
  have h0 : Blk V w.heap.size 28 (spc s) := by rw [hV]; exact ((Blk.new w 28 (spc s)).alloc _).alloc _
  have h1 : Blk V (w.heap.size + 1) 30 (coc c) := by
    rw [hV]
    have := (Blk.new (w.alloc (.cells (spc s).toArray 28)) 30 (coc c)).alloc (.cells (nums .u8 id).toArray 23)
    rwa [World.size_alloc] at this
  have h2 : Blk V (w.heap.size + 1 + 1) 23 (nums .u8 id) := by
    rw [hV]
    have := Blk.new ((w.alloc (.cells (spc s).toArray 28)).alloc (.cells (coc c).toArray 30)) 23 (nums .u8 id)
    rwa [World.size_alloc, World.size_alloc] at this
  have kS := spc_key s ht
  have sS := spc_seal s ht
  have gk : ∀ V1, Below V.heap.size V V1 → V1.cell? ⟨w.heap.size, 33, none⟩ = some (.string s.key) := fun V1 h => (h0.below h).get 33 _ kS
  have gs : ∀ V1, Below V.heap.size V V1 → V1.cell? ⟨w.heap.size, 34, none⟩ = some (.int .u64 s.sel) := fun V1 h => (h0.below h).get 34 _ sS
  have gl : ∀ V1, Below V.heap.size V V1 → V1.cell? ⟨w.heap.size + 1, 1, none⟩ = some (.int .u64 c.lock) := fun V1 h => (h1.below h).get 1 _ rfl
  have gi : ∀ V1, Below V.heap.size V V1 → V1.rangeAt (w.heap.size + 1 + 1) 0 (nums .u8 id) := fun V1 h j u hu => by rw [Nat.zero_add]; exact (h2.below h).get j u hu
  have hi := info_hash id hid
  have hu := Tryd.underlying23
  -- HEAD END
  have cl := fun (V1 : World) (h : Below V.heap.size V V1) => lock_calls s.key hs V1 (hK.below (below_then hB hB.size h)) (hBg.below (below_then hB hB.size h))
  have cs := fun (V1 : World) (h : Below V.heap.size V V1) => seal_calls s.key hs id hid hib V1 (hK.below (below_then hB hB.size h)) (hBg.below (below_then hB hB.size h))
  unfold opens
  generalize lk s.key = a at *
  generalize c.lock = b at *
  generalize sl s.key id = x at *
  generalize s.sel = y at *
  generalize s.key = k at *
  have hVA := Aside0.mk hV; have hBA := Aside0.mk hB; have clA := Aside0.mk cl; have csA := Aside0.mk cs; have gkA := Aside0.mk gk; have gsA := Aside0.mk gs; have glA := Aside0.mk gl
  clear hV hB h0 h1 h2 kS sS cl cs gk gs gl hK hBg hs hib
  by_cases hab : a = b
  · subst hab
    go_enter Tryd.func11, Tryd.ntmps11
    go_wp2_with fail
    rw [← hVA.out]
    refine wp_region_noPanic ?_
    have H0 : Below V.heap.size V V.drew := pw_below_drewN (Below.refl _ _) 1
    refine wp_region_held_drew (S := fun V1 => Below V.heap.size V V1) (by kernel_rfl) H0 (fun _ => ?_)
    generalize V.drew = V0 at *
    -- REGION A
    refine wpAnyH_take (i := 0) (v := .pointer (some ⟨w.heap.size, 33, none⟩)) (op_at rfl) (by kernel_rfl) (by kernel_rfl) (by kernel_rfl) (fun _ _ _ h => h) (Or.inl ⟨by rfl, fun w_ hSw => ?_⟩) H0 ?_
    · skip; go_simp
    try simp only [Act.put, List.setIfInBounds_toArray, List.set_cons_zero, List.set_cons_succ]
    refine wpAnyH_take (i := 1) (v := .string k) (op_at rfl) (by kernel_rfl) (by kernel_rfl) (by kernel_rfl) (fun _ _ _ h => h) (Or.inl ⟨by rfl, fun w_ hSw => ?_⟩) H0 ?_
    · have hc_ := gkA.out w_ hSw; go_simp
    try simp only [Act.put, List.setIfInBounds_toArray, List.set_cons_zero, List.set_cons_succ]
    refine wpAnyH_take (i := 3) (v := .pointer (some ⟨w.heap.size + 1, 1, none⟩)) (op_at rfl) (by kernel_rfl) (by kernel_rfl) (by kernel_rfl) (fun _ _ _ h => h) (Or.inl ⟨by rfl, fun w_ hSw => ?_⟩) H0 ?_
    · skip; go_simp
    try simp only [Act.put, List.setIfInBounds_toArray, List.set_cons_zero, List.set_cons_succ]
    refine wpAnyH_take (i := 4) (v := .int .u64 a) (op_at rfl) (by kernel_rfl) (by kernel_rfl) (by kernel_rfl) (fun _ _ _ h => h) (Or.inl ⟨by rfl, fun w_ hSw => ?_⟩) H0 ?_
    · have hc_ := glA.out w_ hSw; go_simp
    try simp only [Act.put, List.setIfInBounds_toArray, List.set_cons_zero, List.set_cons_succ]
    refine wpAnyH_ready (rs := [2]) (by kernel_rfl) (by simp) ?_
    refine AllReadyH.cons (op_at rfl) (fun K hK => ?_) AllReadyH.nil
    go_simp
    go_at_call 7
    with_reducible refine (clA.out V0 H0).mono ?_
    rintro e V1_ ⟨rfl, hb⟩
    go_wp2_with fail
    refine hK.out _ _ (below_then H0 H0.size hb) (fun H1_ => ?_)
    clear hK K hb
    try simp only [Act.put, List.setIfInBounds_toArray, List.set_cons_zero, List.set_cons_succ]
    refine wpAnyH_take (i := 5) (v := .bool true) (op_at rfl) (by kernel_rfl) (by kernel_rfl) (by kernel_rfl) (fun _ _ _ h => h) (Or.inl ⟨by rfl, fun w_ hSw => ?_⟩) H1_ ?_
    · skip; go_simp
    try simp only [Act.put, List.setIfInBounds_toArray, List.set_cons_zero, List.set_cons_succ]
    refine wpAnyH_take (i := 6) (v := .bool true) (op_at rfl) (by kernel_rfl) (by kernel_rfl) (by kernel_rfl) (fun _ _ _ h => h) (Or.inl ⟨by rfl, fun w_ hSw => ?_⟩) H1_ ?_
    · skip; go_simp
    try simp only [Act.put, List.setIfInBounds_toArray, List.set_cons_zero, List.set_cons_succ]
    refine wpAnyH_take (i := 7) (v := .pointer (some ⟨w.heap.size, 34, none⟩)) (op_at rfl) (by kernel_rfl) (by kernel_rfl) (by kernel_rfl) (fun _ _ _ h => h) (Or.inl ⟨by rfl, fun w_ hSw => ?_⟩) H1_ ?_
    · skip; go_simp
    try simp only [Act.put, List.setIfInBounds_toArray, List.set_cons_zero, List.set_cons_succ]
    refine wpAnyH_take (i := 8) (v := .int .u64 y) (op_at rfl) (by kernel_rfl) (by kernel_rfl) (by kernel_rfl) (fun _ _ _ h => h) (Or.inl ⟨by rfl, fun w_ hSw => ?_⟩) H1_ ?_
    · have hc_ := gsA.out w_ hSw; go_simp
    try simp only [Act.put, List.setIfInBounds_toArray, List.set_cons_zero, List.set_cons_succ]
    refine wpAnyH_take (i := 9) (v := .pointer (some ⟨w.heap.size, 33, none⟩)) (op_at rfl) (by kernel_rfl) (by kernel_rfl) (by kernel_rfl) (fun _ _ _ h => h) (Or.inl ⟨by rfl, fun w_ hSw => ?_⟩) H1_ ?_
    · skip; go_simp
    try simp only [Act.put, List.setIfInBounds_toArray, List.set_cons_zero, List.set_cons_succ]
    refine wpAnyH_take (i := 10) (v := .string k) (op_at rfl) (by kernel_rfl) (by kernel_rfl) (by kernel_rfl) (fun _ _ _ h => h) (Or.inl ⟨by rfl, fun w_ hSw => ?_⟩) H1_ ?_
    · have hc_ := gkA.out w_ hSw; go_simp
    try simp only [Act.put, List.setIfInBounds_toArray, List.set_cons_zero, List.set_cons_succ]
    refine wpAnyH_take (i := 11) (v := hv id) (op_at rfl) (by kernel_rfl) (by kernel_rfl) (by kernel_rfl) (fun _ _ _ h => h) (yieldsIf_load_mid (by rfl) _ _ rfl (w.heap.size + 1 + 1) 0 rfl _ _ (fun w_ hSw => gi w_ hSw) hu rfl hi) H1_ ?_
    try simp only [Act.put, List.setIfInBounds_toArray, List.set_cons_zero, List.set_cons_succ]
    refine wpAnyH_ready (rs := [12]) (by kernel_rfl) (by simp) ?_
    refine AllReadyH.cons (op_at rfl) (fun K hK => ?_) AllReadyH.nil
    go_simp
    go_at_call 9
    with_reducible refine (csA.out V1_ H1_).mono ?_
    rintro e V2_ ⟨rfl, hb⟩
    go_wp2_with fail
    refine hK.out _ _ (below_then H1_ H1_.size hb) (fun H2_ => ?_)
    clear hK K hb
    try simp only [Act.put, List.setIfInBounds_toArray, List.set_cons_zero, List.set_cons_succ]
    refine wpAnyH_take (i := 13) (v := .bool (y == x)) (op_at rfl) (by kernel_rfl) (by kernel_rfl) (by kernel_rfl) (fun _ _ _ h => h) (Or.inl ⟨by rfl, fun w_ hSw => ?_⟩) H2_ ?_
    · skip; go_simp
    try simp only [Act.put, List.setIfInBounds_toArray, List.set_cons_zero, List.set_cons_succ]
    refine wpAnyH_take (i := 14) (v := .bool (y == x)) (op_at rfl) (by kernel_rfl) (by kernel_rfl) (by kernel_rfl) (fun _ _ _ h => h) (Or.inl ⟨by rfl, fun w_ hSw => ?_⟩) H2_ ?_
    · skip; go_simp
    try simp only [Act.put, List.setIfInBounds_toArray, List.set_cons_zero, List.set_cons_succ]
    refine wpAnyH_take (i := 15) (v := .bool (y == x)) (op_at rfl) (by kernel_rfl) (by kernel_rfl) (by kernel_rfl) (fun _ _ _ h => h) (Or.inl ⟨by rfl, fun w_ hSw => ?_⟩) H2_ ?_
    · skip; go_simp
    try simp only [Act.put, List.setIfInBounds_toArray, List.set_cons_zero, List.set_cons_succ]
    refine wpAnyH_done (by kernel_rfl) ?_ _
    refine NoPanic.normal ?_
    go_wp2
    go_ret
    exact ⟨open_l x y, below_then hBA.out hBA.out.size H2_⟩
    -- END A
  · have d1 : (a == b) = false := beq_eq_false_iff_ne.2 hab
    rw [decide_eq_false hab, Bool.false_and]
    clear hab
    go_enter Tryd.func11, Tryd.ntmps11
    go_wp2_with fail
    rw [← hVA.out]
    refine wp_region_noPanic ?_
    have H0 : Below V.heap.size V V.drew := pw_below_drewN (Below.refl _ _) 1
    refine wp_region_held_drew (S := fun V1 => Below V.heap.size V V1) (by kernel_rfl) H0 (fun _ => ?_)
    generalize V.drew = V0 at *
    -- REGION B
    refine wpAnyH_take (i := 0) (v := .pointer (some ⟨w.heap.size, 33, none⟩)) (op_at rfl) (by kernel_rfl) (by kernel_rfl) (by kernel_rfl) (fun _ _ _ h => h) (Or.inl ⟨by rfl, fun w_ hSw => ?_⟩) H0 ?_
    · skip; go_simp
    try simp only [Act.put, List.setIfInBounds_toArray, List.set_cons_zero, List.set_cons_succ]
    refine wpAnyH_take (i := 1) (v := .string k) (op_at rfl) (by kernel_rfl) (by kernel_rfl) (by kernel_rfl) (fun _ _ _ h => h) (Or.inl ⟨by rfl, fun w_ hSw => ?_⟩) H0 ?_
    · have hc_ := gkA.out w_ hSw; go_simp
    try simp only [Act.put, List.setIfInBounds_toArray, List.set_cons_zero, List.set_cons_succ]
    refine wpAnyH_take (i := 3) (v := .pointer (some ⟨w.heap.size + 1, 1, none⟩)) (op_at rfl) (by kernel_rfl) (by kernel_rfl) (by kernel_rfl) (fun _ _ _ h => h) (Or.inl ⟨by rfl, fun w_ hSw => ?_⟩) H0 ?_
    · skip; go_simp
    try simp only [Act.put, List.setIfInBounds_toArray, List.set_cons_zero, List.set_cons_succ]
    refine wpAnyH_take (i := 4) (v := .int .u64 b) (op_at rfl) (by kernel_rfl) (by kernel_rfl) (by kernel_rfl) (fun _ _ _ h => h) (Or.inl ⟨by rfl, fun w_ hSw => ?_⟩) H0 ?_
    · have hc_ := glA.out w_ hSw; go_simp
    try simp only [Act.put, List.setIfInBounds_toArray, List.set_cons_zero, List.set_cons_succ]
    refine wpAnyH_ready (rs := [2]) (by kernel_rfl) (by simp) ?_
    refine AllReadyH.cons (op_at rfl) (fun K hK => ?_) AllReadyH.nil
    go_simp
    go_at_call 7
    with_reducible refine (clA.out V0 H0).mono ?_
    rintro e V1_ ⟨rfl, hb⟩
    go_wp2_with fail
    refine hK.out _ _ (below_then H0 H0.size hb) (fun H1_ => ?_)
    clear hK K hb
    try simp only [Act.put, List.setIfInBounds_toArray, List.set_cons_zero, List.set_cons_succ]
    refine wpAnyH_take (i := 5) (v := .bool false) (op_at rfl) (by kernel_rfl) (by kernel_rfl) (by kernel_rfl) (fun _ _ _ h => h) (Or.inl ⟨by rfl, fun w_ hSw => ?_⟩) H1_ ?_
    · skip; go_simp
    try simp only [Act.put, List.setIfInBounds_toArray, List.set_cons_zero, List.set_cons_succ]
    refine wpAnyH_take (i := 6) (v := .bool false) (op_at rfl) (by kernel_rfl) (by kernel_rfl) (by kernel_rfl) (fun _ _ _ h => h) (Or.inl ⟨by rfl, fun w_ hSw => ?_⟩) H1_ ?_
    · skip; go_simp
    try simp only [Act.put, List.setIfInBounds_toArray, List.set_cons_zero, List.set_cons_succ]
    refine wpAnyH_take (i := 7) (v := undef) (op_at rfl) (by kernel_rfl) (by kernel_rfl) (by kernel_rfl) (fun _ _ _ h => h) (Or.inr ⟨by rfl, rfl⟩) H1_ ?_
    try simp only [Act.put, List.setIfInBounds_toArray, List.set_cons_zero, List.set_cons_succ]
    refine wpAnyH_take (i := 8) (v := undef) (op_at rfl) (by kernel_rfl) (by kernel_rfl) (by kernel_rfl) (fun _ _ _ h => h) (Or.inr ⟨by rfl, rfl⟩) H1_ ?_
    try simp only [Act.put, List.setIfInBounds_toArray, List.set_cons_zero, List.set_cons_succ]
    refine wpAnyH_take (i := 9) (v := undef) (op_at rfl) (by kernel_rfl) (by kernel_rfl) (by kernel_rfl) (fun _ _ _ h => h) (Or.inr ⟨by rfl, rfl⟩) H1_ ?_
    try simp only [Act.put, List.setIfInBounds_toArray, List.set_cons_zero, List.set_cons_succ]
    refine wpAnyH_take (i := 10) (v := undef) (op_at rfl) (by kernel_rfl) (by kernel_rfl) (by kernel_rfl) (fun _ _ _ h => h) (Or.inr ⟨by rfl, rfl⟩) H1_ ?_
    try simp only [Act.put, List.setIfInBounds_toArray, List.set_cons_zero, List.set_cons_succ]
    refine wpAnyH_take (i := 11) (v := undef) (op_at rfl) (by kernel_rfl) (by kernel_rfl) (by kernel_rfl) (fun _ _ _ h => h) (Or.inr ⟨by rfl, rfl⟩) H1_ ?_
    try simp only [Act.put, List.setIfInBounds_toArray, List.set_cons_zero, List.set_cons_succ]
    refine wpAnyH_take (i := 12) (v := undef) (op_at rfl) (by kernel_rfl) (by kernel_rfl) (by kernel_rfl) (fun _ _ _ h => h) (Or.inr ⟨by rfl, rfl⟩) H1_ ?_
    try simp only [Act.put, List.setIfInBounds_toArray, List.set_cons_zero, List.set_cons_succ]
    refine wpAnyH_take (i := 13) (v := undef) (op_at rfl) (by kernel_rfl) (by kernel_rfl) (by kernel_rfl) (fun _ _ _ h => h) (Or.inr ⟨by rfl, rfl⟩) H1_ ?_
    try simp only [Act.put, List.setIfInBounds_toArray, List.set_cons_zero, List.set_cons_succ]
    refine wpAnyH_take (i := 14) (v := .bool false) (op_at rfl) (by kernel_rfl) (by kernel_rfl) (by kernel_rfl) (fun _ _ _ h => h) (Or.inl ⟨by rfl, fun w_ hSw => ?_⟩) H1_ ?_
    · skip; go_simp
    try simp only [Act.put, List.setIfInBounds_toArray, List.set_cons_zero, List.set_cons_succ]
    refine wpAnyH_take (i := 15) (v := .bool false) (op_at rfl) (by kernel_rfl) (by kernel_rfl) (by kernel_rfl) (fun _ _ _ h => h) (Or.inl ⟨by rfl, fun w_ hSw => ?_⟩) H1_ ?_
    · skip; go_simp
    try simp only [Act.put, List.setIfInBounds_toArray, List.set_cons_zero, List.set_cons_succ]
    refine wpAnyH_done (by kernel_rfl) ?_ _
    refine NoPanic.normal ?_
    go_wp2
    go_ret
    exact ⟨rfl, below_then hBA.out hBA.out.size H1_⟩
    -- END B
set_option maxRecDepth 100000 in
set_option maxHeartbeats 400000 in
theorem ropens_calls (s : Sp) (c : Co) (id : List Int) (hs : s.key.size ≤ 1000000) (ht : s.tx.length = 32) (hid : id.length = 32) (hib : Bytes id) (w : World) (hK : Rst w) :
    Calls Tryd.prog 12 #[spv s, cov c, hv id] w fun e w' => e = .returned (.bool (opens s c id)) ∧ Below w.heap.size w w' := by
  -- HEAD
  obtain ⟨V, hV⟩ : ∃ V, V = (((w.alloc (.cells (spc s).toArray 28)).alloc (.cells (coc c).toArray 30)).alloc (.cells (nums .u8 id).toArray 23)) := ⟨_, rfl⟩
  have hB : Below w.heap.size w V := by rw [hV]; exact below_alloc (below_alloc (below_alloc (Below.refl _ _) _) _) _
  have h0 : Blk V w.heap.size 28 (spc s) := by rw [hV]; exact ((Blk.new w 28 (spc s)).alloc _).alloc _
  have h1 : Blk V (w.heap.size + 1) 30 (coc c) := by
    rw [hV]
    have := (Blk.new (w.alloc (.cells (spc s).toArray 28)) 30 (coc c)).alloc (.cells (nums .u8 id).toArray 23)
    rwa [World.size_alloc] at this
  have h2 : Blk V (w.heap.size + 1 + 1) 23 (nums .u8 id) := by
    rw [hV]
    have := Blk.new ((w.alloc (.cells (spc s).toArray 28)).alloc (.cells (coc c).toArray 30)) 23 (nums .u8 id)
    rwa [World.size_alloc, World.size_alloc] at this
  have kS := spc_key s ht
  have sS := spc_seal s ht
  have gk : ∀ V1, Below V.heap.size V V1 → V1.cell? ⟨w.heap.size, 33, none⟩ = some (.string s.key) := fun V1 h => (h0.below h).get 33 _ kS
  have gs : ∀ V1, Below V.heap.size V V1 → V1.cell? ⟨w.heap.size, 34, none⟩ = some (.int .u64 s.sel) := fun V1 h => (h0.below h).get 34 _ sS
  have gl : ∀ V1, Below V.heap.size V V1 → V1.cell? ⟨w.heap.size + 1, 1, none⟩ = some (.int .u64 c.lock) := fun V1 h => (h1.below h).get 1 _ rfl
  have gi : ∀ V1, Below V.heap.size V V1 → V1.rangeAt (w.heap.size + 1 + 1) 0 (nums .u8 id) := fun V1 h j u hu => by rw [Nat.zero_add]; exact (h2.below h).get j u hu
  have hi := info_hash id hid
  have hu := Tryd.underlying23
  -- HEAD END
  have cl := fun (V1 : World) (h : Below V.heap.size V V1) => rlock_calls s.key hs V1 (hK.below (below_then hB hB.size h))
  have cs := fun (V1 : World) (h : Below V.heap.size V V1) => rseal_calls s.key hs id hid hib V1 (hK.below (below_then hB hB.size h))
  unfold opens
  generalize lk s.key = a at *
  generalize c.lock = b at *
  generalize sl s.key id = x at *
  generalize s.sel = y at *
  generalize s.key = k at *
  have hVA := Aside0.mk hV; have hBA := Aside0.mk hB; have clA := Aside0.mk cl; have csA := Aside0.mk cs; have gkA := Aside0.mk gk; have gsA := Aside0.mk gs; have glA := Aside0.mk gl
  clear hV hB h0 h1 h2 kS sS cl cs gk gs gl hK hs hib
  by_cases hab : a = b
  · subst hab
    go_enter Tryd.func12, Tryd.ntmps12
    go_wp2_with fail
    rw [← hVA.out]
    refine wp_region_noPanic ?_
    have H0 : Below V.heap.size V V.drew := pw_below_drewN (Below.refl _ _) 1
    refine wp_region_held_drew (S := fun V1 => Below V.heap.size V V1) (by kernel_rfl) H0 (fun _ => ?_)
    generalize V.drew = V0 at *
    -- REGION C
    refine wpAnyH_take (i := 0) (v := .pointer (some ⟨w.heap.size, 33, none⟩)) (op_at rfl) (by kernel_rfl) (by kernel_rfl) (by kernel_rfl) (fun _ _ _ h => h) (Or.inl ⟨by rfl, fun w_ hSw => ?_⟩) H0 ?_
    · skip; go_simp
    try simp only [Act.put, List.setIfInBounds_toArray, List.set_cons_zero, List.set_cons_succ]
    refine wpAnyH_take (i := 1) (v := .string k) (op_at rfl) (by kernel_rfl) (by kernel_rfl) (by kernel_rfl) (fun _ _ _ h => h) (Or.inl ⟨by rfl, fun w_ hSw => ?_⟩) H0 ?_
    · have hc_ := gkA.out w_ hSw; go_simp
    try simp only [Act.put, List.setIfInBounds_toArray, List.set_cons_zero, List.set_cons_succ]
    refine wpAnyH_take (i := 3) (v := .pointer (some ⟨w.heap.size + 1, 1, none⟩)) (op_at rfl) (by kernel_rfl) (by kernel_rfl) (by kernel_rfl) (fun _ _ _ h => h) (Or.inl ⟨by rfl, fun w_ hSw => ?_⟩) H0 ?_
    · skip; go_simp
    try simp only [Act.put, List.setIfInBounds_toArray, List.set_cons_zero, List.set_cons_succ]
    refine wpAnyH_take (i := 4) (v := .int .u64 a) (op_at rfl) (by kernel_rfl) (by kernel_rfl) (by kernel_rfl) (fun _ _ _ h => h) (Or.inl ⟨by rfl, fun w_ hSw => ?_⟩) H0 ?_
    · have hc_ := glA.out w_ hSw; go_simp
    try simp only [Act.put, List.setIfInBounds_toArray, List.set_cons_zero, List.set_cons_succ]
    refine wpAnyH_ready (rs := [2]) (by kernel_rfl) (by simp) ?_
    refine AllReadyH.cons (op_at rfl) (fun K hK => ?_) AllReadyH.nil
    go_simp
    go_at_call 8
    with_reducible refine (clA.out V0 H0).mono ?_
    rintro e V1_ ⟨rfl, hb⟩
    go_wp2_with fail
    refine hK.out _ _ (below_then H0 H0.size hb) (fun H1_ => ?_)
    clear hK K hb
    try simp only [Act.put, List.setIfInBounds_toArray, List.set_cons_zero, List.set_cons_succ]
    refine wpAnyH_take (i := 5) (v := .bool true) (op_at rfl) (by kernel_rfl) (by kernel_rfl) (by kernel_rfl) (fun _ _ _ h => h) (Or.inl ⟨by rfl, fun w_ hSw => ?_⟩) H1_ ?_
    · skip; go_simp
    try simp only [Act.put, List.setIfInBounds_toArray, List.set_cons_zero, List.set_cons_succ]
    refine wpAnyH_take (i := 6) (v := .bool true) (op_at rfl) (by kernel_rfl) (by kernel_rfl) (by kernel_rfl) (fun _ _ _ h => h) (Or.inl ⟨by rfl, fun w_ hSw => ?_⟩) H1_ ?_
    · skip; go_simp
    try simp only [Act.put, List.setIfInBounds_toArray, List.set_cons_zero, List.set_cons_succ]
    refine wpAnyH_take (i := 7) (v := .pointer (some ⟨w.heap.size, 33, none⟩)) (op_at rfl) (by kernel_rfl) (by kernel_rfl) (by kernel_rfl) (fun _ _ _ h => h) (Or.inl ⟨by rfl, fun w_ hSw => ?_⟩) H1_ ?_
    · skip; go_simp
    try simp only [Act.put, List.setIfInBounds_toArray, List.set_cons_zero, List.set_cons_succ]
    refine wpAnyH_take (i := 8) (v := .string k) (op_at rfl) (by kernel_rfl) (by kernel_rfl) (by kernel_rfl) (fun _ _ _ h => h) (Or.inl ⟨by rfl, fun w_ hSw => ?_⟩) H1_ ?_
    · have hc_ := gkA.out w_ hSw; go_simp
    try simp only [Act.put, List.setIfInBounds_toArray, List.set_cons_zero, List.set_cons_succ]
    refine wpAnyH_take (i := 9) (v := hv id) (op_at rfl) (by kernel_rfl) (by kernel_rfl) (by kernel_rfl) (fun _ _ _ h => h) (yieldsIf_load_mid (by rfl) _ _ rfl (w.heap.size + 1 + 1) 0 rfl _ _ (fun w_ hSw => gi w_ hSw) hu rfl hi) H1_ ?_
    try simp only [Act.put, List.setIfInBounds_toArray, List.set_cons_zero, List.set_cons_succ]
    refine wpAnyH_take (i := 11) (v := .pointer (some ⟨w.heap.size, 34, none⟩)) (op_at rfl) (by kernel_rfl) (by kernel_rfl) (by kernel_rfl) (fun _ _ _ h => h) (Or.inl ⟨by rfl, fun w_ hSw => ?_⟩) H1_ ?_
    · skip; go_simp
    try simp only [Act.put, List.setIfInBounds_toArray, List.set_cons_zero, List.set_cons_succ]
    refine wpAnyH_take (i := 12) (v := .int .u64 y) (op_at rfl) (by kernel_rfl) (by kernel_rfl) (by kernel_rfl) (fun _ _ _ h => h) (Or.inl ⟨by rfl, fun w_ hSw => ?_⟩) H1_ ?_
    · have hc_ := gsA.out w_ hSw; go_simp
    try simp only [Act.put, List.setIfInBounds_toArray, List.set_cons_zero, List.set_cons_succ]
    refine wpAnyH_ready (rs := [10]) (by kernel_rfl) (by simp) ?_
    refine AllReadyH.cons (op_at rfl) (fun K hK => ?_) AllReadyH.nil
    go_simp
    go_at_call 10
    with_reducible refine (csA.out V1_ H1_).mono ?_
    rintro e V2_ ⟨rfl, hb⟩
    go_wp2_with fail
    refine hK.out _ _ (below_then H1_ H1_.size hb) (fun H2_ => ?_)
    clear hK K hb
    try simp only [Act.put, List.setIfInBounds_toArray, List.set_cons_zero, List.set_cons_succ]
    refine wpAnyH_take (i := 13) (v := .bool (x == y)) (op_at rfl) (by kernel_rfl) (by kernel_rfl) (by kernel_rfl) (fun _ _ _ h => h) (Or.inl ⟨by rfl, fun w_ hSw => ?_⟩) H2_ ?_
    · skip; go_simp
    try simp only [Act.put, List.setIfInBounds_toArray, List.set_cons_zero, List.set_cons_succ]
    refine wpAnyH_take (i := 14) (v := .bool (x == y)) (op_at rfl) (by kernel_rfl) (by kernel_rfl) (by kernel_rfl) (fun _ _ _ h => h) (Or.inl ⟨by rfl, fun w_ hSw => ?_⟩) H2_ ?_
    · skip; go_simp
    try simp only [Act.put, List.setIfInBounds_toArray, List.set_cons_zero, List.set_cons_succ]
    refine wpAnyH_take (i := 15) (v := .bool (x == y)) (op_at rfl) (by kernel_rfl) (by kernel_rfl) (by kernel_rfl) (fun _ _ _ h => h) (Or.inl ⟨by rfl, fun w_ hSw => ?_⟩) H2_ ?_
    · skip; go_simp
    try simp only [Act.put, List.setIfInBounds_toArray, List.set_cons_zero, List.set_cons_succ]
    refine wpAnyH_done (by kernel_rfl) ?_ _
    refine NoPanic.normal ?_
    go_wp2
    go_ret
    exact ⟨open_r x y, below_then hBA.out hBA.out.size H2_⟩
    -- END C
  · have d1 : (a == b) = false := beq_eq_false_iff_ne.2 hab
    rw [decide_eq_false hab, Bool.false_and]
    clear hab
    go_enter Tryd.func12, Tryd.ntmps12
    go_wp2_with fail
    rw [← hVA.out]
    refine wp_region_noPanic ?_
    have H0 : Below V.heap.size V V.drew := pw_below_drewN (Below.refl _ _) 1
    refine wp_region_held_drew (S := fun V1 => Below V.heap.size V V1) (by kernel_rfl) H0 (fun _ => ?_)
    generalize V.drew = V0 at *
    -- REGION D
    refine wpAnyH_take (i := 0) (v := .pointer (some ⟨w.heap.size, 33, none⟩)) (op_at rfl) (by kernel_rfl) (by kernel_rfl) (by kernel_rfl) (fun _ _ _ h => h) (Or.inl ⟨by rfl, fun w_ hSw => ?_⟩) H0 ?_
    · skip; go_simp
    try simp only [Act.put, List.setIfInBounds_toArray, List.set_cons_zero, List.set_cons_succ]
    refine wpAnyH_take (i := 1) (v := .string k) (op_at rfl) (by kernel_rfl) (by kernel_rfl) (by kernel_rfl) (fun _ _ _ h => h) (Or.inl ⟨by rfl, fun w_ hSw => ?_⟩) H0 ?_
    · have hc_ := gkA.out w_ hSw; go_simp
    try simp only [Act.put, List.setIfInBounds_toArray, List.set_cons_zero, List.set_cons_succ]
    refine wpAnyH_take (i := 3) (v := .pointer (some ⟨w.heap.size + 1, 1, none⟩)) (op_at rfl) (by kernel_rfl) (by kernel_rfl) (by kernel_rfl) (fun _ _ _ h => h) (Or.inl ⟨by rfl, fun w_ hSw => ?_⟩) H0 ?_
    · skip; go_simp
    try simp only [Act.put, List.setIfInBounds_toArray, List.set_cons_zero, List.set_cons_succ]
    refine wpAnyH_take (i := 4) (v := .int .u64 b) (op_at rfl) (by kernel_rfl) (by kernel_rfl) (by kernel_rfl) (fun _ _ _ h => h) (Or.inl ⟨by rfl, fun w_ hSw => ?_⟩) H0 ?_
    · have hc_ := glA.out w_ hSw; go_simp
    try simp only [Act.put, List.setIfInBounds_toArray, List.set_cons_zero, List.set_cons_succ]
    refine wpAnyH_ready (rs := [2]) (by kernel_rfl) (by simp) ?_
    refine AllReadyH.cons (op_at rfl) (fun K hK => ?_) AllReadyH.nil
    go_simp
    go_at_call 8
    with_reducible refine (clA.out V0 H0).mono ?_
    rintro e V1_ ⟨rfl, hb⟩
    go_wp2_with fail
    refine hK.out _ _ (below_then H0 H0.size hb) (fun H1_ => ?_)
    clear hK K hb
    try simp only [Act.put, List.setIfInBounds_toArray, List.set_cons_zero, List.set_cons_succ]
    refine wpAnyH_take (i := 5) (v := .bool false) (op_at rfl) (by kernel_rfl) (by kernel_rfl) (by kernel_rfl) (fun _ _ _ h => h) (Or.inl ⟨by rfl, fun w_ hSw => ?_⟩) H1_ ?_
    · skip; go_simp
    try simp only [Act.put, List.setIfInBounds_toArray, List.set_cons_zero, List.set_cons_succ]
    refine wpAnyH_take (i := 6) (v := .bool false) (op_at rfl) (by kernel_rfl) (by kernel_rfl) (by kernel_rfl) (fun _ _ _ h => h) (Or.inl ⟨by rfl, fun w_ hSw => ?_⟩) H1_ ?_
    · skip; go_simp
    try simp only [Act.put, List.setIfInBounds_toArray, List.set_cons_zero, List.set_cons_succ]
    refine wpAnyH_take (i := 7) (v := undef) (op_at rfl) (by kernel_rfl) (by kernel_rfl) (by kernel_rfl) (fun _ _ _ h => h) (Or.inr ⟨by rfl, rfl⟩) H1_ ?_
    try simp only [Act.put, List.setIfInBounds_toArray, List.set_cons_zero, List.set_cons_succ]
    refine wpAnyH_take (i := 8) (v := undef) (op_at rfl) (by kernel_rfl) (by kernel_rfl) (by kernel_rfl) (fun _ _ _ h => h) (Or.inr ⟨by rfl, rfl⟩) H1_ ?_
    try simp only [Act.put, List.setIfInBounds_toArray, List.set_cons_zero, List.set_cons_succ]
    refine wpAnyH_take (i := 9) (v := undef) (op_at rfl) (by kernel_rfl) (by kernel_rfl) (by kernel_rfl) (fun _ _ _ h => h) (Or.inr ⟨by rfl, rfl⟩) H1_ ?_
    try simp only [Act.put, List.setIfInBounds_toArray, List.set_cons_zero, List.set_cons_succ]
    refine wpAnyH_take (i := 10) (v := undef) (op_at rfl) (by kernel_rfl) (by kernel_rfl) (by kernel_rfl) (fun _ _ _ h => h) (Or.inr ⟨by rfl, rfl⟩) H1_ ?_
    try simp only [Act.put, List.setIfInBounds_toArray, List.set_cons_zero, List.set_cons_succ]
    refine wpAnyH_take (i := 11) (v := undef) (op_at rfl) (by kernel_rfl) (by kernel_rfl) (by kernel_rfl) (fun _ _ _ h => h) (Or.inr ⟨by rfl, rfl⟩) H1_ ?_
    try simp only [Act.put, List.setIfInBounds_toArray, List.set_cons_zero, List.set_cons_succ]
    refine wpAnyH_take (i := 12) (v := undef) (op_at rfl) (by kernel_rfl) (by kernel_rfl) (by kernel_rfl) (fun _ _ _ h => h) (Or.inr ⟨by rfl, rfl⟩) H1_ ?_
    try simp only [Act.put, List.setIfInBounds_toArray, List.set_cons_zero, List.set_cons_succ]
    refine wpAnyH_take (i := 13) (v := undef) (op_at rfl) (by kernel_rfl) (by kernel_rfl) (by kernel_rfl) (fun _ _ _ h => h) (Or.inr ⟨by rfl, rfl⟩) H1_ ?_
    try simp only [Act.put, List.setIfInBounds_toArray, List.set_cons_zero, List.set_cons_succ]
    refine wpAnyH_take (i := 14) (v := .bool false) (op_at rfl) (by kernel_rfl) (by kernel_rfl) (by kernel_rfl) (fun _ _ _ h => h) (Or.inl ⟨by rfl, fun w_ hSw => ?_⟩) H1_ ?_
    · skip; go_simp
    try simp only [Act.put, List.setIfInBounds_toArray, List.set_cons_zero, List.set_cons_succ]
    refine wpAnyH_take (i := 15) (v := .bool false) (op_at rfl) (by kernel_rfl) (by kernel_rfl) (by kernel_rfl) (fun _ _ _ h => h) (Or.inl ⟨by rfl, fun w_ hSw => ?_⟩) H1_ ?_
    · skip; go_simp
    try simp only [Act.put, List.setIfInBounds_toArray, List.set_cons_zero, List.set_cons_succ]
    refine wpAnyH_done (by kernel_rfl) ?_ _
    refine NoPanic.normal ?_
    go_wp2
    go_ret
    exact ⟨rfl, below_then hBA.out hBA.out.size H1_⟩
    -- END D
end Go.Proofs.YthnfjbnebfjjfaaDoor.ShaW
