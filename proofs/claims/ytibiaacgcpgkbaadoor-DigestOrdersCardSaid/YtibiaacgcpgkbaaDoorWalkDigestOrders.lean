/- How any digests are compared.
   Conditions: none. -/
import Derived.Test.YtibiaacgcpgkbaaDoorShaL
import Derived.Deep.RegionHeld3
set_option linter.unusedVariables false
set_option linter.unusedSimpArgs false
namespace Go.Proofs.YtibiaacgcpgkbaaDoor.Walk
open Go.RowKit Go.Proofs.YtibiaacgcpgkbaaDoorW.PrintWords Go.Proofs.YtibiaacgcpgkbaaDoorW.PrintMore Go.Proofs.YtibiaacgcpgkbaaDoor Go.Proofs.YtibiaacgcpgkbaaDoor.Bits Sha ArrK ShaW
theorem op_at' {ops : Array Oper} {i : Nat} {o : Oper} (h : (ops.toList.drop i).head? = some o) : ops[i]? = some o := by
  rw [List.head?_drop] at h; simpa using h
/-- what is held while the region goes on -/
def HeldO (w : World) (a b : List Int) (V : World) : Prop := V.rangeAt w.heap.size 0 (nums .u8 a) ∧ V.rangeAt (w.heap.size + 1) 0 (nums .u8 b) ∧ Below w.heap.size w V ∧ w.heap.size + 1 < V.heap.size
theorem heldO_of {w V W' : World} {a b : List Int} (hb : Below V.heap.size V W') (h : HeldO w a b V) : HeldO w a b W' :=
  ⟨fun j v hv => (hb.cell (p := ⟨w.heap.size, 0 + j, none⟩) (by have := h.2.2.2; show w.heap.size < _; omega)).trans (h.1 j v hv), fun j v hv => (hb.cell (p := ⟨w.heap.size + 1, 0 + j, none⟩) h.2.2.2).trans (h.2.1 j v hv), below_then h.2.2.1 h.2.2.1.size hb, Nat.lt_of_lt_of_le h.2.2.2 hb.size⟩
theorem heldO_b {w V : World} {a b : List Int} (h : HeldO w a b V) : Below w.heap.size w V := h.2.2.1
set_option maxRecDepth 100000 in
set_option maxHeartbeats 400000 in
/-- the law's last part, whatever was found -/
theorem DigestOrders (a b : List Int) (ha : Bytes a) (hb : Bytes b) (la : a.length = 32) (lb : b.length = 32) (w : World) (hK : Kst w) (hBg : Bst w) :
    Calls Tryd.prog 5 #[hv a, hv b] w fun e w' => e = .returned (.bool true) ∧ Below w.heap.size w w' := by
  obtain ⟨V, hV⟩ : ∃ V, V = ((w.alloc (.cells (nums .u8 a).toArray 25)).alloc (.cells (nums .u8 b).toArray 25)) := ⟨_, rfl⟩
  have hB : Below w.heap.size w V := by rw [hV]; exact below_alloc (below_alloc (Below.refl _ _) _) _
  have h0 : Blk V w.heap.size 25 (nums .u8 a) := by rw [hV]; exact (Blk.new w 25 (nums .u8 a)).alloc _
  have h1 : Blk V (w.heap.size + 1) 25 (nums .u8 b) := by
    rw [hV]
    have := Blk.new (w.alloc (.cells (nums .u8 a).toArray 25)) 25 (nums .u8 b)
    rwa [World.size_alloc] at this
  have hAl := alive_calls V (hK.below hB) (hBg.below hB)
  have hVA := Aside0.mk hV; have hBA := Aside0.mk hB; have h0A := Aside0.mk h0; have h1A := Aside0.mk h1; have hAlA := Aside0.mk hAl
  have hLab := fun W => less_calls a b la lb W
  have hLba := fun W => less_calls b a lb la W
  have hCab := fun W => compare_calls a b ha hb la lb W
  have hCba := fun W => compare_calls b a hb ha lb la W
  have hWa := fun W => wordof_calls a ha la W
  have hRa := fun W => rword_calls a ha la W
  have hsw := cmpL_swap a b
  have hrg := cmpL_range a b
  have hia := info_hash a la
  have hib := info_hash b lb
  obtain ⟨z, hz⟩ : ∃ z, z = cmpL a b := ⟨_, rfl⟩
  rw [← hz] at hLab hCab hrg hsw
  rw [hsw] at hLba hCba
  have hiaA := Aside0.mk hia; have hibA := Aside0.mk hib
  clear hV hB h0 h1 hAl hsw hz ha hb la lb hK hBg hia hib
  have hu36 := Tryd.underlying25
  have hLabA := Aside0.mk hLab; have hLbaA := Aside0.mk hLba; have hCabA := Aside0.mk hCab; have hCbaA := Aside0.mk hCba; have hWaA := Aside0.mk hWa; have hRaA := Aside0.mk hRa
  clear hLab hLba hCab hCba hWa hRa
  rcases hrg with rfl | rfl | rfl
  all_goals
    go_enter Tryd.func5, Tryd.ntmps5
    go_wp2_with (first | (go_at_call 8; rw [← hVA.out]; with_reducible refine hAlA.out.mono ?_; rintro e w1 ⟨rfl, hb1⟩; have hBw := Aside0.mk (below_then hBA.out hBA.out.size hb1); have hX := Aside0.mk (h0A.out.below hb1); have hY := Aside0.mk (h1A.out.below hb1); clear hb1) | ((with_reducible refine gate_dst (N := 8) rfl ?_); refine wpList_load_blk rfl 25 (.tmp 2) rfl w.heap.size 25 rfl (nums .u8 a) _ hX.out hu36 rfl hiaA.out ?_) | ((with_reducible refine gate_dst (N := 9) rfl ?_); refine wpList_load_blk rfl 25 (.tmp 3) rfl (w.heap.size + 1) 25 rfl (nums .u8 b) _ hY.out hu36 rfl hibA.out ?_) | ((with_reducible refine gate_dst (N := 11) rfl ?_); refine wpList_load_blk rfl 25 (.tmp 3) rfl (w.heap.size + 1) 25 rfl (nums .u8 b) _ hY2.out hu36 rfl hibA.out ?_) | ((with_reducible refine gate_dst (N := 12) rfl ?_); refine wpList_load_blk rfl 25 (.tmp 2) rfl w.heap.size 25 rfl (nums .u8 a) _ hX2.out hu36 rfl hiaA.out ?_) | (go_at_call 15; with_reducible refine (hLabA.out _).mono ?_; rintro e w2 ⟨rfl, hb2⟩; have hX2 := Aside0.mk (hX.out.below hb2); have hY2 := Aside0.mk (hY.out.below hb2); have hBw2 := Aside0.mk (below_then hBw.out hBw.out.size hb2); clear hb2) | (go_at_call 15; with_reducible refine (hLbaA.out _).mono ?_; rintro e w3 ⟨rfl, hb3⟩; have hX3 := Aside0.mk (hX2.out.below hb3); have hY3 := Aside0.mk (hY2.out.below hb3); have hBw3 := Aside0.mk (below_then hBw2.out hBw2.out.size hb3); clear hb3))
  -- CASES
  · have hia := hiaA.out; have hib := hibA.out; have hWa := hWaA.out; have hRa := hRaA.out; have hCab := hCabA.out; have hCba := hCbaA.out
    rw [(show (- -1 : Int) = 1 from rfl)] at hCba
    have hlt : w.heap.size + 1 < w2.drew.heap.size := hY2.out.lt
    have H0 : HeldO w a b w2.drew := ⟨fun j v hv => by rw [Nat.zero_add]; exact hX2.out.get j v hv, fun j v hv => by rw [Nat.zero_add]; exact hY2.out.get j v hv, pw_below_drewN hBw2.out 1, hlt⟩
    clear hlt hiaA hibA hWaA hRaA hCabA hCbaA hLabA hLbaA hVA hBA h0A h1A hAlA
    refine wp_region_noPanic ?_
    refine wp_region_held_drew (S := HeldO w a b) (by kernel_rfl) H0 (fun _ => ?_)
    generalize w2.drew = V0 at *
    refine wpAnyH_take (i := 0) (v := hv a) (op_at' rfl) (by kernel_rfl) (by kernel_rfl) (by kernel_rfl) (fun _ _ _ h => h) (yieldsIf_load_mid (by rfl) _ _ rfl w.heap.size 0 rfl _ _ (fun w_ hSw => hSw.1) hu36 rfl hia) H0 ?_
    try simp only [Act.put, List.setIfInBounds_toArray, List.set_cons_zero, List.set_cons_succ]
    refine wpAnyH_take (i := 1) (v := hv b) (op_at' rfl) (by kernel_rfl) (by kernel_rfl) (by kernel_rfl) (fun _ _ _ h => h) (yieldsIf_load_mid (by rfl) _ _ rfl (w.heap.size + 1) 0 rfl _ _ (fun w_ hSw => hSw.2.1) hu36 rfl hib) H0 ?_
    try simp only [Act.put, List.setIfInBounds_toArray, List.set_cons_zero, List.set_cons_succ]
    refine wpAnyH_take (i := 3) (v := .int .i64 (-1)) (op_at' rfl) (by kernel_rfl) (by kernel_rfl) (by kernel_rfl) (fun _ _ _ h => h) (Or.inl ⟨by rfl, fun w_ hSw => ?_⟩) H0 ?_
    · skip; go_simp
    try simp only [Act.put, List.setIfInBounds_toArray, List.set_cons_zero, List.set_cons_succ]
    refine wpAnyH_ready (rs := [2]) (by kernel_rfl) (by simp) ?_
    refine AllReadyH.cons (op_at' rfl) (fun K hK => ?_) AllReadyH.nil
    go_simp
    go_at_call 16
    with_reducible refine (hCab V0).mono ?_
    rintro e V1_ ⟨rfl, hb⟩
    go_wp2_with fail
    refine hK.out _ _ (heldO_of hb H0) (fun H1_ => ?_)
    clear hK K hb
    try simp only [Act.put, List.setIfInBounds_toArray, List.set_cons_zero, List.set_cons_succ]
    refine wpAnyH_take (i := 4) (v := .bool true) (op_at' rfl) (by kernel_rfl) (by kernel_rfl) (by kernel_rfl) (fun _ _ _ h => h) (Or.inl ⟨by rfl, fun w_ hSw => ?_⟩) H1_ ?_
    · skip; go_simp
    try simp only [Act.put, List.setIfInBounds_toArray, List.set_cons_zero, List.set_cons_succ]
    refine wpAnyH_take (i := 5) (v := .bool true) (op_at' rfl) (by kernel_rfl) (by kernel_rfl) (by kernel_rfl) (fun _ _ _ h => h) (Or.inl ⟨by rfl, fun w_ hSw => ?_⟩) H1_ ?_
    · skip; go_simp
    try simp only [Act.put, List.setIfInBounds_toArray, List.set_cons_zero, List.set_cons_succ]
    refine wpAnyH_take (i := 6) (v := hv b) (op_at' rfl) (by kernel_rfl) (by kernel_rfl) (by kernel_rfl) (fun _ _ _ h => h) (yieldsIf_load_mid (by rfl) _ _ rfl (w.heap.size + 1) 0 rfl _ _ (fun w_ hSw => hSw.2.1) hu36 rfl hib) H1_ ?_
    try simp only [Act.put, List.setIfInBounds_toArray, List.set_cons_zero, List.set_cons_succ]
    refine wpAnyH_take (i := 7) (v := hv a) (op_at' rfl) (by kernel_rfl) (by kernel_rfl) (by kernel_rfl) (fun _ _ _ h => h) (yieldsIf_load_mid (by rfl) _ _ rfl w.heap.size 0 rfl _ _ (fun w_ hSw => hSw.1) hu36 rfl hia) H1_ ?_
    try simp only [Act.put, List.setIfInBounds_toArray, List.set_cons_zero, List.set_cons_succ]
    refine wpAnyH_take (i := 9) (v := .int .i64 (-1)) (op_at' rfl) (by kernel_rfl) (by kernel_rfl) (by kernel_rfl) (fun _ _ _ h => h) (Or.inl ⟨by rfl, fun w_ hSw => ?_⟩) H1_ ?_
    · skip; go_simp
    try simp only [Act.put, List.setIfInBounds_toArray, List.set_cons_zero, List.set_cons_succ]
    refine wpAnyH_take (i := 10) (v := .int .i64 1) (op_at' rfl) (by kernel_rfl) (by kernel_rfl) (by kernel_rfl) (fun _ _ _ h => h) (Or.inl ⟨by rfl, fun w_ hSw => ?_⟩) H1_ ?_
    · have q_ : IntKind.i64.wrap 1 = 1 := (by decide); go_simp
    try simp only [Act.put, List.setIfInBounds_toArray, List.set_cons_zero, List.set_cons_succ]
    refine wpAnyH_ready (rs := [8]) (by kernel_rfl) (by simp) ?_
    refine AllReadyH.cons (op_at' rfl) (fun K hK => ?_) AllReadyH.nil
    go_simp
    go_at_call 16
    with_reducible refine (hCba V1_).mono ?_
    rintro e V2_ ⟨rfl, hb⟩
    go_wp2_with fail
    refine hK.out _ _ (heldO_of hb H1_) (fun H2_ => ?_)
    clear hK K hb
    try simp only [Act.put, List.setIfInBounds_toArray, List.set_cons_zero, List.set_cons_succ]
    refine wpAnyH_take (i := 11) (v := .bool true) (op_at' rfl) (by kernel_rfl) (by kernel_rfl) (by kernel_rfl) (fun _ _ _ h => h) (Or.inl ⟨by rfl, fun w_ hSw => ?_⟩) H2_ ?_
    · skip; go_simp
    try simp only [Act.put, List.setIfInBounds_toArray, List.set_cons_zero, List.set_cons_succ]
    refine wpAnyH_take (i := 12) (v := .bool true) (op_at' rfl) (by kernel_rfl) (by kernel_rfl) (by kernel_rfl) (fun _ _ _ h => h) (Or.inl ⟨by rfl, fun w_ hSw => ?_⟩) H2_ ?_
    · skip; go_simp
    try simp only [Act.put, List.setIfInBounds_toArray, List.set_cons_zero, List.set_cons_succ]
    refine wpAnyH_take (i := 13) (v := .bool true) (op_at' rfl) (by kernel_rfl) (by kernel_rfl) (by kernel_rfl) (fun _ _ _ h => h) (Or.inl ⟨by rfl, fun w_ hSw => ?_⟩) H2_ ?_
    · skip; go_simp
    try simp only [Act.put, List.setIfInBounds_toArray, List.set_cons_zero, List.set_cons_succ]
    refine wpAnyH_take (i := 14) (v := hv a) (op_at' rfl) (by kernel_rfl) (by kernel_rfl) (by kernel_rfl) (fun _ _ _ h => h) (yieldsIf_load_mid (by rfl) _ _ rfl w.heap.size 0 rfl _ _ (fun w_ hSw => hSw.1) hu36 rfl hia) H2_ ?_
    try simp only [Act.put, List.setIfInBounds_toArray, List.set_cons_zero, List.set_cons_succ]
    refine wpAnyH_take (i := 16) (v := hv a) (op_at' rfl) (by kernel_rfl) (by kernel_rfl) (by kernel_rfl) (fun _ _ _ h => h) (yieldsIf_load_mid (by rfl) _ _ rfl w.heap.size 0 rfl _ _ (fun w_ hSw => hSw.1) hu36 rfl hia) H2_ ?_
    try simp only [Act.put, List.setIfInBounds_toArray, List.set_cons_zero, List.set_cons_succ]
    refine wpAnyH_ready (rs := [15]) (by kernel_rfl) (by simp) ?_
    refine AllReadyH.cons (op_at' rfl) (fun K hK => ?_) AllReadyH.nil
    go_simp
    go_at_call 13
    with_reducible refine (hWa V2_).mono ?_
    rintro e V3_ ⟨rfl, hb⟩
    go_wp2_with fail
    refine hK.out _ _ (heldO_of hb H2_) (fun H3_ => ?_)
    clear hK K hb
    try simp only [Act.put, List.setIfInBounds_toArray, List.set_cons_zero, List.set_cons_succ]
    refine wpAnyH_ready (rs := [17]) (by kernel_rfl) (by simp) ?_
    refine AllReadyH.cons (op_at' rfl) (fun K hK => ?_) AllReadyH.nil
    go_simp
    go_at_call 14
    with_reducible refine (hRa V3_).mono ?_
    rintro e V4_ ⟨rfl, hb⟩
    go_wp2_with fail
    refine hK.out _ _ (heldO_of hb H3_) (fun H4_ => ?_)
    clear hK K hb
    try simp only [Act.put, List.setIfInBounds_toArray, List.set_cons_zero, List.set_cons_succ]
    refine wpAnyH_take (i := 18) (v := .bool true) (op_at' rfl) (by kernel_rfl) (by kernel_rfl) (by kernel_rfl) (fun _ _ _ h => h) (Or.inl ⟨by rfl, fun w_ hSw => ?_⟩) H4_ ?_
    · skip; go_simp
    try simp only [Act.put, List.setIfInBounds_toArray, List.set_cons_zero, List.set_cons_succ]
    refine wpAnyH_take (i := 19) (v := .bool true) (op_at' rfl) (by kernel_rfl) (by kernel_rfl) (by kernel_rfl) (fun _ _ _ h => h) (Or.inl ⟨by rfl, fun w_ hSw => ?_⟩) H4_ ?_
    · skip; go_simp
    try simp only [Act.put, List.setIfInBounds_toArray, List.set_cons_zero, List.set_cons_succ]
    refine wpAnyH_take (i := 20) (v := .bool true) (op_at' rfl) (by kernel_rfl) (by kernel_rfl) (by kernel_rfl) (fun _ _ _ h => h) (Or.inl ⟨by rfl, fun w_ hSw => ?_⟩) H4_ ?_
    · skip; go_simp
    try simp only [Act.put, List.setIfInBounds_toArray, List.set_cons_zero, List.set_cons_succ]
    refine wpAnyH_done (by kernel_rfl) ?_ _
    refine NoPanic.normal ?_
    go_wp2
    go_ret
    exact ⟨rfl, heldO_b H4_⟩
  · have hia := hiaA.out; have hib := hibA.out; have hWa := hWaA.out; have hRa := hRaA.out; have hCab := hCabA.out; have hCba := hCbaA.out
    rw [Int.neg_zero] at hCba
    have hlt : w.heap.size + 1 < w3.drew.heap.size := hY3.out.lt
    have H0 : HeldO w a b w3.drew := ⟨fun j v hv => by rw [Nat.zero_add]; exact hX3.out.get j v hv, fun j v hv => by rw [Nat.zero_add]; exact hY3.out.get j v hv, pw_below_drewN hBw3.out 1, hlt⟩
    clear hlt hiaA hibA hWaA hRaA hCabA hCbaA hLabA hLbaA hVA hBA h0A h1A hAlA
    refine wp_region_noPanic ?_
    refine wp_region_held_drew (S := HeldO w a b) (by kernel_rfl) H0 (fun _ => ?_)
    generalize w3.drew = V0 at *
    refine wpAnyH_take (i := 0) (v := hv a) (op_at' rfl) (by kernel_rfl) (by kernel_rfl) (by kernel_rfl) (fun _ _ _ h => h) (yieldsIf_load_mid (by rfl) _ _ rfl w.heap.size 0 rfl _ _ (fun w_ hSw => hSw.1) hu36 rfl hia) H0 ?_
    try simp only [Act.put, List.setIfInBounds_toArray, List.set_cons_zero, List.set_cons_succ]
    refine wpAnyH_take (i := 1) (v := hv b) (op_at' rfl) (by kernel_rfl) (by kernel_rfl) (by kernel_rfl) (fun _ _ _ h => h) (yieldsIf_load_mid (by rfl) _ _ rfl (w.heap.size + 1) 0 rfl _ _ (fun w_ hSw => hSw.2.1) hu36 rfl hib) H0 ?_
    try simp only [Act.put, List.setIfInBounds_toArray, List.set_cons_zero, List.set_cons_succ]
    refine wpAnyH_take (i := 3) (v := .int .i64 0) (op_at' rfl) (by kernel_rfl) (by kernel_rfl) (by kernel_rfl) (fun _ _ _ h => h) (Or.inl ⟨by rfl, fun w_ hSw => ?_⟩) H0 ?_
    · skip; go_simp
    try simp only [Act.put, List.setIfInBounds_toArray, List.set_cons_zero, List.set_cons_succ]
    refine wpAnyH_ready (rs := [2]) (by kernel_rfl) (by simp) ?_
    refine AllReadyH.cons (op_at' rfl) (fun K hK => ?_) AllReadyH.nil
    go_simp
    go_at_call 16
    with_reducible refine (hCab V0).mono ?_
    rintro e V1_ ⟨rfl, hb⟩
    go_wp2_with fail
    refine hK.out _ _ (heldO_of hb H0) (fun H1_ => ?_)
    clear hK K hb
    try simp only [Act.put, List.setIfInBounds_toArray, List.set_cons_zero, List.set_cons_succ]
    refine wpAnyH_take (i := 4) (v := .bool true) (op_at' rfl) (by kernel_rfl) (by kernel_rfl) (by kernel_rfl) (fun _ _ _ h => h) (Or.inl ⟨by rfl, fun w_ hSw => ?_⟩) H1_ ?_
    · skip; go_simp
    try simp only [Act.put, List.setIfInBounds_toArray, List.set_cons_zero, List.set_cons_succ]
    refine wpAnyH_take (i := 5) (v := .bool true) (op_at' rfl) (by kernel_rfl) (by kernel_rfl) (by kernel_rfl) (fun _ _ _ h => h) (Or.inl ⟨by rfl, fun w_ hSw => ?_⟩) H1_ ?_
    · skip; go_simp
    try simp only [Act.put, List.setIfInBounds_toArray, List.set_cons_zero, List.set_cons_succ]
    refine wpAnyH_take (i := 6) (v := hv b) (op_at' rfl) (by kernel_rfl) (by kernel_rfl) (by kernel_rfl) (fun _ _ _ h => h) (yieldsIf_load_mid (by rfl) _ _ rfl (w.heap.size + 1) 0 rfl _ _ (fun w_ hSw => hSw.2.1) hu36 rfl hib) H1_ ?_
    try simp only [Act.put, List.setIfInBounds_toArray, List.set_cons_zero, List.set_cons_succ]
    refine wpAnyH_take (i := 7) (v := hv a) (op_at' rfl) (by kernel_rfl) (by kernel_rfl) (by kernel_rfl) (fun _ _ _ h => h) (yieldsIf_load_mid (by rfl) _ _ rfl w.heap.size 0 rfl _ _ (fun w_ hSw => hSw.1) hu36 rfl hia) H1_ ?_
    try simp only [Act.put, List.setIfInBounds_toArray, List.set_cons_zero, List.set_cons_succ]
    refine wpAnyH_take (i := 9) (v := .int .i64 0) (op_at' rfl) (by kernel_rfl) (by kernel_rfl) (by kernel_rfl) (fun _ _ _ h => h) (Or.inl ⟨by rfl, fun w_ hSw => ?_⟩) H1_ ?_
    · skip; go_simp
    try simp only [Act.put, List.setIfInBounds_toArray, List.set_cons_zero, List.set_cons_succ]
    refine wpAnyH_take (i := 10) (v := .int .i64 0) (op_at' rfl) (by kernel_rfl) (by kernel_rfl) (by kernel_rfl) (fun _ _ _ h => h) (Or.inl ⟨by rfl, fun w_ hSw => ?_⟩) H1_ ?_
    · have q_ : IntKind.i64.wrap 0 = 0 := (by decide); go_simp
    try simp only [Act.put, List.setIfInBounds_toArray, List.set_cons_zero, List.set_cons_succ]
    refine wpAnyH_ready (rs := [8]) (by kernel_rfl) (by simp) ?_
    refine AllReadyH.cons (op_at' rfl) (fun K hK => ?_) AllReadyH.nil
    go_simp
    go_at_call 16
    with_reducible refine (hCba V1_).mono ?_
    rintro e V2_ ⟨rfl, hb⟩
    go_wp2_with fail
    refine hK.out _ _ (heldO_of hb H1_) (fun H2_ => ?_)
    clear hK K hb
    try simp only [Act.put, List.setIfInBounds_toArray, List.set_cons_zero, List.set_cons_succ]
    refine wpAnyH_take (i := 11) (v := .bool true) (op_at' rfl) (by kernel_rfl) (by kernel_rfl) (by kernel_rfl) (fun _ _ _ h => h) (Or.inl ⟨by rfl, fun w_ hSw => ?_⟩) H2_ ?_
    · skip; go_simp
    try simp only [Act.put, List.setIfInBounds_toArray, List.set_cons_zero, List.set_cons_succ]
    refine wpAnyH_take (i := 12) (v := .bool true) (op_at' rfl) (by kernel_rfl) (by kernel_rfl) (by kernel_rfl) (fun _ _ _ h => h) (Or.inl ⟨by rfl, fun w_ hSw => ?_⟩) H2_ ?_
    · skip; go_simp
    try simp only [Act.put, List.setIfInBounds_toArray, List.set_cons_zero, List.set_cons_succ]
    refine wpAnyH_take (i := 13) (v := .bool true) (op_at' rfl) (by kernel_rfl) (by kernel_rfl) (by kernel_rfl) (fun _ _ _ h => h) (Or.inl ⟨by rfl, fun w_ hSw => ?_⟩) H2_ ?_
    · skip; go_simp
    try simp only [Act.put, List.setIfInBounds_toArray, List.set_cons_zero, List.set_cons_succ]
    refine wpAnyH_take (i := 14) (v := hv a) (op_at' rfl) (by kernel_rfl) (by kernel_rfl) (by kernel_rfl) (fun _ _ _ h => h) (yieldsIf_load_mid (by rfl) _ _ rfl w.heap.size 0 rfl _ _ (fun w_ hSw => hSw.1) hu36 rfl hia) H2_ ?_
    try simp only [Act.put, List.setIfInBounds_toArray, List.set_cons_zero, List.set_cons_succ]
    refine wpAnyH_take (i := 16) (v := hv a) (op_at' rfl) (by kernel_rfl) (by kernel_rfl) (by kernel_rfl) (fun _ _ _ h => h) (yieldsIf_load_mid (by rfl) _ _ rfl w.heap.size 0 rfl _ _ (fun w_ hSw => hSw.1) hu36 rfl hia) H2_ ?_
    try simp only [Act.put, List.setIfInBounds_toArray, List.set_cons_zero, List.set_cons_succ]
    refine wpAnyH_ready (rs := [15]) (by kernel_rfl) (by simp) ?_
    refine AllReadyH.cons (op_at' rfl) (fun K hK => ?_) AllReadyH.nil
    go_simp
    go_at_call 13
    with_reducible refine (hWa V2_).mono ?_
    rintro e V3_ ⟨rfl, hb⟩
    go_wp2_with fail
    refine hK.out _ _ (heldO_of hb H2_) (fun H3_ => ?_)
    clear hK K hb
    try simp only [Act.put, List.setIfInBounds_toArray, List.set_cons_zero, List.set_cons_succ]
    refine wpAnyH_ready (rs := [17]) (by kernel_rfl) (by simp) ?_
    refine AllReadyH.cons (op_at' rfl) (fun K hK => ?_) AllReadyH.nil
    go_simp
    go_at_call 14
    with_reducible refine (hRa V3_).mono ?_
    rintro e V4_ ⟨rfl, hb⟩
    go_wp2_with fail
    refine hK.out _ _ (heldO_of hb H3_) (fun H4_ => ?_)
    clear hK K hb
    try simp only [Act.put, List.setIfInBounds_toArray, List.set_cons_zero, List.set_cons_succ]
    refine wpAnyH_take (i := 18) (v := .bool true) (op_at' rfl) (by kernel_rfl) (by kernel_rfl) (by kernel_rfl) (fun _ _ _ h => h) (Or.inl ⟨by rfl, fun w_ hSw => ?_⟩) H4_ ?_
    · skip; go_simp
    try simp only [Act.put, List.setIfInBounds_toArray, List.set_cons_zero, List.set_cons_succ]
    refine wpAnyH_take (i := 19) (v := .bool true) (op_at' rfl) (by kernel_rfl) (by kernel_rfl) (by kernel_rfl) (fun _ _ _ h => h) (Or.inl ⟨by rfl, fun w_ hSw => ?_⟩) H4_ ?_
    · skip; go_simp
    try simp only [Act.put, List.setIfInBounds_toArray, List.set_cons_zero, List.set_cons_succ]
    refine wpAnyH_take (i := 20) (v := .bool true) (op_at' rfl) (by kernel_rfl) (by kernel_rfl) (by kernel_rfl) (fun _ _ _ h => h) (Or.inl ⟨by rfl, fun w_ hSw => ?_⟩) H4_ ?_
    · skip; go_simp
    try simp only [Act.put, List.setIfInBounds_toArray, List.set_cons_zero, List.set_cons_succ]
    refine wpAnyH_done (by kernel_rfl) ?_ _
    refine NoPanic.normal ?_
    go_wp2
    go_ret
    exact ⟨rfl, heldO_b H4_⟩
  · have hia := hiaA.out; have hib := hibA.out; have hWa := hWaA.out; have hRa := hRaA.out; have hCab := hCabA.out; have hCba := hCbaA.out
    have hlt : w.heap.size + 1 < w3.drew.heap.size := hY3.out.lt
    have H0 : HeldO w a b w3.drew := ⟨fun j v hv => by rw [Nat.zero_add]; exact hX3.out.get j v hv, fun j v hv => by rw [Nat.zero_add]; exact hY3.out.get j v hv, pw_below_drewN hBw3.out 1, hlt⟩
    clear hlt hiaA hibA hWaA hRaA hCabA hCbaA hLabA hLbaA hVA hBA h0A h1A hAlA
    refine wp_region_noPanic ?_
    refine wp_region_held_drew (S := HeldO w a b) (by kernel_rfl) H0 (fun _ => ?_)
    generalize w3.drew = V0 at *
    refine wpAnyH_take (i := 0) (v := hv a) (op_at' rfl) (by kernel_rfl) (by kernel_rfl) (by kernel_rfl) (fun _ _ _ h => h) (yieldsIf_load_mid (by rfl) _ _ rfl w.heap.size 0 rfl _ _ (fun w_ hSw => hSw.1) hu36 rfl hia) H0 ?_
    try simp only [Act.put, List.setIfInBounds_toArray, List.set_cons_zero, List.set_cons_succ]
    refine wpAnyH_take (i := 1) (v := hv b) (op_at' rfl) (by kernel_rfl) (by kernel_rfl) (by kernel_rfl) (fun _ _ _ h => h) (yieldsIf_load_mid (by rfl) _ _ rfl (w.heap.size + 1) 0 rfl _ _ (fun w_ hSw => hSw.2.1) hu36 rfl hib) H0 ?_
    try simp only [Act.put, List.setIfInBounds_toArray, List.set_cons_zero, List.set_cons_succ]
    refine wpAnyH_take (i := 3) (v := .int .i64 1) (op_at' rfl) (by kernel_rfl) (by kernel_rfl) (by kernel_rfl) (fun _ _ _ h => h) (Or.inl ⟨by rfl, fun w_ hSw => ?_⟩) H0 ?_
    · skip; go_simp
    try simp only [Act.put, List.setIfInBounds_toArray, List.set_cons_zero, List.set_cons_succ]
    refine wpAnyH_ready (rs := [2]) (by kernel_rfl) (by simp) ?_
    refine AllReadyH.cons (op_at' rfl) (fun K hK => ?_) AllReadyH.nil
    go_simp
    go_at_call 16
    with_reducible refine (hCab V0).mono ?_
    rintro e V1_ ⟨rfl, hb⟩
    go_wp2_with fail
    refine hK.out _ _ (heldO_of hb H0) (fun H1_ => ?_)
    clear hK K hb
    try simp only [Act.put, List.setIfInBounds_toArray, List.set_cons_zero, List.set_cons_succ]
    refine wpAnyH_take (i := 4) (v := .bool true) (op_at' rfl) (by kernel_rfl) (by kernel_rfl) (by kernel_rfl) (fun _ _ _ h => h) (Or.inl ⟨by rfl, fun w_ hSw => ?_⟩) H1_ ?_
    · skip; go_simp
    try simp only [Act.put, List.setIfInBounds_toArray, List.set_cons_zero, List.set_cons_succ]
    refine wpAnyH_take (i := 5) (v := .bool true) (op_at' rfl) (by kernel_rfl) (by kernel_rfl) (by kernel_rfl) (fun _ _ _ h => h) (Or.inl ⟨by rfl, fun w_ hSw => ?_⟩) H1_ ?_
    · skip; go_simp
    try simp only [Act.put, List.setIfInBounds_toArray, List.set_cons_zero, List.set_cons_succ]
    refine wpAnyH_take (i := 6) (v := hv b) (op_at' rfl) (by kernel_rfl) (by kernel_rfl) (by kernel_rfl) (fun _ _ _ h => h) (yieldsIf_load_mid (by rfl) _ _ rfl (w.heap.size + 1) 0 rfl _ _ (fun w_ hSw => hSw.2.1) hu36 rfl hib) H1_ ?_
    try simp only [Act.put, List.setIfInBounds_toArray, List.set_cons_zero, List.set_cons_succ]
    refine wpAnyH_take (i := 7) (v := hv a) (op_at' rfl) (by kernel_rfl) (by kernel_rfl) (by kernel_rfl) (fun _ _ _ h => h) (yieldsIf_load_mid (by rfl) _ _ rfl w.heap.size 0 rfl _ _ (fun w_ hSw => hSw.1) hu36 rfl hia) H1_ ?_
    try simp only [Act.put, List.setIfInBounds_toArray, List.set_cons_zero, List.set_cons_succ]
    refine wpAnyH_take (i := 9) (v := .int .i64 1) (op_at' rfl) (by kernel_rfl) (by kernel_rfl) (by kernel_rfl) (fun _ _ _ h => h) (Or.inl ⟨by rfl, fun w_ hSw => ?_⟩) H1_ ?_
    · skip; go_simp
    try simp only [Act.put, List.setIfInBounds_toArray, List.set_cons_zero, List.set_cons_succ]
    refine wpAnyH_take (i := 10) (v := .int .i64 (-1)) (op_at' rfl) (by kernel_rfl) (by kernel_rfl) (by kernel_rfl) (fun _ _ _ h => h) (Or.inl ⟨by rfl, fun w_ hSw => ?_⟩) H1_ ?_
    · have q_ : IntKind.i64.wrap (-1) = (-1) := (by decide); go_simp
    try simp only [Act.put, List.setIfInBounds_toArray, List.set_cons_zero, List.set_cons_succ]
    refine wpAnyH_ready (rs := [8]) (by kernel_rfl) (by simp) ?_
    refine AllReadyH.cons (op_at' rfl) (fun K hK => ?_) AllReadyH.nil
    go_simp
    go_at_call 16
    with_reducible refine (hCba V1_).mono ?_
    rintro e V2_ ⟨rfl, hb⟩
    go_wp2_with fail
    refine hK.out _ _ (heldO_of hb H1_) (fun H2_ => ?_)
    clear hK K hb
    try simp only [Act.put, List.setIfInBounds_toArray, List.set_cons_zero, List.set_cons_succ]
    refine wpAnyH_take (i := 11) (v := .bool true) (op_at' rfl) (by kernel_rfl) (by kernel_rfl) (by kernel_rfl) (fun _ _ _ h => h) (Or.inl ⟨by rfl, fun w_ hSw => ?_⟩) H2_ ?_
    · skip; go_simp
    try simp only [Act.put, List.setIfInBounds_toArray, List.set_cons_zero, List.set_cons_succ]
    refine wpAnyH_take (i := 12) (v := .bool true) (op_at' rfl) (by kernel_rfl) (by kernel_rfl) (by kernel_rfl) (fun _ _ _ h => h) (Or.inl ⟨by rfl, fun w_ hSw => ?_⟩) H2_ ?_
    · skip; go_simp
    try simp only [Act.put, List.setIfInBounds_toArray, List.set_cons_zero, List.set_cons_succ]
    refine wpAnyH_take (i := 13) (v := .bool true) (op_at' rfl) (by kernel_rfl) (by kernel_rfl) (by kernel_rfl) (fun _ _ _ h => h) (Or.inl ⟨by rfl, fun w_ hSw => ?_⟩) H2_ ?_
    · skip; go_simp
    try simp only [Act.put, List.setIfInBounds_toArray, List.set_cons_zero, List.set_cons_succ]
    refine wpAnyH_take (i := 14) (v := hv a) (op_at' rfl) (by kernel_rfl) (by kernel_rfl) (by kernel_rfl) (fun _ _ _ h => h) (yieldsIf_load_mid (by rfl) _ _ rfl w.heap.size 0 rfl _ _ (fun w_ hSw => hSw.1) hu36 rfl hia) H2_ ?_
    try simp only [Act.put, List.setIfInBounds_toArray, List.set_cons_zero, List.set_cons_succ]
    refine wpAnyH_take (i := 16) (v := hv a) (op_at' rfl) (by kernel_rfl) (by kernel_rfl) (by kernel_rfl) (fun _ _ _ h => h) (yieldsIf_load_mid (by rfl) _ _ rfl w.heap.size 0 rfl _ _ (fun w_ hSw => hSw.1) hu36 rfl hia) H2_ ?_
    try simp only [Act.put, List.setIfInBounds_toArray, List.set_cons_zero, List.set_cons_succ]
    refine wpAnyH_ready (rs := [15]) (by kernel_rfl) (by simp) ?_
    refine AllReadyH.cons (op_at' rfl) (fun K hK => ?_) AllReadyH.nil
    go_simp
    go_at_call 13
    with_reducible refine (hWa V2_).mono ?_
    rintro e V3_ ⟨rfl, hb⟩
    go_wp2_with fail
    refine hK.out _ _ (heldO_of hb H2_) (fun H3_ => ?_)
    clear hK K hb
    try simp only [Act.put, List.setIfInBounds_toArray, List.set_cons_zero, List.set_cons_succ]
    refine wpAnyH_ready (rs := [17]) (by kernel_rfl) (by simp) ?_
    refine AllReadyH.cons (op_at' rfl) (fun K hK => ?_) AllReadyH.nil
    go_simp
    go_at_call 14
    with_reducible refine (hRa V3_).mono ?_
    rintro e V4_ ⟨rfl, hb⟩
    go_wp2_with fail
    refine hK.out _ _ (heldO_of hb H3_) (fun H4_ => ?_)
    clear hK K hb
    try simp only [Act.put, List.setIfInBounds_toArray, List.set_cons_zero, List.set_cons_succ]
    refine wpAnyH_take (i := 18) (v := .bool true) (op_at' rfl) (by kernel_rfl) (by kernel_rfl) (by kernel_rfl) (fun _ _ _ h => h) (Or.inl ⟨by rfl, fun w_ hSw => ?_⟩) H4_ ?_
    · skip; go_simp
    try simp only [Act.put, List.setIfInBounds_toArray, List.set_cons_zero, List.set_cons_succ]
    refine wpAnyH_take (i := 19) (v := .bool true) (op_at' rfl) (by kernel_rfl) (by kernel_rfl) (by kernel_rfl) (fun _ _ _ h => h) (Or.inl ⟨by rfl, fun w_ hSw => ?_⟩) H4_ ?_
    · skip; go_simp
    try simp only [Act.put, List.setIfInBounds_toArray, List.set_cons_zero, List.set_cons_succ]
    refine wpAnyH_take (i := 20) (v := .bool true) (op_at' rfl) (by kernel_rfl) (by kernel_rfl) (by kernel_rfl) (fun _ _ _ h => h) (Or.inl ⟨by rfl, fun w_ hSw => ?_⟩) H4_ ?_
    · skip; go_simp
    try simp only [Act.put, List.setIfInBounds_toArray, List.set_cons_zero, List.set_cons_succ]
    refine wpAnyH_done (by kernel_rfl) ?_ _
    refine NoPanic.normal ?_
    go_wp2
    go_ret
    exact ⟨rfl, heldO_b H4_⟩
end Go.Proofs.YtibiaacgcpgkbaaDoor.Walk
