/- Which salt any two halves make, and that who has which doesn't matter.
   Conditions: none. -/
import Derived.Test.YtecdfejhidnedaaQx1
import Derived.Test.YtecdfejhidnedaaSipS
import Derived.Deep.MidRow
import Derived.Deep.RegionHeld3
set_option linter.unusedVariables false
set_option linter.unusedSimpArgs false
namespace Go.Proofs.Ytecdfejhidnedaa.Walk
open Go.RowKit Go.Proofs.Ytecdfejhidnedaa.Q Go.Proofs.YtecdfejhidnedaaW.PrintWords Go.Proofs.YtecdfejhidnedaaW.PrintLast Go.Proofs.YtecdfejhidnedaaW.PrintMore Go.Proofs.Ytecdfejhidnedaa.Bits Go.Proofs.Ytecdfejhidnedaa Sip
theorem alive6j : gossamerlaw06_alive.f = some true := by decide +kernel
theorem bytes_wfj {l : List Int} (h : ∀ x ∈ l, (Lit.int .u8 x).wf = true) : Bytes l := fun x hx => wf_u8 (h x hx)
theorem op_at {ops : Array Oper} {i : Nat} {o : Oper} (h : (ops.toList.drop i).head? = some o) : ops[i]? = some o := by
  rw [List.head?_drop] at h; simpa using h
/-- what is held while the region goes on: the salt's two words, the digest's bytes -/
def HeldJ (w : World) (bs : Nat) (u v : Value) (L : List Value) (V : World) : Prop := V.cell? ⟨bs, 0, none⟩ = some u ∧ V.cell? ⟨bs, 1, none⟩ = some v ∧ V.rangeAt w.heap.size 0 L ∧ Below w.heap.size w V ∧ bs < V.heap.size ∧ w.heap.size < V.heap.size
theorem heldJ_of {w V W' : World} {u v : Value} {L : List Value} {bs : Nat} (hb : Below V.heap.size V W') (h : HeldJ w bs u v L V) : HeldJ w bs u v L W' :=
  ⟨(hb.cell (p := ⟨bs, 0, none⟩) h.2.2.2.2.1).trans h.1, (hb.cell (p := ⟨bs, 1, none⟩) h.2.2.2.2.1).trans h.2.1, fun j v hv => (hb.cell (p := ⟨w.heap.size, 0 + j, none⟩) h.2.2.2.2.2).trans (h.2.2.1 j v hv), below_to h.2.2.2.1 h.2.2.2.1.size hb, Nat.lt_of_lt_of_le h.2.2.2.2.1 hb.size, Nat.lt_of_lt_of_le h.2.2.2.2.2 hb.size⟩
theorem mn_mx (x y : BitVec 64) : ∃ p r : BitVec 64, mn (q x) (q y) = q p ∧ mx (q x) (q y) = q r ∧ mn (q y) (q x) = q p ∧ mx (q y) (q x) = q r ∧ q p ≤ q r ∧ gossamerref06_Joint.f (q x) (q y) = some (q p, q r) := by
  unfold gossamerref06_Joint.f mn mx
  by_cases h : q y < q x
  · exact ⟨y, x, by rw [if_pos h], by rw [if_neg (by omega)], by rw [if_neg (by omega)], by rw [if_pos h], by omega, by rw [if_pos h]⟩
  · by_cases h2 : q x < q y
    · exact ⟨x, y, by rw [if_neg h], by rw [if_pos h2], by rw [if_pos h2], by rw [if_neg h], by omega, by rw [if_neg h]⟩
    · have e : q x = q y := by omega
      exact ⟨x, y, by rw [if_neg h], by rw [if_neg h2]; exact e, by rw [if_neg h2]; exact e.symm, by rw [if_neg h], by omega, by rw [if_neg h]⟩
set_option maxRecDepth 100000 in
set_option maxHeartbeats 400000 in
theorem SipJoins (a0 a1 : Int) (h : List Int) (hl : h.length = 32) (w : World) (w0 : (Lit.int .u64 a0).wf = true) (w1 : (Lit.int .u64 a1).wf = true) (w2 : ∀ z ∈ h, (Lit.int .u8 z).wf = true) :
    Calls Try.prog 5 #[.int .u64 a0, .int .u64 a1, hv h] w fun e w' => e = .returned (.bool true) ∧ Below w.heap.size w w' := by
  obtain ⟨x, rfl⟩ := q_of (wf_u64 w0).1 (wf_u64 w0).2
  obtain ⟨y, rfl⟩ := q_of (wf_u64 w1).1 (wf_u64 w1).2
  have hb := bytes_wfj w2
  obtain ⟨p, r, e1, e2, e3, e4, hpr, e5⟩ := mn_mx x y
  have hJ1 : ∀ W : World, Calls Try.prog 11 #[.int .u64 (q x), .int .u64 (q y)] W fun e w' => e = .returned (.agg #[.int .u64 (q p), .int .u64 (q r)]) ∧ Below W.heap.size W w' := fun W => sip_Joint.calls _ _ _ _ W (by unfold sip_Joint.f; rw [e1, e2])
  have hJ2 : ∀ W : World, Calls Try.prog 11 #[.int .u64 (q y), .int .u64 (q x)] W fun e w' => e = .returned (.agg #[.int .u64 (q p), .int .u64 (q r)]) ∧ Below W.heap.size W w' := fun W => sip_Joint.calls _ _ _ _ W (by unfold sip_Joint.f; rw [e3, e4])
  have hJ3 : ∀ W : World, Calls Try.prog 12 #[.int .u64 (q x), .int .u64 (q y)] W fun e w' => e = .returned (.agg #[.int .u64 (q p), .int .u64 (q r)]) ∧ Below W.heap.size W w' := fun W => gossamerref06_Joint.calls _ _ _ _ W e5
  have hS := fun W : World => short_calls p r h hb hl W
  have hA := fun W : World => gossamerlaw06_alive.calls true W alive6j
  have hd : decide (q p ≤ q r) = true := decide_eq_true hpr
  have hu27 := Try.underlying27
  have hu29 := Try.underlying29
  have hu36 := Try.underlying36
  have hi36 : (Try.prog.info? 36).map (·.size) = some (nums .u8 h).length := by rw [show (nums .u8 h).length = 32 by simp [nums, hl]]; kernel_rfl
  clear e1 e2 e3 e4 e5
  go_enter Try.func5, Try.ntmps5
  go_wp2_with (first | (go_at_call 7; refine (hA _).mono ?_; rintro e w1 ⟨rfl, hb1⟩) | (go_at_call 11; refine (hJ1 _).mono ?_; rintro e w2 ⟨rfl, hb2⟩))
  have h0 : Below w.heap.size w (w2.alloc (.cells #[.int .u64 (q p), .int .u64 (q r)] 27)) := below_alloc (below_to (below_to (below_alloc (Below.refl _ _) _) (by simp) hb1) (Nat.le_trans (by simp) hb1.size) hb2) _
  have z1 : w.heap.size < w2.heap.size := Nat.lt_of_lt_of_le (by simp) (Nat.le_trans hb1.size hb2.size)
  have hr0 : (w2.alloc (.cells #[.int .u64 (q p), .int .u64 (q r)] 27)).rangeAt w.heap.size 0 (nums .u8 h) := World.rangeAt_alloc (fun j v hv => by
    rw [hb2.cell (p := ⟨w.heap.size, 0 + j, none⟩) (Nat.lt_of_lt_of_le (by simp) hb1.size), hb1.cell (p := ⟨w.heap.size, 0 + j, none⟩) (by simp)]
    have := World.alloc_heap_new w (.cells (nums .u8 h).toArray 36)
    rw [cell_of_row _ w.heap.size (0 + j) _ _ _ this]
    simpa using hv) _
  have c0 : (w2.alloc (.cells #[.int .u64 (q p), .int .u64 (q r)] 27)).cell? ⟨w2.heap.size, 0, none⟩ = some (.int .u64 (q p)) := by simp
  have c1 : (w2.alloc (.cells #[.int .u64 (q p), .int .u64 (q r)] 27)).cell? ⟨w2.heap.size, 1, none⟩ = some (.int .u64 (q r)) := by simp
  have H0 : HeldJ w w2.heap.size (.int .u64 (q p)) (.int .u64 (q r)) (nums .u8 h) (w2.alloc (.cells #[.int .u64 (q p), .int .u64 (q r)] 27)) := ⟨c0, c1, hr0, h0, by simp, by simp; omega⟩
  clear h0 hr0 c0 c1 hb1 hb2 hA w0 hpr
  generalize w2.alloc (.cells #[.int .u64 (q p), .int .u64 (q r)] 27) = V at *
  generalize w2.heap.size = bs at *
  replace H0 := heldJ_of (pw_below_drewN (Below.refl V.heap.size V) 1) H0
  refine wp_region_noPanic ?_
  refine wp_region_held_drew (S := HeldJ w bs (.int .u64 (q p)) (.int .u64 (q r)) (nums .u8 h)) (by kernel_rfl) H0 (fun _ => ?_)
  -- REGION
  refine wpAnyH_take (i := 0) (v := .agg #[.int .u64 (q p), .int .u64 (q r)]) (op_at rfl) (by kernel_rfl) (by kernel_rfl) (by kernel_rfl) (fun _ _ _ h => h) (Or.inl ⟨by rfl, fun w_ hSw => ?_⟩) H0 ?_
  · obtain ⟨s0, s1, s2, s3⟩ := hSw; go_simp
  try simp only [Act.put, List.setIfInBounds_toArray, List.set_cons_zero, List.set_cons_succ]
  refine wpAnyH_take (i := 1) (v := .int .u64 (q y)) (op_at rfl) (by kernel_rfl) (by kernel_rfl) (by kernel_rfl) (fun _ _ _ h => h) (Or.inl ⟨by rfl, fun w_ hSw => ?_⟩) H0 ?_
  · skip; go_simp
  try simp only [Act.put, List.setIfInBounds_toArray, List.set_cons_zero, List.set_cons_succ]
  refine wpAnyH_take (i := 2) (v := .int .u64 (q x)) (op_at rfl) (by kernel_rfl) (by kernel_rfl) (by kernel_rfl) (fun _ _ _ h => h) (Or.inl ⟨by rfl, fun w_ hSw => ?_⟩) H0 ?_
  · skip; go_simp
  try simp only [Act.put, List.setIfInBounds_toArray, List.set_cons_zero, List.set_cons_succ]
  refine wpAnyH_ready (rs := [3]) (by kernel_rfl) (by simp) ?_
  refine AllReadyH.cons (op_at rfl) (fun K hK => ?_) AllReadyH.nil
  go_simp
  go_at_call 11
  with_reducible refine (hJ2 _).mono ?_
  rintro e w1_ ⟨rfl, hb⟩
  go_wp2_with fail
  refine hK.out _ _ (heldJ_of hb H0) (fun hH1 => ?_)
  clear hK K hb
  try simp only [Act.put, List.setIfInBounds_toArray, List.set_cons_zero, List.set_cons_succ]
  refine wpAnyH_take (i := 4) (v := .bool true) (op_at rfl) (by kernel_rfl) (by kernel_rfl) (by kernel_rfl) (fun _ _ _ h => h) (Or.inl ⟨by rfl, fun w_ hSw => ?_⟩) hH1 ?_
  · skip; go_simp
  try simp only [Act.put, List.setIfInBounds_toArray, List.set_cons_zero, List.set_cons_succ]
  refine wpAnyH_take (i := 5) (v := .bool true) (op_at rfl) (by kernel_rfl) (by kernel_rfl) (by kernel_rfl) (fun _ _ _ h => h) (Or.inl ⟨by rfl, fun w_ hSw => ?_⟩) hH1 ?_
  · skip; go_simp
  try simp only [Act.put, List.setIfInBounds_toArray, List.set_cons_zero, List.set_cons_succ]
  refine wpAnyH_take (i := 6) (v := .agg #[.int .u64 (q p), .int .u64 (q r)]) (op_at rfl) (by kernel_rfl) (by kernel_rfl) (by kernel_rfl) (fun _ _ _ h => h) (Or.inl ⟨by rfl, fun w_ hSw => ?_⟩) hH1 ?_
  · obtain ⟨s0, s1, s2, s3⟩ := hSw; go_simp
  try simp only [Act.put, List.setIfInBounds_toArray, List.set_cons_zero, List.set_cons_succ]
  refine wpAnyH_take (i := 7) (v := .int .u64 (q x)) (op_at rfl) (by kernel_rfl) (by kernel_rfl) (by kernel_rfl) (fun _ _ _ h => h) (Or.inl ⟨by rfl, fun w_ hSw => ?_⟩) hH1 ?_
  · skip; go_simp
  try simp only [Act.put, List.setIfInBounds_toArray, List.set_cons_zero, List.set_cons_succ]
  refine wpAnyH_take (i := 8) (v := .int .u64 (q y)) (op_at rfl) (by kernel_rfl) (by kernel_rfl) (by kernel_rfl) (fun _ _ _ h => h) (Or.inl ⟨by rfl, fun w_ hSw => ?_⟩) hH1 ?_
  · skip; go_simp
  try simp only [Act.put, List.setIfInBounds_toArray, List.set_cons_zero, List.set_cons_succ]
  refine wpAnyH_ready (rs := [9]) (by kernel_rfl) (by simp) ?_
  refine AllReadyH.cons (op_at rfl) (fun K hK => ?_) AllReadyH.nil
  go_simp
  go_at_call 12
  with_reducible refine (hJ3 _).mono ?_
  rintro e w2_ ⟨rfl, hb⟩
  go_wp2_with fail
  refine hK.out _ _ (heldJ_of hb hH1) (fun hH2 => ?_)
  clear hK K hb
  try simp only [Act.put, List.setIfInBounds_toArray, List.set_cons_zero, List.set_cons_succ]
  clear hH1
  refine wpAnyH_take (i := 10) (v := .bool true) (op_at rfl) (by kernel_rfl) (by kernel_rfl) (by kernel_rfl) (fun _ _ _ h => h) (Or.inl ⟨by rfl, fun w_ hSw => ?_⟩) hH2 ?_
  · skip; go_simp
  try simp only [Act.put, List.setIfInBounds_toArray, List.set_cons_zero, List.set_cons_succ]
  refine wpAnyH_take (i := 11) (v := .bool true) (op_at rfl) (by kernel_rfl) (by kernel_rfl) (by kernel_rfl) (fun _ _ _ h => h) (Or.inl ⟨by rfl, fun w_ hSw => ?_⟩) hH2 ?_
  · skip; go_simp
  try simp only [Act.put, List.setIfInBounds_toArray, List.set_cons_zero, List.set_cons_succ]
  refine wpAnyH_take (i := 12) (v := .bool true) (op_at rfl) (by kernel_rfl) (by kernel_rfl) (by kernel_rfl) (fun _ _ _ h => h) (Or.inl ⟨by rfl, fun w_ hSw => ?_⟩) hH2 ?_
  · skip; go_simp
  try simp only [Act.put, List.setIfInBounds_toArray, List.set_cons_zero, List.set_cons_succ]
  refine wpAnyH_take (i := 13) (v := .agg #[.int .u64 (q p), .int .u64 (q r)]) (op_at rfl) (by kernel_rfl) (by kernel_rfl) (by kernel_rfl) (fun _ _ _ h => h) (Or.inl ⟨by rfl, fun w_ hSw => ?_⟩) hH2 ?_
  · obtain ⟨s0, s1, s2, s3⟩ := hSw; go_simp
  try simp only [Act.put, List.setIfInBounds_toArray, List.set_cons_zero, List.set_cons_succ]
  refine wpAnyH_take (i := 14) (v := hv h) (op_at rfl) (by kernel_rfl) (by kernel_rfl) (by kernel_rfl) (fun _ _ _ h => h) (yieldsIf_load_mid (by rfl) _ _ rfl w.heap.size 0 rfl _ _ (fun w_ hSw => hSw.2.2.1) hu36 rfl hi36) hH2 ?_
  try simp only [Act.put, List.setIfInBounds_toArray, List.set_cons_zero, List.set_cons_succ]
  refine wpAnyH_take (i := 16) (v := .int .u64 (q y)) (op_at rfl) (by kernel_rfl) (by kernel_rfl) (by kernel_rfl) (fun _ _ _ h => h) (Or.inl ⟨by rfl, fun w_ hSw => ?_⟩) hH2 ?_
  · skip; go_simp
  try simp only [Act.put, List.setIfInBounds_toArray, List.set_cons_zero, List.set_cons_succ]
  refine wpAnyH_take (i := 17) (v := .int .u64 (q x)) (op_at rfl) (by kernel_rfl) (by kernel_rfl) (by kernel_rfl) (fun _ _ _ h => h) (Or.inl ⟨by rfl, fun w_ hSw => ?_⟩) hH2 ?_
  · skip; go_simp
  try simp only [Act.put, List.setIfInBounds_toArray, List.set_cons_zero, List.set_cons_succ]
  refine wpAnyH_take (i := 19) (v := hv h) (op_at rfl) (by kernel_rfl) (by kernel_rfl) (by kernel_rfl) (fun _ _ _ h => h) (yieldsIf_load_mid (by rfl) _ _ rfl w.heap.size 0 rfl _ _ (fun w_ hSw => hSw.2.2.1) hu36 rfl hi36) hH2 ?_
  try simp only [Act.put, List.setIfInBounds_toArray, List.set_cons_zero, List.set_cons_succ]
  refine wpAnyH_ready (rs := [15]) (by kernel_rfl) (by simp) ?_
  refine AllReadyH.cons (op_at rfl) (fun K hK => ?_) AllReadyH.nil
  go_simp
  go_at_call 13
  with_reducible refine (hS _).mono ?_
  rintro e w3_ ⟨rfl, hb⟩
  go_wp2_with fail
  refine hK.out _ _ (heldJ_of hb hH2) (fun hH3 => ?_)
  clear hK K hb
  try simp only [Act.put, List.setIfInBounds_toArray, List.set_cons_zero, List.set_cons_succ]
  clear hH2
  refine wpAnyH_ready (rs := [18]) (by kernel_rfl) (by simp) ?_
  refine AllReadyH.cons (op_at rfl) (fun K hK => ?_) AllReadyH.nil
  go_simp
  go_at_call 11
  with_reducible refine (hJ2 _).mono ?_
  rintro e w4_ ⟨rfl, hb⟩
  go_wp2_with fail
  refine hK.out _ _ (heldJ_of hb hH3) (fun hH4 => ?_)
  clear hK K hb
  try simp only [Act.put, List.setIfInBounds_toArray, List.set_cons_zero, List.set_cons_succ]
  clear hH3
  refine wpAnyH_ready (rs := [20]) (by kernel_rfl) (by simp) ?_
  refine AllReadyH.cons (op_at rfl) (fun K hK => ?_) AllReadyH.nil
  go_simp
  go_at_call 13
  with_reducible refine (hS _).mono ?_
  rintro e w5_ ⟨rfl, hb⟩
  go_wp2_with fail
  refine hK.out _ _ (heldJ_of hb hH4) (fun hH5 => ?_)
  clear hK K hb
  try simp only [Act.put, List.setIfInBounds_toArray, List.set_cons_zero, List.set_cons_succ]
  clear hH4
  refine wpAnyH_take (i := 21) (v := .bool true) (op_at rfl) (by kernel_rfl) (by kernel_rfl) (by kernel_rfl) (fun _ _ _ h => h) (Or.inl ⟨by rfl, fun w_ hSw => ?_⟩) hH5 ?_
  · skip; go_simp
  try simp only [Act.put, List.setIfInBounds_toArray, List.set_cons_zero, List.set_cons_succ]
  refine wpAnyH_take (i := 22) (v := .bool true) (op_at rfl) (by kernel_rfl) (by kernel_rfl) (by kernel_rfl) (fun _ _ _ h => h) (Or.inl ⟨by rfl, fun w_ hSw => ?_⟩) hH5 ?_
  · skip; go_simp
  try simp only [Act.put, List.setIfInBounds_toArray, List.set_cons_zero, List.set_cons_succ]
  refine wpAnyH_take (i := 23) (v := .bool true) (op_at rfl) (by kernel_rfl) (by kernel_rfl) (by kernel_rfl) (fun _ _ _ h => h) (Or.inl ⟨by rfl, fun w_ hSw => ?_⟩) hH5 ?_
  · skip; go_simp
  try simp only [Act.put, List.setIfInBounds_toArray, List.set_cons_zero, List.set_cons_succ]
  refine wpAnyH_take (i := 24) (v := .pointer (some ⟨bs, 0, none⟩)) (op_at rfl) (by kernel_rfl) (by kernel_rfl) (by kernel_rfl) (fun _ _ _ h => h) (Or.inl ⟨by rfl, fun w_ hSw => ?_⟩) hH5 ?_
  · skip; go_simp
  try simp only [Act.put, List.setIfInBounds_toArray, List.set_cons_zero, List.set_cons_succ]
  refine wpAnyH_take (i := 25) (v := .int .u64 (q p)) (op_at rfl) (by kernel_rfl) (by kernel_rfl) (by kernel_rfl) (fun _ _ _ h => h) (Or.inl ⟨by rfl, fun w_ hSw => ?_⟩) hH5 ?_
  · obtain ⟨s0, s1, s2, s3⟩ := hSw; go_simp
  try simp only [Act.put, List.setIfInBounds_toArray, List.set_cons_zero, List.set_cons_succ]
  refine wpAnyH_take (i := 26) (v := .pointer (some ⟨bs, 1, none⟩)) (op_at rfl) (by kernel_rfl) (by kernel_rfl) (by kernel_rfl) (fun _ _ _ h => h) (Or.inl ⟨by rfl, fun w_ hSw => ?_⟩) hH5 ?_
  · skip; go_simp
  try simp only [Act.put, List.setIfInBounds_toArray, List.set_cons_zero, List.set_cons_succ]
  refine wpAnyH_take (i := 27) (v := .int .u64 (q r)) (op_at rfl) (by kernel_rfl) (by kernel_rfl) (by kernel_rfl) (fun _ _ _ h => h) (Or.inl ⟨by rfl, fun w_ hSw => ?_⟩) hH5 ?_
  · obtain ⟨s0, s1, s2, s3⟩ := hSw; go_simp
  try simp only [Act.put, List.setIfInBounds_toArray, List.set_cons_zero, List.set_cons_succ]
  refine wpAnyH_take (i := 28) (v := .bool true) (op_at rfl) (by kernel_rfl) (by kernel_rfl) (by kernel_rfl) (fun _ _ _ h => h) (Or.inl ⟨by rfl, fun w_ hSw => ?_⟩) hH5 ?_
  · skip; go_simp
  try simp only [Act.put, List.setIfInBounds_toArray, List.set_cons_zero, List.set_cons_succ]
  refine wpAnyH_take (i := 29) (v := .bool true) (op_at rfl) (by kernel_rfl) (by kernel_rfl) (by kernel_rfl) (fun _ _ _ h => h) (Or.inl ⟨by rfl, fun w_ hSw => ?_⟩) hH5 ?_
  · skip; go_simp
  try simp only [Act.put, List.setIfInBounds_toArray, List.set_cons_zero, List.set_cons_succ]
  refine wpAnyH_take (i := 30) (v := .bool true) (op_at rfl) (by kernel_rfl) (by kernel_rfl) (by kernel_rfl) (fun _ _ _ h => h) (Or.inl ⟨by rfl, fun w_ hSw => ?_⟩) hH5 ?_
  · skip; go_simp
  try simp only [Act.put, List.setIfInBounds_toArray, List.set_cons_zero, List.set_cons_succ]
  refine wpAnyH_done (by kernel_rfl) ?_ _
  -- END
  refine NoPanic.normal ?_
  have hK := hH5.2.2.2.1
  go_wp2
  go_ret
  exact ⟨rfl, hK⟩
end Go.Proofs.Ytecdfejhidnedaa.Walk
