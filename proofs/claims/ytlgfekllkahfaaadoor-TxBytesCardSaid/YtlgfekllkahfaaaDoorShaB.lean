/- SHA-256: the schedule. -/
import Derived.Test.YtlgfekllkahfaaaDoorShaA
import Derived.Test.YtlgfekllkahfaaaDoorArrK
set_option linter.unusedVariables false
set_option linter.unusedSimpArgs false
namespace Go.Proofs.YtlgfekllkahfaaaDoor.ShaW
open Go.RowKit Go.Proofs.YtlgfekllkahfaaaDoorW.PrintWords Go.Proofs.YtlgfekllkahfaaaDoorW.PrintMore Go.Proofs.YtlgfekllkahfaaaDoor Go.Proofs.YtlgfekllkahfaaaDoor.Bits Sha ArrK
/-- words, as cells -/
abbrev cells (l : List F) : List Value := nums .u32 (l.map v)
theorem cells_length (l : List F) : (cells l).length = l.length := by simp [nums]
theorem cells_at (l : List F) (j : Nat) (h : j < l.length) : (cells l)[j]? = some (.int .u32 (v (at_ l j))) := by
  simp [nums, at_, List.getD_eq_getElem?_getD, List.getElem?_eq_getElem h]
theorem cells_set (l : List F) (j : Nat) (x : F) : (cells l).set j (.int .u32 (v x)) = cells (l.set j x) := by simp [nums, List.map_set]
/-- the words so far -/
def pl (l : List Int) (i : Nat) : List F := (sched l).take i ++ List.replicate (64 - i) 0#32
theorem pl_length (l : List Int) (i : Nat) (h : i ≤ 64) : (pl l i).length = 64 := by
  unfold pl; rw [List.length_append, List.length_take, List.length_replicate, sched_length]; omega
theorem pl_at (l : List Int) (i j : Nat) (h : j < i) (hi : i ≤ 64) : at_ (pl l i) j = at_ (sched l) j := by
  have hs := sched_length l
  unfold pl; rw [at_append_lt (by rw [List.length_take]; omega)]
  unfold at_; rw [List.getD_eq_getElem?_getD, List.getD_eq_getElem?_getD, List.getElem?_take_of_lt h]
theorem pl_set (l : List Int) (i : Nat) (h : i < 64) : (pl l i).set i (at_ (sched l) i) = pl l (i + 1) := by
  have hs := sched_length l
  unfold pl
  generalize sched l = s at *
  have hlt : (s.take i).length = i := by rw [List.length_take]; omega
  have ha : at_ s i = s[i]'(by omega) := by unfold at_; rw [List.getD_eq_getElem?_getD, List.getElem?_eq_getElem (by omega)]; rfl
  obtain ⟨m, hm⟩ : ∃ m, 64 - i = m + 1 := ⟨63 - i, by omega⟩
  have hm2 : 64 - (i + 1) = m := by omega
  rw [List.set_append_right _ _ (by omega), hlt, Nat.sub_self, List.take_succ_eq_append_getElem (show i < s.length by omega), List.append_assoc, hm, hm2, List.replicate_succ, List.set_cons_zero, ha]
  rfl
theorem pl_all (l : List Int) : pl l 64 = sched l := by
  have hs := sched_length l
  unfold pl
  generalize sched l = s at *
  rw [List.take_of_length_le (by omega), Nat.sub_self, List.replicate_zero, List.append_nil]
theorem pl_none (l : List Int) : pl l 0 = List.replicate 64 0#32 := rfl
theorem C_cut {ad : Addr} {n a b : Nat} {w : World} {l : List Int} (h : Kd.C (Kd.int .u8) w (some ad) n l) (hab : a ≤ b) (hb : b ≤ l.length) : Kd.C (Kd.int .u8) w (some (ad.add a)) ((l.drop a).take (b - a)).length ((l.drop a).take (b - a)) := by
  have hn : l.length = n := h.1
  have h0 := Kd.reads_of_C (enc := Value.int .u8) (d := (0 : Int)) (h1 := fun _ => rfl) h
  refine Kd.C_of_reads (d := (0 : Int)) ⟨rfl, ?_, fun hp => ⟨_, rfl, fun j hj => ?_⟩⟩
  · have := h0.2.1; rw [List.length_take, List.length_drop]; omega
  · rw [List.length_take, List.length_drop] at hj
    obtain ⟨ad', e, hc⟩ := h0.2.2 (by omega)
    cases e
    have := hc (a + j) (by omega)
    rw [Deep.add_add, this]
    simp only [List.getD_eq_getElem?_getD]
    rw [List.getElem?_take_of_lt (by omega), List.getElem?_drop]
set_option maxRecDepth 100000 in
set_option maxHeartbeats 400000 in
theorem schedule_calls (l : List Int) (A : Option Addr) (c : Nat) (hb : Bytes l) (w : World) (hr : Kd.C (Kd.int .u8) w A l.length l) (hc : l.length ≤ c) (hl : l.length = 64) :
    Calls Tryd.prog 76 #[.slice A l.length c] w fun e w' => e = .returned (.agg (cells (sched l)).toArray) ∧ Below w.heap.size w w' := by
  obtain ⟨ad, e0, -⟩ := Kd.at_int hr 0 (by omega) (by omega)
  subst e0
  have hlA := Aside0.mk hl
  have hrA := Aside0.mk hr
  have hc2 : 64 ≤ c := by omega
  rw [hl]
  clear hl hr hc
  go_enter Tryd.func76, Tryd.ntmps76
  go_wp2_with fail
  go_loopw [9] (fun i wr => ∃ k : Nat, k ≤ 64 ∧ i = .int .i64 k ∧ Blk wr w.heap.size 109 (cells (List.replicate 64 0#32)) ∧ Blk wr (w.heap.size + 1) 109 (cells (pl l k)) ∧ Below w.heap.size w wr) (fun i _ => 64 - (intOf i).toNat)
  case atStart =>
    refine ⟨0, by omega, rfl, ?_, ?_, ((Below.refl _ _).alloc (Nat.le_refl _) _).alloc (by simp) _⟩
    · exact (Blk.new w 109 (cells (List.replicate 64 0#32))).alloc _
    · rw [pl_none]
      have := Blk.new (w.alloc (.cells (cells (List.replicate 64 0#32)).toArray 109)) 109 (cells (List.replicate 64 0#32))
      rw [World.size_alloc] at this
      exact this
  case round =>
    obtain ⟨k, hk, rfl, hR, hP, hB⟩ := hrel
    have hRA := Aside0.mk hR; have hPA := Aside0.mk hP; have hBA := Aside0.mk hB
    clear hR hP hB
    by_cases hlt : k < 64
    · have p0 : (0 : Int) ≤ (k : Int) := by omega
      have p1 : (k : Int) < 64 := by omega
      have hw4 : IntKind.i64.wrap ((k : Int) + 1) = (k : Int) + 1 := IntWalk.i64_in _ (by omega)
      by_cases h16 : k < 16
      · have p2 : (k : Int) < 16 := by omega
        have q1 : IntKind.i64.wrap (4 * (k : Int)) = 4 * (k : Int) := IntWalk.i64_in _ (by omega)
        have q2 : IntKind.i64.wrap (4 * (k : Int) + 4) = 4 * (k : Int) + 4 := IntWalk.i64_in _ (by omega)
        have hlen : ((l.drop (4 * k)).take 4).length = 4 := by have := hlA.out; rw [List.length_take, List.length_drop]; omega
        have hC := C_cut (Kd.C_below hrA.out hBA.out) (a := 4 * k) (b := 4 * k + 4) (by omega) (by have := hlA.out; omega)
        rw [show 4 * k + 4 - 4 * k = 4 by omega] at hC
        have hW := word_calls _ _ (c - 4 * k) (fun x hx => hb x (List.mem_of_mem_drop (List.mem_of_mem_take hx))) wr hC (by omega) (by omega)
        rw [hlen, ← at_sched_first l k h16] at hW
        have hset := pl_set l k hlt
        obtain ⟨x, hx⟩ : ∃ x, x = at_ (sched l) k := ⟨_, rfl⟩
        rw [← hx] at hW hset
        have hWA := Aside0.mk hW
        have hsA := Aside0.mk hset
        clear hx hW hC hlen hset
        have hput := hPA.out.set k (.int .u32 (v x))
        rw [cells_set, hsA.out] at hput
        have hR2 := hRA.out.far (p := ⟨w.heap.size + 1, k, none⟩) (by simp) (.int .u32 (v x))
        have hB2 := hBA.out.setCell (p := ⟨w.heap.size + 1, k, none⟩) (by simp) (.int .u32 (v x))
        have hcell := hPA.out.get k _ (cells_at (pl l k) k (by rw [pl_length l k hk]; omega))
        have hfz := hPA.out.fz k
        have hputA := Aside0.mk hput; have hR2A := Aside0.mk hR2; have hB2A := Aside0.mk hB2
        clear hput hR2 hB2
        go_wp2_with (go_at_call 78; with_reducible refine hWA.out.mono ?_; rintro e w' ⟨rfl, rfl⟩)
        go_roundw
        case rel => exact ⟨k + 1, by omega, by go_num, hR2A.out, hputA.out, hB2A.out⟩
        case measure => simp [intOf]; omega
      · have p2 : ¬ (k : Int) < 16 := by omega
        have q2 : IntKind.i64.wrap ((k : Int) - 2) = ((k - 2 : Nat) : Int) := by rw [IntWalk.i64_in _ (by omega)]; omega
        have q7 : IntKind.i64.wrap ((k : Int) - 7) = ((k - 7 : Nat) : Int) := by rw [IntWalk.i64_in _ (by omega)]; omega
        have q15 : IntKind.i64.wrap ((k : Int) - 15) = ((k - 15 : Nat) : Int) := by rw [IntWalk.i64_in _ (by omega)]; omega
        have q16 : IntKind.i64.wrap ((k : Int) - 16) = ((k - 16 : Nat) : Int) := by rw [IntWalk.i64_in _ (by omega)]; omega
        have g := fun (j : Nat) (hj : j < k) => hPA.out.get j _ ((cells_at (pl l k) j (by rw [pl_length l k hk]; omega)).trans (by rw [pl_at l k j hj hk]))
        have g2 := g (k - 2) (by omega); have g7 := g (k - 7) (by omega); have g15 := g (k - 15) (by omega); have g16 := g (k - 16) (by omega)
        clear g
        have hsch := at_sched l k (by omega) hlt
        have hset := pl_set l k hlt
        obtain ⟨x2, h2⟩ : ∃ x, x = at_ (sched l) (k - 2) := ⟨_, rfl⟩
        obtain ⟨x7, h7⟩ : ∃ x, x = at_ (sched l) (k - 7) := ⟨_, rfl⟩
        obtain ⟨x15, h15⟩ : ∃ x, x = at_ (sched l) (k - 15) := ⟨_, rfl⟩
        obtain ⟨x16, hx16⟩ : ∃ x, x = at_ (sched l) (k - 16) := ⟨_, rfl⟩
        rw [← h2] at g2 hsch; rw [← h7] at g7 hsch; rw [← h15] at g15 hsch; rw [← hx16] at g16 hsch
        rw [hsch] at hset
        have hsA := Aside0.mk hset
        clear h2 h7 h15 hx16 hsch hset
        obtain ⟨m2, hm2⟩ : ∃ m, m = k - 2 := ⟨_, rfl⟩
        obtain ⟨m7, hm7⟩ : ∃ m, m = k - 7 := ⟨_, rfl⟩
        obtain ⟨m15, hm15⟩ : ∃ m, m = k - 15 := ⟨_, rfl⟩
        obtain ⟨m16, hm16⟩ : ∃ m, m = k - 16 := ⟨_, rfl⟩
        rw [← hm2] at q2 g2; rw [← hm7] at q7 g7; rw [← hm15] at q15 g15; rw [← hm16] at q16 g16
        have l2 : (m2 : Int) < 64 := by omega
        have l7 : (m7 : Int) < 64 := by omega
        have l15 : (m15 : Int) < 64 := by omega
        have l16 : (m16 : Int) < 64 := by omega
        clear hm2 hm7 hm15 hm16
        have z0 := sg0_v x15; have z1 := sg1_v x2
        have z2 := vadd (sg1 x2) x7; have z3 := vadd (sg1 x2 + x7) (sg0 x15); have z4 := vadd (sg1 x2 + x7 + sg0 x15) x16
        go_wp2_with fail
        go_region
        go_wp2_with (first | (go_at_call 77; with_reducible refine (right7_calls _ _).mono ?_; rintro e w' ⟨rfl, rfl⟩) | (go_at_call 77; with_reducible refine (right18_calls _ _).mono ?_; rintro e w' ⟨rfl, rfl⟩) | (go_at_call 77; with_reducible refine (right17_calls _ _).mono ?_; rintro e w' ⟨rfl, rfl⟩) | (go_at_call 77; with_reducible refine (right19_calls _ _).mono ?_; rintro e w' ⟨rfl, rfl⟩))
        obtain ⟨W3, hW3⟩ : ∃ W3, W3 = wr.drew := ⟨_, rfl⟩
        replace g7 : W3.cell? ⟨w.heap.size + 1, m7, none⟩ = some (.int .u32 (v x7)) := by rw [hW3]; exact g7
        replace g16 : W3.cell? ⟨w.heap.size + 1, m16, none⟩ = some (.int .u32 (v x16)) := by rw [hW3]; exact g16
        have hWA := Aside0.mk hW3
        rw [← hW3]
        clear hW3
        go_still_tail 15, (by kernel_rfl)
        repeat still_step
        change wpList _ _ _ _ _ W3.drew
        have gk : W3.drew.cell? ⟨w.heap.size + 1, k, none⟩ = some (.int .u32 (v (at_ (pl l k) k))) := by rw [hWA.out]; exact hPA.out.get k _ (cells_at (pl l k) k (by rw [pl_length l k hk]; omega))
        have fk : W3.drew.frozen? ⟨w.heap.size + 1, k, none⟩ = false := by rw [hWA.out]; exact hPA.out.fz k
        go_wp2_with fail
        go_roundw
        case rel =>
          refine ⟨k + 1, by omega, by go_num, ?_, ?_, ?_⟩
          · rw [hWA.out]; exact hRA.out.far (p := ⟨w.heap.size + 1, k, none⟩) (by simp) _
          · rw [hWA.out, ← hsA.out, ← cells_set]; exact hPA.out.set k _
          · rw [hWA.out]; exact pw_below_drewN (Below.setCell (p := ⟨w.heap.size + 1, k, none⟩) (pw_below_drewN hBA.out 1) (by simp) _) 1
        case measure => simp [intOf]; omega
    · obtain rfl : k = 64 := by omega
      rw [pl_all] at hPA
      have hcl : (cells (sched l)).length = 64 := by rw [cells_length, sched_length]
      have hone : ∀ u ∈ cells (sched l), u.oneCell' = true := by intro u hu; simp only [nums, List.mem_map] at hu; obtain ⟨_, _, rfl⟩ := hu; rfl
      have hzl : (cells (List.replicate 64 0#32)).length = 64 := by rw [cells_length, List.length_replicate]
      generalize hcs : cells (sched l) = cs at *
      replace hcs := Aside0.mk hcs
      generalize cells (List.replicate 64 0#32) = zs at *
      have hin : (Tryd.prog.info? 109).map (·.size) = some cs.length := by rw [hcl]; kernel_rfl
      have hzc : zs.length = cs.length := by omega
      have hcA := Aside0.mk hcl; have hzA := Aside0.mk hzl; have hiA := Aside0.mk hin; have hzcA := Aside0.mk hzc
      clear hcl hzl hin hzc
      go_wp2_with (with_reducible refine gate_dst (N := 64) rfl ?_; refine wpList_load_blk rfl 109 (.tmp 3) rfl (w.heap.size + 1) 109 rfl cs _ hPA.out Tryd.underlying109 rfl hiA.out ?_; refine wpList_put_blk rfl 109 (.tmp 2) (.tmp 64) rfl w.heap.size 109 cs zs hzcA.out rfl rfl hRA.out hiA.out hone ?_; intro W1 hW1 hg1 hs1)
      have hi2 : (Tryd.prog.info? 109).map (·.size) = some cs.toArray.size := by rw [List.size_toArray]; exact hiA.out
      exact bodyPost_ret (results_cell_row rfl _ _ w.heap.size 109 cs.toArray (0, 0) _ rfl hW1 Tryd.underlying109 rfl hi2) rfl ⟨by rw [hcs.out], hBA.out.grown hg1 hBA.out.size (fun k e => by cases e; exact Nat.le_refl _)⟩
end Go.Proofs.YtlgfekllkahfaaaDoor.ShaW
