/- Words for transactions in a program that makes digests, but no locks. -/
import Derived.Test.YtlgfekllkahfaaaDoorHashK
import Derived.Test.YtlgfekllkahfaaaDoorShNr
import Derived.Test.YtlgfekllkahfaaaDoorShaS
import Derived.Test.YtlgfekllkahfaaaDoorArrK
import Derived.Test.YtlgfekllkahfaaaDoorInRound
import Derived.Test.YtlgfekllkahfaaaDoorQx1
set_option linter.unusedVariables false
set_option linter.unusedSimpArgs false
namespace Go.Proofs.YtlgfekllkahfaaaDoor.ShaW
open Go.RowKit Go.Proofs.YtlgfekllkahfaaaDoorW.PrintWords Go.Proofs.YtlgfekllkahfaaaDoorW.PrintMore Go.Proofs.YtlgfekllkahfaaaDoor Go.Proofs.YtlgfekllkahfaaaDoor.Bits Sha ArrK
theorem bytes_ok (s : ByteArray) : Bytes (bytesOf s) := by
  intro x hx
  simp only [bytesOf, List.mem_map] at hx
  obtain ⟨b, _, rfl⟩ := hx
  have := b.toNat_lt
  omega
set_option maxRecDepth 100000 in
set_option maxHeartbeats 400000 in
theorem rhash_calls (h : List Int) (hl : h.length = 32) (w : World) :
    Calls Tryd.prog 48 #[hv h] w fun e w' => ∃ v, e = .returned v ∧ Kd.R (Kd.int .u8) 5 w' w.heap.size (fun _ => True) v h ∧ Below w.heap.size w w' := by
  have h0 : Blk (w.alloc (.cells (nums .u8 h).toArray 34)) w.heap.size 34 (nums .u8 h) := Blk.new w _ _
  have hB : Below w.heap.size w (w.alloc (.cells (nums .u8 h).toArray 34)) := below_alloc (Below.refl _ _) _
  have h0A := Aside0.mk h0; have hBA := Aside0.mk hB; have hlA := Aside0.mk hl
  clear h0 hB hl
  go_enter Tryd.func48, Tryd.ntmps48
  go_wp2_with fail
  go_loopw [4, 3] (fun i u wr => ∃ k : Nat, k ≤ 32 ∧ i = .int .i64 k ∧ Kd.R (Kd.int .u8) 5 wr w.heap.size (fun _ => True) u (h.take k) ∧ Blk wr w.heap.size 34 (nums .u8 h) ∧ Below w.heap.size w wr) (fun i _ _ => 32 - (intOf i).toNat)
  case atStart => exact ⟨0, by omega, rfl, Kd.R_nil _ _ _ _ _, h0A.out, hBA.out⟩
  case round =>
    clear h0A hBA
    obtain ⟨k, hk, rfl, hR, hX, hB⟩ := hrel
    have hBA := Aside0.mk hB; have hXA := Aside0.mk hX; have hRA := Aside0.mk hR
    clear hB hX hR
    by_cases hlt : k < 32
    · have p0 : (0 : Int) ≤ (k : Int) := by omega
      have p1 : (k : Int) < 32 := by omega
      have hw4 : IntKind.i64.wrap ((k : Int) + 1) = (k : Int) + 1 := IntWalk.i64_in _ (by omega)
      have gx := hXA.out.get k _ (nums_rd h k (by have := hlA.out; omega))
      have htk : h.take (k + 1) = h.take k ++ [rd h (k : Int)] := by
        have hkl : k < h.length := by have := hlA.out; omega
        rw [List.take_succ_eq_append_getElem hkl]
        unfold rd; rw [Int.toNat_natCast, List.getD_eq_getElem?_getD, List.getElem?_eq_getElem hkl]; rfl
      have hll : (h.take k).length ≤ 32 := by rw [List.length_take]; omega
      obtain ⟨x, hx⟩ : ∃ x, x = rd h (k : Int) := ⟨_, rfl⟩
      rw [← hx] at gx htk
      have htA := Aside0.mk htk
      clear hx htk
      generalize h.take k = l at *
      go_wp2_with ((with_reducible refine gate_dst (N := 14) rfl ?_); at_builtin; refine Kd.R_append (Kd.int .u8) (w0 := w) w.heap.size rfl (.tmp 9) (.tmp 13) 40 5 (.int .u8 0) 1 rfl Tryd.underlying40 info_u8 rfl (by decide) (by omega) u3 l x [.int .u8 x] (fun _ => True) (fun _ => False) rfl rfl ?aP (fun _ hk => hk.elim) ?aF ?aO ?aB ?aS ?aL ?_; (case aP => exact rfl); (case aB => exact hBA.out); (case aF => exact (fun _ _ => trivial)); (case aO => exact hRA.out); (case aS => exact hBA.out.size); (case aL => omega); intro v14 w14 hR hB hg hn; have hX14 := Aside0.mk (hXA.out.grown hg (Kd.R_ne hRA.out hXA.out (by decide))); have hRA14 := Aside0.mk hR; have hBA14 := Aside0.mk hB; clear hR hB hg hn)
      go_roundw
      case rel => exact ⟨k + 1, by omega, by go_num, by rw [htA.out]; exact hRA14.out, hX14.out, hBA14.out⟩
      case measure => simp [intOf]; omega
    · obtain rfl : k = 32 := by omega
      rw [List.take_of_length_le (by rw [hlA.out]; exact Nat.le_refl _)] at hRA
      go_wp2_with fail
      go_ret
      exact ⟨_, rfl, hRA.out, hBA.out⟩
structure Sp where
  tx : List Int
  n : Int
  key : ByteArray
  sel : Int
def spc (s : Sp) : List Value := nums .u8 s.tx ++ [.int .i64 s.n, .string s.key, .int .u64 s.sel]
abbrev spv (s : Sp) : Value := .agg (spc s).toArray
structure Co where
  value : Int
  lock : Int
def coc (c : Co) : List Value := [.int .i64 c.value, .int .u64 c.lock]
abbrev cov (c : Co) : Value := .agg (coc c).toArray
theorem spc_length (s : Sp) (h : s.tx.length = 32) : (spc s).length = 35 := by simp [spc, nums, h]
theorem spc_n (s : Sp) (h : s.tx.length = 32) : (spc s)[32]? = some (.int .i64 s.n) := by
  unfold spc; rw [List.getElem?_append_right (by simp [nums, h])]; simp [nums, h]
theorem spc_key (s : Sp) (h : s.tx.length = 32) : (spc s)[33]? = some (.string s.key) := by
  unfold spc; rw [List.getElem?_append_right (by simp [nums, h])]; simp [nums, h]
theorem spc_seal (s : Sp) (h : s.tx.length = 32) : (spc s)[34]? = some (.int .u64 s.sel) := by
  unfold spc; rw [List.getElem?_append_right (by simp [nums, h])]; simp [nums, h]
theorem spc_one (s : Sp) : ∀ u ∈ spc s, u.oneCell' = true := by
  intro u hu
  simp only [spc, List.mem_append, List.mem_cons, List.not_mem_nil, or_false] at hu
  rcases hu with hu | rfl | rfl | rfl
  · exact u8_one _ u hu
  · rfl
  · rfl
  · rfl
theorem coc_one (c : Co) : ∀ u ∈ coc c, u.oneCell' = true := by
  intro u hu
  simp only [coc, List.mem_cons, List.not_mem_nil, or_false] at hu
  rcases hu with rfl | rfl <;> rfl
theorem info_spend (s : Sp) (h : s.tx.length = 32) : (Tryd.prog.info? 38).map (·.size) = some (spc s).length := by rw [spc_length s h]; kernel_rfl
theorem info_coin (c : Co) : (Tryd.prog.info? 52).map (·.size) = some (coc c).length := by kernel_rfl
end Go.Proofs.YtlgfekllkahfaaaDoor.ShaW
/- Bytes written behind each other (pack.Out). -/
set_option linter.unusedVariables false
set_option linter.unusedSimpArgs false
namespace Go.Proofs.YtlgfekllkahfaaaDoor.Pack
open Go.RowKit Go.Proofs.YtlgfekllkahfaaaDoorW.PrintWords Go.Proofs.YtlgfekllkahfaaaDoorW.PrintMore Go.Proofs.YtlgfekllkahfaaaDoor Go.Proofs.YtlgfekllkahfaaaDoor.Bits Sha ArrK ShaW
open Go.Proofs.YtlgfekllkahfaaaDoor.InRound (op_at)
/-- a number's bytes, the lowest first -/
def numb (n : Int) (k : Nat) : List Int := (List.range k).map fun i => n / 2 ^ (8 * i) % 256
theorem numb_length (n : Int) (k : Nat) : (numb n k).length = k := by simp [numb]
theorem numb_succ (n : Int) (k : Nat) : numb n (k + 1) = numb n k ++ [n / 2 ^ (8 * k) % 256] := by unfold numb; rw [List.range_succ, List.map_append]; rfl
theorem numb_bytes (n : Int) (k : Nat) : Bytes (numb n k) := by
  intro x hx
  obtain ⟨i, _, rfl⟩ := List.mem_map.1 hx
  have := Int.emod_nonneg (n / 2 ^ (8 * i)) (show (256 : Int) ≠ 0 by decide)
  have := Int.emod_lt_of_pos (n / 2 ^ (8 * i)) (show (0 : Int) < 256 by decide)
  omega
/-- a count's bytes -/
def cnt (n : Nat) : List Int := if n < 253 then numb n 1 else if n ≤ 65535 then 253 :: numb n 2 else 254 :: numb n 4
theorem cnt_bytes (n : Nat) : Bytes (cnt n) := by
  unfold cnt
  split
  · exact numb_bytes _ _
  · split
    all_goals
      intro x hx
      rcases List.mem_cons.1 hx with rfl | hx
      · omega
      · exact numb_bytes _ _ x hx
theorem cnt_length (n : Nat) : (cnt n).length ≤ 5 := by
  unfold cnt
  split
  · simp [numb]
  · split <;> simp [numb]
/-- what lies in an Out -/
def OutP (base : Nat) (W : World) (B : Nat) (l : List Int) : Prop := ∃ v, Blk W B 78 [v] ∧ Kd.R (Kd.int .u8) 5 W base (fun _ => True) v l
/-- all but block B and rows of bytes is as it was -/
def Kp8 (B : Nat) (W W1 : World) : Prop := W.heap.size ≤ W1.heap.size ∧ ∀ k cs t fr, k ≠ B → t ≠ 5 → W.heap[k]? = some (.cells cs t fr) → W1.heap[k]? = some (.cells cs t fr)
theorem Kp8.refl (B : Nat) (W : World) : Kp8 B W W := ⟨Nat.le_refl _, fun _ _ _ _ _ _ h => h⟩
theorem Kp8.trans {B : Nat} {A C D : World} (h : Kp8 B A C) (k : Kp8 B C D) : Kp8 B A D := ⟨Nat.le_trans h.1 k.1, fun i cs t fr h1 h2 h3 => k.2 i cs t fr h1 h2 (h.2 i cs t fr h1 h2 h3)⟩
theorem Kp8.below {B : Nat} {A C D : World} (h : Kp8 B A C) (k : Below C.heap.size C D) : Kp8 B A D := ⟨Nat.le_trans h.1 k.size, fun i cs t fr h1 h2 h3 => by
  have h4 := h.2 i cs t fr h1 h2 h3
  exact (k.block i (Array.getElem?_eq_some_iff.1 h4).1).trans h4⟩
theorem Kp8.set {B : Nat} {A C : World} (h : Kp8 B A C) (j : Nat) (u : Value) : Kp8 B A (C.setCell ⟨B, j, none⟩ u) := ⟨by simp [World.setCell]; exact h.1, fun i cs t fr h1 h2 h3 => (Below.heap_setCell C ⟨B, j, none⟩ u i h1).trans (h.2 i cs t fr h1 h2 h3)⟩
theorem Kp8.grown {B base : Nat} {ok : Nat → Prop} {A C D : World} {v : Value} {l : List Int} (h : Kp8 B A C) (hR : Kd.R (Kd.int .u8) 5 C base ok v l) (hg : C.grownBy D v.ownBlock) : Kp8 B A D := ⟨Nat.le_trans h.1 hg.size, fun i cs t fr h1 h2 h3 => by
  have h4 := h.2 i cs t fr h1 h2 h3
  refine (hg.block i (Array.getElem?_eq_some_iff.1 h4).1 (fun e => ?_)).trans h4
  obtain ⟨inner, ho⟩ := Kd.R_own hR
  obtain ⟨cells, hc⟩ := own_typed ho i e.symm
  rw [hc] at h4; cases h4; exact h2 rfl⟩
theorem Kp8.blk {B k t : Nat} {W W1 : World} {cs : List Value} (h : Kp8 B W W1) (hk : k ≠ B) (ht : t ≠ 5) (hb : Blk W k t cs) : Blk W1 k t cs := h.2 k _ t _ hk ht hb
theorem sized_calls (k : Nat) (hk : k = 1 ∨ k = 2 ∨ k = 4 ∨ k = 8) (w : World) : Calls Tryd.prog 58 #[.int .i64 (k : Int)] w fun e w' => e = .returned (.bool true) ∧ w = w' := by
  rcases hk with rfl | rfl | rfl | rfl
  all_goals
    go_enter Tryd.func58, Tryd.ntmps58
    go_wp2
    go_ret
    exact ⟨rfl, rfl⟩
set_option maxRecDepth 100000 in
set_option maxHeartbeats 400000 in
theorem num_calls (base B : Nat) (l : List Int) (n : Int) (k : Nat) (w : World) (hn : 0 ≤ n ∧ n < 18446744073709551616) (hk : k = 1 ∨ k = 2 ∨ k = 4 ∨ k = 8) (hO : OutP base w B l) (hb : base ≤ B) (hl : l.length ≤ 1000000000) :
    Calls Tryd.prog 44 #[.pointer (some ⟨B, 0, none⟩), .int .u64 n, .int .i64 (k : Int)] w fun e w' => (∃ v, e = .returned v) ∧ OutP base w' B (l ++ numb n k) ∧ Kp8 B w w' ∧ Below base w w' := by
  have hO0 := Aside0.mk hO
  have hlt0 : base ≤ w.heap.size := by obtain ⟨v, hX, _⟩ := hO; have := hX.lt; omega
  have hk8 : k ≤ 8 := by omega
  have hkA := Aside0.mk hk
  have hnA := Aside0.mk hn
  clear hO hk hn
  go_enter Tryd.func44, Tryd.ntmps44
  go_wp2_with (go_at_call 58; with_reducible refine (sized_calls k hkA.out _).mono ?_; rintro e w1 ⟨rfl, rfl⟩)
  go_loopw [15] (fun i wr => ∃ j : Nat, j ≤ k ∧ i = .int .i64 (j : Int) ∧ OutP base wr B (l ++ numb n j) ∧ Kp8 B w wr ∧ Below base w wr) (fun i _ => k - (intOf i).toNat)
  case atStart => exact ⟨0, by omega, rfl, by unfold numb; simp; exact hO0.out, Kp8.refl _ _, Below.refl _ _⟩
  case round =>
    clear hO0
    obtain ⟨j, hj, rfl, hO, hKp, hB⟩ := hrel
    obtain ⟨v, hX, hR⟩ := hO
    have hKpA := Aside0.mk hKp; have hBA := Aside0.mk hB
    clear hKp hB
    by_cases hlt : j < k
    · have p1 : (j : Int) < (k : Int) := by omega
      have e1 : IntKind.i64.wrap (8 * (j : Int)) = ((8 * j : Nat) : Int) := by rw [IntWalk.i64_in _ (by omega)]; omega
      have e2 : IntKind.i64.wrap ((j : Int) + 1) = (j : Int) + 1 := IntWalk.i64_in _ (by omega)
      have hns := numb_succ n j
      obtain ⟨s, hs⟩ : ∃ s, s = 8 * j := ⟨_, rfl⟩
      rw [← hs] at e1 hns
      have e3 : s < 64 := by omega
      obtain ⟨y, hy⟩ : ∃ y, y = n / 2 ^ s % 256 := ⟨_, rfl⟩
      rw [← hy] at hns
      have hll : (l ++ numb n j).length ≤ 1000000008 := by rw [List.length_append, numb_length]; omega
      have hyA := Aside0.mk hy.symm; have hnsA := Aside0.mk hns; have hsA := Aside0.mk hs
      clear hy hns hs
      have hRA := Aside0.mk hR; have hXA := Aside0.mk hX
      clear hR hX
      go_wp2_with fail
      obtain ⟨l2, hl2⟩ : ∃ l2, l ++ numb n j ++ [y] = l2 := ⟨_, rfl⟩
      have hl2A := Aside0.mk hl2
      clear hl2
      refine wp_region_noPanic ?_
      refine wp_region_held_drew (S := fun _ => True) (by kernel_rfl) trivial (fun _ => ?_)
      have H0 : True := trivial
      have hR0 : Aside0 (Kd.R (Kd.int .u8) 5 wr.drew base (fun _ => True) v (l ++ numb n j)) := Aside0.mk (Kd.R_below hRA.out (pw_below_drewN (Below.refl wr.heap.size wr) 1))
      have hX0 : Blk wr.drew B 78 [v] := hXA.out
      have hK0 : Aside0 (Kp8 B w wr.drew) := Aside0.mk (hKpA.out.below (pw_below_drewN (Below.refl wr.heap.size wr) 1))
      have hB0 : Aside0 (Below base w wr.drew) := Aside0.mk (pw_below_drewN hBA.out 1)
      clear hKpA hBA hRA hXA
      generalize wr.drew = V0 at *
      -- REGION A
      refine wpAnyH_take (i := 0) (v := .pointer (some ⟨B, 0, none⟩)) (op_at rfl) (by kernel_rfl) (by kernel_rfl) (by kernel_rfl) (fun _ _ _ h => h) (Or.inl ⟨by rfl, fun w_ hSw => ?_⟩) H0 ?_
      · skip; go_simp
      try simp only [Act.put, List.setIfInBounds_toArray, List.set_cons_zero, List.set_cons_succ]
      refine wpAnyH_take (i := 1) (v := .pointer (some ⟨B, 0, none⟩)) (op_at rfl) (by kernel_rfl) (by kernel_rfl) (by kernel_rfl) (fun _ _ _ h => h) (Or.inl ⟨by rfl, fun w_ hSw => ?_⟩) H0 ?_
      · skip; go_simp
      try simp only [Act.put, List.setIfInBounds_toArray, List.set_cons_zero, List.set_cons_succ]
      refine wpAnyH_take (i := 2) (v := .pointer (some ⟨B, 0, none⟩)) (op_at rfl) (by kernel_rfl) (by kernel_rfl) (by kernel_rfl) (fun _ _ _ h => h) (Or.inl ⟨by rfl, fun w_ hSw => ?_⟩) H0 ?_
      · skip; go_simp
      try simp only [Act.put, List.setIfInBounds_toArray, List.set_cons_zero, List.set_cons_succ]
      refine wpAnyH_take (i := 3) (v := .pointer (some ⟨B, 0, none⟩)) (op_at rfl) (by kernel_rfl) (by kernel_rfl) (by kernel_rfl) (fun _ _ _ h => h) (Or.inl ⟨by rfl, fun w_ hSw => ?_⟩) H0 ?_
      · skip; go_simp
      try simp only [Act.put, List.setIfInBounds_toArray, List.set_cons_zero, List.set_cons_succ]
      refine wpAnyH_take (i := 5) (v := .int .u64 n) (op_at rfl) (by kernel_rfl) (by kernel_rfl) (by kernel_rfl) (fun _ _ _ h => h) (Or.inl ⟨by rfl, fun w_ hSw => ?_⟩) H0 ?_
      · skip; go_simp
      try simp only [Act.put, List.setIfInBounds_toArray, List.set_cons_zero, List.set_cons_succ]
      refine wpAnyH_take (i := 6) (v := .int .i64 (j : Int)) (op_at rfl) (by kernel_rfl) (by kernel_rfl) (by kernel_rfl) (fun _ _ _ h => h) (Or.inl ⟨by rfl, fun w_ hSw => ?_⟩) H0 ?_
      · skip; go_simp
      try simp only [Act.put, List.setIfInBounds_toArray, List.set_cons_zero, List.set_cons_succ]
      refine wpAnyH_take (i := 7) (v := .int .i64 (s : Int)) (op_at rfl) (by kernel_rfl) (by kernel_rfl) (by kernel_rfl) (fun _ _ _ h => h) (Or.inl ⟨by rfl, fun w_ hSw => ?_⟩) H0 ?_
      · skip; go_simp
      try simp only [Act.put, List.setIfInBounds_toArray, List.set_cons_zero, List.set_cons_succ]
      refine wpAnyH_take (i := 8) (v := .int .u64 (n / 2 ^ s)) (op_at rfl) (by kernel_rfl) (by kernel_rfl) (by kernel_rfl) (fun _ _ _ h => h) (Or.inl ⟨by rfl, fun w_ hSw => ?_⟩) H0 ?_
      · have e4 : (s : Int) < 18446744073709551616 := (by omega); have e5 := hnA.out.1; have e6 := hnA.out.2; go_simp
      try simp only [Act.put, List.setIfInBounds_toArray, List.set_cons_zero, List.set_cons_succ]
      refine wpAnyH_take (i := 9) (v := .int .u8 y) (op_at rfl) (by kernel_rfl) (by kernel_rfl) (by kernel_rfl) (fun _ _ _ h => h) (Or.inl ⟨by rfl, fun w_ hSw => ?_⟩) H0 ?_
      · have e4 : IntKind.u8.wrap (n / 2 ^ s) = y := (by rw [IntKind.wrap_u8]; exact hyA.out); go_simp
      try simp only [Act.put, List.setIfInBounds_toArray, List.set_cons_zero, List.set_cons_succ]
      refine wpAnyH_ready (rs := [4, 10]) (by kernel_rfl) (by simp) ?_
      refine AllReadyH.cons (op_at rfl) (fun K hK => ?_) (AllReadyH.cons (op_at rfl) (fun K hK => ?_) AllReadyH.nil)
      · have hc_ := hX0.get 0 v rfl
        go_simp
        clear hc_
        refine hK.out _ _ H0 (fun H1_ => ?_)
        clear hK K
        try simp only [Act.put, List.setIfInBounds_toArray, List.set_cons_zero, List.set_cons_succ]
        refine wpAnyH_ready (rs := [10]) (by kernel_rfl) (by simp) ?_
        refine AllReadyH.cons (op_at rfl) (fun K hK => ?_) AllReadyH.nil
        go_simp
        refine hK.out _ _ trivial (fun H2_ => ?_)
        have XC_2 := hX0.alloc (.cells #[.int .u8 y] 5)
        clear hK K
        try simp only [Act.put, List.setIfInBounds_toArray, List.set_cons_zero, List.set_cons_succ]
        refine wpAnyH_ready (rs := [11]) (by kernel_rfl) (by simp) ?_
        refine AllReadyH.cons (op_at rfl) (fun K hK => ?_) AllReadyH.nil
        refine Kd.R_append_step (Kd.int .u8) (w0 := w) base (by rfl) (.tmp 22) (.tmp 28) 40 5 (.int .u8 0) 1 rfl Tryd.underlying40 info_u8 rfl (by decide) (by decide) v (l ++ numb n j) y [.int .u8 y] (fun _ => True) (fun _ => False) rfl rfl rfl (fun _ h => h.elim) (fun _ _ => trivial) hR0.out hB0.out (Nat.le_trans hlt0 hB0.out.size) (by omega) ?_
        intro v1_3 V3_ hR_ hB_ hg_ _
        rw [hl2A.out] at hR_
        refine hK.out _ _ trivial (fun H3_ => ?_)
        have X_3 := hX0.grown hg_ (Kd.R_ne hR0.out hX0 (by decide))
        have R_3 := Aside0.mk hR_
        have K_3 := Aside0.mk (hK0.out.grown hR0.out hg_)
        have B_3 := Aside0.mk hB_
        clear hK K hB_ hg_ hR_
        try simp only [Act.put, List.setIfInBounds_toArray, List.set_cons_zero, List.set_cons_succ]
        refine wpAnyH_take (i := 12) (v := .pointer (some ⟨B, 0, none⟩)) (op_at rfl) (by kernel_rfl) (by kernel_rfl) (by kernel_rfl) (fun _ _ _ h => h) (Or.inl ⟨by rfl, fun w_ hSw => ?_⟩) H3_ ?_
        · skip; go_simp
        try simp only [Act.put, List.setIfInBounds_toArray, List.set_cons_zero, List.set_cons_succ]
        refine wpAnyH_take (i := 13) (v := .pointer (some ⟨B, 0, none⟩)) (op_at rfl) (by kernel_rfl) (by kernel_rfl) (by kernel_rfl) (fun _ _ _ h => h) (Or.inl ⟨by rfl, fun w_ hSw => ?_⟩) H3_ ?_
        · skip; go_simp
        try simp only [Act.put, List.setIfInBounds_toArray, List.set_cons_zero, List.set_cons_succ]
        refine wpAnyH_ready (rs := [14]) (by kernel_rfl) (by simp) ?_
        refine AllReadyH.cons (op_at rfl) (fun K hK => ?_) AllReadyH.nil
        obtain ⟨A1_, c1_, hv_⟩ := Kd.R_slice R_3.out
        subst hv_
        have hc_ := X_3.get 0 _ rfl
        have hf_ := X_3.fz 0
        go_simp
        refine hK.out _ _ trivial (fun H4_ => ?_)
        have X_4 := X_3.set 0 (.slice A1_ (l2).length c1_)
        have R_4 := Aside0.mk (Kd.R_set R_3.out X_3 (by decide) 0 (.slice A1_ (l2).length c1_))
        have K_4 := Aside0.mk (K_3.out.set 0 (.slice A1_ (l2).length c1_))
        have B_4 := Aside0.mk (B_3.out.setCell (p := ⟨B, 0, none⟩) hb (.slice A1_ (l2).length c1_))
        clear hK K hc_ hf_
        try simp only [Act.put, List.setIfInBounds_toArray, List.set_cons_zero, List.set_cons_succ]
        refine wpAnyH_done (by kernel_rfl) ?_ _
        refine NoPanic.normal ?_
        go_wp2
        go_roundw
        case rel => exact ⟨j + 1, by omega, by go_num, ⟨_, X_4, by rw [hnsA.out, ← List.append_assoc, hl2A.out]; exact R_4.out⟩, K_4.out, B_4.out⟩
        case measure => simp [intOf]; omega
      · go_simp
        refine hK.out _ _ trivial (fun H5_ => ?_)
        have XC_5 := hX0.alloc (.cells #[.int .u8 y] 5)
        clear hK K
        try simp only [Act.put, List.setIfInBounds_toArray, List.set_cons_zero, List.set_cons_succ]
        refine wpAnyH_ready (rs := [4]) (by kernel_rfl) (by simp) ?_
        refine AllReadyH.cons (op_at rfl) (fun K hK => ?_) AllReadyH.nil
        have hc_ := XC_5.get 0 v rfl
        go_simp
        clear hc_
        refine hK.out _ _ H5_ (fun H6_ => ?_)
        clear hK K
        try simp only [Act.put, List.setIfInBounds_toArray, List.set_cons_zero, List.set_cons_succ]
        refine wpAnyH_ready (rs := [11]) (by kernel_rfl) (by simp) ?_
        refine AllReadyH.cons (op_at rfl) (fun K hK => ?_) AllReadyH.nil
        refine Kd.R_append_step (Kd.int .u8) (w0 := w) base (by rfl) (.tmp 22) (.tmp 28) 40 5 (.int .u8 0) 1 rfl Tryd.underlying40 info_u8 rfl (by decide) (by decide) v (l ++ numb n j) y [.int .u8 y] (fun _ => True) (fun _ => False) rfl rfl rfl (fun _ h => h.elim) (fun _ _ => trivial) hR0.out hB0.out (Nat.le_trans hlt0 hB0.out.size) (by omega) ?_
        intro v1_7 V7_ hR_ hB_ hg_ _
        rw [hl2A.out] at hR_
        refine hK.out _ _ trivial (fun H7_ => ?_)
        have X_7 := hX0.grown hg_ (Kd.R_ne hR0.out hX0 (by decide))
        have R_7 := Aside0.mk hR_
        have K_7 := Aside0.mk (hK0.out.grown hR0.out hg_)
        have B_7 := Aside0.mk hB_
        clear hK K hB_ hg_ hR_
        try simp only [Act.put, List.setIfInBounds_toArray, List.set_cons_zero, List.set_cons_succ]
        refine wpAnyH_take (i := 12) (v := .pointer (some ⟨B, 0, none⟩)) (op_at rfl) (by kernel_rfl) (by kernel_rfl) (by kernel_rfl) (fun _ _ _ h => h) (Or.inl ⟨by rfl, fun w_ hSw => ?_⟩) H7_ ?_
        · skip; go_simp
        try simp only [Act.put, List.setIfInBounds_toArray, List.set_cons_zero, List.set_cons_succ]
        refine wpAnyH_take (i := 13) (v := .pointer (some ⟨B, 0, none⟩)) (op_at rfl) (by kernel_rfl) (by kernel_rfl) (by kernel_rfl) (fun _ _ _ h => h) (Or.inl ⟨by rfl, fun w_ hSw => ?_⟩) H7_ ?_
        · skip; go_simp
        try simp only [Act.put, List.setIfInBounds_toArray, List.set_cons_zero, List.set_cons_succ]
        refine wpAnyH_ready (rs := [14]) (by kernel_rfl) (by simp) ?_
        refine AllReadyH.cons (op_at rfl) (fun K hK => ?_) AllReadyH.nil
        obtain ⟨A1_, c1_, hv_⟩ := Kd.R_slice R_7.out
        subst hv_
        have hc_ := X_7.get 0 _ rfl
        have hf_ := X_7.fz 0
        go_simp
        refine hK.out _ _ trivial (fun H8_ => ?_)
        have X_8 := X_7.set 0 (.slice A1_ (l2).length c1_)
        have R_8 := Aside0.mk (Kd.R_set R_7.out X_7 (by decide) 0 (.slice A1_ (l2).length c1_))
        have K_8 := Aside0.mk (K_7.out.set 0 (.slice A1_ (l2).length c1_))
        have B_8 := Aside0.mk (B_7.out.setCell (p := ⟨B, 0, none⟩) hb (.slice A1_ (l2).length c1_))
        clear hK K hc_ hf_
        try simp only [Act.put, List.setIfInBounds_toArray, List.set_cons_zero, List.set_cons_succ]
        refine wpAnyH_done (by kernel_rfl) ?_ _
        refine NoPanic.normal ?_
        go_wp2
        go_roundw
        case rel => exact ⟨j + 1, by omega, by go_num, ⟨_, X_8, by rw [hnsA.out, ← List.append_assoc, hl2A.out]; exact R_8.out⟩, K_8.out, B_8.out⟩
        case measure => simp [intOf]; omega
      -- END A
    · obtain rfl : j = k := by omega
      go_wp2_with fail
      exact bodyPost_end (results_none rfl _ _ _) rfl ⟨⟨_, rfl⟩, ⟨v, hX, hR⟩, hKpA.out, hBA.out⟩
end Go.Proofs.YtlgfekllkahfaaaDoor.Pack
/- Counts, texts and digests written behind each other (pack.Out). -/
set_option linter.unusedVariables false
set_option linter.unusedSimpArgs false
namespace Go.Proofs.YtlgfekllkahfaaaDoor.Pack
open Go.RowKit Go.Proofs.YtlgfekllkahfaaaDoorW.PrintWords Go.Proofs.YtlgfekllkahfaaaDoorW.PrintMore Go.Proofs.YtlgfekllkahfaaaDoor Go.Proofs.YtlgfekllkahfaaaDoor.Bits Sha ArrK ShaW
open Go.Proofs.YtlgfekllkahfaaaDoor.InRound (op_at)
theorem form1 (n : Int) (h0 : 0 ≤ n) (h : n < 253) (w : World) : Calls Tryd.prog 70 #[.int .u64 n] w fun e w' => e = .returned (.tuple #[.int .u8 0, .int .i64 1]) ∧ w = w' := by
  go_enter Tryd.func70, Tryd.ntmps70
  go_wp2
  go_ret2
  exact ⟨rfl, rfl⟩
theorem form2 (n : Int) (h0 : 253 ≤ n) (h : n ≤ 65535) (w : World) : Calls Tryd.prog 70 #[.int .u64 n] w fun e w' => e = .returned (.tuple #[.int .u8 253, .int .i64 2]) ∧ w = w' := by
  go_enter Tryd.func70, Tryd.ntmps70
  go_wp2
  go_ret2
  exact ⟨rfl, rfl⟩
theorem form3 (n : Int) (h0 : 65536 ≤ n) (h : n ≤ 1000000) (w : World) : Calls Tryd.prog 70 #[.int .u64 n] w fun e w' => e = .returned (.tuple #[.int .u8 254, .int .i64 4]) ∧ w = w' := by
  go_enter Tryd.func70, Tryd.ntmps70
  go_wp2
  go_ret2
  exact ⟨rfl, rfl⟩
set_option maxRecDepth 100000 in
set_option maxHeartbeats 400000 in
theorem count_case (base B : Nat) (l : List Int) (n : Nat) (m : Int) (k : Nat) (w : World) (hk : k = 2 ∨ k = 4) (hm : (m = 253 ∨ m = 254)) (hn : n ≤ 1000000) (hf : ∀ W : World, Calls Tryd.prog 70 #[.int .u64 (n : Int)] W (fun e w' => e = .returned (.tuple #[.int .u8 m, .int .i64 (k : Int)]) ∧ W = w')) (hO : OutP base w B l) (hb : base ≤ B) (hl : l.length ≤ 100000000) :
    Calls Tryd.prog 42 #[.pointer (some ⟨B, 0, none⟩), .int .i64 (n : Int)] w fun e w' => (∃ v, e = .returned v) ∧ OutP base w' B (l ++ (m :: numb n k)) ∧ Kp8 B w w' ∧ Below base w w' := by
  obtain ⟨v, hX, hR⟩ := hO
  have hlt := hX.lt
  have hXc := hX.get 0 v rfl
  have hXf := hX.fz 0
  have d1 : (m != 0) = true := by rcases hm with rfl | rfl <;> rfl
  have d2 : ¬ m = 0 := by omega
  have d3 : ¬ (n : Int) < 0 := by omega
  have e1 : IntKind.u64.wrap (n : Int) = (n : Int) := by rw [wrap_u64]; omega
  have hfA := Aside0.mk hf; have hXA := Aside0.mk hX; have hRA := Aside0.mk hR
  have hkA := Aside0.mk (show k = 1 ∨ k = 2 ∨ k = 4 ∨ k = 8 by omega)
  obtain ⟨l2, hl2⟩ : ∃ l2, l ++ [m] = l2 := ⟨_, rfl⟩
  have hll : l2.length ≤ 100000001 := by rw [← hl2]; simp; omega
  have hl2A := Aside0.mk hl2
  clear hf hX hR hk hm hl2
  go_enter Tryd.func42, Tryd.ntmps42
  go_wp2_with (first | (go_at_call 70; with_reducible refine (hfA.out _).mono ?_; rintro e w1 ⟨rfl, rfl⟩) | ((with_reducible refine gate_dst (N := 27) rfl ?_); at_builtin; refine Kd.R_append (Kd.int .u8) (w0 := w) base rfl (.tmp 24) (.tmp 26) 40 5 (.int .u8 0) 1 rfl Tryd.underlying40 info_u8 rfl (by decide) (by omega) v l m [.int .u8 m] (fun _ => True) (fun _ => False) rfl rfl rfl (fun _ hk => hk.elim) (fun _ _ => trivial) hRA.out (Below.refl _ _) (by omega) (by omega) ?_; intro v1 w1 hR1 hB1 hg1 _; rw [hl2A.out] at hR1; have hX1 := Aside0.mk (hXA.out.grown hg1 (Kd.R_ne hRA.out hXA.out (by decide))); have hK1 := Aside0.mk ((Kp8.refl B w).grown hRA.out hg1); have hR1A := Aside0.mk hR1; have hB1A := Aside0.mk hB1; obtain ⟨A1, c1, hv1⟩ := Kd.R_slice hR1; subst hv1; clear hXc hXf hR1 hB1 hg1; have hXc := hX1.out.get 0 _ rfl; have hXf := hX1.out.fz 0; have hO2 : OutP base (w1.setCell ⟨B, 0, none⟩ (.slice A1 l2.length c1)) B l2 := ⟨_, hX1.out.set 0 (.slice A1 l2.length c1), Kd.R_set hR1A.out hX1.out (by decide) 0 _⟩; have hNm := Aside0.mk (num_calls base B l2 (n : Int) k _ (by omega) hkA.out hO2 hb (by omega)); have hK2 := Aside0.mk (hK1.out.set 0 (.slice A1 l2.length c1)); have hB2 := Aside0.mk (hB1A.out.setCell (p := ⟨B, 0, none⟩) hb (.slice A1 l2.length c1)); clear hO2) | (go_at_call 44; with_reducible refine hNm.out.mono ?_; rintro e w2 ⟨⟨v2, rfl⟩, hO3, hK3, hB3⟩; have hF := Aside0.mk (⟨hO3, hK2.out.trans hK3, hB2.out.trans hB3⟩ : OutP base w2 B (l2 ++ numb n k) ∧ Kp8 B w w2 ∧ Below base w w2); clear hO3 hK3 hB3))
  have hlist : l ++ (m :: numb n k) = l2 ++ numb n k := by rw [← hl2A.out]; simp
  rw [hlist]
  exact bodyPost_end (results_none rfl _ _ _) rfl ⟨⟨_, rfl⟩, hF.out⟩
theorem num1_calls (base B : Nat) (l : List Int) (n : Int) (w : World) (hn : 0 ≤ n ∧ n < 18446744073709551616) (hO : OutP base w B l) (hb : base ≤ B) (hl : l.length ≤ 1000000000) :
    Calls Tryd.prog 44 #[.pointer (some ⟨B, 0, none⟩), .int .u64 n, .int .i64 1] w fun e w' => (∃ v, e = .returned v) ∧ OutP base w' B (l ++ numb n 1) ∧ Kp8 B w w' ∧ Below base w w' := num_calls base B l n 1 w hn (by omega) hO hb hl
theorem num4_calls (base B : Nat) (l : List Int) (n : Int) (w : World) (hn : 0 ≤ n ∧ n < 18446744073709551616) (hO : OutP base w B l) (hb : base ≤ B) (hl : l.length ≤ 1000000000) :
    Calls Tryd.prog 44 #[.pointer (some ⟨B, 0, none⟩), .int .u64 n, .int .i64 4] w fun e w' => (∃ v, e = .returned v) ∧ OutP base w' B (l ++ numb n 4) ∧ Kp8 B w w' ∧ Below base w w' := num_calls base B l n 4 w hn (by omega) hO hb hl
theorem num8_calls (base B : Nat) (l : List Int) (n : Int) (w : World) (hn : 0 ≤ n ∧ n < 18446744073709551616) (hO : OutP base w B l) (hb : base ≤ B) (hl : l.length ≤ 1000000000) :
    Calls Tryd.prog 44 #[.pointer (some ⟨B, 0, none⟩), .int .u64 n, .int .i64 8] w fun e w' => (∃ v, e = .returned v) ∧ OutP base w' B (l ++ numb n 8) ∧ Kp8 B w w' ∧ Below base w w' := num_calls base B l n 8 w hn (by omega) hO hb hl
set_option maxRecDepth 100000 in
set_option maxHeartbeats 400000 in
theorem count_small (base B : Nat) (l : List Int) (n : Nat) (w : World) (hn : n < 253) (hO : OutP base w B l) (hb : base ≤ B) (hl : l.length ≤ 100000000) :
    Calls Tryd.prog 42 #[.pointer (some ⟨B, 0, none⟩), .int .i64 (n : Int)] w fun e w' => (∃ v, e = .returned v) ∧ OutP base w' B (l ++ numb n 1) ∧ Kp8 B w w' ∧ Below base w w' := by
  have d3 : ¬ (n : Int) < 0 := by omega
  have e1 : IntKind.u64.wrap (n : Int) = (n : Int) := by rw [wrap_u64]; omega
  have hNm := Aside0.mk (num1_calls base B l (n : Int) w (by omega) hO hb (by omega))
  clear hO
  go_enter Tryd.func42, Tryd.ntmps42
  go_wp2_with (first | (go_at_call 70; with_reducible refine (form1 (n : Int) (by omega) (by omega) _).mono ?_; rintro e w1 ⟨rfl, rfl⟩) | (go_at_call 44; (with_reducible refine hNm.out.mono ?_; rintro e w2 ⟨⟨v2, rfl⟩, hF⟩; have hFA := Aside0.mk hF; clear hF)))
  exact bodyPost_end (results_none rfl _ _ _) rfl ⟨⟨_, rfl⟩, hFA.out⟩
theorem count_calls (base B : Nat) (l : List Int) (n : Nat) (w : World) (hn : n ≤ 1000000) (hO : OutP base w B l) (hb : base ≤ B) (hl : l.length ≤ 100000000) :
    Calls Tryd.prog 42 #[.pointer (some ⟨B, 0, none⟩), .int .i64 (n : Int)] w fun e w' => (∃ v, e = .returned v) ∧ OutP base w' B (l ++ cnt n) ∧ Kp8 B w w' ∧ Below base w w' := by
  unfold cnt
  by_cases h1 : n < 253
  · rw [if_pos h1]; exact count_small base B l n w h1 hO hb hl
  · rw [if_neg h1]
    by_cases h2 : n ≤ 65535
    · rw [if_pos h2]; exact count_case base B l n 253 2 w (.inl rfl) (.inl rfl) hn (fun W => form2 n (by omega) (by omega) W) hO hb hl
    · rw [if_neg h2]; exact count_case base B l n 254 4 w (.inr rfl) (.inr rfl) hn (fun W => form3 n (by omega) (by omega) W) hO hb hl
end Go.Proofs.YtlgfekllkahfaaaDoor.Pack
/- Texts and digests laid into an Out, and its bytes. -/
set_option linter.unusedVariables false
set_option linter.unusedSimpArgs false
namespace Go.Proofs.YtlgfekllkahfaaaDoor.Pack
open Go.RowKit Go.Proofs.YtlgfekllkahfaaaDoorW.PrintWords Go.Proofs.YtlgfekllkahfaaaDoorW.PrintMore Go.Proofs.YtlgfekllkahfaaaDoor Go.Proofs.YtlgfekllkahfaaaDoor.Bits Sha ArrK ShaW
open Go.Proofs.YtlgfekllkahfaaaDoor.InRound (op_at)
set_option maxRecDepth 100000 in
set_option maxHeartbeats 400000 in
theorem text_calls (base B : Nat) (l : List Int) (s : ByteArray) (w : World) (hs : s.size ≤ 1000000) (hO : OutP base w B l) (hb : base ≤ B) (hl : l.length ≤ 10000000) :
    Calls Tryd.prog 45 #[.pointer (some ⟨B, 0, none⟩), .string s] w fun e w' => (∃ v, e = .returned v) ∧ OutP base w' B (l ++ (cnt s.size ++ bytesOf s)) ∧ Kp8 B w w' ∧ Below base w w' := by
  have hC := Aside0.mk (count_calls base B l s.size w hs hO hb (by omega))
  have hcl := cnt_length s.size
  have hll : (l ++ cnt s.size).length ≤ 10000005 := by rw [List.length_append]; omega
  clear hO hcl
  rw [← List.append_assoc]
  obtain ⟨l2, hl2⟩ : ∃ l2, l ++ cnt s.size = l2 := ⟨_, rfl⟩
  rw [hl2] at hll hC ⊢
  clear hl2
  obtain ⟨l3, hl3⟩ : ∃ l3, l2 ++ bytesOf s = l3 := ⟨_, rfl⟩
  have hl3A := Aside0.mk hl3
  rw [hl3]
  clear hl3
  go_enter Tryd.func45, Tryd.ntmps45
  go_wp2_with (first | (go_at_call 42; ((with_reducible refine hC.out.mono ?_); rintro e w1 ⟨⟨v1, rfl⟩, hO1, hK1, hB1⟩; obtain ⟨v, hX, hR⟩ := hO1; have hXc := hX.get 0 v rfl; have hlt := hX.lt; have hX1 := Aside0.mk hX; have hR1 := Aside0.mk hR; have hK1A := Aside0.mk hK1; have hB1A := Aside0.mk hB1; clear hX hR hK1 hB1)) | ((with_reducible refine gate_dst (N := 16) rfl ?_); at_builtin; (refine print_append_str (w0 := w) base rfl (.tmp 14) (.tmp 15) 40 9 5 rfl Tryd.underlying40 Tryd.underlying9 info_u8 v l2 s rfl rfl (Kd.own_of_R hR1.out) hB1A.out (by omega) (by omega) ?_; intro v2 w2 ho2 hB2 hg2; rw [hl3A.out] at ho2; have hR2 := Aside0.mk (Kd.R_of_own (h1 := fun _ => rfl) (ok := fun _ => True) ho2 (fun _ _ => trivial)); have hX2 := Aside0.mk (hX1.out.grown hg2 (Kd.R_ne hR1.out hX1.out (by decide))); have hK2 := Aside0.mk (hK1A.out.grown hR1.out hg2); have hB2A := Aside0.mk hB2; obtain ⟨A2, c2, hv2⟩ := Kd.R_slice hR2.out; subst hv2; clear hXc ho2 hg2 hB2; have hXc := hX2.out.get 0 _ rfl; have hXf := hX2.out.fz 0; have hO3 := Aside0.mk (show OutP base (w2.setCell ⟨B, 0, none⟩ (.slice A2 l3.length c2)) B l3 from ⟨_, hX2.out.set 0 (.slice A2 l3.length c2), Kd.R_set hR2.out hX2.out (by decide) 0 _⟩); have hK3 := Aside0.mk (hK2.out.set 0 (.slice A2 l3.length c2)); have hB3 := Aside0.mk (hB2A.out.setCell (p := ⟨B, 0, none⟩) hb (.slice A2 l3.length c2)); skip)))
  exact bodyPost_end (results_none rfl _ _ _) rfl ⟨⟨_, rfl⟩, hO3.out, hK3.out, hB3.out⟩
set_option maxRecDepth 100000 in
set_option maxHeartbeats 400000 in
theorem bytes_calls (base B : Nat) (l : List Int) (w : World) (hO : OutP base w B l) (hl : l.length ≤ 10000000) :
    Calls Tryd.prog 46 #[.pointer (some ⟨B, 0, none⟩)] w fun e w' => (∃ v, e = .returned v ∧ Kd.R (Kd.int .u8) 5 w' w.heap.size (fun _ => True) v l) ∧ Below w.heap.size w w' := by
  obtain ⟨v, hX, hR⟩ := hO
  obtain ⟨A, c, rfl, hc, hC⟩ := Kd.R_reads hR
  have hXc := hX.get 0 _ rfl
  have hf : Go.Proofs.YtlgfekllkahfaaaDoor.Q.slices_Clone_byte_byte.f l = some l := by
    unfold Go.Proofs.YtlgfekllkahfaaaDoor.Q.slices_Clone_byte_byte.f
    simp only [Option.bind_some, List.length_nil, Nat.zero_add, List.nil_append]
    rw [if_pos (by omega)]
  have hCl := Aside0.mk (Go.Proofs.YtlgfekllkahfaaaDoor.Q.slices_Clone_byte_byte.calls A c l l w hC hc hf)
  clear hR hC hX hf
  go_enter Tryd.func46, Tryd.ntmps46
  go_wp2_with (go_at_call 54; with_reducible refine hCl.out.mono ?_; rintro e w1 ⟨v1, rfl, hR1, hB1⟩; have hF := Aside0.mk (And.intro hR1 hB1); clear hR1 hB1 hXc)
  go_ret
  exact ⟨⟨_, rfl, hF.out.1⟩, hF.out.2⟩
end Go.Proofs.YtlgfekllkahfaaaDoor.Pack
/- Digests laid into an Out. -/
set_option linter.unusedVariables false
set_option linter.unusedSimpArgs false
namespace Go.Proofs.YtlgfekllkahfaaaDoor.Pack
open Go.RowKit Go.Proofs.YtlgfekllkahfaaaDoorW.PrintWords Go.Proofs.YtlgfekllkahfaaaDoorW.PrintMore Go.Proofs.YtlgfekllkahfaaaDoor Go.Proofs.YtlgfekllkahfaaaDoor.Bits Sha ArrK ShaW
open Go.Proofs.YtlgfekllkahfaaaDoor.InRound (op_at)
theorem row_nums {W : World} {z t : Nat} {h : List Int} {n : Nat} (hn : h.length = n) (hm : n ≤ 1000000) (hZ : Blk W z t (nums .u8 h)) : ReadsRow (fun x cs => cs = [.int .u8 x]) 1 W (some ⟨z, 0, none⟩) n h := by
  refine ⟨hn, by omega, fun hp => ⟨_, rfl, fun j x hj => ⟨[.int .u8 x], rfl, rfl, fun i v hi => ?_⟩⟩⟩
  match i, hi with
  | 0, hi =>
    cases hi
    have := hZ.get j (.int .u8 x) (by simp [nums, hj])
    rw [Nat.mul_one, Nat.add_zero, add_plain]
    exact this
set_option maxRecDepth 100000 in
set_option maxHeartbeats 400000 in
theorem hash_calls (base B : Nat) (l h : List Int) (w : World) (hh : h.length = 32) (hO : OutP base w B l) (hb : base ≤ B) (hl : l.length ≤ 10000000) :
    Calls Tryd.prog 43 #[.pointer (some ⟨B, 0, none⟩), hv h] w fun e w' => (∃ v, e = .returned v) ∧ OutP base w' B (l ++ h) ∧ Kp8 B w w' ∧ Below base w w' := by
  obtain ⟨v, hX, hR⟩ := hO
  have hlt := hX.lt
  obtain ⟨W1, hW1⟩ : ∃ W1, W1 = w.alloc (.cells (nums .u8 h).toArray 34) := ⟨_, rfl⟩
  have hZX : Blk W1 w.heap.size 34 (nums .u8 h) := by rw [hW1]; exact Blk.new w _ _
  have hX1 : Blk W1 B 78 [v] := by rw [hW1]; exact hX.alloc _
  have hR1 : Kd.R (Kd.int .u8) 5 W1 base (fun _ => True) v l := by rw [hW1]; exact Kd.R_below hR (below_alloc (Below.refl _ _) _)
  have hB1 : Below base w W1 := by rw [hW1]; exact (below_alloc (Below.refl _ _) _).mono (by omega)
  have hK1 : Kp8 B w W1 := by rw [hW1]; exact (Kp8.refl B w).below (below_alloc (Below.refl _ _) _)
  have hWA := Aside0.mk hW1; have hRA := Aside0.mk hR1; have hXA := Aside0.mk hX1; have hKA := Aside0.mk hK1; have hBA := Aside0.mk hB1; have hZXA := Aside0.mk hZX
  have hsA := Aside0.mk (show base ≤ W1.heap.size by rw [hW1]; simp; omega)
  clear hW1 hX1 hR1 hB1 hK1 hZX hX hR
  obtain ⟨l2, hl2⟩ : ∃ l2, l ++ h = l2 := ⟨_, rfl⟩
  have hl2A := Aside0.mk hl2
  clear hl2
  rw [hl2A.out]
  go_enter Tryd.func43, Tryd.ntmps43
  go_wp2_with fail
  rw [← hWA.out]
  refine wp_region_noPanic ?_
  refine wp_region_held_drew (S := fun _ => True) (by kernel_rfl) trivial (fun _ => ?_)
  have H0 : True := trivial
  have hR0 : Aside0 (Kd.R (Kd.int .u8) 5 W1.drew base (fun _ => True) v l) := Aside0.mk (Kd.R_below hRA.out (pw_below_drewN (Below.refl W1.heap.size W1) 1))
  have hX0 : Blk W1.drew B 78 [v] := hXA.out
  have hZ0 : Aside0 (Blk W1.drew w.heap.size 34 (nums .u8 h)) := Aside0.mk hZXA.out
  have hK0 : Aside0 (Kp8 B w W1.drew) := Aside0.mk (hKA.out.below (pw_below_drewN (Below.refl W1.heap.size W1) 1))
  have hB0 : Aside0 (Below base w W1.drew) := Aside0.mk (pw_below_drewN hBA.out 1)
  have hhA := Aside0.mk hh
  have hlt0 : base ≤ w.heap.size := by omega
  clear hKA hBA hRA hXA hZXA hWA hsA
  generalize W1.drew = V0 at *
  -- REGION H
  refine wpAnyH_take (i := 0) (v := .pointer (some ⟨B, 0, none⟩)) (op_at rfl) (by kernel_rfl) (by kernel_rfl) (by kernel_rfl) (fun _ _ _ h => h) (Or.inl ⟨by rfl, fun w_ hSw => ?_⟩) H0 ?_
  · skip; go_simp
  try simp only [Act.put, List.setIfInBounds_toArray, List.set_cons_zero, List.set_cons_succ]
  refine wpAnyH_take (i := 1) (v := .pointer (some ⟨B, 0, none⟩)) (op_at rfl) (by kernel_rfl) (by kernel_rfl) (by kernel_rfl) (fun _ _ _ h => h) (Or.inl ⟨by rfl, fun w_ hSw => ?_⟩) H0 ?_
  · skip; go_simp
  try simp only [Act.put, List.setIfInBounds_toArray, List.set_cons_zero, List.set_cons_succ]
  refine wpAnyH_take (i := 2) (v := .pointer (some ⟨B, 0, none⟩)) (op_at rfl) (by kernel_rfl) (by kernel_rfl) (by kernel_rfl) (fun _ _ _ h => h) (Or.inl ⟨by rfl, fun w_ hSw => ?_⟩) H0 ?_
  · skip; go_simp
  try simp only [Act.put, List.setIfInBounds_toArray, List.set_cons_zero, List.set_cons_succ]
  refine wpAnyH_take (i := 3) (v := .pointer (some ⟨B, 0, none⟩)) (op_at rfl) (by kernel_rfl) (by kernel_rfl) (by kernel_rfl) (fun _ _ _ h => h) (Or.inl ⟨by rfl, fun w_ hSw => ?_⟩) H0 ?_
  · skip; go_simp
  try simp only [Act.put, List.setIfInBounds_toArray, List.set_cons_zero, List.set_cons_succ]
  refine wpAnyH_take (i := 5) (v := .slice (some ⟨w.heap.size, 0, none⟩) 32 32) (op_at rfl) (by kernel_rfl) (by kernel_rfl) (by kernel_rfl) (fun _ _ _ h => h) (Or.inl ⟨by rfl, fun w_ hSw => ?_⟩) H0 ?_
  · have hu_ := Tryd.underlying34; go_simp
  try simp only [Act.put, List.setIfInBounds_toArray, List.set_cons_zero, List.set_cons_succ]
  refine wpAnyH_ready (rs := [4]) (by kernel_rfl) (by simp) ?_
  refine AllReadyH.cons (op_at rfl) (fun K hK => ?_) AllReadyH.nil
  have hc_ := hX0.get 0 v rfl
  go_simp
  clear hc_
  refine hK.out _ _ H0 (fun H1_ => ?_)
  clear hK K
  try simp only [Act.put, List.setIfInBounds_toArray, List.set_cons_zero, List.set_cons_succ]
  refine wpAnyH_ready (rs := [6]) (by kernel_rfl) (by simp) ?_
  refine AllReadyH.cons (op_at rfl) (fun K hK => ?_) AllReadyH.nil
  refine Kd.R_append_rows_step (Kd.int .u8) (Rr := fun x cs => cs = [.int .u8 x]) (w0 := w) base (by rfl) (.tmp 10) (.tmp 11) 40 5 (.int .u8 0) 1 rfl Tryd.underlying40 info_u8 rfl (by decide) (by decide) v l h (some ⟨w.heap.size, 0, none⟩) 32 32 (fun _ => True) (fun _ => False) rfl rfl hR0.out (row_nums hhA.out (by decide) hZ0.out) (fun _ _ e => e) (fun _ h => h.elim) (fun _ _ => trivial) hB0.out (Nat.le_trans hlt0 hB0.out.size) (by omega) ?_
  intro v1_2 V2_ hR_ hB_ hg_ _
  rw [hl2A.out] at hR_
  refine hK.out _ _ trivial (fun H2_ => ?_)
  have X_2 := hX0.grown hg_ (Kd.R_ne hR0.out hX0 (by decide))
  have R_2 := Aside0.mk hR_
  have K_2 := Aside0.mk (hK0.out.grown hR0.out hg_)
  have B_2 := Aside0.mk hB_
  clear hK K hB_ hg_ hR_
  try simp only [Act.put, List.setIfInBounds_toArray, List.set_cons_zero, List.set_cons_succ]
  refine wpAnyH_take (i := 7) (v := .pointer (some ⟨B, 0, none⟩)) (op_at rfl) (by kernel_rfl) (by kernel_rfl) (by kernel_rfl) (fun _ _ _ h => h) (Or.inl ⟨by rfl, fun w_ hSw => ?_⟩) H2_ ?_
  · skip; go_simp
  try simp only [Act.put, List.setIfInBounds_toArray, List.set_cons_zero, List.set_cons_succ]
  refine wpAnyH_take (i := 8) (v := .pointer (some ⟨B, 0, none⟩)) (op_at rfl) (by kernel_rfl) (by kernel_rfl) (by kernel_rfl) (fun _ _ _ h => h) (Or.inl ⟨by rfl, fun w_ hSw => ?_⟩) H2_ ?_
  · skip; go_simp
  try simp only [Act.put, List.setIfInBounds_toArray, List.set_cons_zero, List.set_cons_succ]
  refine wpAnyH_ready (rs := [9]) (by kernel_rfl) (by simp) ?_
  refine AllReadyH.cons (op_at rfl) (fun K hK => ?_) AllReadyH.nil
  obtain ⟨A1_, c1_, hv_⟩ := Kd.R_slice R_2.out
  subst hv_
  have hc_ := X_2.get 0 _ rfl
  have hf_ := X_2.fz 0
  go_simp
  refine hK.out _ _ trivial (fun H3_ => ?_)
  have X_3 := X_2.set 0 (.slice A1_ l2.length c1_)
  have R_3 := Aside0.mk (Kd.R_set R_2.out X_2 (by decide) 0 (.slice A1_ l2.length c1_))
  have K_3 := Aside0.mk (K_2.out.set 0 (.slice A1_ l2.length c1_))
  have B_3 := Aside0.mk (B_2.out.setCell (p := ⟨B, 0, none⟩) hb (.slice A1_ l2.length c1_))
  clear hK K hc_ hf_
  try simp only [Act.put, List.setIfInBounds_toArray, List.set_cons_zero, List.set_cons_succ]
  refine wpAnyH_done (by kernel_rfl) ?_ _
  refine NoPanic.normal ?_
  go_wp2
  exact bodyPost_end (results_none rfl _ _ _) rfl ⟨⟨_, rfl⟩, ⟨_, X_3, R_3.out⟩, K_3.out, B_3.out⟩
  -- END H
end Go.Proofs.YtlgfekllkahfaaaDoor.Pack
/- Numbers, counts and texts as the document lays them. -/
set_option linter.unusedVariables false
set_option linter.unusedSimpArgs false
namespace Go.Proofs.YtlgfekllkahfaaaDoor.Pack
open Go.RowKit Go.Proofs.YtlgfekllkahfaaaDoorW.PrintWords Go.Proofs.YtlgfekllkahfaaaDoorW.PrintMore Go.Proofs.YtlgfekllkahfaaaDoor Go.Proofs.YtlgfekllkahfaaaDoor.Bits Sha ArrK ShaW
theorem numb_next (n : Int) (j : Nat) : n / 2 ^ (8 * j) / 256 = n / 2 ^ (8 * (j + 1)) := by
  rw [Int.ediv_ediv_of_nonneg (by exact Int.le_of_lt (Int.pow_pos (by decide)))]
  congr 1
  rw [show 8 * (j + 1) = 8 * j + 8 by omega, Int.pow_add]; rfl
set_option maxRecDepth 100000 in
set_option maxHeartbeats 800000 in
theorem rnum1_calls (n : Int) (hn : 0 ≤ n ∧ n < 18446744073709551616) (w : World) :
    Calls Tryd.prog 49 #[.int .u64 n, .int .i64 1] w fun e w' => ∃ v, e = .returned v ∧ Kd.R (Kd.int .u8) 5 w' w.heap.size (fun _ => True) v (numb n 1) ∧ Below w.heap.size w w' := by
  have hnA := Aside0.mk hn
  clear hn
  go_enter Tryd.func49, Tryd.ntmps49
  go_wp2_with fail
  go_loopw [6, 5, 0] (fun i u x wr => ∃ j : Nat, j ≤ 1 ∧ i = .int .i64 (j : Int) ∧ x = .int .u64 (n / 2 ^ (8 * j)) ∧ Kd.R (Kd.int .u8) 5 wr w.heap.size (fun _ => True) u (numb n j) ∧ Below w.heap.size w wr) (fun i _ _ _ => 1 - (intOf i).toNat)
  case atStart => exact ⟨0, by omega, rfl, by simp, Kd.R_nil _ _ _ _ _, Below.refl _ _⟩
  case round =>
    obtain ⟨j, hj, rfl, rfl, hR, hB⟩ := hrel
    have hRA := Aside0.mk hR; have hBA := Aside0.mk hB
    clear hR hB
    by_cases hlt : j < 1
    · have p1 : (j : Int) < 1 := by omega
      have e2 : IntKind.i64.wrap ((j : Int) + 1) = (j : Int) + 1 := IntWalk.i64_in _ (by omega)
      have hns := numb_succ n j
      have hnx := numb_next n j
      have hy0 : 0 ≤ n / 2 ^ (8 * j) := Int.ediv_nonneg hnA.out.1 (Int.le_of_lt (Int.pow_pos (by decide)))
      have hy1 : n / 2 ^ (8 * j) < 18446744073709551616 := Int.lt_of_le_of_lt (Int.ediv_le_self _ hnA.out.1) hnA.out.2
      have hll : (numb n j).length ≤ 8 := by rw [numb_length]; omega
      obtain ⟨y, hy⟩ : ∃ y, y = n / 2 ^ (8 * j) := ⟨_, rfl⟩
      rw [← hy] at hns hnx hy0 hy1 ⊢
      have hz0 : 0 ≤ y / 256 := by omega
      have hz1 : y / 256 < 18446744073709551616 := by omega
      have hm0 : 0 ≤ y % 256 := by omega
      have hm1 : y % 256 < 256 := by omega
      have hnsA := Aside0.mk hns; have hnxA := Aside0.mk hnx
      clear hy hns hnx
      generalize numb n j = l at *
      have ew : IntKind.u64.wrap (y / 256) = y / 256 := by rw [wrap_u64]; omega
      have em : IntKind.u64.wrap (y % 256) = y % 256 := by rw [wrap_u64]; omega
      have e8 : IntKind.u8.wrap (y % 256) = y % 256 := by rw [IntKind.wrap_u8]; omega
      have et : y.tdiv 256 = y / 256 := Int.tdiv_eq_ediv_of_nonneg hy0
      have er : y.tmod 256 = y % 256 := Int.tmod_eq_emod_of_nonneg hy0
      go_wp2_with ((with_reducible refine gate_dst (N := 32) rfl ?_); at_builtin; (refine Kd.R_append (Kd.int .u8) (w0 := w) w.heap.size rfl (.tmp 27) (.tmp 31) 40 5 (.int .u8 0) 1 rfl Tryd.underlying40 info_u8 rfl (by decide) (by omega) _ l (y % 256) [.int .u8 (y % 256)] (fun _ => True) (fun _ => False) rfl rfl rfl (fun _ hk => hk.elim) (fun _ _ => trivial) hRA.out hBA.out hBA.out.size (by omega) ?_; intro v14 w14 hR hB hg hn; rw [← hnsA.out] at hR; have hRA14 := Aside0.mk hR; have hBA14 := Aside0.mk hB; clear hR hB hg hn))
      go_roundw
      case rel => exact ⟨j + 1, by omega, by go_num, by rw [hnxA.out], hRA14.out, hBA14.out⟩
      case measure => simp [intOf]; omega
    · obtain rfl : j = 1 := by omega
      go_wp2_with fail
      go_ret
      exact ⟨_, rfl, hRA.out, hBA.out⟩
set_option maxRecDepth 100000 in
set_option maxHeartbeats 800000 in
theorem rnum2_calls (n : Int) (hn : 0 ≤ n ∧ n < 18446744073709551616) (w : World) :
    Calls Tryd.prog 49 #[.int .u64 n, .int .i64 2] w fun e w' => ∃ v, e = .returned v ∧ Kd.R (Kd.int .u8) 5 w' w.heap.size (fun _ => True) v (numb n 2) ∧ Below w.heap.size w w' := by
  have hnA := Aside0.mk hn
  clear hn
  go_enter Tryd.func49, Tryd.ntmps49
  go_wp2_with fail
  go_loopw [6, 5, 0] (fun i u x wr => ∃ j : Nat, j ≤ 2 ∧ i = .int .i64 (j : Int) ∧ x = .int .u64 (n / 2 ^ (8 * j)) ∧ Kd.R (Kd.int .u8) 5 wr w.heap.size (fun _ => True) u (numb n j) ∧ Below w.heap.size w wr) (fun i _ _ _ => 2 - (intOf i).toNat)
  case atStart => exact ⟨0, by omega, rfl, by simp, Kd.R_nil _ _ _ _ _, Below.refl _ _⟩
  case round =>
    obtain ⟨j, hj, rfl, rfl, hR, hB⟩ := hrel
    have hRA := Aside0.mk hR; have hBA := Aside0.mk hB
    clear hR hB
    by_cases hlt : j < 2
    · have p1 : (j : Int) < 2 := by omega
      have e2 : IntKind.i64.wrap ((j : Int) + 1) = (j : Int) + 1 := IntWalk.i64_in _ (by omega)
      have hns := numb_succ n j
      have hnx := numb_next n j
      have hy0 : 0 ≤ n / 2 ^ (8 * j) := Int.ediv_nonneg hnA.out.1 (Int.le_of_lt (Int.pow_pos (by decide)))
      have hy1 : n / 2 ^ (8 * j) < 18446744073709551616 := Int.lt_of_le_of_lt (Int.ediv_le_self _ hnA.out.1) hnA.out.2
      have hll : (numb n j).length ≤ 8 := by rw [numb_length]; omega
      obtain ⟨y, hy⟩ : ∃ y, y = n / 2 ^ (8 * j) := ⟨_, rfl⟩
      rw [← hy] at hns hnx hy0 hy1 ⊢
      have hz0 : 0 ≤ y / 256 := by omega
      have hz1 : y / 256 < 18446744073709551616 := by omega
      have hm0 : 0 ≤ y % 256 := by omega
      have hm1 : y % 256 < 256 := by omega
      have hnsA := Aside0.mk hns; have hnxA := Aside0.mk hnx
      clear hy hns hnx
      generalize numb n j = l at *
      have ew : IntKind.u64.wrap (y / 256) = y / 256 := by rw [wrap_u64]; omega
      have em : IntKind.u64.wrap (y % 256) = y % 256 := by rw [wrap_u64]; omega
      have e8 : IntKind.u8.wrap (y % 256) = y % 256 := by rw [IntKind.wrap_u8]; omega
      have et : y.tdiv 256 = y / 256 := Int.tdiv_eq_ediv_of_nonneg hy0
      have er : y.tmod 256 = y % 256 := Int.tmod_eq_emod_of_nonneg hy0
      go_wp2_with ((with_reducible refine gate_dst (N := 32) rfl ?_); at_builtin; (refine Kd.R_append (Kd.int .u8) (w0 := w) w.heap.size rfl (.tmp 27) (.tmp 31) 40 5 (.int .u8 0) 1 rfl Tryd.underlying40 info_u8 rfl (by decide) (by omega) _ l (y % 256) [.int .u8 (y % 256)] (fun _ => True) (fun _ => False) rfl rfl rfl (fun _ hk => hk.elim) (fun _ _ => trivial) hRA.out hBA.out hBA.out.size (by omega) ?_; intro v14 w14 hR hB hg hn; rw [← hnsA.out] at hR; have hRA14 := Aside0.mk hR; have hBA14 := Aside0.mk hB; clear hR hB hg hn))
      go_roundw
      case rel => exact ⟨j + 1, by omega, by go_num, by rw [hnxA.out], hRA14.out, hBA14.out⟩
      case measure => simp [intOf]; omega
    · obtain rfl : j = 2 := by omega
      go_wp2_with fail
      go_ret
      exact ⟨_, rfl, hRA.out, hBA.out⟩
set_option maxRecDepth 100000 in
set_option maxHeartbeats 800000 in
theorem rnum4_calls (n : Int) (hn : 0 ≤ n ∧ n < 18446744073709551616) (w : World) :
    Calls Tryd.prog 49 #[.int .u64 n, .int .i64 4] w fun e w' => ∃ v, e = .returned v ∧ Kd.R (Kd.int .u8) 5 w' w.heap.size (fun _ => True) v (numb n 4) ∧ Below w.heap.size w w' := by
  have hnA := Aside0.mk hn
  clear hn
  go_enter Tryd.func49, Tryd.ntmps49
  go_wp2_with fail
  go_loopw [6, 5, 0] (fun i u x wr => ∃ j : Nat, j ≤ 4 ∧ i = .int .i64 (j : Int) ∧ x = .int .u64 (n / 2 ^ (8 * j)) ∧ Kd.R (Kd.int .u8) 5 wr w.heap.size (fun _ => True) u (numb n j) ∧ Below w.heap.size w wr) (fun i _ _ _ => 4 - (intOf i).toNat)
  case atStart => exact ⟨0, by omega, rfl, by simp, Kd.R_nil _ _ _ _ _, Below.refl _ _⟩
  case round =>
    obtain ⟨j, hj, rfl, rfl, hR, hB⟩ := hrel
    have hRA := Aside0.mk hR; have hBA := Aside0.mk hB
    clear hR hB
    by_cases hlt : j < 4
    · have p1 : (j : Int) < 4 := by omega
      have e2 : IntKind.i64.wrap ((j : Int) + 1) = (j : Int) + 1 := IntWalk.i64_in _ (by omega)
      have hns := numb_succ n j
      have hnx := numb_next n j
      have hy0 : 0 ≤ n / 2 ^ (8 * j) := Int.ediv_nonneg hnA.out.1 (Int.le_of_lt (Int.pow_pos (by decide)))
      have hy1 : n / 2 ^ (8 * j) < 18446744073709551616 := Int.lt_of_le_of_lt (Int.ediv_le_self _ hnA.out.1) hnA.out.2
      have hll : (numb n j).length ≤ 8 := by rw [numb_length]; omega
      obtain ⟨y, hy⟩ : ∃ y, y = n / 2 ^ (8 * j) := ⟨_, rfl⟩
      rw [← hy] at hns hnx hy0 hy1 ⊢
      have hz0 : 0 ≤ y / 256 := by omega
      have hz1 : y / 256 < 18446744073709551616 := by omega
      have hm0 : 0 ≤ y % 256 := by omega
      have hm1 : y % 256 < 256 := by omega
      have hnsA := Aside0.mk hns; have hnxA := Aside0.mk hnx
      clear hy hns hnx
      generalize numb n j = l at *
      have ew : IntKind.u64.wrap (y / 256) = y / 256 := by rw [wrap_u64]; omega
      have em : IntKind.u64.wrap (y % 256) = y % 256 := by rw [wrap_u64]; omega
      have e8 : IntKind.u8.wrap (y % 256) = y % 256 := by rw [IntKind.wrap_u8]; omega
      have et : y.tdiv 256 = y / 256 := Int.tdiv_eq_ediv_of_nonneg hy0
      have er : y.tmod 256 = y % 256 := Int.tmod_eq_emod_of_nonneg hy0
      go_wp2_with ((with_reducible refine gate_dst (N := 32) rfl ?_); at_builtin; (refine Kd.R_append (Kd.int .u8) (w0 := w) w.heap.size rfl (.tmp 27) (.tmp 31) 40 5 (.int .u8 0) 1 rfl Tryd.underlying40 info_u8 rfl (by decide) (by omega) _ l (y % 256) [.int .u8 (y % 256)] (fun _ => True) (fun _ => False) rfl rfl rfl (fun _ hk => hk.elim) (fun _ _ => trivial) hRA.out hBA.out hBA.out.size (by omega) ?_; intro v14 w14 hR hB hg hn; rw [← hnsA.out] at hR; have hRA14 := Aside0.mk hR; have hBA14 := Aside0.mk hB; clear hR hB hg hn))
      go_roundw
      case rel => exact ⟨j + 1, by omega, by go_num, by rw [hnxA.out], hRA14.out, hBA14.out⟩
      case measure => simp [intOf]; omega
    · obtain rfl : j = 4 := by omega
      go_wp2_with fail
      go_ret
      exact ⟨_, rfl, hRA.out, hBA.out⟩
set_option maxRecDepth 100000 in
set_option maxHeartbeats 800000 in
theorem rnum8_calls (n : Int) (hn : 0 ≤ n ∧ n < 18446744073709551616) (w : World) :
    Calls Tryd.prog 49 #[.int .u64 n, .int .i64 8] w fun e w' => ∃ v, e = .returned v ∧ Kd.R (Kd.int .u8) 5 w' w.heap.size (fun _ => True) v (numb n 8) ∧ Below w.heap.size w w' := by
  have hnA := Aside0.mk hn
  clear hn
  go_enter Tryd.func49, Tryd.ntmps49
  go_wp2_with fail
  go_loopw [6, 5, 0] (fun i u x wr => ∃ j : Nat, j ≤ 8 ∧ i = .int .i64 (j : Int) ∧ x = .int .u64 (n / 2 ^ (8 * j)) ∧ Kd.R (Kd.int .u8) 5 wr w.heap.size (fun _ => True) u (numb n j) ∧ Below w.heap.size w wr) (fun i _ _ _ => 8 - (intOf i).toNat)
  case atStart => exact ⟨0, by omega, rfl, by simp, Kd.R_nil _ _ _ _ _, Below.refl _ _⟩
  case round =>
    obtain ⟨j, hj, rfl, rfl, hR, hB⟩ := hrel
    have hRA := Aside0.mk hR; have hBA := Aside0.mk hB
    clear hR hB
    by_cases hlt : j < 8
    · have p1 : (j : Int) < 8 := by omega
      have e2 : IntKind.i64.wrap ((j : Int) + 1) = (j : Int) + 1 := IntWalk.i64_in _ (by omega)
      have hns := numb_succ n j
      have hnx := numb_next n j
      have hy0 : 0 ≤ n / 2 ^ (8 * j) := Int.ediv_nonneg hnA.out.1 (Int.le_of_lt (Int.pow_pos (by decide)))
      have hy1 : n / 2 ^ (8 * j) < 18446744073709551616 := Int.lt_of_le_of_lt (Int.ediv_le_self _ hnA.out.1) hnA.out.2
      have hll : (numb n j).length ≤ 8 := by rw [numb_length]; omega
      obtain ⟨y, hy⟩ : ∃ y, y = n / 2 ^ (8 * j) := ⟨_, rfl⟩
      rw [← hy] at hns hnx hy0 hy1 ⊢
      have hz0 : 0 ≤ y / 256 := by omega
      have hz1 : y / 256 < 18446744073709551616 := by omega
      have hm0 : 0 ≤ y % 256 := by omega
      have hm1 : y % 256 < 256 := by omega
      have hnsA := Aside0.mk hns; have hnxA := Aside0.mk hnx
      clear hy hns hnx
      generalize numb n j = l at *
      have ew : IntKind.u64.wrap (y / 256) = y / 256 := by rw [wrap_u64]; omega
      have em : IntKind.u64.wrap (y % 256) = y % 256 := by rw [wrap_u64]; omega
      have e8 : IntKind.u8.wrap (y % 256) = y % 256 := by rw [IntKind.wrap_u8]; omega
      have et : y.tdiv 256 = y / 256 := Int.tdiv_eq_ediv_of_nonneg hy0
      have er : y.tmod 256 = y % 256 := Int.tmod_eq_emod_of_nonneg hy0
      go_wp2_with ((with_reducible refine gate_dst (N := 32) rfl ?_); at_builtin; (refine Kd.R_append (Kd.int .u8) (w0 := w) w.heap.size rfl (.tmp 27) (.tmp 31) 40 5 (.int .u8 0) 1 rfl Tryd.underlying40 info_u8 rfl (by decide) (by omega) _ l (y % 256) [.int .u8 (y % 256)] (fun _ => True) (fun _ => False) rfl rfl rfl (fun _ hk => hk.elim) (fun _ _ => trivial) hRA.out hBA.out hBA.out.size (by omega) ?_; intro v14 w14 hR hB hg hn; rw [← hnsA.out] at hR; have hRA14 := Aside0.mk hR; have hBA14 := Aside0.mk hB; clear hR hB hg hn))
      go_roundw
      case rel => exact ⟨j + 1, by omega, by go_num, by rw [hnxA.out], hRA14.out, hBA14.out⟩
      case measure => simp [intOf]; omega
    · obtain rfl : j = 8 := by omega
      go_wp2_with fail
      go_ret
      exact ⟨_, rfl, hRA.out, hBA.out⟩
end Go.Proofs.YtlgfekllkahfaaaDoor.Pack
/- Counts and texts as the document lays them. -/
set_option linter.unusedVariables false
set_option linter.unusedSimpArgs false
namespace Go.Proofs.YtlgfekllkahfaaaDoor.Pack
open Go.RowKit Go.Proofs.YtlgfekllkahfaaaDoorW.PrintWords Go.Proofs.YtlgfekllkahfaaaDoorW.PrintMore Go.Proofs.YtlgfekllkahfaaaDoor Go.Proofs.YtlgfekllkahfaaaDoor.Bits Sha ArrK ShaW
set_option maxRecDepth 100000 in
set_option maxHeartbeats 800000 in
theorem rcount_small (n : Nat) (hn : n < 253) (w : World) :
    Calls Tryd.prog 47 #[.int .i64 (n : Int)] w fun e w' => ∃ v, e = .returned v ∧ Kd.R (Kd.int .u8) 5 w' w.heap.size (fun _ => True) v (numb n 1) ∧ Below w.heap.size w w' := by
  have d3 : ¬ (n : Int) < 0 := by omega
  have d4 : (n : Int) ≤ 252 := by omega
  have e1 : IntKind.u64.wrap (n : Int) = (n : Int) := by rw [wrap_u64]; omega
  go_enter Tryd.func47, Tryd.ntmps47
  go_wp2_with (go_at_call 49; (with_reducible refine (rnum1_calls (n : Int) (by omega) _).mono ?_); rintro e w1 ⟨v1, rfl, hR1, hB1⟩; have hF := Aside0.mk (And.intro hR1 hB1); clear hR1 hB1)
  go_ret
  exact ⟨_, rfl, hF.out.1, hF.out.2⟩
set_option maxRecDepth 100000 in
set_option maxHeartbeats 800000 in
theorem rcount2 (n : Nat) (h0 : 253 ≤ n) (hn : n ≤ 65535) (w : World) :
    Calls Tryd.prog 47 #[.int .i64 (n : Int)] w fun e w' => ∃ v, e = .returned v ∧ Kd.R (Kd.int .u8) 5 w' w.heap.size (fun _ => True) v (253 :: numb n 2) ∧ Below w.heap.size w w' := by
  have d3 : ¬ (n : Int) < 0 := by omega
  have d4 : ¬ (n : Int) ≤ 252 := by omega
  have d5 : ((n : Int) ≤ 65535) := by omega
  have d6 : (n : Int) ≤ 4294967295 := by omega
  have e1 : IntKind.u64.wrap (n : Int) = (n : Int) := by rw [wrap_u64]; omega
  have hNl := numb_length n 2
  have hN := Aside0.mk (fun W => rnum2_calls (n : Int) (by omega) W)
  generalize numb n 2 = l at *
  have hNlA := Aside0.mk hNl
  clear hNl
  go_enter Tryd.func47, Tryd.ntmps47
  go_wp2_with (first | ((with_reducible refine gate_dst (N := 15) rfl ?_); (refine Kd.R_lit (Kd.int .u8) (w0 := w) w.heap.size 5 rfl (N := 15) rfl (xs := ([253] : List Int)) (inner := [.int .u8 253]) (ok := fun _ => True) (okp := fun _ => True) ?hr (Reps.one (show Kd.M (Kd.int .u8) _ _ _ 253 [.int .u8 253] from rfl) (Reps.none _ _)) (fun _ hk => hk) trivial (Below.refl _ _) (Nat.le_refl _) (by simp) ?_; (case hr => go_simp); intro v1 w1 hR1 hB1 _ _; have hR1A := Aside0.mk hR1; have hB1A := Aside0.mk hB1; clear hR1 hB1)) | (go_at_call 49; (with_reducible refine (hN.out _).mono ?_); rintro e w2 ⟨v2, rfl, hR2, hB2⟩; obtain ⟨A2, c2, rfl, hc2, hC2⟩ := Kd.R_reads hR2; have hC2A := Aside0.mk hC2; have hR1B := Aside0.mk (Kd.R_below hR1A.out hB2); have hB2A := Aside0.mk (below_then hB1A.out hB1A.out.size hB2); clear hR2 hB2 hC2) | ((with_reducible refine gate_dst (N := 19) rfl ?_); at_builtin; (refine Kd.R_append_rows (Kd.int .u8) (w0 := w) w.heap.size rfl (.tmp 15) (.tmp 18) 40 5 (.int .u8 0) 1 rfl Tryd.underlying40 info_u8 rfl (by decide) (by omega) v1 [253] l A2 _ _ (fun _ => True) (fun _ => False) rfl rfl hR1B.out hC2A.out (fun _ _ h => h) (fun _ h => h.elim) (fun _ _ => trivial) hB2A.out hB2A.out.size (by have := hNlA.out; simp; omega) ?_; intro v3 w3 hR3 hB3 _ _; have hF := Aside0.mk (And.intro hR3 hB3); clear hR3 hB3)))
  go_ret
  exact ⟨_, rfl, hF.out.1, hF.out.2⟩
set_option maxRecDepth 100000 in
set_option maxHeartbeats 800000 in
theorem rcount4 (n : Nat) (h0 : 65536 ≤ n) (hn : n ≤ 1000000) (w : World) :
    Calls Tryd.prog 47 #[.int .i64 (n : Int)] w fun e w' => ∃ v, e = .returned v ∧ Kd.R (Kd.int .u8) 5 w' w.heap.size (fun _ => True) v (254 :: numb n 4) ∧ Below w.heap.size w w' := by
  have d3 : ¬ (n : Int) < 0 := by omega
  have d4 : ¬ (n : Int) ≤ 252 := by omega
  have d5 : (¬ (n : Int) ≤ 65535) := by omega
  have d6 : (n : Int) ≤ 4294967295 := by omega
  have e1 : IntKind.u64.wrap (n : Int) = (n : Int) := by rw [wrap_u64]; omega
  have hNl := numb_length n 4
  have hN := Aside0.mk (fun W => rnum4_calls (n : Int) (by omega) W)
  generalize numb n 4 = l at *
  have hNlA := Aside0.mk hNl
  clear hNl
  go_enter Tryd.func47, Tryd.ntmps47
  go_wp2_with (first | ((with_reducible refine gate_dst (N := 23) rfl ?_); (refine Kd.R_lit (Kd.int .u8) (w0 := w) w.heap.size 5 rfl (N := 23) rfl (xs := ([254] : List Int)) (inner := [.int .u8 254]) (ok := fun _ => True) (okp := fun _ => True) ?hr (Reps.one (show Kd.M (Kd.int .u8) _ _ _ 254 [.int .u8 254] from rfl) (Reps.none _ _)) (fun _ hk => hk) trivial (Below.refl _ _) (Nat.le_refl _) (by simp) ?_; (case hr => go_simp); intro v1 w1 hR1 hB1 _ _; have hR1A := Aside0.mk hR1; have hB1A := Aside0.mk hB1; clear hR1 hB1)) | (go_at_call 49; (with_reducible refine (hN.out _).mono ?_); rintro e w2 ⟨v2, rfl, hR2, hB2⟩; obtain ⟨A2, c2, rfl, hc2, hC2⟩ := Kd.R_reads hR2; have hC2A := Aside0.mk hC2; have hR1B := Aside0.mk (Kd.R_below hR1A.out hB2); have hB2A := Aside0.mk (below_then hB1A.out hB1A.out.size hB2); clear hR2 hB2 hC2) | ((with_reducible refine gate_dst (N := 27) rfl ?_); at_builtin; (refine Kd.R_append_rows (Kd.int .u8) (w0 := w) w.heap.size rfl (.tmp 23) (.tmp 26) 40 5 (.int .u8 0) 1 rfl Tryd.underlying40 info_u8 rfl (by decide) (by omega) v1 [254] l A2 _ _ (fun _ => True) (fun _ => False) rfl rfl hR1B.out hC2A.out (fun _ _ h => h) (fun _ h => h.elim) (fun _ _ => trivial) hB2A.out hB2A.out.size (by have := hNlA.out; simp; omega) ?_; intro v3 w3 hR3 hB3 _ _; have hF := Aside0.mk (And.intro hR3 hB3); clear hR3 hB3)))
  go_ret
  exact ⟨_, rfl, hF.out.1, hF.out.2⟩
theorem rcount_calls (n : Nat) (hn : n ≤ 1000000) (w : World) :
    Calls Tryd.prog 47 #[.int .i64 (n : Int)] w fun e w' => ∃ v, e = .returned v ∧ Kd.R (Kd.int .u8) 5 w' w.heap.size (fun _ => True) v (cnt n) ∧ Below w.heap.size w w' := by
  unfold cnt
  by_cases h1 : n < 253
  · rw [if_pos h1]; exact rcount_small n h1 w
  · rw [if_neg h1]
    by_cases h2 : n ≤ 65535
    · rw [if_pos h2]; exact rcount2 n (by omega) h2 w
    · rw [if_neg h2]; exact rcount4 n (by omega) (by omega) w
set_option maxRecDepth 100000 in
set_option maxHeartbeats 800000 in
theorem rtext_calls (s : ByteArray) (hs : s.size ≤ 1000000) (w : World) :
    Calls Tryd.prog 50 #[.string s] w fun e w' => ∃ v, e = .returned v ∧ Kd.R (Kd.int .u8) 5 w' w.heap.size (fun _ => True) v (cnt s.size ++ bytesOf s) ∧ Below w.heap.size w w' := by
  have hC := Aside0.mk (fun W => rcount_calls s.size hs W)
  have hcl := cnt_length s.size
  generalize cnt s.size = l at *
  go_enter Tryd.func50, Tryd.ntmps50
  go_wp2_with (first | (go_at_call 47; (with_reducible refine (hC.out _).mono ?_); rintro e w1 ⟨v1, rfl, hR1, hB1⟩; have hR1A := Aside0.mk hR1; have hB1A := Aside0.mk hB1; clear hR1 hB1) | ((with_reducible refine gate_dst (N := 7) rfl ?_); at_builtin; (refine print_append_str (w0 := w) w.heap.size rfl (.tmp 5) (.tmp 6) 40 9 5 rfl Tryd.underlying40 Tryd.underlying9 info_u8 v1 l s rfl rfl (Kd.own_of_R hR1A.out) hB1A.out hB1A.out.size (by omega) ?_; intro v2 w2 ho2 hB2 hg2; have hF := Aside0.mk (And.intro (Kd.R_of_own (h1 := fun _ => rfl) (ok := fun _ => True) ho2 (fun _ _ => trivial)) hB2); clear ho2 hB2 hg2)))
  go_ret
  exact ⟨_, rfl, hF.out.1, hF.out.2⟩
end Go.Proofs.YtlgfekllkahfaaaDoor.Pack
