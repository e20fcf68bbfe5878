/- SHA-256: double digests, a digest's word. -/
import Derived.Test.YtlgfekllkahfaaaDoorShaF
set_option linter.unusedVariables false
set_option linter.unusedSimpArgs false
namespace Go.Proofs.YtlgfekllkahfaaaDoor.ShaW
open Go.RowKit Go.Proofs.YtlgfekllkahfaaaDoorW.PrintWords Go.Proofs.YtlgfekllkahfaaaDoorW.PrintMore Go.Proofs.YtlgfekllkahfaaaDoor Go.Proofs.YtlgfekllkahfaaaDoor.Bits Sha ArrK
/-- a new block, and a whole value stored over it at once -/
theorem wpList_new_put {P : Program} {ops : Array Oper} {rest : List Oper} {o1 o2 : Oper} {a : Act} {W : World} {Q : Exit → Act → World → Prop} (hg1 : o1.guard = none) {N : Tmp} (hd1 : o1.dst = some N) (hg2 : o2.guard = none) (ty : TypeId) (y : Operand) (ho2 : o2.op = .store ty (.tmp N) y)
    (vs zs : List Value) (hl : zs.length = vs.length)
    (hrun : (execOp a.eval o1).run P W = .ok (.value (.pointer (some ⟨W.heap.size, 0, none⟩))) (W.alloc (.cells zs.toArray ty (0, 0))))
    (hx : (a.put (some N) (.pointer (some ⟨W.heap.size, 0, none⟩))).eval (.tmp N) = .pointer (some ⟨W.heap.size, 0, none⟩)) (hy : (a.put (some N) (.pointer (some ⟨W.heap.size, 0, none⟩))).eval y = .agg vs.toArray)
    (hi : (P.info? ty).map (·.size) = some vs.length) (h1 : ∀ u ∈ vs, u.oneCell' = true)
    (h : ∀ W1, Blk W1 W.heap.size ty vs → Below W.heap.size W W1 → W1.heap.size = W.heap.size + 1 → wpList P ops Q rest ((a.put (some N) (.pointer (some ⟨W.heap.size, 0, none⟩))).put o2.dst undef) W1) :
    wpList P ops Q (o1 :: o2 :: rest) a W := by
  refine Kd.event_run hg1 hrun ?_
  rw [hd1]
  have hb := Blk.new W ty zs
  refine wpList_put_blk hg2 ty (.tmp N) y ho2 W.heap.size ty vs zs hl hx hy hb hi h1 ?_
  intro W1 hW hg hs
  refine h W1 hW ?_ (by rw [hs]; simp)
  exact (below_alloc (Below.refl W.heap.size W) (.cells zs.toArray ty)).grown hg (by simp) (fun k e => by cases e; exact Nat.le_refl _)
theorem C_block {W : World} {B T : Nat} {h : List Int} (hh : Blk W B T (nums .u8 h)) (hl : h.length ≤ 9223372036854775807) : Kd.C (Kd.int .u8) W (some ⟨B, 0, none⟩) h.length h := by
  refine Kd.C_of_reads (d := (0 : Int)) (h1 := fun _ => rfl) ⟨rfl, hl, fun _ => ⟨_, rfl, fun j hj => hh.add j _ ?_⟩⟩
  simp [nums, hj]
theorem u8_one (h : List Int) : ∀ u ∈ nums .u8 h, u.oneCell' = true := by intro u hu; simp only [nums, List.mem_map] at hu; obtain ⟨_, _, rfl⟩ := hu; rfl
/-- one text, as a list of texts -/
theorem kp_one {W : World} {b T : Nat} {A : Option Addr} {c : Nat} {l : List Int} (h : Blk W b T [.slice A l.length c]) (hc : l.length ≤ c) (hC : Kd.C (Kd.int .u8) W A l.length l) : kp.C W (some ⟨b, 0, none⟩) [l].length [l] := by
  refine ⟨rfl, by show 1 ≤ _; decide, fun _ => ⟨_, rfl, fun j p hp => ?_⟩⟩
  have hj : j = 0 ∧ p = l := by
    match j, hp with
    | 0, hp => exact ⟨rfl, (Option.some.inj hp).symm⟩
  obtain ⟨rfl, rfl⟩ := hj
  refine ⟨[.slice A p.length c], rfl, ⟨A, c, rfl, hc, hC⟩, fun i u hu => h.add _ _ ?_⟩
  rw [Nat.zero_mul, Nat.zero_add]; exact hu
theorem kp_two {W : World} {b T : Nat} {A A' : Option Addr} {c c' : Nat} {l l' : List Int} (h : Blk W b T [.slice A l.length c, .slice A' l'.length c']) (hc : l.length ≤ c) (hC : Kd.C (Kd.int .u8) W A l.length l) (hc' : l'.length ≤ c') (hC' : Kd.C (Kd.int .u8) W A' l'.length l') :
    kp.C W (some ⟨b, 0, none⟩) [l, l'].length [l, l'] := by
  refine ⟨rfl, by show 2 ≤ _; decide, fun _ => ⟨_, rfl, fun j p hp => ?_⟩⟩
  match j, hp with
  | 0, hp =>
    obtain rfl := Option.some.inj hp
    exact ⟨[.slice A l.length c], rfl, ⟨A, c, rfl, hc, hC⟩, fun i u hu => h.add _ _ (by
      match i, hu with
      | 0, hu => exact hu)⟩
  | 1, hp =>
    obtain rfl := Option.some.inj hp
    exact ⟨[.slice A' l'.length c'], rfl, ⟨A', c', rfl, hc', hC'⟩, fun i u hu => h.add _ _ (by
      match i, hu with
      | 0, hu => exact hu)⟩
/-- the double digest -/
def dbl (t : List Int) : List Int := sum (sum t)
theorem flat_one (l : List Int) : [l].flatten = l := by simp
theorem info_hash (h : List Int) (hl : h.length = 32) : (Tryd.prog.info? 34).map (·.size) = some (nums .u8 h).length := by rw [show (nums .u8 h).length = 32 by simp [nums, hl]]; kernel_rfl
theorem Bytes.sum (t : List Int) : Bytes (sum t) := sum_bytes t
/-- the digest of one text -/
theorem sum_lit1 (W : World) (A : Option Addr) (c : Nat) (l : List Int) (hC : Kd.C (Kd.int .u8) W A l.length l) (hc : l.length ≤ c) (hK : Kst W) (hBg : Bst W) (hl : l.length < 1000000000) (hby : Bytes l) :
    Calls Tryd.prog 41 #[.slice (some ⟨W.heap.size, 0, none⟩) 1 1] (W.alloc (.cells #[.slice A l.length c] 40)) fun e w' => e = .returned (hv (sum l)) ∧ Below W.heap.size W w' := by
  have hb : Below W.heap.size W (W.alloc (.cells #[.slice A l.length c] 40)) := below_alloc (Below.refl _ _) _
  have h := sum_calls [l] (some ⟨W.heap.size, 0, none⟩) 1 _ (hK.below hb) (hBg.below hb) (kp_one (Blk.new W 40 [.slice A l.length c]) hc (Kd.C_alloc hC _)) (Nat.le_refl _) (by show 1 ≤ _; decide) (by rw [flat_one]; exact hl) (by rw [flat_one]; exact hby)
  rw [flat_one] at h
  exact h.mono fun e w' ⟨a, b⟩ => ⟨a, below_then hb hb.size b⟩
set_option maxRecDepth 100000 in
set_option maxHeartbeats 400000 in
theorem double_calls (parts : List (List Int)) (A : Option Addr) (c : Nat) (w : World) (hK : Kst w) (hBg : Bst w) (hr : kp.C w A parts.length parts) (hc : parts.length ≤ c) (hn : parts.length ≤ 1000000000) (hl : parts.flatten.length < 1000000000) (hby : Bytes parts.flatten) :
    Calls Tryd.prog 23 #[.slice A parts.length c] w fun e w' => e = .returned (hv (dbl parts.flatten)) ∧ Below w.heap.size w w' := by
  obtain ⟨V0, hV0⟩ : ∃ V0, V0 = w.alloc (.cells #[.int .u8 0, .int .u8 0, .int .u8 0, .int .u8 0, .int .u8 0, .int .u8 0, .int .u8 0, .int .u8 0, .int .u8 0, .int .u8 0, .int .u8 0, .int .u8 0, .int .u8 0, .int .u8 0, .int .u8 0, .int .u8 0, .int .u8 0, .int .u8 0, .int .u8 0, .int .u8 0, .int .u8 0, .int .u8 0, .int .u8 0, .int .u8 0, .int .u8 0, .int .u8 0, .int .u8 0, .int .u8 0, .int .u8 0, .int .u8 0, .int .u8 0, .int .u8 0] 34) := ⟨_, rfl⟩
  have hB0 : Below w.heap.size w V0 := by rw [hV0]; exact (Below.refl _ _).alloc (Nat.le_refl _) _
  have hR0 : Blk V0 w.heap.size 34 (nums .u8 zero32) := by rw [hV0]; exact Blk.new w 34 (nums .u8 zero32)
  have hS1 := sum_calls parts A c V0 (hK.below hB0) (hBg.below hB0) (Kd.C_below hr hB0) hc hn hl hby
  unfold dbl
  have hsl := sum_length parts.flatten
  have hsb := Bytes.sum parts.flatten
  generalize Sha.sum parts.flatten = s at *
  have hzl : (nums .u8 zero32).length = (nums .u8 s).length := by simp [nums, hsl]
  have hfl := sum_length s
  have hfl2 : (nums .u8 zero32).length = (nums .u8 (Sha.sum s)).length := by simp [nums, hfl]
  have hV0A := Aside0.mk hV0; have hB0A := Aside0.mk hB0; have hR0A := Aside0.mk hR0; have hS1A := Aside0.mk hS1; have hKA := Aside0.mk hK; have hBgA := Aside0.mk hBg
  have hslA := Aside0.mk hsl; have hsbA := Aside0.mk hsb; have hzlA := Aside0.mk hzl; have hflA := Aside0.mk hfl2; have hfl1A := Aside0.mk hfl
  clear hV0 hB0 hR0 hS1 hK hBg hr hsl hsb hzl hfl hfl2 hc hn hl hby
  go_enter Tryd.func23, Tryd.ntmps23
  go_wp2_with (first | (go_at_call 41; rw [← hV0A.out]; with_reducible refine hS1A.out.mono ?_; rintro e w1 ⟨rfl, hb1⟩; have hb1A := Aside0.mk hb1; clear hb1) | ((with_reducible refine gate_dst (N := 3) rfl ?_); refine wpList_new_put rfl (N := 3) rfl rfl 34 (.tmp 5) rfl (nums .u8 s) (nums .u8 zero32) hzlA.out ?hr rfl rfl (info_hash s hslA.out) (u8_one s) ?_; (case hr => first | (go_simp; done) | (go_simp; rfl)); intro w2 hW2 hb2 hs2; have hW2A := Aside0.mk hW2; have hb2A := Aside0.mk hb2; have hbw := Aside0.mk (below_then (below_then hB0A.out hB0A.out.size hb1A.out) (Nat.le_trans hB0A.out.size hb1A.out.size) hb2); have hC2 := C_block hW2 (by rw [hslA.out]; decide); have hS2 := sum_lit1 w2 _ 32 s hC2 (by rw [hslA.out]; exact Nat.le_refl _) (hKA.out.below hbw.out) (hBgA.out.below hbw.out) (by rw [hslA.out]; decide) hsbA.out; rw [hslA.out] at hS2; have hS2A := Aside0.mk hS2; clear hW2 hb2 hs2 hS2 hC2) | (go_at_call 41; with_reducible refine hS2A.out.mono ?_; rintro e w3 ⟨rfl, hb3⟩; have hR3 := Aside0.mk (((hR0A.out.below hb1A.out).below hb2A.out).below hb3); have hB3 := Aside0.mk (below_then hbw.out hbw.out.size hb3); clear hb3) | (refine wpList_put_blk rfl 34 (.tmp 2) (.tmp 8) rfl w.heap.size 34 (nums .u8 (Sha.sum s)) (nums .u8 zero32) hflA.out rfl rfl hR3.out (info_hash _ hfl1A.out) (u8_one _) ?_; intro w4 hW4 hg4 hs4))
  have hi2 : (Tryd.prog.info? 34).map (·.size) = some (nums .u8 (Sha.sum s)).toArray.size := by rw [List.size_toArray]; exact info_hash _ hfl1A.out
  exact bodyPost_ret (results_cell_row rfl _ _ w.heap.size 34 (nums .u8 (Sha.sum s)).toArray (0, 0) _ rfl hW4 Tryd.underlying34 rfl hi2) rfl ⟨rfl, hB3.out.grown hg4 hB3.out.size (fun k e => by cases e; exact Nat.le_refl _)⟩
theorem double_lit1 (W : World) (A : Option Addr) (c : Nat) (l : List Int) (hC : Kd.C (Kd.int .u8) W A l.length l) (hc : l.length ≤ c) (hK : Kst W) (hBg : Bst W) (hl : l.length < 1000000000) (hby : Bytes l) :
    Calls Tryd.prog 23 #[.slice (some ⟨W.heap.size, 0, none⟩) 1 1] (W.alloc (.cells #[.slice A l.length c] 40)) fun e w' => e = .returned (hv (dbl l)) ∧ Below W.heap.size W w' := by
  have hb : Below W.heap.size W (W.alloc (.cells #[.slice A l.length c] 40)) := below_alloc (Below.refl _ _) _
  have h := double_calls [l] (some ⟨W.heap.size, 0, none⟩) 1 _ (hK.below hb) (hBg.below hb) (kp_one (Blk.new W 40 [.slice A l.length c]) hc (Kd.C_alloc hC _)) (Nat.le_refl _) (by show 1 ≤ _; decide) (by rw [flat_one]; exact hl) (by rw [flat_one]; exact hby)
  rw [flat_one] at h
  exact h.mono fun e w' ⟨a, b⟩ => ⟨a, below_then hb hb.size b⟩
theorem double_lit2 (W : World) (A A' : Option Addr) (c c' : Nat) (l l' : List Int) (hC : Kd.C (Kd.int .u8) W A l.length l) (hc : l.length ≤ c) (hC' : Kd.C (Kd.int .u8) W A' l'.length l') (hc' : l'.length ≤ c') (hK : Kst W) (hBg : Bst W) (hl : (l ++ l').length < 1000000000) (hby : Bytes (l ++ l')) :
    Calls Tryd.prog 23 #[.slice (some ⟨W.heap.size, 0, none⟩) 2 2] (W.alloc (.cells #[.slice A l.length c, .slice A' l'.length c'] 40)) fun e w' => e = .returned (hv (dbl (l ++ l'))) ∧ Below W.heap.size W w' := by
  have hb : Below W.heap.size W (W.alloc (.cells #[.slice A l.length c, .slice A' l'.length c'] 40)) := below_alloc (Below.refl _ _) _
  have hfl : [l, l'].flatten = l ++ l' := by simp
  have h := double_calls [l, l'] (some ⟨W.heap.size, 0, none⟩) 2 _ (hK.below hb) (hBg.below hb) (kp_two (Blk.new W 40 [.slice A l.length c, .slice A' l'.length c']) hc (Kd.C_alloc hC _) hc' (Kd.C_alloc hC' _)) (Nat.le_refl _) (by show 2 ≤ _; decide) (by rw [hfl]; exact hl) (by rw [hfl]; exact hby)
  rw [hfl] at h
  exact h.mono fun e w' ⟨a, b⟩ => ⟨a, below_then hb hb.size b⟩
theorem sum_lit2 (W : World) (A A' : Option Addr) (c c' : Nat) (l l' : List Int) (hC : Kd.C (Kd.int .u8) W A l.length l) (hc : l.length ≤ c) (hC' : Kd.C (Kd.int .u8) W A' l'.length l') (hc' : l'.length ≤ c') (hK : Kst W) (hBg : Bst W) (hl : (l ++ l').length < 1000000000) (hby : Bytes (l ++ l')) :
    Calls Tryd.prog 41 #[.slice (some ⟨W.heap.size, 0, none⟩) 2 2] (W.alloc (.cells #[.slice A l.length c, .slice A' l'.length c'] 40)) fun e w' => e = .returned (hv (sum (l ++ l'))) ∧ Below W.heap.size W w' := by
  have hb : Below W.heap.size W (W.alloc (.cells #[.slice A l.length c, .slice A' l'.length c'] 40)) := below_alloc (Below.refl _ _) _
  have hfl : [l, l'].flatten = l ++ l' := by simp
  have h := sum_calls [l, l'] (some ⟨W.heap.size, 0, none⟩) 2 _ (hK.below hb) (hBg.below hb) (kp_two (Blk.new W 40 [.slice A l.length c, .slice A' l'.length c']) hc (Kd.C_alloc hC _) hc' (Kd.C_alloc hC' _)) (Nat.le_refl _) (by show 2 ≤ _; decide) (by rw [hfl]; exact hl) (by rw [hfl]; exact hby)
  rw [hfl] at h
  exact h.mono fun e w' ⟨a, b⟩ => ⟨a, below_then hb hb.size b⟩
end Go.Proofs.YtlgfekllkahfaaaDoor.ShaW
