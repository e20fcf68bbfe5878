/- Spends and coins in rows of the call's own; copies. -/
import Derived.Test.YtlgfekllkahfaaaDoorMPb
import Derived.Test.YtlgfekllkahfaaaDoorWEqStruct
set_option linter.unusedVariables false
set_option linter.unusedSimpArgs false
namespace Go.Proofs.YtlgfekllkahfaaaDoor.Pack
open Go.RowKit Go.Proofs.YtlgfekllkahfaaaDoorW.PrintWords Go.Proofs.YtlgfekllkahfaaaDoorW.PrintMore Go.Proofs.YtlgfekllkahfaaaDoor Go.Proofs.YtlgfekllkahfaaaDoor.Bits Sha ArrK ShaW
/-- a kind whose elements lie flat -/
def flat {α : Type} (n : Nat) (R : α → List Value → Prop) (hl : ∀ x cs, R x cs → cs.length = n) (h1 : ∀ x cs, R x cs → ∀ u ∈ cs, u.oneCell' = true) : Kd α where
  sz := n
  E := []
  K := fun _ x cs => R x cs
  M := fun _ _ _ x cs => R x cs
  K_len := fun h => hl _ _ h
  K_one := fun h => h1 _ _ h
  K_below := fun _ h => h
  K_of_M := fun h => h
  M_mono := fun _ h => h
  M_bound := fun h => h
  M_move := fun _ h => h
  M_lower := fun _ h => h
def kSp : Kd Sp := flat 35 (fun s cs => SpO s ∧ cs = spc s) (fun s cs h => by rw [h.2, spc_length s h.1.1]) (fun s cs h => by rw [h.2]; exact spc_one s)
def kCo : Kd Co := flat 2 (fun c cs => CoOk c ∧ cs = coc c) (fun c cs h => by rw [h.2]; rfl) (fun c cs h => by rw [h.2]; exact coc_one c)
theorem info_sp : (Tryd.prog.info? 38).map (fun i => (i.zero, i.size, i.bytes)) = some (some (spv zsp), kSp.sz, 64) := by kernel_rfl
theorem info_co : (Tryd.prog.info? 52).map (fun i => (i.zero, i.size, i.bytes)) = some (some (cov ⟨0, 0⟩), kCo.sz, 16) := by kernel_rfl
abbrev RSp (base : Nat) (W : World) (v : Value) (l : List Sp) : Prop := Kd.R kSp 38 W base (fun _ => True) v l
abbrev RCo (base : Nat) (W : World) (v : Value) (l : List Co) : Prop := Kd.R kCo 52 W base (fun _ => True) v l
theorem RSp.reads {base : Nat} {W : World} {v : Value} {l : List Sp} (h : RSp base W v l) : ∃ A c, v = .slice A l.length c ∧ l.length ≤ c ∧ SpR0 W A l.length l := Kd.R_reads h
theorem RCo.reads {base : Nat} {W : World} {v : Value} {l : List Co} (h : RCo base W v l) : ∃ A c, v = .slice A l.length c ∧ l.length ≤ c ∧ CoR W A l.length l := Kd.R_reads h
theorem row_nil {α : Type} {R : α → List Value → Prop} {sz : Nat} {W : World} {l : List α} (h : ReadsRow R sz W none l.length l) : l = [] := by
  cases l with
  | nil => rfl
  | cons x r => obtain ⟨ad, e, _⟩ := h.2.2 (by simp); cases e
end Go.Proofs.YtlgfekllkahfaaaDoor.Pack
/- A transaction copied. -/
set_option linter.unusedVariables false
set_option linter.unusedSimpArgs false
namespace Go.Proofs.YtlgfekllkahfaaaDoor.Pack
open Go.RowKit Go.Proofs.YtlgfekllkahfaaaDoorW.PrintWords Go.Proofs.YtlgfekllkahfaaaDoorW.PrintMore Go.Proofs.YtlgfekllkahfaaaDoor Go.Proofs.YtlgfekllkahfaaaDoor.Bits Sha ArrK ShaW
section
variable {t : Tr} {A1 A2 : Option Addr} {c1 c2 : Nat}
set_option maxRecDepth 100000 in
set_option maxHeartbeats 800000 in
theorem copy_calls (w : World) (hS : SpR0 w A1 t.sp.length t.sp) (hC : CoR w A2 t.co.length t.co) (h1 : t.sp.length ≤ 1000) (h2 : t.co.length ≤ 1000) :
    Calls Tryd.prog 7 #[trv t A1 A2 c1 c2] w fun e w' => (∃ v1 v2, e = .returned (.agg #[v1, v2, .bool t.firm]) ∧ RSp w.heap.size w' v1 t.sp ∧ RCo w.heap.size w' v2 t.co) ∧ Below w.heap.size w w' := by
  obtain ⟨sp, co, firm⟩ := t
  simp only at hS hC h1 h2 ⊢
  obtain ⟨V, hV⟩ : ∃ V, V = (w.alloc (.cells #[.slice A1 sp.length c1, .slice A2 co.length c2, .bool firm] 25)).alloc (.cells #[.slice none 0 0, .slice none 0 0, .bool false] 25) := ⟨_, rfl⟩
  have hX : Blk V w.heap.size 25 [.slice A1 sp.length c1, .slice A2 co.length c2, .bool firm] := by rw [hV]; exact (Blk.new w 25 [.slice A1 sp.length c1, .slice A2 co.length c2, .bool firm]).alloc _
  have hZ : Blk V (w.heap.size + 1) 25 [.slice none 0 0, .slice none 0 0, .bool false] := by
    have := Blk.new (w.alloc (.cells #[.slice A1 sp.length c1, .slice A2 co.length c2, .bool firm] 25)) 25 [.slice none 0 0, .slice none 0 0, .bool false]
    rw [hV]; rwa [World.size_alloc] at this
  have hB : Below w.heap.size w V := by rw [hV]; exact below_alloc (below_alloc (Below.refl _ _) _) _
  have hVA := Aside0.mk hV; have hXA := Aside0.mk hX; have hZA := Aside0.mk hZ; have hBA := Aside0.mk hB; have hSA := Aside0.mk hS; have hCA := Aside0.mk hC
  have hi3 : ∀ x y z : Value, (Tryd.prog.info? 25).map (·.size) = some [x, y, z].length := fun x y z => by show _ = some 3; kernel_rfl
  have hi3A := Aside0.mk hi3
  clear hV hX hZ hB hS hC hi3
  go_enter Tryd.func7, Tryd.ntmps7
  go_wp2_with (first | ((with_reducible refine gate_dst (N := 3) rfl ?_); (rw [← hVA.out]; refine Kd.R_lit kSp (w0 := w) w.heap.size 38 rfl (N := 3) rfl (xs := ([] : List Sp)) (inner := []) (ok := fun _ => True) (okp := fun _ => True) ?hr (Reps.none _ _) (fun _ hk => hk) trivial hBA.out hBA.out.size (by simp) ?_; (case hr => first | (go_simp; done) | (go_simp; rfl)); intro v1 w1 hR1 hB1 hg1 _; have hX1 := hXA.out.grown hg1 (fun e => by cases e); have hZ1A := Aside0.mk (hZA.out.grown hg1 (fun e => by cases e)); have g0 := hX1.get 0 _ rfl; have hX1A := Aside0.mk hX1; have hR1A := Aside0.mk hR1; have hB1A := Aside0.mk hB1; clear hR1 hB1 hX1 hg1)) | ((with_reducible refine gate_dst (N := 6) rfl ?_); at_builtin; (refine Kd.R_append_rows kSp (w0 := w) w.heap.size rfl (.tmp 3) (.tmp 5) 22 38 (spv zsp) 64 rfl Tryd.underlying22 info_sp rfl (by decide) (by omega) v1 [] sp A1 _ _ (fun _ => True) (fun _ => False) rfl rfl hR1A.out (hSA.out.imp_ hB1A.out (fun _ _ h => h)) (fun _ _ h => h) (fun _ h => h.elim) (fun _ _ => trivial) hB1A.out hB1A.out.size (by simp; omega) ?_; intro v2 w2 hR2 hB2 hg2 _; rw [List.nil_append] at hR2; obtain ⟨B2, k2, hv2⟩ := Kd.R_slice hR2; subst hv2; have hX2 := hX1A.out.grown hg2 (Kd.R_ne hR1A.out hX1A.out (by decide)); have hZ2A := Aside0.mk (hZ1A.out.grown hg2 (Kd.R_ne hR1A.out hZ1A.out (by decide))); clear g0; have g0 := hX2.get 0 _ rfl; have f0 := hX2.fz 0; have hX3A := Aside0.mk (hX2.set 0 (.slice B2 sp.length k2)); have hZ3A := Aside0.mk (hZ2A.out.far (p := ⟨w.heap.size, 0, none⟩) (by show w.heap.size + 1 ≠ w.heap.size; omega) (.slice B2 sp.length k2)); have hR3A := Aside0.mk (Kd.R_set hR2 hX2 (by decide) 0 (.slice B2 sp.length k2)); have hB3A := Aside0.mk (hB2.setCell (p := ⟨w.heap.size, 0, none⟩) (Nat.le_refl _) (.slice B2 sp.length k2)); clear hX2 hR2 hB2 hg2)) | ((with_reducible refine gate_dst (N := 8) rfl ?_); (clear g0 f0; refine Kd.R_lit kCo (w0 := w) w.heap.size 52 rfl (N := 8) rfl (xs := ([] : List Co)) (inner := []) (ok := fun _ => True) (okp := fun _ => True) ?hr (Reps.none _ _) (fun _ hk => hk) trivial hB3A.out hB3A.out.size (by simp) ?_; (case hr => first | (go_simp; done) | (go_simp; rfl)); intro v4 w4 hR4 hB4 hg4 _; have hX4 := hX3A.out.grown hg4 (fun e => by cases e); have hZ4A := Aside0.mk (hZ3A.out.grown hg4 (fun e => by cases e)); have hS4A := Aside0.mk (Kd.R_grown hR3A.out hg4 (fun _ _ e => by cases e)); have g1 := hX4.get 1 _ rfl; have hX4A := Aside0.mk hX4; have hR4A := Aside0.mk hR4; have hB4A := Aside0.mk hB4; clear hR4 hB4 hX4 hg4)) | ((with_reducible refine gate_dst (N := 11) rfl ?_); at_builtin; (refine Kd.R_append_rows kCo (w0 := w) w.heap.size rfl (.tmp 8) (.tmp 10) 23 52 (cov ⟨0, 0⟩) 16 rfl Tryd.underlying23 info_co rfl (by decide) (by omega) v4 [] co A2 _ _ (fun _ => True) (fun _ => False) rfl rfl hR4A.out (hCA.out.imp_ hB4A.out (fun _ _ h => h)) (fun _ _ h => h) (fun _ h => h.elim) (fun _ _ => trivial) hB4A.out hB4A.out.size (by simp; omega) ?_; intro v5 w5 hR5 hB5 hg5 _; rw [List.nil_append] at hR5; obtain ⟨B5, k5, hv5⟩ := Kd.R_slice hR5; subst hv5; have hX5 := hX4A.out.grown hg5 (Kd.R_ne hR4A.out hX4A.out (by decide)); have hZ5A := Aside0.mk (hZ4A.out.grown hg5 (Kd.R_ne hR4A.out hZ4A.out (by decide))); have hS5 := Kd.R_mono (Kd.R_grown (Kd.R_apartR hS4A.out hR4A.out (by decide)) hg5 (fun _ hk => hk.2)) (fun _ _ => trivial); clear g1; have g1 := hX5.get 1 _ rfl; have f1 := hX5.fz 1; have hX6A := Aside0.mk (hX5.set 1 (.slice B5 co.length k5)); have hZ6A := Aside0.mk (hZ5A.out.far (p := ⟨w.heap.size, 1, none⟩) (by show w.heap.size + 1 ≠ w.heap.size; omega) (.slice B5 co.length k5)); have hR6A := Aside0.mk (Kd.R_set hR5 hX5 (by decide) 1 (.slice B5 co.length k5)); have hS6A := Aside0.mk (Kd.R_set hS5 hX5 (by decide) 1 (.slice B5 co.length k5)); have hB6A := Aside0.mk (hB5.setCell (p := ⟨w.heap.size, 1, none⟩) (Nat.le_refl _) (.slice B5 co.length k5)); clear hX5 hR5 hS5 hB5 hg5)) | ((with_reducible refine gate_dst (N := 13) rfl ?_); (clear g1 f1; refine wpList_load_blk rfl 25 (.tmp 1) rfl w.heap.size 25 rfl [.slice B2 sp.length k2, .slice B5 co.length k5, .bool firm] _ hX6A.out Tryd.underlying25 rfl (hi3A.out _ _ _) ?_)) | ((refine wpList_put_blk rfl 25 (.tmp 2) (.tmp 13) rfl (w.heap.size + 1) 25 [.slice B2 sp.length k2, .slice B5 co.length k5, .bool firm] [.slice none 0 0, .slice none 0 0, .bool false] rfl rfl rfl hZ6A.out (hi3A.out _ _ _) (by intro u hu; simp at hu; rcases hu with rfl | rfl | rfl <;> rfl) ?_; intro w7 hZ7 hg7 hs7)))
  have hne : ∀ k, (Value.slice (some ⟨w.heap.size + 1, 0, none⟩) 0 0).ownBlock = some k → ∃ cells, (w5.setCell ⟨w.heap.size, 1, none⟩ (.slice B5 co.length k5)).heap[k]? = some (.cells cells 25 (0, 0)) := fun k hk => by
    have : w.heap.size + 1 = k := by simpa [Value.ownBlock] using hk
    subst this
    exact ⟨_, hZ6A.out⟩
  have hS7 := Kd.R_mono (Kd.R_grown (Kd.R_apart' hS6A.out hne (by decide)) hg7 (fun k hk e => hk.2 (by simpa [Value.ownBlock] using e))) (fun _ _ => trivial : ∀ k, _ → True)
  have hR7 := Kd.R_mono (Kd.R_grown (Kd.R_apart' hR6A.out hne (by decide)) hg7 (fun k hk e => hk.2 (by simpa [Value.ownBlock] using e))) (fun _ _ => trivial : ∀ k, _ → True)
  exact bodyPost_ret (results_cell_row rfl _ _ (w.heap.size + 1) 25 #[.slice B2 sp.length k2, .slice B5 co.length k5, .bool firm] (0, 0) _ rfl hZ7 Tryd.underlying25 rfl (hi3A.out _ _ _)) rfl ⟨⟨_, _, rfl, hS7, hR7⟩, hB6A.out.grown hg7 hB6A.out.size (fun k e => by cases e; omega)⟩
end
end Go.Proofs.YtlgfekllkahfaaaDoor.Pack
/- Spends and coins compared. -/
set_option linter.unusedVariables false
set_option linter.unusedSimpArgs false
namespace Go.Proofs.YtlgfekllkahfaaaDoor.Pack
open Go.RowKit Go.Proofs.YtlgfekllkahfaaaDoorW.PrintWords Go.Proofs.YtlgfekllkahfaaaDoorW.PrintMore Go.Proofs.YtlgfekllkahfaaaDoor Go.Proofs.YtlgfekllkahfaaaDoor.Bits Sha ArrK ShaW
theorem nums_get (l : List Int) (i : Nat) (hi : i < l.length) : (nums .u8 l).toArray[i]? = some (.int .u8 l[i]) := by simp [nums, hi]
theorem run_equal_hash_at (d : Nat) (a b : List Int) (ha : a.length = 32) (hb : b.length = 32) (w : World) : (Op.equalIn (d + 2) 34 (hv a) (hv b)).run Tryd.prog w = .ok (decide (a = b)) w := by
  rw [Op.equalIn.eq_def]
  have hu := run_underlying Tryd.underlying34 w
  have hs : (sizeOf 5).run Tryd.prog w = .ok 1 w := by kernel_rfl
  have hag : (isAgg 5).run Tryd.prog w = .ok false w := by kernel_rfl
  have he : ∀ x y : Int, (Op.equalIn (d + 1) 5 (.int .u8 x) (.int .u8 y)).run Tryd.prog w = .ok (x == y) w := fun x y => run_equalIn_int w d 5 .u8 .u8 x y Tryd.underlying5
  have hp : ∀ (l : List Int) (i : Nat) (hi : i < l.length), (part 5 (nums .u8 l).toArray i).run Tryd.prog w = .ok (.int .u8 l[i]) w := fun l i hi => by
    simp only [part, Sem.run_bind, hag, Result.andThen_ok, Bool.false_eq_true, if_false, nums_get l i hi]
    rfl
  simp only [Sem.run_bind, hu, hs, Result.andThen_ok, hv]
  have loop : ∀ (m i : Nat), i + m = 32 → ∀ body : Nat → Option Bool × Unit → Sem (ForInStep (Option Bool × Unit)), (∀ (j : Nat) (hj : j < 32), (body j (none, ())).run Tryd.prog w = .ok (if a[j]'(by omega) = b[j]'(by omega) then ForInStep.yield (none, ()) else ForInStep.done (some false, ())) w) →
      (forIn (List.range' i m) (none, ()) body).run Tryd.prog w = .ok (if a.drop i = b.drop i then (none, ()) else (some false, ())) w := by
    intro m
    induction m with
    | zero =>
      intro i hi body _
      have e1 : a.drop i = [] := List.drop_of_length_le (by omega)
      have e2 : b.drop i = [] := List.drop_of_length_le (by omega)
      rw [e1, e2]; rfl
    | succ m ih =>
      intro i hi body hbd
      have e1 : a.drop i = a[i]'(by omega) :: a.drop (i + 1) := List.drop_eq_getElem_cons (by omega)
      have e2 : b.drop i = b[i]'(by omega) :: b.drop (i + 1) := List.drop_eq_getElem_cons (by omega)
      have hiff : (a.drop i = b.drop i) = (a[i]'(by omega) = b[i]'(by omega) ∧ a.drop (i + 1) = b.drop (i + 1)) := by rw [e1, e2, List.cons.injEq]
      rw [List.range'_succ, List.forIn_cons, Sem.run_bind, hbd i (by omega)]
      simp only [hiff]
      by_cases h : a[i]'(by omega) = b[i]'(by omega)
      · simp only [h, true_and, if_true]
        exact ih (i + 1) (by omega) body hbd
      · simp only [h, false_and, if_false]; rfl
  rw [Std.Legacy.Range.forIn_eq_forIn_range']
  have hsz : [:32].size = 32 := rfl
  rw [hsz]
  rw [loop 32 0 rfl _ (fun j hj => ?_)]
  · simp only [Result.andThen_ok, List.drop_zero]
    by_cases h : a = b
    · simp [h]
    · simp [h]
  · simp only [Sem.run_bind, Nat.mul_one, hp a j (by omega), hp b j (by omega), Result.andThen_ok, he]
    by_cases h : a[j]'(by omega) = b[j]'(by omega)
    · simp [h]
    · simp [h]
theorem part_agg {t : TypeId} {n : Nat} (h : ∀ w, (isAgg t).run Tryd.prog w = .ok true w) (hs : ∀ w, (sizeOf t).run Tryd.prog w = .ok n w) (cs : Array Value) (off : Nat) (w : World) : (part t cs off).run Tryd.prog w = .ok (.agg (cs.extract off (off + n))) w := by
  simp only [part, Sem.run_bind, h, Result.andThen_ok, if_true, hs, Sem.run_pure]
theorem part_one {t : TypeId} (h : ∀ w, (isAgg t).run Tryd.prog w = .ok false w) (cs : Array Value) (off : Nat) (v : Value) (hv : cs[off]? = some v) (w : World) : (part t cs off).run Tryd.prog w = .ok v w := by
  simp only [part, Sem.run_bind, h, Result.andThen_ok, Bool.false_eq_true, if_false, hv, Sem.run_pure]
theorem cut_front (a b : List Value) (n : Nat) (h : a.length = n) : (a ++ b).toArray.extract 0 (0 + n) = a.toArray := by
  subst h; simp
set_option maxRecDepth 100000 in
theorem eq_point (d : Nat) (tx tx' : List Int) (n n' : Int) (h : tx.length = 32) (h' : tx'.length = 32) (w : World) :
    (Op.equalIn (d + 3) 36 (.agg (nums .u8 tx ++ [Value.int .i64 n]).toArray) (.agg (nums .u8 tx' ++ [Value.int .i64 n']).toArray)).run Tryd.prog w = .ok (decide (tx = tx') && (n == n')) w := by
  refine eqA_of Tryd.underlying36 (by kernel_rfl) ?_
  refine eqf_cons (by rfl) (part_agg (n := 32) (fun w => by kernel_rfl) (fun w => by kernel_rfl) _ _ _) (part_agg (n := 32) (fun w => by kernel_rfl) (fun w => by kernel_rfl) _ _ _) ?_ (eqf_last (by rfl) (part_one (fun w => by kernel_rfl) _ _ (.int .i64 n) ?_ _) (part_one (fun w => by kernel_rfl) _ _ (.int .i64 n') ?_ _) (run_equalIn_int w _ _ _ _ _ _ Tryd.underlying3))
  · rw [cut_front _ _ 32 (by simp [nums, h]), cut_front _ _ 32 (by simp [nums, h'])]
    exact run_equal_hash_at d tx tx' h h' w
  · simp [nums, h]
  · simp [nums, h']
set_option maxRecDepth 100000 in
theorem eq_spend (d : Nat) (s s' : Sp) (h : s.tx.length = 32) (h' : s'.tx.length = 32) (w : World) :
    (Op.equalIn (d + 4) 38 (spv s) (spv s')).run Tryd.prog w = .ok ((decide (s.tx = s'.tx) && (s.n == s'.n)) && ((s.key.toList == s'.key.toList) && (s.sel == s'.sel))) w := by
  refine eqA_of Tryd.underlying38 (by kernel_rfl) ?_
  refine eqf_cons (by rfl) (part_agg (n := 33) (fun w => by kernel_rfl) (fun w => by kernel_rfl) _ _ _) (part_agg (n := 33) (fun w => by kernel_rfl) (fun w => by kernel_rfl) _ _ _) ?_ (eqf_cons (by rfl) (part_one (fun w => by kernel_rfl) _ _ (.string s.key) ?_ _) (part_one (fun w => by kernel_rfl) _ _ (.string s'.key) ?_ _) (run_equalIn_string w _ _ _ _ Tryd.underlying9) (eqf_last (by rfl) (part_one (fun w => by kernel_rfl) _ _ (.int .u64 s.sel) ?_ _) (part_one (fun w => by kernel_rfl) _ _ (.int .u64 s'.sel) ?_ _) (run_equalIn_int w _ _ _ _ _ _ Tryd.underlying26)))
  · have e : ∀ x : Sp, spc x = (nums .u8 x.tx ++ [.int .i64 x.n]) ++ [.string x.key, .int .u64 x.sel] := fun x => by simp [spc]
    rw [e s, e s', cut_front _ _ 33 (by simp [nums, h]), cut_front _ _ 33 (by simp [nums, h'])]
    exact eq_point d s.tx s'.tx s.n s'.n h h' w
  · rw [List.getElem?_toArray]; exact spc_key s h
  · rw [List.getElem?_toArray]; exact spc_key s' h'
  · rw [List.getElem?_toArray]; exact spc_seal s h
  · rw [List.getElem?_toArray]; exact spc_seal s' h'
theorem eq_coin (d : Nat) (c c' : Co) (w : World) : (Op.equalIn (d + 2) 52 (cov c) (cov c')).run Tryd.prog w = .ok ((c.value == c'.value) && (c.lock == c'.lock)) w := by
  refine eqA_of Tryd.underlying52 (by kernel_rfl) ?_
  exact eqf_cons (by rfl) (part_one (fun w => by kernel_rfl) _ _ (.int .i64 c.value) rfl _) (part_one (fun w => by kernel_rfl) _ _ (.int .i64 c'.value) rfl _) (run_equalIn_int w _ _ _ _ _ _ Tryd.underlying3) (eqf_last (by rfl) (part_one (fun w => by kernel_rfl) _ _ (.int .u64 c.lock) rfl _) (part_one (fun w => by kernel_rfl) _ _ (.int .u64 c'.lock) rfl _) (run_equalIn_int w _ _ _ _ _ _ Tryd.underlying26))
end Go.Proofs.YtlgfekllkahfaaaDoor.Pack
/- Two transactions compared. -/
set_option linter.unusedVariables false
set_option linter.unusedSimpArgs false
namespace Go.Proofs.YtlgfekllkahfaaaDoor.Pack
open Go.RowKit Go.Proofs.YtlgfekllkahfaaaDoorW.PrintWords Go.Proofs.YtlgfekllkahfaaaDoorW.PrintMore Go.Proofs.YtlgfekllkahfaaaDoor Go.Proofs.YtlgfekllkahfaaaDoor.Bits Sha ArrK ShaW
open Go.Proofs.YtlgfekllkahfaaaDoor.InRound (op_at)
def eqS (s s' : Sp) : Bool := (decide (s.tx = s'.tx) && (s.n == s'.n)) && ((s.key.toList == s'.key.toList) && (s.sel == s'.sel))
def eqC (c c' : Co) : Bool := (c.value == c'.value) && (c.lock == c'.lock)
def alike {α : Type} (f : α → α → Bool) (l l' : List α) : Bool := (l.zip l').all fun p => f p.1 p.2
theorem alike_take {α : Type} (f : α → α → Bool) (l l' : List α) (k : Nat) (s s' : α) (hs : l[k]? = some s) (hs' : l'[k]? = some s') : ((l.zip l').take (k + 1)).all (fun p => f p.1 p.2) = (((l.zip l').take k).all (fun p => f p.1 p.2) && f s s') := by
  have hz : (l.zip l')[k]? = some (s, s') := by rw [List.getElem?_zip_eq_some]; exact ⟨hs, hs'⟩
  have hk := (List.getElem?_eq_some_iff.1 hz)
  rw [List.take_succ_eq_append_getElem hk.1, List.all_append, hk.2]; simp
theorem alike_no {α : Type} (f : α → α → Bool) (l l' : List α) (k : Nat) (s s' : α) (hs : l[k]? = some s) (hs' : l'[k]? = some s') (ho : f s s' = false) : alike f l l' = false := by
  have hz : (l.zip l')[k]? = some (s, s') := by rw [List.getElem?_zip_eq_some]; exact ⟨hs, hs'⟩
  unfold alike
  rw [List.all_eq_false]
  exact ⟨(s, s'), List.mem_of_getElem? hz, by simp [ho]⟩
theorem exec_neq_spend {a : Act} {o : Oper} (x y : Operand) {tt : TypeId} (ho : o.op = .binOp .neq 38 x y tt) (s s' : Sp) (hx : a.eval x = spv s) (hy : a.eval y = spv s') (h1 : s.tx.length = 32) (h2 : s'.tx.length = 32) (w : World) :
    (execOp a.eval o).run Tryd.prog w = .ok (.value (.bool (!eqS s s'))) w := by
  have hE : ∀ W, (Op.equalIn 10000 38 (spv s) (spv s')).run Tryd.prog W = .ok (eqS s s') W := fun W => eq_spend 9996 s s' h1 h2 W
  unfold execOp
  simp only [ho, hx, hy]
  go_simp
theorem exec_neq_coin {a : Act} {o : Oper} (x y : Operand) {tt : TypeId} (ho : o.op = .binOp .neq 52 x y tt) (s s' : Co) (hx : a.eval x = cov s) (hy : a.eval y = cov s') (w : World) :
    (execOp a.eval o).run Tryd.prog w = .ok (.value (.bool (!eqC s s'))) w := by
  have hE : ∀ W, (Op.equalIn 10000 52 (cov s) (cov s')).run Tryd.prog W = .ok (eqC s s') W := fun W => eq_coin 9998 s s' W
  unfold execOp
  simp only [ho, hx, hy]
  go_simp
set_option maxRecDepth 100000 in
set_option maxHeartbeats 1600000 in
/-- transactions of as many spends, as many coins -/
theorem same_calls (w : World) (sp sp' : List Sp) (co co' : List Co) (firm : Bool) (A1 A2 B1 B2 : Option Addr) (c1 c2 d1 d2 : Nat) (hS : SpR0 w A1 sp.length sp) (hC : CoR w A2 co.length co) (hS' : SpR0 w B1 sp.length sp') (hC' : CoR w B2 co.length co') (h1 : sp.length ≤ 1000) (h2 : co.length ≤ 1000) :
    Calls Tryd.prog 10 #[.agg #[.slice A1 sp.length c1, .slice A2 co.length c2, .bool firm], .agg #[.slice B1 sp.length d1, .slice B2 co.length d2, .bool firm]] w fun e w' => e = .returned (.bool (alike eqS sp sp' && alike eqC co co')) ∧ Below w.heap.size w w' := by
  have hl1 : sp'.length = sp.length := hS'.1
  have hl2 : co'.length = co.length := hC'.1
  obtain ⟨V, hV⟩ : ∃ V, V = (w.alloc (.cells #[.slice A1 sp.length c1, .slice A2 co.length c2, .bool firm] 25)).alloc (.cells #[.slice B1 sp.length d1, .slice B2 co.length d2, .bool firm] 25) := ⟨_, rfl⟩
  have hX : Blk V w.heap.size 25 [.slice A1 sp.length c1, .slice A2 co.length c2, .bool firm] := by rw [hV]; exact (Blk.new w 25 [.slice A1 sp.length c1, .slice A2 co.length c2, .bool firm]).alloc _
  have hZ : Blk V (w.heap.size + 1) 25 [.slice B1 sp.length d1, .slice B2 co.length d2, .bool firm] := by
    have := Blk.new (w.alloc (.cells #[.slice A1 sp.length c1, .slice A2 co.length c2, .bool firm] 25)) 25 [.slice B1 sp.length d1, .slice B2 co.length d2, .bool firm]
    rw [hV]; rwa [World.size_alloc] at this
  have hB : Below w.heap.size w V := by rw [hV]; exact below_alloc (below_alloc (Below.refl _ _) _) _
  have x0 := hX.get 0 _ rfl
  have x1 := hX.get 1 _ rfl
  have x2 := hX.get 2 _ rfl
  have z0 := hZ.get 0 _ rfl
  have z1 := hZ.get 1 _ rfl
  have z2 := hZ.get 2 _ rfl
  have hVA := Aside0.mk hV; have hXA := Aside0.mk hX; have hZA := Aside0.mk hZ; have hBA := Aside0.mk hB; have hSA := Aside0.mk hS; have hCA := Aside0.mk hC; have hSA' := Aside0.mk hS'; have hCA' := Aside0.mk hC'; have hl1A := Aside0.mk hl1; have hl2A := Aside0.mk hl2
  clear hV hX hZ hB hS hC hS' hC' hl1 hl2
  go_enter Tryd.func10, Tryd.ntmps10
  go_wp2_with ((with_reducible refine gate_dst (N := 7) rfl ?_); rw [← hVA.out])
  go_loopw [33] (fun i wr => ∃ k : Nat, k ≤ sp.length ∧ i = .int .i64 (k : Int) ∧ ((sp.zip sp').take k).all (fun p => eqS p.1 p.2) = true ∧ Below V.heap.size V wr) (fun i _ => sp.length - (intOf i).toNat)
  case atStart => exact ⟨0, by omega, rfl, by simp, Below.refl _ _⟩
  case round =>
    obtain ⟨k, hk, rfl, hall, hB2⟩ := hrel
    have hB2A := Aside0.mk hB2
    clear hB2
    by_cases hlt : k < sp.length
    · obtain ⟨s, hs⟩ : ∃ s, sp[k]? = some s := ⟨_, List.getElem?_eq_getElem hlt⟩
      obtain ⟨s', hs'⟩ : ∃ s', sp'[k]? = some s' := ⟨_, List.getElem?_eq_getElem (by have := hl1A.out; omega)⟩
      have hS2 : SpR0 w B1 sp'.length sp' := by rw [hl1A.out]; exact hSA'.out
      obtain ⟨ad, cc, rfl, ⟨hok, -⟩, -, -⟩ := row_at hSA.out k s hs
      obtain ⟨ad', cc', rfl, ⟨hok', -⟩, -, -⟩ := row_at hS2 k s' hs'
      have haA : Aside0 (∀ W, Below V.heap.size V W → ∀ (j : Nat) u, (spc s)[j]? = some u → W.cell? ((ad.add (k * 35)).add j) = some u) := Aside0.mk (fun W hW => by
        obtain ⟨_, _, e, ⟨-, rfl⟩, -, h⟩ := row_at (hSA.out.imp_ (below_then hBA.out hBA.out.size hW) (fun _ _ h => h)) k s hs
        cases e
        exact h)
      have hbA : Aside0 (∀ W, Below V.heap.size V W → ∀ (j : Nat) u, (spc s')[j]? = some u → W.cell? ((ad'.add (k * 35)).add j) = some u) := Aside0.mk (fun W hW => by
        obtain ⟨_, _, e, ⟨-, rfl⟩, -, h⟩ := row_at (hS2.imp_ (below_then hBA.out hBA.out.size hW) (fun _ _ h => h)) k s' hs'
        cases e
        exact h)
      have gaA := Aside0.mk (fun W (hW : Below V.heap.size V W) => (hXA.out.below hW).get 0 _ rfl)
      have gbA := Aside0.mk (fun W (hW : Below V.heap.size V W) => (hZA.out.below hW).get 0 _ rfl)
      have p0 : (0 : Int) ≤ (k : Int) := by omega
      have p1 : (k : Int) < (sp.length : Int) := by omega
      have e2 : IntKind.i64.wrap ((k : Int) + 1) = (k : Int) + 1 := IntWalk.i64_in _ (by omega)
      have hnx := alike_take eqS sp sp' k s s' hs hs'
      have hno := alike_no eqS sp sp' k s s' hs hs'
      rw [hall, Bool.true_and] at hnx
      obtain ⟨o, ho⟩ : ∃ o, eqS s s' = o := ⟨_, rfl⟩
      rw [ho] at hnx hno
      have hnxA := Aside0.mk hnx; have hnoA := Aside0.mk hno; have hoA := Aside0.mk ho; have hokA := Aside0.mk hok; have hokA' := Aside0.mk hok'
      clear hnx hno ho hok hok' hs hs' hall hS2 x0 x1 x2 z0 z1 z2
      go_wp2_with fail
      refine wp_region_noPanic ?_
      have H0 : Below V.heap.size V wr.drew := pw_below_drewN hB2A.out 1
      refine wp_region_held_drew (S := fun V1 => Below V.heap.size V V1) (by kernel_rfl) H0 (fun _ => ?_)
      generalize wr.drew = V0 at *
      -- REGION S
      refine wpAnyH_take (i := 0) (v := .pointer (some ⟨w.heap.size, 0, none⟩)) (op_at rfl) (by kernel_rfl) (by kernel_rfl) (by kernel_rfl) (fun _ _ _ h => h) (Or.inl ⟨by rfl, fun w_ hSw => ?_⟩) H0 ?_
      · skip; go_simp
      try simp only [Act.put, List.setIfInBounds_toArray, List.set_cons_zero, List.set_cons_succ]
      refine wpAnyH_take (i := 1) (v := .slice (some ad) sp.length c1) (op_at rfl) (by kernel_rfl) (by kernel_rfl) (by kernel_rfl) (fun _ _ _ h => h) (Or.inl ⟨by rfl, fun w_ hSw => ?_⟩) H0 ?_
      · have hc_ := gaA.out w_ hSw; go_simp
      try simp only [Act.put, List.setIfInBounds_toArray, List.set_cons_zero, List.set_cons_succ]
      refine wpAnyH_take (i := 2) (v := .int .i64 (k : Int)) (op_at rfl) (by kernel_rfl) (by kernel_rfl) (by kernel_rfl) (fun _ _ _ h => h) (Or.inl ⟨by rfl, fun w_ hSw => ?_⟩) H0 ?_
      · skip; go_simp
      try simp only [Act.put, List.setIfInBounds_toArray, List.set_cons_zero, List.set_cons_succ]
      refine wpAnyH_take (i := 3) (v := .pointer (some (ad.add (k * 35)))) (op_at rfl) (by kernel_rfl) (by kernel_rfl) (by kernel_rfl) (fun _ _ _ h => h) (Or.inl ⟨by rfl, fun w_ hSw => ?_⟩) H0 ?_
      · skip; go_simp
      try simp only [Act.put, List.setIfInBounds_toArray, List.set_cons_zero, List.set_cons_succ]
      refine wpAnyH_take (i := 4) (v := .agg (spc s).toArray) (op_at rfl) (by kernel_rfl) (by kernel_rfl) (by kernel_rfl) (fun _ _ _ h => h) (yieldsIf_load_any (by rfl) _ _ rfl (ad.add (k * 35)) rfl _ _ (fun w_ hSw => haA.out w_ hSw) Tryd.underlying38 rfl (info_spend s (by first | exact hokA.out.1 | exact hokA'.out.1))) H0 ?_
      try simp only [Act.put, List.setIfInBounds_toArray, List.set_cons_zero, List.set_cons_succ]
      refine wpAnyH_take (i := 5) (v := .pointer (some ⟨w.heap.size + 1, 0, none⟩)) (op_at rfl) (by kernel_rfl) (by kernel_rfl) (by kernel_rfl) (fun _ _ _ h => h) (Or.inl ⟨by rfl, fun w_ hSw => ?_⟩) H0 ?_
      · skip; go_simp
      try simp only [Act.put, List.setIfInBounds_toArray, List.set_cons_zero, List.set_cons_succ]
      refine wpAnyH_take (i := 6) (v := .slice (some ad') sp.length d1) (op_at rfl) (by kernel_rfl) (by kernel_rfl) (by kernel_rfl) (fun _ _ _ h => h) (Or.inl ⟨by rfl, fun w_ hSw => ?_⟩) H0 ?_
      · have hc_ := gbA.out w_ hSw; go_simp
      try simp only [Act.put, List.setIfInBounds_toArray, List.set_cons_zero, List.set_cons_succ]
      refine wpAnyH_take (i := 7) (v := .int .i64 (k : Int)) (op_at rfl) (by kernel_rfl) (by kernel_rfl) (by kernel_rfl) (fun _ _ _ h => h) (Or.inl ⟨by rfl, fun w_ hSw => ?_⟩) H0 ?_
      · skip; go_simp
      try simp only [Act.put, List.setIfInBounds_toArray, List.set_cons_zero, List.set_cons_succ]
      refine wpAnyH_take (i := 8) (v := .pointer (some (ad'.add (k * 35)))) (op_at rfl) (by kernel_rfl) (by kernel_rfl) (by kernel_rfl) (fun _ _ _ h => h) (Or.inl ⟨by rfl, fun w_ hSw => ?_⟩) H0 ?_
      · skip; go_simp
      try simp only [Act.put, List.setIfInBounds_toArray, List.set_cons_zero, List.set_cons_succ]
      refine wpAnyH_take (i := 9) (v := .agg (spc s').toArray) (op_at rfl) (by kernel_rfl) (by kernel_rfl) (by kernel_rfl) (fun _ _ _ h => h) (yieldsIf_load_any (by rfl) _ _ rfl (ad'.add (k * 35)) rfl _ _ (fun w_ hSw => hbA.out w_ hSw) Tryd.underlying38 rfl (info_spend s' (by first | exact hokA.out.1 | exact hokA'.out.1))) H0 ?_
      try simp only [Act.put, List.setIfInBounds_toArray, List.set_cons_zero, List.set_cons_succ]
      refine wpAnyH_take (i := 10) (v := .bool (!o)) (op_at rfl) (by kernel_rfl) (by kernel_rfl) (by kernel_rfl) (fun _ _ _ h => h) (Or.inl ⟨by rfl, fun w_ hSw => (by rw [← hoA.out]; exact exec_neq_spend (.tmp 40) (.tmp 45) rfl s s' rfl rfl hokA.out.1 hokA'.out.1 w_)⟩) H0 ?_
      try simp only [Act.put, List.setIfInBounds_toArray, List.set_cons_zero, List.set_cons_succ]
      refine wpAnyH_done (by kernel_rfl) ?_ _
      refine NoPanic.normal ?_
      cases o
      · go_wp2
        go_ret
        exact ⟨by rw [hnoA.out (by trivial)]; rfl, below_then hBA.out hBA.out.size H0⟩
      · go_wp2
        go_roundw
        · exact ⟨k + 1, by omega, by go_num, hnxA.out, H0⟩
        · simp [intOf]; omega
      -- END S
    · obtain rfl : k = sp.length := by omega
      have p1 : ¬ (sp.length : Int) < (sp.length : Int) := by omega
      have hfin : alike eqS sp sp' = true := by
        unfold alike
        rw [List.take_of_length_le (by rw [List.length_zip]; omega)] at hall
        exact hall
      have hfinA := Aside0.mk hfin
      clear hfin hall x0 x1 x2 z0 z1 z2
      have g1 := (hXA.out.below hB2A.out).get 1 _ rfl
      go_wp2_with fail
      go_loopw [51] (fun i wr => ∃ k : Nat, k ≤ co.length ∧ i = .int .i64 (k : Int) ∧ ((co.zip co').take k).all (fun p => eqC p.1 p.2) = true ∧ Below V.heap.size V wr) (fun i _ => co.length - (intOf i).toNat)
      case atStart => exact ⟨0, by omega, rfl, by simp, hB2A.out⟩
      case round =>
        clear g1 hB2A
        obtain ⟨k, hk, rfl, hall, hB2⟩ := hrel
        have hB2A := Aside0.mk hB2
        clear hB2
        by_cases hlt : k < co.length
        · obtain ⟨s, hs⟩ : ∃ s, co[k]? = some s := ⟨_, List.getElem?_eq_getElem hlt⟩
          obtain ⟨s', hs'⟩ : ∃ s', co'[k]? = some s' := ⟨_, List.getElem?_eq_getElem (by have := hl2A.out; omega)⟩
          have hS2 : CoR w B2 co'.length co' := by rw [hl2A.out]; exact hCA'.out
          obtain ⟨ad, cc, rfl, ⟨hok, -⟩, -, -⟩ := row_at hCA.out k s hs
          obtain ⟨ad', cc', rfl, ⟨hok', -⟩, -, -⟩ := row_at hS2 k s' hs'
          have haA : Aside0 (∀ W, Below V.heap.size V W → ∀ (j : Nat) u, (coc s)[j]? = some u → W.cell? ((ad.add (k * 2)).add j) = some u) := Aside0.mk (fun W hW => by
            obtain ⟨_, _, e, ⟨-, rfl⟩, -, h⟩ := row_at (hCA.out.imp_ (below_then hBA.out hBA.out.size hW) (fun _ _ h => h)) k s hs
            cases e
            exact h)
          have hbA : Aside0 (∀ W, Below V.heap.size V W → ∀ (j : Nat) u, (coc s')[j]? = some u → W.cell? ((ad'.add (k * 2)).add j) = some u) := Aside0.mk (fun W hW => by
            obtain ⟨_, _, e, ⟨-, rfl⟩, -, h⟩ := row_at (hS2.imp_ (below_then hBA.out hBA.out.size hW) (fun _ _ h => h)) k s' hs'
            cases e
            exact h)
          have gaA := Aside0.mk (fun W (hW : Below V.heap.size V W) => (hXA.out.below hW).get 1 _ rfl)
          have gbA := Aside0.mk (fun W (hW : Below V.heap.size V W) => (hZA.out.below hW).get 1 _ rfl)
          have p0 : (0 : Int) ≤ (k : Int) := by omega
          have p2 : (k : Int) < (co.length : Int) := by omega
          have e2 : IntKind.i64.wrap ((k : Int) + 1) = (k : Int) + 1 := IntWalk.i64_in _ (by omega)
          have hnx := alike_take eqC co co' k s s' hs hs'
          have hno := alike_no eqC co co' k s s' hs hs'
          rw [hall, Bool.true_and] at hnx
          obtain ⟨o, ho⟩ : ∃ o, eqC s s' = o := ⟨_, rfl⟩
          rw [ho] at hnx hno
          have hnxA := Aside0.mk hnx; have hnoA := Aside0.mk hno; have hoA := Aside0.mk ho
          clear hnx hno ho hok hok' hs hs' hall hS2
          go_wp2_with fail
          refine wp_region_noPanic ?_
          have H0 : Below V.heap.size V wr.drew := pw_below_drewN hB2A.out 1
          refine wp_region_held_drew (S := fun V1 => Below V.heap.size V V1) (by kernel_rfl) H0 (fun _ => ?_)
          generalize wr.drew = V0 at *
          -- REGION C
          refine wpAnyH_take (i := 0) (v := .pointer (some ⟨w.heap.size, 1, none⟩)) (op_at rfl) (by kernel_rfl) (by kernel_rfl) (by kernel_rfl) (fun _ _ _ h => h) (Or.inl ⟨by rfl, fun w_ hSw => ?_⟩) H0 ?_
          · skip; go_simp
          try simp only [Act.put, List.setIfInBounds_toArray, List.set_cons_zero, List.set_cons_succ]
          refine wpAnyH_take (i := 1) (v := .slice (some ad) co.length c2) (op_at rfl) (by kernel_rfl) (by kernel_rfl) (by kernel_rfl) (fun _ _ _ h => h) (Or.inl ⟨by rfl, fun w_ hSw => ?_⟩) H0 ?_
          · have hc_ := gaA.out w_ hSw; go_simp
          try simp only [Act.put, List.setIfInBounds_toArray, List.set_cons_zero, List.set_cons_succ]
          refine wpAnyH_take (i := 2) (v := .int .i64 (k : Int)) (op_at rfl) (by kernel_rfl) (by kernel_rfl) (by kernel_rfl) (fun _ _ _ h => h) (Or.inl ⟨by rfl, fun w_ hSw => ?_⟩) H0 ?_
          · skip; go_simp
          try simp only [Act.put, List.setIfInBounds_toArray, List.set_cons_zero, List.set_cons_succ]
          refine wpAnyH_take (i := 3) (v := .pointer (some (ad.add (k * 2)))) (op_at rfl) (by kernel_rfl) (by kernel_rfl) (by kernel_rfl) (fun _ _ _ h => h) (Or.inl ⟨by rfl, fun w_ hSw => ?_⟩) H0 ?_
          · skip; go_simp
          try simp only [Act.put, List.setIfInBounds_toArray, List.set_cons_zero, List.set_cons_succ]
          refine wpAnyH_take (i := 4) (v := .agg (coc s).toArray) (op_at rfl) (by kernel_rfl) (by kernel_rfl) (by kernel_rfl) (fun _ _ _ h => h) (yieldsIf_load_any (by rfl) _ _ rfl (ad.add (k * 2)) rfl _ _ (fun w_ hSw => haA.out w_ hSw) Tryd.underlying52 rfl (info_coin s)) H0 ?_
          try simp only [Act.put, List.setIfInBounds_toArray, List.set_cons_zero, List.set_cons_succ]
          refine wpAnyH_take (i := 5) (v := .pointer (some ⟨w.heap.size + 1, 1, none⟩)) (op_at rfl) (by kernel_rfl) (by kernel_rfl) (by kernel_rfl) (fun _ _ _ h => h) (Or.inl ⟨by rfl, fun w_ hSw => ?_⟩) H0 ?_
          · skip; go_simp
          try simp only [Act.put, List.setIfInBounds_toArray, List.set_cons_zero, List.set_cons_succ]
          refine wpAnyH_take (i := 6) (v := .slice (some ad') co.length d2) (op_at rfl) (by kernel_rfl) (by kernel_rfl) (by kernel_rfl) (fun _ _ _ h => h) (Or.inl ⟨by rfl, fun w_ hSw => ?_⟩) H0 ?_
          · have hc_ := gbA.out w_ hSw; go_simp
          try simp only [Act.put, List.setIfInBounds_toArray, List.set_cons_zero, List.set_cons_succ]
          refine wpAnyH_take (i := 7) (v := .int .i64 (k : Int)) (op_at rfl) (by kernel_rfl) (by kernel_rfl) (by kernel_rfl) (fun _ _ _ h => h) (Or.inl ⟨by rfl, fun w_ hSw => ?_⟩) H0 ?_
          · skip; go_simp
          try simp only [Act.put, List.setIfInBounds_toArray, List.set_cons_zero, List.set_cons_succ]
          refine wpAnyH_take (i := 8) (v := .pointer (some (ad'.add (k * 2)))) (op_at rfl) (by kernel_rfl) (by kernel_rfl) (by kernel_rfl) (fun _ _ _ h => h) (Or.inl ⟨by rfl, fun w_ hSw => ?_⟩) H0 ?_
          · skip; go_simp
          try simp only [Act.put, List.setIfInBounds_toArray, List.set_cons_zero, List.set_cons_succ]
          refine wpAnyH_take (i := 9) (v := .agg (coc s').toArray) (op_at rfl) (by kernel_rfl) (by kernel_rfl) (by kernel_rfl) (fun _ _ _ h => h) (yieldsIf_load_any (by rfl) _ _ rfl (ad'.add (k * 2)) rfl _ _ (fun w_ hSw => hbA.out w_ hSw) Tryd.underlying52 rfl (info_coin s')) H0 ?_
          try simp only [Act.put, List.setIfInBounds_toArray, List.set_cons_zero, List.set_cons_succ]
          refine wpAnyH_take (i := 10) (v := .bool (!o)) (op_at rfl) (by kernel_rfl) (by kernel_rfl) (by kernel_rfl) (fun _ _ _ h => h) (Or.inl ⟨by rfl, fun w_ hSw => (by rw [← hoA.out]; exact exec_neq_coin (.tmp 58) (.tmp 63) rfl s s' rfl rfl w_)⟩) H0 ?_
          try simp only [Act.put, List.setIfInBounds_toArray, List.set_cons_zero, List.set_cons_succ]
          refine wpAnyH_done (by kernel_rfl) ?_ _
          refine NoPanic.normal ?_
          cases o
          · go_wp2
            go_ret
            exact ⟨by rw [hnoA.out (by trivial), Bool.and_false]; rfl, below_then hBA.out hBA.out.size H0⟩
          · go_wp2
            go_roundw
            · exact ⟨k + 1, by omega, by go_num, hnxA.out, H0⟩
            · simp [intOf]; omega
          -- END C
        · obtain rfl : k = co.length := by omega
          have p2 : ¬ (co.length : Int) < (co.length : Int) := by omega
          have hfin : alike eqC co co' = true := by
            unfold alike
            rw [List.take_of_length_le (by rw [List.length_zip]; omega)] at hall
            exact hall
          have hfin2A := Aside0.mk hfin
          clear hfin hall
          go_wp2_with fail
          go_ret
          exact ⟨by rw [hfinA.out, hfin2A.out]; rfl, below_then hBA.out hBA.out.size hB2A.out⟩
end Go.Proofs.YtlgfekllkahfaaaDoor.Pack
/- Two transactions compared (gossamernum.Tx). -/
set_option linter.unusedVariables false
set_option linter.unusedSimpArgs false
namespace Go.Proofs.YtlgfekllkahfaaaDoor.Pack
open Go.RowKit Go.Proofs.YtlgfekllkahfaaaDoorW.PrintWords Go.Proofs.YtlgfekllkahfaaaDoorW.PrintMore Go.Proofs.YtlgfekllkahfaaaDoor Go.Proofs.YtlgfekllkahfaaaDoor.Bits Sha ArrK ShaW
/-- are two transactions the same? -/
def sameT (a b : Tr) : Bool := (decide (a.sp.length = b.sp.length) && alike eqS a.sp b.sp) && ((decide (a.co.length = b.co.length) && alike eqC a.co b.co) && (a.firm == b.firm))
section
variable {a b : Tr} {A1 A2 B1 B2 : Option Addr} {c1 c2 d1 d2 : Nat}
set_option maxRecDepth 100000 in
set_option maxHeartbeats 800000 in
theorem numtx_calls (w : World) (hS : SpR0 w A1 a.sp.length a.sp) (hC : CoR w A2 a.co.length a.co) (hS' : SpR0 w B1 b.sp.length b.sp) (hC' : CoR w B2 b.co.length b.co) (h1 : a.sp.length ≤ 1000) (h2 : a.co.length ≤ 1000) :
    Calls Tryd.prog 10 #[trv a A1 A2 c1 c2, trv b B1 B2 d1 d2] w fun e w' => e = .returned (.bool (sameT a b)) ∧ Below w.heap.size w w' := by
  obtain ⟨V, hV⟩ : ∃ V, V = (w.alloc (.cells (trc a A1 A2 c1 c2).toArray 25)).alloc (.cells (trc b B1 B2 d1 d2).toArray 25) := ⟨_, rfl⟩
  have hX : Blk V w.heap.size 25 (trc a A1 A2 c1 c2) := by rw [hV]; exact (Blk.new w _ _).alloc _
  have hZ : Blk V (w.heap.size + 1) 25 (trc b B1 B2 d1 d2) := by
    have := Blk.new (w.alloc (.cells (trc a A1 A2 c1 c2).toArray 25)) 25 (trc b B1 B2 d1 d2)
    rw [hV]; rwa [World.size_alloc] at this
  have hB : Below w.heap.size w V := by rw [hV]; exact below_alloc (below_alloc (Below.refl _ _) _) _
  obtain ⟨sp, co, firm⟩ := a
  obtain ⟨sp', co', firm'⟩ := b
  simp only at hV hX hZ hS hC hS' hC' h1 h2 ⊢
  by_cases q : (sp.length = sp'.length ∧ co.length = co'.length) ∧ firm = firm'
  · obtain ⟨⟨q1, q2⟩, rfl⟩ := q
    have hsm : sameT ⟨sp, co, firm⟩ ⟨sp', co', firm⟩ = (alike eqS sp sp' && alike eqC co co') := by simp [sameT, q1, q2]
    have e : trv ⟨sp', co', firm⟩ B1 B2 d1 d2 = .agg #[.slice B1 sp.length d1, .slice B2 co.length d2, .bool firm] := by simp only [trv, q1, q2]
    rw [hsm, e]
    exact same_calls w sp sp' co co' firm A1 A2 B1 B2 c1 c2 d1 d2 hS hC (by rw [q1]; exact hS') (by rw [q2]; exact hC') h1 h2
  · have hf : sameT ⟨sp, co, firm⟩ ⟨sp', co', firm'⟩ = false := by
      by_cases h3 : sp.length = sp'.length
      · by_cases h4 : co.length = co'.length
        · have : firm ≠ firm' := fun h => q ⟨⟨h3, h4⟩, h⟩
          simp [sameT, this]
        · simp [sameT, h4]
      · simp [sameT, h3]
    have x0 := hX.get 0 _ rfl
    have z0 := hZ.get 0 _ rfl
    have x1 := hX.get 1 _ rfl
    have z1 := hZ.get 1 _ rfl
    have x2 := hX.get 2 _ rfl
    have z2 := hZ.get 2 _ rfl
    have hVA := Aside0.mk hV; have hfA := Aside0.mk hf; have hBA := Aside0.mk hB
    clear hV hX hZ hB hS hC hS' hC' hf
    by_cases h3 : sp.length = sp'.length
    · have p3 : (sp.length : Int) = (sp'.length : Int) := by omega
      by_cases h4 : co.length = co'.length
      · have p4 : (co.length : Int) = (co'.length : Int) := by omega
        have p5 : ¬ firm = firm' := fun h => q ⟨⟨h3, h4⟩, h⟩
        clear q h3 h4
        obtain ⟨rfl, rfl⟩ | ⟨rfl, rfl⟩ : (firm = true ∧ firm' = false) ∨ (firm = false ∧ firm' = true) := by cases firm <;> cases firm' <;> simp at p5 ⊢
        · go_enter Tryd.func10, Tryd.ntmps10
          go_wp2_with ((with_reducible refine gate_dst (N := 7) rfl ?_); rw [show ((w.alloc (.cells #[.slice A1 sp.length c1, .slice A2 co.length c2, .bool true] 25)).alloc (.cells #[.slice B1 sp'.length d1, .slice B2 co'.length d2, .bool false] 25)) = V from hVA.out.symm])
          go_ret
          exact ⟨by rw [hfA.out]; rfl, hBA.out⟩
        · go_enter Tryd.func10, Tryd.ntmps10
          go_wp2_with ((with_reducible refine gate_dst (N := 7) rfl ?_); rw [show ((w.alloc (.cells #[.slice A1 sp.length c1, .slice A2 co.length c2, .bool false] 25)).alloc (.cells #[.slice B1 sp'.length d1, .slice B2 co'.length d2, .bool true] 25)) = V from hVA.out.symm])
          go_ret
          exact ⟨by rw [hfA.out]; rfl, hBA.out⟩
      · have p4 : ¬ (co.length : Int) = (co'.length : Int) := by omega
        clear q h3 h4
        go_enter Tryd.func10, Tryd.ntmps10
        go_wp2_with ((with_reducible refine gate_dst (N := 7) rfl ?_); rw [show ((w.alloc (.cells #[.slice A1 sp.length c1, .slice A2 co.length c2, .bool firm] 25)).alloc (.cells #[.slice B1 sp'.length d1, .slice B2 co'.length d2, .bool firm'] 25)) = V from hVA.out.symm])
        go_ret
        exact ⟨by rw [hfA.out]; rfl, hBA.out⟩
    · have p3 : ¬ (sp.length : Int) = (sp'.length : Int) := by omega
      clear q h3
      go_enter Tryd.func10, Tryd.ntmps10
      go_wp2_with ((with_reducible refine gate_dst (N := 7) rfl ?_); rw [show ((w.alloc (.cells #[.slice A1 sp.length c1, .slice A2 co.length c2, .bool firm] 25)).alloc (.cells #[.slice B1 sp'.length d1, .slice B2 co'.length d2, .bool firm'] 25)) = V from hVA.out.symm])
      go_ret
      exact ⟨by rw [hfA.out]; rfl, hBA.out⟩
end
end Go.Proofs.YtlgfekllkahfaaaDoor.Pack
