/- Parameters that are transactions, or slices of coins: opened. -/
import Derived.Test.YthnfjbnebfjjfaaDoorMSp
import Derived.Test.YthnfjbnebfjjfaaDoorMPb
import Derived.Deep.Slices
import Derived.Test.YthnfjbnebfjjfaaDoorMLk
set_option linter.unusedVariables false
namespace Go.Proofs.YthnfjbnebfjjfaaDoor.Laid
open Go Go.ChangeShapes Go.WideShapes Go.RowKit Go.Proofs.YthnfjbnebfjjfaaDoorW.PrintWords Go.Proofs.YthnfjbnebfjjfaaDoor.Bits Sha ShaW Pack
section
variable {H : Type} {enc : TypeId × Value → H} {w : World} {base : Nat} {sp : Nat → Bool} {held : Bool}
/-- a row of elements that lie flat -/
theorem open_rows {α : Type} {ts e : TypeId} {sz fuel : Nat} {cs : List Value} {x : DataW H × List MemPlace} (R : α → List Value → Prop) (hu : Tryd.prog.underlying ts = some (.slice e)) (hc : Tryd.prog.cellsOf e = sz)
    (hcell : ∀ (f : Nat) (l : List Value) (y : DataW H × List MemPlace), DataW.trod enc Tryd.prog w base sp held f e l = some y → ∃ a, R a l) (hf : DataW.trod enc Tryd.prog w base sp held fuel ts cs = some x) :
    ∃ (L : List α) (a : Option Addr) (cap : Nat), cs = [.slice a L.length cap] ∧ L.length ≤ cap ∧ ReadsRow R sz w a L.length L := by
  rcases Deep.open_slice hu hf with ⟨hcs, _⟩ | ⟨ad, l, c, m, n, D, Pl, hcs, _, hl, hm, hmm, _, hx⟩
  · exact ⟨[], none, 0, hcs, Nat.le_refl _, ⟨rfl, Nat.zero_le _, fun h => absurd h (Nat.lt_irrefl _)⟩⟩
  · have hlm : l ≤ m := by rw [hmm]; split <;> omega
    rcases Nat.eq_zero_or_pos l with h0 | h0
    · subst h0
      exact ⟨[], some ad, c, hcs, Nat.zero_le _, ⟨rfl, Nat.zero_le _, fun h => absurd h (Nat.lt_irrefl _)⟩⟩
    obtain ⟨cs0, h1, h2⟩ := hx 0 (by omega)
    obtain ⟨a0, _⟩ := hcell _ _ _ h2
    haveI : Inhabited α := ⟨a0⟩
    obtain ⟨Z, hZ⟩ := Deep.choose_lt (α := α) (n := m) (p := fun i a => ∃ c, c.length = sz ∧ R a c ∧ ∀ (j : Nat) (u : Value), c[j]? = some u → w.cell? (ad.add (i * sz + j)) = some u) (fun i hi => by
      obtain ⟨cs', h1, h2⟩ := hx i hi
      rw [hc] at h1
      obtain ⟨_, hlen, hce⟩ := World.cells?_some h1
      obtain ⟨a, ha⟩ := hcell _ _ _ h2
      refine ⟨a, cs', hlen, ha, fun j u hu => ?_⟩
      have e0 := hce j (by have := (List.getElem?_eq_some_iff.1 hu).1; omega)
      rw [Deep.add_add] at e0
      rw [e0]; exact hu)
    have hlen : ((List.range l).map Z).length = l := by simp
    refine ⟨(List.range l).map Z, some ad, c, by rw [hlen]; exact hcs, by rw [hlen]; exact hl, ⟨rfl, by rw [hlen]; unfold maxLen at hm; omega, fun _ => ⟨ad, rfl, fun i p hi => ?_⟩⟩⟩
    have hil : i < l := by have := (List.getElem?_eq_some_iff.1 hi).1; simpa using this
    simp [List.getElem?_map, List.getElem?_range hil] at hi
    subst hi
    exact hZ i (by omega)
theorem open_spends {fuel : Nat} {cs : List Value} {x : DataW H × List MemPlace} (hf : DataW.trod enc Tryd.prog w base sp held fuel 35 cs = some x) :
    ∃ (L : List Sp) (a : Option Addr) (cap : Nat), cs = [.slice a L.length cap] ∧ L.length ≤ cap ∧ SpR0 w a L.length L :=
  open_rows _ Tryd.underlying35 cSpend (fun f l y h => by
    obtain ⟨s, h1, h2, h3, h4, h5, h6⟩ := cells_spend h
    exact ⟨s, ⟨h1, h2, (wf_u64 h5).1, (wf_u64 h5).2, by unfold maxLen at h4; omega⟩, h6⟩) hf
theorem open_coins {fuel : Nat} {cs : List Value} {x : DataW H × List MemPlace} (hf : DataW.trod enc Tryd.prog w base sp held fuel 36 cs = some x) :
    ∃ (L : List Co) (a : Option Addr) (cap : Nat), cs = [.slice a L.length cap] ∧ L.length ≤ cap ∧ CoR w a L.length L :=
  open_rows _ Tryd.underlying36 cCoin (fun f l y h => by
    obtain ⟨c, h1, h2, h3⟩ := cells_coin h
    exact ⟨c, wf_u64 h2, h3⟩) hf
theorem cSpends : Tryd.prog.cellsOf 35 = 1 := by kernel_rfl
theorem cCoins : Tryd.prog.cellsOf 36 = 1 := by kernel_rfl
theorem cBool : Tryd.prog.cellsOf 4 = 1 := by kernel_rfl
theorem cTx : Tryd.prog.cellsOf 38 = 3 := by kernel_rfl
theorem cells_tx {fuel : Nat} {cs : List Value} {y : DataW H × List MemPlace} (hf : DataW.trod enc Tryd.prog w base sp held fuel 38 cs = some y) :
    ∃ (t : Tr) (A1 A2 : Option Addr) (c1 c2 : Nat), cs = trc t A1 A2 c1 c2 ∧ SpR0 w A1 t.sp.length t.sp ∧ CoR w A2 t.co.length t.co ∧ t.sp.length ≤ c1 ∧ t.co.length ≤ c2 := by
  obtain ⟨y0, y1, y2, m, _, hl, h0, h1, h2⟩ := Go.Deep.trod_struct3 Tryd.underlying38 hf
  rw [cTx] at hl
  simp only [cSpends, cCoins, cBool, List.drop_zero] at h0 h1 h2
  obtain ⟨L, A1, c1, e0, k1, hL⟩ := open_spends h0
  obtain ⟨M, A2, c2, e1, k2, hM⟩ := open_coins h1
  obtain ⟨b, e2, _⟩ := DataW.trod_bool Tryd.underlying4 h2
  refine ⟨⟨L, M, b⟩, A1, A2, c1, c2, ?_, hL, hM, k1, k2⟩
  have d2 := take_one e2 (by rw [List.length_drop]; omega)
  have d1 : cs.drop 1 = .slice A2 M.length c2 :: cs.drop 2 := by
    have := List.take_append_drop 1 (cs.drop 1)
    rw [e1, List.drop_drop] at this
    exact this.symm
  have := List.take_append_drop 1 cs
  rw [e0, d1, d2] at this
  rw [← this]; rfl
end
end Go.Proofs.YthnfjbnebfjjfaaDoor.Laid
/- Whether any transaction's spends open any coins.
   Conditions: none. -/
set_option linter.unusedVariables false
set_option linter.unusedSimpArgs false
namespace Go.Proofs.YthnfjbnebfjjfaaDoor.Walk
open Go.RowKit Go.Proofs.YthnfjbnebfjjfaaDoorW.PrintWords Go.Proofs.YthnfjbnebfjjfaaDoorW.PrintMore Go.Proofs.YthnfjbnebfjjfaaDoor Go.Proofs.YthnfjbnebfjjfaaDoor.Bits Sha ArrK ShaW Pack
open Go.Proofs.YthnfjbnebfjjfaaDoor.InRound (op_at)
theorem num_errv (x : Int) (hx : x = 0 ∨ x = 1 ∨ x = 10) (w : World) : Calls Tryd.prog 14 #[errv x] w fun e w' => e = .returned (.int .i64 x) ∧ Below w.heap.size w w' := by
  rcases hx with rfl | rfl | rfl
  · exact (num_nil w).mono fun e w' ⟨a, b⟩ => ⟨a, b ▸ Below.refl _ _⟩
  · exact (num_1 w).mono fun e w' ⟨a, b⟩ => ⟨a, b ▸ Below.refl _ _⟩
  · exact (num_10 w).mono fun e w' ⟨a, b⟩ => ⟨a, b ▸ Below.refl _ _⟩
theorem chk_is (sp : List Sp) (cs : List Co) (id : List Int) : chk sp cs id = 0 ∨ chk sp cs id = 1 ∨ chk sp cs id = 10 := by
  unfold chk; split
  · split <;> simp
  · simp
set_option maxRecDepth 100000 in
set_option maxHeartbeats 400000 in
theorem LockChecks (t : Tr) (A1 A2 A3 : Option Addr) (c1 c2 c3 : Nat) (cs : List Co) (w : World) (hK : Kst w) (hBg : Bst w) (hK7 : Rst w) (hS : SpR0 w A1 t.sp.length t.sp) (hC : CoR w A2 t.co.length t.co) (hC3 : CoR w A3 cs.length cs) :
    Calls Tryd.prog 4 #[trv t A1 A2 c1 c2, .slice A3 cs.length c3] w fun e w' => e = .returned (.bool true) ∧ Below w.heap.size w w' := by
  obtain ⟨V, hV⟩ : ∃ V, V = w.alloc (.cells (trc t A1 A2 c1 c2).toArray 38) := ⟨_, rfl⟩
  have hX : Blk V w.heap.size 38 (trc t A1 A2 c1 c2) := by rw [hV]; exact Blk.new w _ _
  have hB : Below w.heap.size w V := by rw [hV]; exact below_alloc (Below.refl _ _) _
  have hAl := alive11_calls V (hK.below hB) (hBg.below hB)
  have hVA := Aside0.mk hV; have hXA := Aside0.mk hX; have hBA := Aside0.mk hB; have hAlA := Aside0.mk hAl; have hiA := Aside0.mk (info_tx t A1 A2 c1 c2); have hKA := Aside0.mk hK; have hBgA := Aside0.mk hBg; have hK7A := Aside0.mk hK7; have hSA := Aside0.mk hS; have hCA := Aside0.mk hC; have hC3A := Aside0.mk hC3
  clear hV hX hB hAl hK hBg hK7 hS hC hC3
  generalize hlg : large t = g
  have hlA := Aside0.mk hlg
  clear hlg
  have hLgA := Aside0.mk (fun (W1 : World) (hW : Below w.heap.size w W1) => large_calls (W1.alloc (.cells (trc t A1 A2 c1 c2).toArray 38)) W1.heap.size (Blk.new W1 _ _) (hSA.out.imp_ (below_alloc hW _) (fun _ _ h => h)))
  cases g
  · obtain ⟨l1, l2, l3⟩ := large_no hlA.out
    by_cases q : 40 < cs.length
    · have p : (40 : Int) < (cs.length : Int) := by omega
      go_enter Tryd.func4, Tryd.ntmps4
      go_wp2_with (first | (go_at_call 6; (rw [show (w.alloc (.cells #[.slice A1 t.sp.length c1, .slice A2 t.co.length c2, .bool t.firm] 38)) = V from hVA.out.symm]; (with_reducible refine hAlA.out.mono ?_); rintro e w1 ⟨rfl, hb1⟩; have hXtA := Aside0.mk (hXA.out.below hb1); have hb1A := Aside0.mk (below_then hBA.out hBA.out.size hb1); clear hb1)) | ((with_reducible refine gate_dst (N := 7) rfl ?_); (refine wpList_load_blk rfl 38 (.tmp 2) rfl w.heap.size 38 rfl (trc t A1 A2 c1 c2) _ hXtA.out Tryd.underlying38 rfl hiA.out ?_)) | (go_at_call 13; ((with_reducible refine (hLgA.out _ hb1A.out).mono ?_); rintro e w3 ⟨rfl, hb3⟩; rw [hlA.out]; have hX3A := Aside0.mk (hXtA.out.below ((below_alloc (Below.refl _ _) _).trans (hb3.mono (by simp)))); have hb3A := Aside0.mk (below_then hb1A.out hb1A.out.size ((below_alloc (Below.refl _ _) _).trans (hb3.mono (by simp)))); clear hb3)))
      go_ret
      exact ⟨rfl, hb3A.out⟩
    · have p : ¬ (40 : Int) < (cs.length : Int) := by omega
      go_enter Tryd.func4, Tryd.ntmps4
      go_wp2_with (first | (go_at_call 6; (rw [show (w.alloc (.cells #[.slice A1 t.sp.length c1, .slice A2 t.co.length c2, .bool t.firm] 38)) = V from hVA.out.symm]; (with_reducible refine hAlA.out.mono ?_); rintro e w1 ⟨rfl, hb1⟩; have hXtA := Aside0.mk (hXA.out.below hb1); have hb1A := Aside0.mk (below_then hBA.out hBA.out.size hb1); clear hb1)) | ((with_reducible refine gate_dst (N := 7) rfl ?_); (refine wpList_load_blk rfl 38 (.tmp 2) rfl w.heap.size 38 rfl (trc t A1 A2 c1 c2) _ hXtA.out Tryd.underlying38 rfl hiA.out ?_)) | (go_at_call 13; ((with_reducible refine (hLgA.out _ hb1A.out).mono ?_); rintro e w3 ⟨rfl, hb3⟩; rw [hlA.out]; have hX3A := Aside0.mk (hXtA.out.below ((below_alloc (Below.refl _ _) _).trans (hb3.mono (by simp)))); have hb3A := Aside0.mk (below_then hb1A.out hb1A.out.size ((below_alloc (Below.refl _ _) _).trans (hb3.mono (by simp)))); clear hb3)))
      have hTr : TrOk w t A1 A2 c1 c2 := ⟨hSA.out.small l3, hCA.out, by omega, by omega⟩
      have hXA2 : Aside0 (∀ W, Below w3.heap.size w3 W → ∀ (j : Nat) u, (trc t A1 A2 c1 c2)[j]? = some u → W.cell? ((⟨w.heap.size, 0, none⟩ : Addr).add j) = some u) := Aside0.mk (fun W hW => (hX3A.out.below hW).add)
      have hup : ∀ W, Below w3.heap.size w3 W → Below w.heap.size w W := fun W hW => below_then hb3A.out hb3A.out.size hW
      have hCk := fun (W : World) (hW : Below w3.heap.size w3 W) => check_calls W (hTr.below (hup W hW)) cs (hC3A.out.imp_ (hup W hW) (fun _ _ h => h)) (c3 := c3) (by omega) (hKA.out.below (hup W hW)) (hBgA.out.below (hup W hW))
      have hRc := fun (W : World) (hW : Below w3.heap.size w3 W) => rcheck_calls W (hTr.below (hup W hW)) cs (hC3A.out.imp_ (hup W hW) (fun _ _ h => h)) (c3 := c3) (by omega) (hK7A.out.below (hup W hW))
      have hx := chk_is t.sp cs (idv t)
      generalize chk t.sp cs (idv t) = x at *
      have hNmA := Aside0.mk (fun W => num_errv x hx W)
      have hCkA := Aside0.mk hCk; have hRcA := Aside0.mk hRc
      clear hCk hRc hup hTr hx
      refine wp_region_noPanic ?_
      have H0 : Below w3.heap.size w3 w3.drew := pw_below_drewN (Below.refl _ _) 1
      refine wp_region_held_drew (S := fun V1 => Below w3.heap.size w3 V1) (by kernel_rfl) H0 (fun _ => ?_)
      generalize w3.drew = V0 at *
      -- REGION A
      refine wpAnyH_take (i := 0) (v := .agg (trc t A1 A2 c1 c2).toArray) (op_at rfl) (by kernel_rfl) (by kernel_rfl) (by kernel_rfl) (fun _ _ _ h => h) (yieldsIf_load_any (by rfl) _ _ rfl ⟨w.heap.size, 0, none⟩ rfl _ _ (fun w_ hSw => hXA2.out w_ hSw) Tryd.underlying38 rfl hiA.out) H0 ?_
      try simp only [Act.put, List.setIfInBounds_toArray, List.set_cons_zero, List.set_cons_succ]
      refine wpAnyH_take (i := 1) (v := .slice A3 cs.length c3) (op_at rfl) (by kernel_rfl) (by kernel_rfl) (by kernel_rfl) (fun _ _ _ h => h) (Or.inl ⟨by rfl, fun w_ hSw => ?_⟩) H0 ?_
      · skip; go_simp
      try simp only [Act.put, List.setIfInBounds_toArray, List.set_cons_zero, List.set_cons_succ]
      refine wpAnyH_take (i := 4) (v := .agg (trc t A1 A2 c1 c2).toArray) (op_at rfl) (by kernel_rfl) (by kernel_rfl) (by kernel_rfl) (fun _ _ _ h => h) (yieldsIf_load_any (by rfl) _ _ rfl ⟨w.heap.size, 0, none⟩ rfl _ _ (fun w_ hSw => hXA2.out w_ hSw) Tryd.underlying38 rfl hiA.out) H0 ?_
      try simp only [Act.put, List.setIfInBounds_toArray, List.set_cons_zero, List.set_cons_succ]
      refine wpAnyH_take (i := 5) (v := .slice A3 cs.length c3) (op_at rfl) (by kernel_rfl) (by kernel_rfl) (by kernel_rfl) (fun _ _ _ h => h) (Or.inl ⟨by rfl, fun w_ hSw => ?_⟩) H0 ?_
      · skip; go_simp
      try simp only [Act.put, List.setIfInBounds_toArray, List.set_cons_zero, List.set_cons_succ]
      refine wpAnyH_ready (rs := [2]) (by kernel_rfl) (by simp) ?_
      refine AllReadyH.cons (op_at rfl) (fun K hK => ?_) AllReadyH.nil
      go_simp
      go_at_call 15
      with_reducible refine (hCkA.out V0 H0).mono ?_
      rintro e V1_ ⟨rfl, hb⟩
      go_wp2_with fail
      refine hK.out _ _ (below_then H0 H0.size hb) (fun H1_ => ?_)
      clear hK K hb
      try simp only [Act.put, List.setIfInBounds_toArray, List.set_cons_zero, List.set_cons_succ]
      refine wpAnyH_ready (rs := [3]) (by kernel_rfl) (by simp) ?_
      refine AllReadyH.cons (op_at rfl) (fun K hK => ?_) AllReadyH.nil
      go_simp
      go_at_call 14
      with_reducible refine (hNmA.out V1_).mono ?_
      rintro e V2_ ⟨rfl, hb⟩
      go_wp2_with fail
      refine hK.out _ _ (below_then H1_ H1_.size hb) (fun H2_ => ?_)
      clear hK K hb
      try simp only [Act.put, List.setIfInBounds_toArray, List.set_cons_zero, List.set_cons_succ]
      refine wpAnyH_ready (rs := [6]) (by kernel_rfl) (by simp) ?_
      refine AllReadyH.cons (op_at rfl) (fun K hK => ?_) AllReadyH.nil
      go_simp
      go_at_call 16
      with_reducible refine (hRcA.out V2_ H2_).mono ?_
      rintro e V3_ ⟨rfl, hb⟩
      go_wp2_with fail
      refine hK.out _ _ (below_then H2_ H2_.size hb) (fun H3_ => ?_)
      clear hK K hb
      try simp only [Act.put, List.setIfInBounds_toArray, List.set_cons_zero, List.set_cons_succ]
      refine wpAnyH_take (i := 7) (v := .bool true) (op_at rfl) (by kernel_rfl) (by kernel_rfl) (by kernel_rfl) (fun _ _ _ h => h) (Or.inl ⟨by rfl, fun w_ hSw => ?_⟩) H3_ ?_
      · skip; go_simp
      try simp only [Act.put, List.setIfInBounds_toArray, List.set_cons_zero, List.set_cons_succ]
      refine wpAnyH_take (i := 8) (v := .bool true) (op_at rfl) (by kernel_rfl) (by kernel_rfl) (by kernel_rfl) (fun _ _ _ h => h) (Or.inl ⟨by rfl, fun w_ hSw => ?_⟩) H3_ ?_
      · skip; go_simp
      try simp only [Act.put, List.setIfInBounds_toArray, List.set_cons_zero, List.set_cons_succ]
      refine wpAnyH_done (by kernel_rfl) ?_ _
      refine NoPanic.normal ?_
      have hHA := Aside0.mk H3_
      go_wp2
      go_ret
      exact ⟨rfl, below_then hb3A.out hb3A.out.size hHA.out⟩
      -- END A
  · go_enter Tryd.func4, Tryd.ntmps4
    go_wp2_with (first | (go_at_call 6; (rw [show (w.alloc (.cells #[.slice A1 t.sp.length c1, .slice A2 t.co.length c2, .bool t.firm] 38)) = V from hVA.out.symm]; (with_reducible refine hAlA.out.mono ?_); rintro e w1 ⟨rfl, hb1⟩; have hXtA := Aside0.mk (hXA.out.below hb1); have hb1A := Aside0.mk (below_then hBA.out hBA.out.size hb1); clear hb1)) | ((with_reducible refine gate_dst (N := 7) rfl ?_); (refine wpList_load_blk rfl 38 (.tmp 2) rfl w.heap.size 38 rfl (trc t A1 A2 c1 c2) _ hXtA.out Tryd.underlying38 rfl hiA.out ?_)) | (go_at_call 13; ((with_reducible refine (hLgA.out _ hb1A.out).mono ?_); rintro e w3 ⟨rfl, hb3⟩; rw [hlA.out]; have hX3A := Aside0.mk (hXtA.out.below ((below_alloc (Below.refl _ _) _).trans (hb3.mono (by simp)))); have hb3A := Aside0.mk (below_then hb1A.out hb1A.out.size ((below_alloc (Below.refl _ _) _).trans (hb3.mono (by simp)))); clear hb3)))
    go_ret
    exact ⟨rfl, hb3A.out⟩
end Go.Proofs.YthnfjbnebfjjfaaDoor.Walk
