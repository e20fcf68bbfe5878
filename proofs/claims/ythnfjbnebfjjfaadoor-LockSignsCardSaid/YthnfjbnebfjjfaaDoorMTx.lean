/- Parameters that are transactions, or slices of coins: opened. -/
import Derived.Test.YthnfjbnebfjjfaaDoorMSp
import Derived.Test.YthnfjbnebfjjfaaDoorMPb
import Derived.Deep.Slices
import Derived.Test.YthnfjbnebfjjfaaDoorMLs
set_option linter.unusedVariables false
namespace Go.Proofs.YthnfjbnebfjjfaaDoor.Laid
open Go Go.ChangeShapes Go.WideShapes Go.RowKit Go.Proofs.YthnfjbnebfjjfaaDoorW.PrintWords Go.Proofs.YthnfjbnebfjjfaaDoor.Bits Sha ShaW Pack
section
variable {H : Type} {enc : TypeId × Value → H} {w : World} {base : Nat} {sp : Nat → Bool} {held : Bool}
/-- a row of elements that lie flat -/
theorem open_rows {α : Type} {ts e : TypeId} {sz fuel : Nat} {cs : List Value} {x : DataW H × List MemPlace} (R : α → List Value → Prop) (hu : Tryd.prog.underlying ts = some (.slice e)) (hc : Tryd.prog.cellsOf e = sz)
    (hcell : ∀ (f : Nat) (l : List Value) (y : DataW H × List MemPlace), DataW.trod enc Tryd.prog w base sp held f e l = some y → ∃ a, R a l) (hf : DataW.trod enc Tryd.prog w base sp held fuel ts cs = some x) :
    ∃ (L : List α) (a : Option Addr) (cap : Nat), cs = [.slice a L.length cap] ∧ L.length ≤ cap ∧ ReadsRow R sz w a L.length L := by
  rcases Deep.open_slice hu hf with ⟨hcs, _⟩ | ⟨ad, l, c, m, n, D, Pl, hcs, _, hl, hm, hmm, _, hx⟩
  · exact ⟨[], none, 0, hcs, Nat.le_refl _, ⟨rfl, Nat.zero_le _, fun h => absurd h (Nat.lt_irrefl _)⟩⟩
  · have hlm : l ≤ m := by rw [hmm]; split <;> omega
    rcases Nat.eq_zero_or_pos l with h0 | h0
    · subst h0
      exact ⟨[], some ad, c, hcs, Nat.zero_le _, ⟨rfl, Nat.zero_le _, fun h => absurd h (Nat.lt_irrefl _)⟩⟩
    obtain ⟨cs0, h1, h2⟩ := hx 0 (by omega)
    obtain ⟨a0, _⟩ := hcell _ _ _ h2
    haveI : Inhabited α := ⟨a0⟩
    obtain ⟨Z, hZ⟩ := Deep.choose_lt (α := α) (n := m) (p := fun i a => ∃ c, c.length = sz ∧ R a c ∧ ∀ (j : Nat) (u : Value), c[j]? = some u → w.cell? (ad.add (i * sz + j)) = some u) (fun i hi => by
      obtain ⟨cs', h1, h2⟩ := hx i hi
      rw [hc] at h1
      obtain ⟨_, hlen, hce⟩ := World.cells?_some h1
      obtain ⟨a, ha⟩ := hcell _ _ _ h2
      refine ⟨a, cs', hlen, ha, fun j u hu => ?_⟩
      have e0 := hce j (by have := (List.getElem?_eq_some_iff.1 hu).1; omega)
      rw [Deep.add_add] at e0
      rw [e0]; exact hu)
    have hlen : ((List.range l).map Z).length = l := by simp
    refine ⟨(List.range l).map Z, some ad, c, by rw [hlen]; exact hcs, by rw [hlen]; exact hl, ⟨rfl, by rw [hlen]; unfold maxLen at hm; omega, fun _ => ⟨ad, rfl, fun i p hi => ?_⟩⟩⟩
    have hil : i < l := by have := (List.getElem?_eq_some_iff.1 hi).1; simpa using this
    simp [List.getElem?_map, List.getElem?_range hil] at hi
    subst hi
    exact hZ i (by omega)
theorem open_spends {fuel : Nat} {cs : List Value} {x : DataW H × List MemPlace} (hf : DataW.trod enc Tryd.prog w base sp held fuel 35 cs = some x) :
    ∃ (L : List Sp) (a : Option Addr) (cap : Nat), cs = [.slice a L.length cap] ∧ L.length ≤ cap ∧ SpR0 w a L.length L :=
  open_rows _ Tryd.underlying35 cSpend (fun f l y h => by
    obtain ⟨s, h1, h2, h3, h4, h5, h6⟩ := cells_spend h
    exact ⟨s, ⟨h1, h2, (wf_u64 h5).1, (wf_u64 h5).2, by unfold maxLen at h4; omega⟩, h6⟩) hf
theorem open_coins {fuel : Nat} {cs : List Value} {x : DataW H × List MemPlace} (hf : DataW.trod enc Tryd.prog w base sp held fuel 36 cs = some x) :
    ∃ (L : List Co) (a : Option Addr) (cap : Nat), cs = [.slice a L.length cap] ∧ L.length ≤ cap ∧ CoR w a L.length L :=
  open_rows _ Tryd.underlying36 cCoin (fun f l y h => by
    obtain ⟨c, h1, h2, h3⟩ := cells_coin h
    exact ⟨c, wf_u64 h2, h3⟩) hf
theorem cSpends : Tryd.prog.cellsOf 35 = 1 := by kernel_rfl
theorem cCoins : Tryd.prog.cellsOf 36 = 1 := by kernel_rfl
theorem cBool : Tryd.prog.cellsOf 4 = 1 := by kernel_rfl
theorem cTx : Tryd.prog.cellsOf 38 = 3 := by kernel_rfl
theorem cells_tx {fuel : Nat} {cs : List Value} {y : DataW H × List MemPlace} (hf : DataW.trod enc Tryd.prog w base sp held fuel 38 cs = some y) :
    ∃ (t : Tr) (A1 A2 : Option Addr) (c1 c2 : Nat), cs = trc t A1 A2 c1 c2 ∧ SpR0 w A1 t.sp.length t.sp ∧ CoR w A2 t.co.length t.co ∧ t.sp.length ≤ c1 ∧ t.co.length ≤ c2 := by
  obtain ⟨y0, y1, y2, m, _, hl, h0, h1, h2⟩ := Go.Deep.trod_struct3 Tryd.underlying38 hf
  rw [cTx] at hl
  simp only [cSpends, cCoins, cBool, List.drop_zero] at h0 h1 h2
  obtain ⟨L, A1, c1, e0, k1, hL⟩ := open_spends h0
  obtain ⟨M, A2, c2, e1, k2, hM⟩ := open_coins h1
  obtain ⟨b, e2, _⟩ := DataW.trod_bool Tryd.underlying4 h2
  refine ⟨⟨L, M, b⟩, A1, A2, c1, c2, ?_, hL, hM, k1, k2⟩
  have d2 := take_one e2 (by rw [List.length_drop]; omega)
  have d1 : cs.drop 1 = .slice A2 M.length c2 :: cs.drop 2 := by
    have := List.take_append_drop 1 (cs.drop 1)
    rw [e1, List.drop_drop] at this
    exact this.symm
  have := List.take_append_drop 1 cs
  rw [e0, d1, d2] at this
  rw [← this]; rfl
end
end Go.Proofs.YthnfjbnebfjjfaaDoor.Laid
/- A parameter []string opened as a row of keys. -/
set_option linter.unusedVariables false
namespace Go.Proofs.YthnfjbnebfjjfaaDoor.Laid
open Go Go.ChangeShapes Go.WideShapes Go.RowKit Go.Proofs.YthnfjbnebfjjfaaDoorW.PrintWords Go.Proofs.YthnfjbnebfjjfaaDoor.Bits Sha ShaW Pack
section
variable {H : Type} {enc : TypeId × Value → H} {w : World} {base : Nat} {sp : Nat → Bool} {held : Bool}
theorem open_keys {fuel : Nat} {cs : List Value} {x : DataW H × List MemPlace} (hf : DataW.trod enc Tryd.prog w base sp held fuel 46 cs = some x) :
    ∃ (L : List ByteArray) (a : Option Addr) (cap : Nat), cs = [.slice a L.length cap] ∧ L.length ≤ cap ∧ StR w a L.length L := by
  rcases Go.Deep.open_strs Tryd.underlying46 Tryd.underlying9 cStr hf with ⟨hcs, _⟩ | ⟨ad, l, c, m, Sx, hcs, _, hl, hm, hmm, _, hx⟩
  · exact ⟨[], none, 0, hcs, Nat.le_refl _, ⟨rfl, Nat.zero_le _, fun h => absurd h (Nat.lt_irrefl _)⟩⟩
  · have hlm : l ≤ m := by rw [hmm]; split <;> omega
    have hlen : ((List.range l).map Sx).length = l := by simp
    refine ⟨(List.range l).map Sx, some ad, c, by rw [hlen]; exact hcs, by rw [hlen]; exact hl, ⟨rfl, by rw [hlen]; unfold maxLen at hm; omega, fun _ => ⟨ad, rfl, fun i p hi => ?_⟩⟩⟩
    have hil : i < l := by have := (List.getElem?_eq_some_iff.1 hi).1; simpa using this
    simp [List.getElem?_map, List.getElem?_range hil] at hi
    subst hi
    refine ⟨[.string (Sx i)], rfl, rfl, fun j u hu => ?_⟩
    cases j with
    | zero => simp at hu; subst hu; simpa using (hx i (by omega)).1
    | succ j => simp at hu
end
end Go.Proofs.YthnfjbnebfjjfaaDoor.Laid
/- How any transaction is signed.
   Conditions: none. -/
set_option linter.unusedVariables false
set_option linter.unusedSimpArgs false
namespace Go.Proofs.YthnfjbnebfjjfaaDoor.Walk
open Go.RowKit Go.Proofs.YthnfjbnebfjjfaaDoorW.PrintWords Go.Proofs.YthnfjbnebfjjfaaDoorW.PrintMore Go.Proofs.YthnfjbnebfjjfaaDoor Go.Proofs.YthnfjbnebfjjfaaDoor.Bits Sha ArrK ShaW Pack
open Go.Proofs.YthnfjbnebfjjfaaDoor.InRound (op_at)
theorem cns_take (ks : List ByteArray) (k : Nat) (key : ByteArray) (h : ks[k]? = some key) : (cns ks).take (k + 1) = (cns ks).take k ++ [⟨0, lk key⟩] := by
  have hz : (cns ks)[k]? = some ⟨0, lk key⟩ := by unfold cns; rw [List.getElem?_map, h]; rfl
  have hzl := (List.getElem?_eq_some_iff.1 hz)
  rw [List.take_succ_eq_append_getElem hzl.1, hzl.2]
theorem cut_at {P : Program} {c : Code} {a : Act} {W : World} {Q : Exit → Act → World → Prop} (F : Act → Exit → Act → World → Prop) (h1 : Code.wp P c (F a) a W) (h2 : ∀ e a' W', F a e a' W' → Q e a' W') : Code.wp P c Q a W := Code.wp_mono h2 h1
theorem grown_none {w w' : World} (h : w.grownBy w' none) : Below w.heap.size w w' := ⟨h.os, h.tape, h.output, h.size, fun i hi => h.block i hi (by simp)⟩
def kSt : Kd ByteArray := flat 1 (fun s cs => cs = [Value.string s]) (fun s cs h => by rw [h]; rfl) (fun s cs h => by rw [h]; intro u hu; simp at hu; subst hu; rfl)
theorem info_st : (Tryd.prog.info? 9).map (fun i => (i.zero, i.size, i.bytes)) = some (some (.string ByteArray.empty), kSt.sz, 16) := by kernel_rfl
theorem wpList_load_w {P : Program} {ops : Array Oper} {rest : List Oper} {op : Oper} {a : Act} {w : World} {Q : Exit → Act → World → Prop} (hw : Region.wanted op (yielded ops a.tmps) = true) (ty : TypeId) (x : Operand) (ho : op.op = .load ty x)
    (B t : Nat) (hx : a.eval x = .pointer (some ⟨B, 0, none⟩)) (cs : List Value) (d : TypeDesc) (hB : Blk w B t cs)
    (hu : P.underlying ty = some d) (hd : d.isRow = true) (hi : (P.info? ty).map (·.size) = some cs.length)
    (h : wpList P ops Q rest (a.put op.dst (.agg cs.toArray)) w) : wpList P ops Q (op :: rest) a w :=
  wpList_step fun K hK => by
    rw [if_pos hw]
    unfold Oper.wp execOp
    simp only [ho, hx, Sem.run_bind, Sem.run_pure, Result.andThen_ok, run_loadAt_any w ⟨B, 0, none⟩ ty cs d hB.add hu hd hi]
    exact hK _ _ h
theorem lk_range (k : ByteArray) : 0 ≤ lk k ∧ lk k < 18446744073709551616 := w64_range _ (Bytes.sum _) (sum_length _)
set_option maxRecDepth 100000 in
set_option maxHeartbeats 12800000 in
theorem LockSigns (t : Tr) (A1 A2 A3 : Option Addr) (c1 c2 c3 : Nat) (ks : List ByteArray) (w : World) (hK : Kst w) (hBg : Bst w) (hK7 : Rst w) (hS : SpR0 w A1 t.sp.length t.sp) (hC : CoR w A2 t.co.length t.co) (hS3 : StR w A3 ks.length ks) :
    Calls Tryd.prog 5 #[trv t A1 A2 c1 c2, .slice A3 ks.length c3] w fun e w' => e = .returned (.bool true) ∧ Below w.heap.size w w' := by
  obtain ⟨V, hV⟩ : ∃ V, V = w.alloc (.cells (trc t A1 A2 c1 c2).toArray 38) := ⟨_, rfl⟩
  have hX : Blk V w.heap.size 38 (trc t A1 A2 c1 c2) := by rw [hV]; exact Blk.new w _ _
  have hB : Below w.heap.size w V := by rw [hV]; exact below_alloc (Below.refl _ _) _
  have hAl := alive11_calls V (hK.below hB) (hBg.below hB)
  have hVA := Aside0.mk hV; have hXA := Aside0.mk hX; have hBA := Aside0.mk hB; have hAlA := Aside0.mk hAl; have hiA := Aside0.mk (info_tx t A1 A2 c1 c2); have hKA := Aside0.mk hK; have hBgA := Aside0.mk hBg; have hK7A := Aside0.mk hK7; have hSA := Aside0.mk hS; have hCA := Aside0.mk hC; have hS3A := Aside0.mk hS3
  clear hV hX hB hAl hK hBg hK7 hS hC hS3
  generalize hlg : large t = g
  have hlA := Aside0.mk hlg
  clear hlg
  have hLgA := Aside0.mk (fun (W1 : World) (hW : Below w.heap.size w W1) => large_calls (W1.alloc (.cells (trc t A1 A2 c1 c2).toArray 38)) W1.heap.size (Blk.new W1 _ _) (hSA.out.imp_ (below_alloc hW _) (fun _ _ h => h)))
  cases g
  · obtain ⟨l1, l2, l3⟩ := large_no hlA.out
    by_cases q : 40 < ks.length
    · have p : (40 : Int) < (ks.length : Int) := by omega
      go_enter Tryd.func5, Tryd.ntmps5
      go_wp2_with (first | (go_at_call 6; (rw [show (w.alloc (.cells #[.slice A1 t.sp.length c1, .slice A2 t.co.length c2, .bool t.firm] 38)) = V from hVA.out.symm]; (with_reducible refine hAlA.out.mono ?_); rintro e w1 ⟨rfl, hb1⟩; have hXtA := Aside0.mk (hXA.out.below hb1); have hb1A := Aside0.mk (below_then hBA.out hBA.out.size hb1); clear hb1)) | ((with_reducible refine gate_dst (N := 15) rfl ?_); (refine wpList_load_blk rfl 38 (.tmp 2) rfl w.heap.size 38 rfl (trc t A1 A2 c1 c2) _ hXtA.out Tryd.underlying38 rfl hiA.out ?_)) | (go_at_call 13; ((with_reducible refine (hLgA.out _ hb1A.out).mono ?_); rintro e w3 ⟨rfl, hb3⟩; rw [hlA.out]; have hX3A := Aside0.mk (hXtA.out.below ((below_alloc (Below.refl _ _) _).trans (hb3.mono (by simp)))); have hb3A := Aside0.mk (below_then hb1A.out hb1A.out.size ((below_alloc (Below.refl _ _) _).trans (hb3.mono (by simp)))); clear hb3)))
      go_ret
      exact ⟨rfl, hb3A.out⟩
    · have p : ¬ (40 : Int) < (ks.length : Int) := by omega
      have hTrA := Aside0.mk (show TrOk w t A1 A2 c1 c2 from ⟨hSA.out.small l3, hCA.out, by omega, by omega⟩)
      have hKeyA := Aside0.mk (fun (W : World) (hW : Below w.heap.size w W) (k : Nat) (key : ByteArray) (hk : ks[k]? = some key) => row_at (hS3A.out.imp_ hW (fun _ _ h => h)) k key hk)
      have hLkA := Aside0.mk (fun (key : ByteArray) (hk : key.size ≤ 1000000) (W : World) (hW : Below w.heap.size w W) => lock_calls key hk W (hKA.out.below hW) (hBgA.out.below hW))
      go_enter Tryd.func5, Tryd.ntmps5
      go_wp2_with (first | (go_at_call 6; (rw [show (w.alloc (.cells #[.slice A1 t.sp.length c1, .slice A2 t.co.length c2, .bool t.firm] 38)) = V from hVA.out.symm]; (with_reducible refine hAlA.out.mono ?_); rintro e w1 ⟨rfl, hb1⟩; have hXtA := Aside0.mk (hXA.out.below hb1); have hb1A := Aside0.mk (below_then hBA.out hBA.out.size hb1); clear hb1)) | ((with_reducible refine gate_dst (N := 15) rfl ?_); (refine wpList_load_blk rfl 38 (.tmp 2) rfl w.heap.size 38 rfl (trc t A1 A2 c1 c2) _ hXtA.out Tryd.underlying38 rfl hiA.out ?_)) | (go_at_call 13; ((with_reducible refine (hLgA.out _ hb1A.out).mono ?_); rintro e w3 ⟨rfl, hb3⟩; rw [hlA.out]; have hX3A := Aside0.mk (hXtA.out.below ((below_alloc (Below.refl _ _) _).trans (hb3.mono (by simp)))); have hb3A := Aside0.mk (below_then hb1A.out hb1A.out.size ((below_alloc (Below.refl _ _) _).trans (hb3.mono (by simp)))); clear hb3)) | ((with_reducible refine gate_dst (N := 23) rfl ?_); (refine Kd.R_lit kCo (w0 := w) w.heap.size 30 rfl (N := 23) rfl (xs := ([] : List Co)) (inner := []) (ok := fun _ => True) (okp := fun _ => True) ?hr (Reps.none _ _) (fun _ hk => hk) trivial hb3A.out hb3A.out.size (by simp) ?_; (case hr => first | (go_simp; done) | (go_simp; rfl)); intro v4 w4 hR4 hB4 hg4 _; have hX4 := hX3A.out.grown hg4 (fun e => by cases e); have hX4A := Aside0.mk hX4; have hR4A := Aside0.mk hR4; have hB4A := Aside0.mk hB4; clear hR4 hB4 hX4 hg4)))
      go_loopw [5, 26] (fun l i wr => ∃ k : Nat, k ≤ ks.length ∧ i = .int .i64 (k : Int) ∧ RCo w.heap.size wr l ((cns ks).take k) ∧ (∀ j key, j < k → ks[j]? = some key → key.size ≤ 300) ∧ Blk wr w.heap.size 38 (trc t A1 A2 c1 c2) ∧ Below w.heap.size w wr) (fun _ i _ => ks.length - (intOf i).toNat)
      case atStart => exact ⟨0, by omega, rfl, hR4A.out, fun j key h => absurd h (by omega), hX4A.out, hB4A.out⟩
      case round =>
        clear hX4A hR4A hB4A hX3A hb3A hb1A hXtA
        obtain ⟨k, hk, rfl, RC, hsm, XX, BB⟩ := hrel
        have e2 : IntKind.i64.wrap ((k : Int) + 1) = (k : Int) + 1 := IntWalk.i64_in _ (by omega)
        by_cases hlt : k < ks.length
        · obtain ⟨key, hkey⟩ : ∃ c, ks[k]? = some c := ⟨_, List.getElem?_eq_getElem hlt⟩
          obtain ⟨ad3, cc3, rfl, rfl, -, hc3⟩ := hKeyA.out wr BB k key hkey
          have hc3 : wr.cell? (ad3.add k) = some (.string key) := by have := hc3 0 _ rfl; rwa [Deep.add_add, Nat.mul_one, Nat.add_zero] at this
          have p0 : (0 : Int) ≤ (k : Int) := by omega
          have p1 : (k : Int) < (ks.length : Int) := by omega
          have hcll : ((cns ks).take k).length ≤ 40 := by rw [List.length_take]; omega
          have htk := cns_take ks k key hkey
          have hRCA := Aside0.mk RC; have hsmA := Aside0.mk hsm; have hXXA := Aside0.mk XX; have hBBA := Aside0.mk BB; have hkeyA := Aside0.mk hkey; have hltA := Aside0.mk hlt; have hcllA := Aside0.mk hcll; have htkA := Aside0.mk htk
          clear RC hsm XX BB hkey hlt hcll htk
          by_cases hz : 300 < key.size
          · have p3 : (300 : Int) < (key.size : Int) := by omega
            go_wp2_with fail
            go_ret
            exact ⟨rfl, hBBA.out⟩
          · have p3 : ¬ (300 : Int) < (key.size : Int) := by omega
            have hzA := Aside0.mk hz
            have hCoA := Aside0.mk (show CoOk ⟨0, lk key⟩ from lk_range key)
            clear hz
            go_wp2_with (first | (go_at_call 7; ((with_reducible refine (hLkA.out key (by have := hzA.out; omega) _ hBBA.out).mono ?_); rintro e w5 ⟨rfl, hb5⟩; have hR5A := Aside0.mk (Kd.R_below hRCA.out hb5); have hX5A := Aside0.mk (hXXA.out.below hb5); have hb5A := Aside0.mk (below_then hBBA.out hBBA.out.size hb5); clear hb5 hc3)) | ((with_reducible refine gate_dst (N := 38) rfl ?_); at_builtin; (refine Kd.R_append kCo (w0 := w) w.heap.size rfl (.tmp 33) (.tmp 37) 36 30 (cov ⟨0, 0⟩) 16 rfl Tryd.underlying36 info_co rfl (by decide) (by omega) _ ((cns ks).take k) ⟨0, lk key⟩ (coc ⟨0, lk key⟩) (fun _ => True) (fun _ => False) rfl rfl ⟨hCoA.out, rfl⟩ (fun _ hk => hk.elim) (fun k hk => trivial) hR5A.out hb5A.out hb5A.out.size (by have := hcllA.out; omega) ?_; intro v6 w6 hR6 hB6 hg6 _; rw [← htkA.out] at hR6; have hX6A := Aside0.mk (hX5A.out.grown hg6 (Kd.R_ne hR5A.out hX5A.out (by decide))); have hR6A := Aside0.mk hR6; have hB6A := Aside0.mk hB6; clear hR6 hB6 hg6)))
            go_roundw
            · refine ⟨k + 1, by have := hltA.out; omega, by go_num, hR6A.out, fun j key' hj hk' => ?_, hX6A.out, hB6A.out⟩
              by_cases e : j = k
              · subst e
                have := hkeyA.out.symm.trans hk'
                cases this
                have := hzA.out; omega
              · exact hsmA.out j key' (by omega) hk'
            · have := hltA.out; simp [intOf]; omega
        · obtain rfl : k = ks.length := by omega
          have p1 : ¬ (ks.length : Int) < (ks.length : Int) := by omega
          have hcl : (cns ks).length = ks.length := by unfold cns; rw [List.length_map]
          rw [List.take_of_length_le (by rw [hcl]; exact Nat.le_refl _)] at RC
          have hle : ∀ key ∈ ks, key.size ≤ 300 := fun key hm => by
            obtain ⟨j, hj⟩ := List.mem_iff_getElem?.1 hm
            exact hsm j key (List.getElem?_eq_some_iff.1 hj).1 hj
          obtain ⟨E5, k5, hv⟩ := Kd.R_slice RC
          rw [hcl] at hv
          subst hv
          have hleA := Aside0.mk hle; have hRCA := Aside0.mk RC; have hXXA := Aside0.mk XX; have hBBA := Aside0.mk BB; have hclA := Aside0.mk hcl
          have hCpA := Aside0.mk (fun (W : World) (hW : Below w.heap.size w W) => copy_calls W (hSA.out.imp_ hW (fun _ _ h => h)) (hCA.out.imp_ hW (fun _ _ h => h)) (c1 := c1) (c2 := c2) (by omega) (by omega))
          have hi3A := Aside0.mk info_tx3
          clear hle RC hsm XX BB hcl
          go_wp2_with (first | ((with_reducible refine gate_dst (N := 40) rfl ?_); (refine wpList_load_blk rfl 38 (.tmp 2) rfl w.heap.size 38 rfl (trc t A1 A2 c1 c2) _ hXXA.out Tryd.underlying38 rfl hiA.out ?_)) | (go_at_call 17; ((with_reducible refine (hCpA.out _ hBBA.out).mono ?_); rintro e w7 ⟨⟨u1, u2, rfl, hR1, hR2⟩, hb7⟩; obtain ⟨B1, m1, hv1⟩ := Kd.R_slice hR1; obtain ⟨B2, m2, hv2⟩ := Kd.R_slice hR2; subst hv1; subst hv2; have hb7A := Aside0.mk (below_then hBBA.out hBBA.out.size hb7); have hX7A := Aside0.mk (hXXA.out.below hb7); have hRC7A := Aside0.mk (Kd.R_below hRCA.out hb7); have hR1A := Aside0.mk (Kd.R_lower hR1 hBBA.out.size); have hR2A := Aside0.mk (Kd.R_lower hR2 hBBA.out.size); clear hb7 hR1 hR2)) | ((with_reducible refine gate_dst (N := 8) rfl ?_); (refine wpList_new_put rfl (N := 8) rfl rfl 38 (.tmp 41) rfl [.slice B1 t.sp.length m1, .slice B2 t.co.length m2, .bool t.firm] [.slice none 0 0, .slice none 0 0, .bool false] rfl ?hr rfl rfl (hi3A.out _ _ _) (by intro u hu; simp at hu; rcases hu with rfl | rfl | rfl <;> rfl) ?_; (case hr => first | (go_simp; done) | (go_simp; rfl)); intro w8 hO8 hb8 hs8; have hO8A := Aside0.mk hO8; have hX8A := Aside0.mk (hX7A.out.below hb8); have hRC8A := Aside0.mk (Kd.R_below hRC7A.out hb8); have hR3A := Aside0.mk (Kd.R_below hR1A.out hb8); have hR4A := Aside0.mk (Kd.R_below hR2A.out hb8); have hb8A := Aside0.mk (below_then hb7A.out hb7A.out.size hb8); clear hO8 hb8 hs8)))
          obtain ⟨O, hO⟩ : ∃ O, O = w7.heap.size := ⟨_, rfl⟩
          rw [← hO]
          rw [← hO] at hO8A
          clear hO hR1A hR2A hb7A hX7A hRC7A hXXA hRCA
          have hSgA := Aside0.mk (fun (W : World) (hW : Below w8.heap.size w8 W) (A : Option Addr) (c : Nat) (hs : StR W A ks.length ks) => sign_calls (t := t) (A1 := B1) (A2 := B2) (A3 := A) (c1 := m1) (c2 := m2) (c3 := c) W ⟨(SpR0.small (Kd.R_reads' (Kd.R_below hR3A.out hW)).2.2 l3), (Kd.R_reads' (Kd.R_below hR4A.out hW)).2.2, by omega, by omega⟩ ks (fun k hk => by have := hleA.out k hk; omega) hs (hKA.out.below (below_then hb8A.out hb8A.out.size hW)) (hBgA.out.below (below_then hb8A.out hb8A.out.size hW)))
          simp only [Act.put, List.setIfInBounds_toArray, List.set_cons_zero, List.set_cons_succ]
          refine cut_at (fun a0 e a' W' => e = .normal ∧ ∃ (B9 : Nat) (v1 v2 v44 v46 : Value), a' = ((((((((((a0.put (some 43) (.agg #[.slice B1 t.sp.length m1, .slice B2 t.co.length m2, .bool t.firm])).put (some 44) v44).put (some 45) (.slice A3 ks.length c3)).put (some 46) v46).put (some 47) (.tuple #[.agg #[v1, v2, .bool (sres t ks).firm], errv (ern t ks)])).put (some 42) (.tuple #[.agg #[v1, v2, .bool (sres t ks).firm], errv (ern t ks)])).put (some 48) (.agg #[v1, v2, .bool (sres t ks).firm])).put (some 49) (errv (ern t ks))).put (some 9) (.pointer (some ⟨B9, 0, none⟩))).put (some 10) (errv (ern t ks))) ∧ Blk W' B9 38 [v1, v2, .bool (sres t ks).firm] ∧ RSp w8.heap.size W' v1 (sres t ks).sp ∧ RCo w8.heap.size W' v2 (sres t ks).co ∧ Below w8.heap.size w8 W' ∧ w8.heap.size ≤ B9) ?_ ?_
          · refine wp_region_noPanic ?_
            have H0 : Below w8.heap.size w8 w8.drew := pw_below_drewN (Below.refl _ _) 1
            refine wp_region_held_drew (S := fun V1 => Below w8.heap.size w8 V1) (by kernel_rfl) H0 (fun _ => ?_)
            generalize w8.drew = V0 at *
            -- REGION A
            refine wpAnyH_take (i := 0) (v := .agg #[.slice B1 t.sp.length m1, .slice B2 t.co.length m2, .bool t.firm]) (op_at rfl) (by kernel_rfl) (by kernel_rfl) (by kernel_rfl) (fun _ _ _ h => h) (yieldsIf_load_any (by rfl) _ _ rfl ⟨O, 0, none⟩ rfl _ _ (fun w_ hSw => (hO8A.out.below hSw).add) Tryd.underlying38 rfl (hi3A.out _ _ _)) H0 ?_
            try simp only [Act.put, List.setIfInBounds_toArray, List.set_cons_zero, List.set_cons_succ]
            refine wpAnyH_take (i := 2) (v := .slice A3 ks.length c3) (op_at rfl) (by kernel_rfl) (by kernel_rfl) (by kernel_rfl) (fun _ _ _ h => h) (Or.inl ⟨by rfl, fun w_ hSw => ?_⟩) H0 ?_
            · skip; go_simp
            try simp only [Act.put, List.setIfInBounds_toArray, List.set_cons_zero, List.set_cons_succ]
            refine wpAnyH_ready (rs := [1, 8]) (by kernel_rfl) (by simp) ?_
            refine AllReadyH.cons (op_at rfl) (fun K hK => ?_) (AllReadyH.cons (op_at rfl) (fun K hK => ?_) AllReadyH.nil)
            · refine Kd.R_lit_step kSt (w0 := w8) w8.heap.size 9 (by rfl) (N := 44) rfl (xs := ([] : List ByteArray)) (inner := []) (ok := fun _ => True) (okp := fun _ => True) (by first | (go_simp; done) | (go_simp; rfl)) (Reps.none _ _) (fun _ hk => hk) trivial H0 H0.size (by simp) ?_
              intro v44_1 V1_ hR_ hB_ hg_ _
              have hb_ := grown_none hg_
              refine hK.out _ _ hB_ (fun H1_ => ?_)
              have RK_1 := Aside0.mk hR_
              clear hK K hB_ hg_ hR_ hb_
              try simp only [Act.put, List.setIfInBounds_toArray, List.set_cons_zero, List.set_cons_succ]
              refine wpAnyH_ready (rs := [3, 8]) (by kernel_rfl) (by simp) ?_
              refine AllReadyH.cons (op_at rfl) (fun K hK => ?_) (AllReadyH.cons (op_at rfl) (fun K hK => ?_) AllReadyH.nil)
              · refine Kd.R_append_rows_step kSt (w0 := w8) w8.heap.size (by rfl) (.tmp 44) (.tmp 45) 46 9 (.string ByteArray.empty) 16 rfl Tryd.underlying46 info_st rfl (by decide) (by decide) v44_1 [] ks A3 ks.length c3 (fun _ => True) (fun _ => False) rfl rfl RK_1.out (hS3A.out.imp_ (below_then hb8A.out hb8A.out.size H1_) (fun _ _ h => h)) (fun _ _ h => h) (fun _ h => h.elim) (fun _ _ => trivial) H1_ H1_.size (by simp; omega) ?_
                intro v46_2 V2_ hR_ hB_ hg_ _
                refine hK.out _ _ hB_ (fun H2_ => ?_)
                rw [List.nil_append] at hR_
                obtain ⟨A46_2, c46_2, hv_, -, hr_⟩ := Kd.R_reads hR_
                subst hv_
                have SK_2 : Aside0 (StR V2_ A46_2 ks.length ks) := Aside0.mk hr_
                clear hK K hB_ hg_ hR_ hr_
                try simp only [Act.put, List.setIfInBounds_toArray, List.set_cons_zero, List.set_cons_succ]
                refine wpAnyH_ready (rs := [4, 8]) (by kernel_rfl) (by simp) ?_
                refine AllReadyH.cons (op_at rfl) (fun K hK => ?_) (AllReadyH.cons (op_at rfl) (fun K hK => ?_) AllReadyH.nil)
                · go_simp
                  go_at_call 18
                  with_reducible refine (hSgA.out V2_ H2_ A46_2 c46_2 SK_2.out).mono ?_
                  rintro e V3_ ⟨⟨v1_3, v2_3, rfl, hR1_, hR2_⟩, hb_⟩
                  go_wp2_with fail
                  refine hK.out _ _ (below_then H2_ H2_.size hb_) (fun H3_ => ?_)
                  have SK_3 := Aside0.mk (ReadsRow.imp_ SK_2.out hb_ (fun _ _ h => h))
                  have RS_3 := Aside0.mk (Kd.R_lower hR1_ H2_.size)
                  have RC_3 := Aside0.mk (Kd.R_lower hR2_ H2_.size)
                  clear hK K hb_ hR1_ hR2_
                  try simp only [Act.put, List.setIfInBounds_toArray, List.set_cons_zero, List.set_cons_succ]
                  refine wpAnyH_take (i := 5) (v := .tuple #[.agg #[v1_3, v2_3, .bool (sres t ks).firm], errv (ern t ks)]) (op_at rfl) (by kernel_rfl) (by kernel_rfl) (by kernel_rfl) (fun _ _ _ h => h) (Or.inl ⟨by rfl, fun w_ hSw => ?_⟩) H3_ ?_
                  · skip; go_simp
                  try simp only [Act.put, List.setIfInBounds_toArray, List.set_cons_zero, List.set_cons_succ]
                  refine wpAnyH_take (i := 6) (v := .agg #[v1_3, v2_3, .bool (sres t ks).firm]) (op_at rfl) (by kernel_rfl) (by kernel_rfl) (by kernel_rfl) (fun _ _ _ h => h) (Or.inl ⟨by rfl, fun w_ hSw => ?_⟩) H3_ ?_
                  · skip; go_simp
                  try simp only [Act.put, List.setIfInBounds_toArray, List.set_cons_zero, List.set_cons_succ]
                  refine wpAnyH_take (i := 7) (v := errv (ern t ks)) (op_at rfl) (by kernel_rfl) (by kernel_rfl) (by kernel_rfl) (fun _ _ _ h => h) (Or.inl ⟨by rfl, fun w_ hSw => ?_⟩) H3_ ?_
                  · skip; go_simp
                  try simp only [Act.put, List.setIfInBounds_toArray, List.set_cons_zero, List.set_cons_succ]
                  refine wpAnyH_ready (rs := [8]) (by kernel_rfl) (by simp) ?_
                  refine AllReadyH.cons (op_at rfl) (fun K hK => ?_) AllReadyH.nil
                  refine box_step (by rfl) (N := 9) rfl (cs := #[.slice none 0 0, .slice none 0 0, .bool false]) (t := 38) (by first | (go_simp; done) | (go_simp; rfl)) ?_
                  intro bz_4 hbz_ V4_ hz_ hb_
                  refine hK.out _ _ (below_then H3_ H3_.size hb_) (fun H4_ => ?_)
                  have SK_4 := Aside0.mk (ReadsRow.imp_ SK_3.out hb_ (fun _ _ h => h))
                  have RS_4 := Aside0.mk (Kd.R_below RS_3.out hb_)
                  have RC_4 := Aside0.mk (Kd.R_below RC_3.out hb_)
                  have ZZ_4 : Blk V4_ bz_4 38 [.slice none 0 0, .slice none 0 0, .bool false] := hz_
                  have hz9_4 : w8.heap.size ≤ bz_4 := by rw [hbz_]; exact H3_.size
                  clear hK K hb_ hz_ hbz_
                  try simp only [Act.put, List.setIfInBounds_toArray, List.set_cons_zero, List.set_cons_succ]
                  refine wpAnyH_ready (rs := [9]) (by kernel_rfl) (by simp) ?_
                  refine AllReadyH.cons (op_at rfl) (fun K hK => ?_) AllReadyH.nil
                  refine step_put_blk (by rfl) 38 (.tmp 9) (.tmp 48) rfl bz_4 38 [v1_3, v2_3, .bool (sres t ks).firm] [.slice none 0 0, .slice none 0 0, .bool false] rfl rfl rfl ZZ_4 (hi3A.out _ _ _) (by have h1_ := Kd.R_slice RS_4.out; have h2_ := Kd.R_slice RC_4.out; obtain ⟨_, _, h1_⟩ := h1_; obtain ⟨_, _, h2_⟩ := h2_; rw [h1_, h2_]; intro u hu; simp at hu; rcases hu with rfl | rfl | rfl <;> rfl) ?_
                  intro V5_ hz_ hg_ hs_
                  refine hK.out _ _ (H4_.grown hg_ H4_.size (fun k e => by have := Option.some.inj e; have := hz9_4; omega)) (fun H5_ => ?_)
                  have ZZ_5 := hz_
                  have RS_5 := Aside0.mk (Kd.R_mono (Kd.R_grown (Kd.R_types RS_4.out ZZ_4 (by decide)) hg_ (fun k hk e => hk.2 (Option.some.inj e))) (fun _ _ => trivial) : RSp w8.heap.size _ _ _)
                  have RC_5 := Aside0.mk (Kd.R_mono (Kd.R_grown (Kd.R_types RC_4.out ZZ_4 (by decide)) hg_ (fun k hk e => hk.2 (Option.some.inj e))) (fun _ _ => trivial) : RCo w8.heap.size _ _ _)
                  clear hK K hg_ hs_ hz_
                  try simp only [Act.put, List.setIfInBounds_toArray, List.set_cons_zero, List.set_cons_succ]
                  refine wpAnyH_take (i := 10) (v := errv (ern t ks)) (op_at rfl) (by kernel_rfl) (by kernel_rfl) (by kernel_rfl) (fun _ _ _ h => h) (Or.inl ⟨by rfl, fun w_ hSw => ?_⟩) H5_ ?_
                  · skip; go_simp
                  try simp only [Act.put, List.setIfInBounds_toArray, List.set_cons_zero, List.set_cons_succ]
                  refine wpAnyH_done (by kernel_rfl) ?_ _
                  refine NoPanic.normal ?_
                  exact ⟨rfl, bz_4, v1_3, v2_3, v44_1, .slice A46_2 ks.length c46_2, by simp only [Act.put, List.setIfInBounds_toArray, List.set_cons_zero, List.set_cons_succ], ZZ_5, RS_5.out, RC_5.out, H5_, hz9_4⟩
                · refine box_step (by rfl) (N := 9) rfl (cs := #[.slice none 0 0, .slice none 0 0, .bool false]) (t := 38) (by first | (go_simp; done) | (go_simp; rfl)) ?_
                  intro bz_6 hbz_ V6_ hz_ hb_
                  refine hK.out _ _ (below_then H2_ H2_.size hb_) (fun H6_ => ?_)
                  have SK_6 := Aside0.mk (ReadsRow.imp_ SK_2.out hb_ (fun _ _ h => h))
                  have ZZ_6 : Blk V6_ bz_6 38 [.slice none 0 0, .slice none 0 0, .bool false] := hz_
                  have hz9_6 : w8.heap.size ≤ bz_6 := by rw [hbz_]; exact H2_.size
                  clear hK K hb_ hz_ hbz_
                  try simp only [Act.put, List.setIfInBounds_toArray, List.set_cons_zero, List.set_cons_succ]
                  refine wpAnyH_ready (rs := [4]) (by kernel_rfl) (by simp) ?_
                  refine AllReadyH.cons (op_at rfl) (fun K hK => ?_) AllReadyH.nil
                  go_simp
                  go_at_call 18
                  with_reducible refine (hSgA.out V6_ H6_ A46_2 c46_2 SK_6.out).mono ?_
                  rintro e V7_ ⟨⟨v1_7, v2_7, rfl, hR1_, hR2_⟩, hb_⟩
                  go_wp2_with fail
                  refine hK.out _ _ (below_then H6_ H6_.size hb_) (fun H7_ => ?_)
                  have SK_7 := Aside0.mk (ReadsRow.imp_ SK_6.out hb_ (fun _ _ h => h))
                  have ZZ_7 := ZZ_6.below hb_
                  have RS_7 := Aside0.mk (Kd.R_lower hR1_ H6_.size)
                  have RC_7 := Aside0.mk (Kd.R_lower hR2_ H6_.size)
                  clear hK K hb_ hR1_ hR2_
                  try simp only [Act.put, List.setIfInBounds_toArray, List.set_cons_zero, List.set_cons_succ]
                  refine wpAnyH_take (i := 5) (v := .tuple #[.agg #[v1_7, v2_7, .bool (sres t ks).firm], errv (ern t ks)]) (op_at rfl) (by kernel_rfl) (by kernel_rfl) (by kernel_rfl) (fun _ _ _ h => h) (Or.inl ⟨by rfl, fun w_ hSw => ?_⟩) H7_ ?_
                  · skip; go_simp
                  try simp only [Act.put, List.setIfInBounds_toArray, List.set_cons_zero, List.set_cons_succ]
                  refine wpAnyH_take (i := 6) (v := .agg #[v1_7, v2_7, .bool (sres t ks).firm]) (op_at rfl) (by kernel_rfl) (by kernel_rfl) (by kernel_rfl) (fun _ _ _ h => h) (Or.inl ⟨by rfl, fun w_ hSw => ?_⟩) H7_ ?_
                  · skip; go_simp
                  try simp only [Act.put, List.setIfInBounds_toArray, List.set_cons_zero, List.set_cons_succ]
                  refine wpAnyH_take (i := 7) (v := errv (ern t ks)) (op_at rfl) (by kernel_rfl) (by kernel_rfl) (by kernel_rfl) (fun _ _ _ h => h) (Or.inl ⟨by rfl, fun w_ hSw => ?_⟩) H7_ ?_
                  · skip; go_simp
                  try simp only [Act.put, List.setIfInBounds_toArray, List.set_cons_zero, List.set_cons_succ]
                  refine wpAnyH_ready (rs := [9]) (by kernel_rfl) (by simp) ?_
                  refine AllReadyH.cons (op_at rfl) (fun K hK => ?_) AllReadyH.nil
                  refine step_put_blk (by rfl) 38 (.tmp 9) (.tmp 48) rfl bz_6 38 [v1_7, v2_7, .bool (sres t ks).firm] [.slice none 0 0, .slice none 0 0, .bool false] rfl rfl rfl ZZ_7 (hi3A.out _ _ _) (by have h1_ := Kd.R_slice RS_7.out; have h2_ := Kd.R_slice RC_7.out; obtain ⟨_, _, h1_⟩ := h1_; obtain ⟨_, _, h2_⟩ := h2_; rw [h1_, h2_]; intro u hu; simp at hu; rcases hu with rfl | rfl | rfl <;> rfl) ?_
                  intro V8_ hz_ hg_ hs_
                  refine hK.out _ _ (H7_.grown hg_ H7_.size (fun k e => by have := Option.some.inj e; have := hz9_6; omega)) (fun H8_ => ?_)
                  have ZZ_8 := hz_
                  have RS_8 := Aside0.mk (Kd.R_mono (Kd.R_grown (Kd.R_types RS_7.out ZZ_7 (by decide)) hg_ (fun k hk e => hk.2 (Option.some.inj e))) (fun _ _ => trivial) : RSp w8.heap.size _ _ _)
                  have RC_8 := Aside0.mk (Kd.R_mono (Kd.R_grown (Kd.R_types RC_7.out ZZ_7 (by decide)) hg_ (fun k hk e => hk.2 (Option.some.inj e))) (fun _ _ => trivial) : RCo w8.heap.size _ _ _)
                  clear hK K hg_ hs_ hz_
                  try simp only [Act.put, List.setIfInBounds_toArray, List.set_cons_zero, List.set_cons_succ]
                  refine wpAnyH_take (i := 10) (v := errv (ern t ks)) (op_at rfl) (by kernel_rfl) (by kernel_rfl) (by kernel_rfl) (fun _ _ _ h => h) (Or.inl ⟨by rfl, fun w_ hSw => ?_⟩) H8_ ?_
                  · skip; go_simp
                  try simp only [Act.put, List.setIfInBounds_toArray, List.set_cons_zero, List.set_cons_succ]
                  refine wpAnyH_done (by kernel_rfl) ?_ _
                  refine NoPanic.normal ?_
                  exact ⟨rfl, bz_6, v1_7, v2_7, v44_1, .slice A46_2 ks.length c46_2, by simp only [Act.put, List.setIfInBounds_toArray, List.set_cons_zero, List.set_cons_succ], ZZ_8, RS_8.out, RC_8.out, H8_, hz9_6⟩
              · refine box_step (by rfl) (N := 9) rfl (cs := #[.slice none 0 0, .slice none 0 0, .bool false]) (t := 38) (by first | (go_simp; done) | (go_simp; rfl)) ?_
                intro bz_9 hbz_ V9_ hz_ hb_
                refine hK.out _ _ (below_then H1_ H1_.size hb_) (fun H9_ => ?_)
                have RK_9 := Aside0.mk (Kd.R_below RK_1.out hb_)
                have ZZ_9 : Blk V9_ bz_9 38 [.slice none 0 0, .slice none 0 0, .bool false] := hz_
                have hz9_9 : w8.heap.size ≤ bz_9 := by rw [hbz_]; exact H1_.size
                clear hK K hb_ hz_ hbz_
                try simp only [Act.put, List.setIfInBounds_toArray, List.set_cons_zero, List.set_cons_succ]
                refine wpAnyH_ready (rs := [3]) (by kernel_rfl) (by simp) ?_
                refine AllReadyH.cons (op_at rfl) (fun K hK => ?_) AllReadyH.nil
                refine Kd.R_append_rows_step kSt (w0 := w8) w8.heap.size (by rfl) (.tmp 44) (.tmp 45) 46 9 (.string ByteArray.empty) 16 rfl Tryd.underlying46 info_st rfl (by decide) (by decide) v44_1 [] ks A3 ks.length c3 (fun _ => True) (fun _ => False) rfl rfl RK_9.out (hS3A.out.imp_ (below_then hb8A.out hb8A.out.size H9_) (fun _ _ h => h)) (fun _ _ h => h) (fun _ h => h.elim) (fun _ _ => trivial) H9_ H9_.size (by simp; omega) ?_
                intro v46_10 V10_ hR_ hB_ hg_ _
                refine hK.out _ _ hB_ (fun H10_ => ?_)
                have ZZ_10 := ZZ_9.grown hg_ (Kd.R_ne RK_9.out ZZ_9 (by decide))
                rw [List.nil_append] at hR_
                obtain ⟨A46_10, c46_10, hv_, -, hr_⟩ := Kd.R_reads hR_
                subst hv_
                have SK_10 : Aside0 (StR V10_ A46_10 ks.length ks) := Aside0.mk hr_
                clear hK K hB_ hg_ hR_ hr_
                try simp only [Act.put, List.setIfInBounds_toArray, List.set_cons_zero, List.set_cons_succ]
                refine wpAnyH_ready (rs := [4]) (by kernel_rfl) (by simp) ?_
                refine AllReadyH.cons (op_at rfl) (fun K hK => ?_) AllReadyH.nil
                go_simp
                go_at_call 18
                with_reducible refine (hSgA.out V10_ H10_ A46_10 c46_10 SK_10.out).mono ?_
                rintro e V11_ ⟨⟨v1_11, v2_11, rfl, hR1_, hR2_⟩, hb_⟩
                go_wp2_with fail
                refine hK.out _ _ (below_then H10_ H10_.size hb_) (fun H11_ => ?_)
                have ZZ_11 := ZZ_10.below hb_
                have SK_11 := Aside0.mk (ReadsRow.imp_ SK_10.out hb_ (fun _ _ h => h))
                have RS_11 := Aside0.mk (Kd.R_lower hR1_ H10_.size)
                have RC_11 := Aside0.mk (Kd.R_lower hR2_ H10_.size)
                clear hK K hb_ hR1_ hR2_
                try simp only [Act.put, List.setIfInBounds_toArray, List.set_cons_zero, List.set_cons_succ]
                refine wpAnyH_take (i := 5) (v := .tuple #[.agg #[v1_11, v2_11, .bool (sres t ks).firm], errv (ern t ks)]) (op_at rfl) (by kernel_rfl) (by kernel_rfl) (by kernel_rfl) (fun _ _ _ h => h) (Or.inl ⟨by rfl, fun w_ hSw => ?_⟩) H11_ ?_
                · skip; go_simp
                try simp only [Act.put, List.setIfInBounds_toArray, List.set_cons_zero, List.set_cons_succ]
                refine wpAnyH_take (i := 6) (v := .agg #[v1_11, v2_11, .bool (sres t ks).firm]) (op_at rfl) (by kernel_rfl) (by kernel_rfl) (by kernel_rfl) (fun _ _ _ h => h) (Or.inl ⟨by rfl, fun w_ hSw => ?_⟩) H11_ ?_
                · skip; go_simp
                try simp only [Act.put, List.setIfInBounds_toArray, List.set_cons_zero, List.set_cons_succ]
                refine wpAnyH_take (i := 7) (v := errv (ern t ks)) (op_at rfl) (by kernel_rfl) (by kernel_rfl) (by kernel_rfl) (fun _ _ _ h => h) (Or.inl ⟨by rfl, fun w_ hSw => ?_⟩) H11_ ?_
                · skip; go_simp
                try simp only [Act.put, List.setIfInBounds_toArray, List.set_cons_zero, List.set_cons_succ]
                refine wpAnyH_ready (rs := [9]) (by kernel_rfl) (by simp) ?_
                refine AllReadyH.cons (op_at rfl) (fun K hK => ?_) AllReadyH.nil
                refine step_put_blk (by rfl) 38 (.tmp 9) (.tmp 48) rfl bz_9 38 [v1_11, v2_11, .bool (sres t ks).firm] [.slice none 0 0, .slice none 0 0, .bool false] rfl rfl rfl ZZ_11 (hi3A.out _ _ _) (by have h1_ := Kd.R_slice RS_11.out; have h2_ := Kd.R_slice RC_11.out; obtain ⟨_, _, h1_⟩ := h1_; obtain ⟨_, _, h2_⟩ := h2_; rw [h1_, h2_]; intro u hu; simp at hu; rcases hu with rfl | rfl | rfl <;> rfl) ?_
                intro V12_ hz_ hg_ hs_
                refine hK.out _ _ (H11_.grown hg_ H11_.size (fun k e => by have := Option.some.inj e; have := hz9_9; omega)) (fun H12_ => ?_)
                have ZZ_12 := hz_
                have RS_12 := Aside0.mk (Kd.R_mono (Kd.R_grown (Kd.R_types RS_11.out ZZ_11 (by decide)) hg_ (fun k hk e => hk.2 (Option.some.inj e))) (fun _ _ => trivial) : RSp w8.heap.size _ _ _)
                have RC_12 := Aside0.mk (Kd.R_mono (Kd.R_grown (Kd.R_types RC_11.out ZZ_11 (by decide)) hg_ (fun k hk e => hk.2 (Option.some.inj e))) (fun _ _ => trivial) : RCo w8.heap.size _ _ _)
                clear hK K hg_ hs_ hz_
                try simp only [Act.put, List.setIfInBounds_toArray, List.set_cons_zero, List.set_cons_succ]
                refine wpAnyH_take (i := 10) (v := errv (ern t ks)) (op_at rfl) (by kernel_rfl) (by kernel_rfl) (by kernel_rfl) (fun _ _ _ h => h) (Or.inl ⟨by rfl, fun w_ hSw => ?_⟩) H12_ ?_
                · skip; go_simp
                try simp only [Act.put, List.setIfInBounds_toArray, List.set_cons_zero, List.set_cons_succ]
                refine wpAnyH_done (by kernel_rfl) ?_ _
                refine NoPanic.normal ?_
                exact ⟨rfl, bz_9, v1_11, v2_11, v44_1, .slice A46_10 ks.length c46_10, by simp only [Act.put, List.setIfInBounds_toArray, List.set_cons_zero, List.set_cons_succ], ZZ_12, RS_12.out, RC_12.out, H12_, hz9_9⟩
            · refine box_step (by rfl) (N := 9) rfl (cs := #[.slice none 0 0, .slice none 0 0, .bool false]) (t := 38) (by first | (go_simp; done) | (go_simp; rfl)) ?_
              intro bz_13 hbz_ V13_ hz_ hb_
              refine hK.out _ _ (below_then H0 H0.size hb_) (fun H13_ => ?_)
              have ZZ_13 : Blk V13_ bz_13 38 [.slice none 0 0, .slice none 0 0, .bool false] := hz_
              have hz9_13 : w8.heap.size ≤ bz_13 := by rw [hbz_]; exact H0.size
              clear hK K hb_ hz_ hbz_
              try simp only [Act.put, List.setIfInBounds_toArray, List.set_cons_zero, List.set_cons_succ]
              refine wpAnyH_ready (rs := [1]) (by kernel_rfl) (by simp) ?_
              refine AllReadyH.cons (op_at rfl) (fun K hK => ?_) AllReadyH.nil
              refine Kd.R_lit_step kSt (w0 := w8) w8.heap.size 9 (by rfl) (N := 44) rfl (xs := ([] : List ByteArray)) (inner := []) (ok := fun _ => True) (okp := fun _ => True) (by first | (go_simp; done) | (go_simp; rfl)) (Reps.none _ _) (fun _ hk => hk) trivial H13_ H13_.size (by simp) ?_
              intro v44_14 V14_ hR_ hB_ hg_ _
              have hb_ := grown_none hg_
              refine hK.out _ _ hB_ (fun H14_ => ?_)
              have ZZ_14 := ZZ_13.below hb_
              have RK_14 := Aside0.mk hR_
              clear hK K hB_ hg_ hR_ hb_
              try simp only [Act.put, List.setIfInBounds_toArray, List.set_cons_zero, List.set_cons_succ]
              refine wpAnyH_ready (rs := [3]) (by kernel_rfl) (by simp) ?_
              refine AllReadyH.cons (op_at rfl) (fun K hK => ?_) AllReadyH.nil
              refine Kd.R_append_rows_step kSt (w0 := w8) w8.heap.size (by rfl) (.tmp 44) (.tmp 45) 46 9 (.string ByteArray.empty) 16 rfl Tryd.underlying46 info_st rfl (by decide) (by decide) v44_14 [] ks A3 ks.length c3 (fun _ => True) (fun _ => False) rfl rfl RK_14.out (hS3A.out.imp_ (below_then hb8A.out hb8A.out.size H14_) (fun _ _ h => h)) (fun _ _ h => h) (fun _ h => h.elim) (fun _ _ => trivial) H14_ H14_.size (by simp; omega) ?_
              intro v46_15 V15_ hR_ hB_ hg_ _
              refine hK.out _ _ hB_ (fun H15_ => ?_)
              have ZZ_15 := ZZ_14.grown hg_ (Kd.R_ne RK_14.out ZZ_14 (by decide))
              rw [List.nil_append] at hR_
              obtain ⟨A46_15, c46_15, hv_, -, hr_⟩ := Kd.R_reads hR_
              subst hv_
              have SK_15 : Aside0 (StR V15_ A46_15 ks.length ks) := Aside0.mk hr_
              clear hK K hB_ hg_ hR_ hr_
              try simp only [Act.put, List.setIfInBounds_toArray, List.set_cons_zero, List.set_cons_succ]
              refine wpAnyH_ready (rs := [4]) (by kernel_rfl) (by simp) ?_
              refine AllReadyH.cons (op_at rfl) (fun K hK => ?_) AllReadyH.nil
              go_simp
              go_at_call 18
              with_reducible refine (hSgA.out V15_ H15_ A46_15 c46_15 SK_15.out).mono ?_
              rintro e V16_ ⟨⟨v1_16, v2_16, rfl, hR1_, hR2_⟩, hb_⟩
              go_wp2_with fail
              refine hK.out _ _ (below_then H15_ H15_.size hb_) (fun H16_ => ?_)
              have ZZ_16 := ZZ_15.below hb_
              have SK_16 := Aside0.mk (ReadsRow.imp_ SK_15.out hb_ (fun _ _ h => h))
              have RS_16 := Aside0.mk (Kd.R_lower hR1_ H15_.size)
              have RC_16 := Aside0.mk (Kd.R_lower hR2_ H15_.size)
              clear hK K hb_ hR1_ hR2_
              try simp only [Act.put, List.setIfInBounds_toArray, List.set_cons_zero, List.set_cons_succ]
              refine wpAnyH_take (i := 5) (v := .tuple #[.agg #[v1_16, v2_16, .bool (sres t ks).firm], errv (ern t ks)]) (op_at rfl) (by kernel_rfl) (by kernel_rfl) (by kernel_rfl) (fun _ _ _ h => h) (Or.inl ⟨by rfl, fun w_ hSw => ?_⟩) H16_ ?_
              · skip; go_simp
              try simp only [Act.put, List.setIfInBounds_toArray, List.set_cons_zero, List.set_cons_succ]
              refine wpAnyH_take (i := 6) (v := .agg #[v1_16, v2_16, .bool (sres t ks).firm]) (op_at rfl) (by kernel_rfl) (by kernel_rfl) (by kernel_rfl) (fun _ _ _ h => h) (Or.inl ⟨by rfl, fun w_ hSw => ?_⟩) H16_ ?_
              · skip; go_simp
              try simp only [Act.put, List.setIfInBounds_toArray, List.set_cons_zero, List.set_cons_succ]
              refine wpAnyH_take (i := 7) (v := errv (ern t ks)) (op_at rfl) (by kernel_rfl) (by kernel_rfl) (by kernel_rfl) (fun _ _ _ h => h) (Or.inl ⟨by rfl, fun w_ hSw => ?_⟩) H16_ ?_
              · skip; go_simp
              try simp only [Act.put, List.setIfInBounds_toArray, List.set_cons_zero, List.set_cons_succ]
              refine wpAnyH_ready (rs := [9]) (by kernel_rfl) (by simp) ?_
              refine AllReadyH.cons (op_at rfl) (fun K hK => ?_) AllReadyH.nil
              refine step_put_blk (by rfl) 38 (.tmp 9) (.tmp 48) rfl bz_13 38 [v1_16, v2_16, .bool (sres t ks).firm] [.slice none 0 0, .slice none 0 0, .bool false] rfl rfl rfl ZZ_16 (hi3A.out _ _ _) (by have h1_ := Kd.R_slice RS_16.out; have h2_ := Kd.R_slice RC_16.out; obtain ⟨_, _, h1_⟩ := h1_; obtain ⟨_, _, h2_⟩ := h2_; rw [h1_, h2_]; intro u hu; simp at hu; rcases hu with rfl | rfl | rfl <;> rfl) ?_
              intro V17_ hz_ hg_ hs_
              refine hK.out _ _ (H16_.grown hg_ H16_.size (fun k e => by have := Option.some.inj e; have := hz9_13; omega)) (fun H17_ => ?_)
              have ZZ_17 := hz_
              have RS_17 := Aside0.mk (Kd.R_mono (Kd.R_grown (Kd.R_types RS_16.out ZZ_16 (by decide)) hg_ (fun k hk e => hk.2 (Option.some.inj e))) (fun _ _ => trivial) : RSp w8.heap.size _ _ _)
              have RC_17 := Aside0.mk (Kd.R_mono (Kd.R_grown (Kd.R_types RC_16.out ZZ_16 (by decide)) hg_ (fun k hk e => hk.2 (Option.some.inj e))) (fun _ _ => trivial) : RCo w8.heap.size _ _ _)
              clear hK K hg_ hs_ hz_
              try simp only [Act.put, List.setIfInBounds_toArray, List.set_cons_zero, List.set_cons_succ]
              refine wpAnyH_take (i := 10) (v := errv (ern t ks)) (op_at rfl) (by kernel_rfl) (by kernel_rfl) (by kernel_rfl) (fun _ _ _ h => h) (Or.inl ⟨by rfl, fun w_ hSw => ?_⟩) H17_ ?_
              · skip; go_simp
              try simp only [Act.put, List.setIfInBounds_toArray, List.set_cons_zero, List.set_cons_succ]
              refine wpAnyH_done (by kernel_rfl) ?_ _
              refine NoPanic.normal ?_
              exact ⟨rfl, bz_13, v1_16, v2_16, v44_14, .slice A46_15 ks.length c46_15, by simp only [Act.put, List.setIfInBounds_toArray, List.set_cons_zero, List.set_cons_succ], ZZ_17, RS_17.out, RC_17.out, H17_, hz9_13⟩
            -- END A
          · rintro e a' W9 ⟨rfl, B9, v1, v2, v44, v46, rfl, hZ, hRS, hRC, hb9, hB9⟩
            simp only [Act.put, List.setIfInBounds_toArray, List.set_cons_zero, List.set_cons_succ]
            have hOA := Aside0.mk (hO8A.out.below hb9); have hXA9 := Aside0.mk (hX8A.out.below hb9); have hRCA := Aside0.mk (Kd.R_below hRC8A.out hb9); have hO1A := Aside0.mk (Kd.R_below hR3A.out hb9); have hO2A := Aside0.mk (Kd.R_below hR4A.out hb9); have hbA := Aside0.mk (below_then hb8A.out hb8A.out.size hb9)
            have hZA := Aside0.mk hZ; have hRSA := Aside0.mk hRS; have hRC2A := Aside0.mk hRC
            have hNtA := Aside0.mk (fun (W : World) (hW : Below W9.heap.size W9 W) => numtx_calls (a := t) (b := t) (A1 := B1) (A2 := B2) (B1 := A1) (B2 := A2) (c1 := m1) (c2 := m2) (d1 := c1) (d2 := c2) W (Kd.R_reads' (Kd.R_below hO1A.out hW)).2.2 (Kd.R_reads' (Kd.R_below hO2A.out hW)).2.2 (hSA.out.imp_ (below_then hbA.out hbA.out.size hW) (fun _ _ h => h)) (hCA.out.imp_ (below_then hbA.out hbA.out.size hW) (fun _ _ h => h)) (by omega) (by omega))
            have hes := sameT_self t
            rw [hes] at hNtA
            clear hZ hRS hRC hSgA hes
            have x0 := hXA9.out.get 0 _ rfl
            by_cases hn : ks.length = t.sp.length
            · have q1 : ((ks.length : Int) != (t.sp.length : Int)) = false := by rw [hn]; simp
              have hsr0 : sres t ks = sgT t ks := if_pos hn
              have her : ern t ks = 0 := if_pos hn
              obtain ⟨L, hL⟩ : ∃ L, L = sgs (idv t) t.sp ks := ⟨_, rfl⟩
              have hsT : sgT t ks = ⟨L, t.co, t.firm⟩ := by rw [hL]; rfl
              have hLl : L.length = t.sp.length := by rw [hL]; exact sgs_length _ _ _ hn
              have hLk : ks.length = L.length := hn.trans hLl.symm
              have hLs : ∀ s ∈ L, s.key.size ≤ 5000 := fun s hs => by rw [hL] at hs; have := hleA.out _ (sgs_key _ _ _ s hs); omega
              have hidL : idv ⟨L, t.co, t.firm⟩ = idv t := by rw [← hsT]; exact idv_sgT t ks hn
              have hck0 : chk L (cns ks) (idv t) = 0 := by rw [hL]; exact chk_signed _ _ _ hn
              have hckB : 0 < ks.length → chk (L.map bump) (cns ks) (idv t) = 10 := fun h => by rw [hL]; exact chk_bumped _ _ _ hn h
              have hidB : idv ⟨L.map bump, t.co, t.firm⟩ = idv t := by rw [hL]; exact idv_bumped t ks hn
              have hsr2 : sres ⟨L, t.co, t.firm⟩ ks = ⟨L, t.co, t.firm⟩ := by
                have h1 : sres ⟨L, t.co, t.firm⟩ ks = sgT ⟨L, t.co, t.firm⟩ ks := if_pos hLk
                rw [h1, ← hsT]; exact sgT_twice t ks hn
              have her2 : ern ⟨L, t.co, t.firm⟩ ks = 0 := if_pos hLk
              have hil : (idv t).length = 32 := sum_length _
              rw [hsr0, hsT] at hZA hRSA hRC2A ⊢
              rw [her, errv_0]
              obtain ⟨F1, n1, hv1⟩ := Kd.R_slice hRSA.out
              obtain ⟨F2, n2, hv2⟩ := Kd.R_slice hRC2A.out
              subst hv1
              subst hv2
              have hb9A := Aside0.mk hb9
              have hB9A := Aside0.mk hB9
              have hRsA := Aside0.mk (fun (W : World) (hW : Below w8.heap.size w8 W) => rsign_calls (t := t) (A1 := A1) (A2 := A2) (A3 := A3) (c1 := c1) (c2 := c2) (c3 := c3) W (hTrA.out.below (below_then hb8A.out hb8A.out.size hW)) ks (fun k hk => by have := hleA.out k hk; omega) (hS3A.out.imp_ (below_then hb8A.out hb8A.out.size hW) (fun _ _ h => h)) hn (hK7A.out.below (below_then hb8A.out hb8A.out.size hW)))
              rw [← hL] at hRsA
              have hN2A := Aside0.mk (fun (W : World) (X1 X2 : Option Addr) (x1 x2 : Nat) (hXs : SpR0 W X1 L.length L) (hXc : CoR W X2 t.co.length t.co) (hW : Below w8.heap.size w8 W) (G1 : Option Addr) (g1 : Nat) (hG : SpR0 W G1 L.length L) => numtx_calls (a := ⟨L, t.co, t.firm⟩) (b := ⟨L, t.co, t.firm⟩) (A1 := X1) (A2 := X2) (B1 := G1) (B2 := A2) (c1 := x1) (c2 := x2) (d1 := g1) (d2 := c2) W hXs hXc hG (hCA.out.imp_ (below_then hb8A.out hb8A.out.size hW) (fun _ _ h => h)) (by show L.length ≤ 1000; omega) (by show t.co.length ≤ 1000; omega))
              rw [sameT_self] at hN2A
              have hItA := Aside0.mk (fun (W : World) (hW : Below w8.heap.size w8 W) => id_calls W (hTrA.out.below (below_then hb8A.out hb8A.out.size hW)) (hKA.out.below (below_then hb8A.out hb8A.out.size hW)) (hBgA.out.below (below_then hb8A.out hb8A.out.size hW)))
              have hTsA := Aside0.mk (fun (W : World) (hW : Below W9.heap.size W9 W) => (⟨(SpR0.small (Kd.R_reads' (Kd.R_below hRSA.out hW)).2.2 hLs), (Kd.R_reads' (Kd.R_below hRC2A.out hW)).2.2, by show L.length ≤ 1000; omega, by show t.co.length ≤ 1000; omega⟩ : TrOk W ⟨L, t.co, t.firm⟩ F1 F2 n1 n2))
              have hIsA := Aside0.mk (fun (W : World) (hW : Below W9.heap.size W9 W) => id_calls W (hTsA.out W hW) (hKA.out.below (below_then hbA.out hbA.out.size hW)) (hBgA.out.below (below_then hbA.out hbA.out.size hW)))
              rw [hidL] at hIsA
              have hCkA := Aside0.mk (fun (W : World) (T : Tr) (X1 X2 : Option Addr) (x1 x2 : Nat) (hT : TrOk W T X1 X2 x1 x2) (hW : Below w8.heap.size w8 W) => check_calls (c3 := k5) W hT (cns ks) (Kd.R_reads' (Kd.R_below hRC8A.out hW)).2.2 (by rw [hclA.out]; omega) (hKA.out.below (below_then hb8A.out hb8A.out.size hW)) (hBgA.out.below (below_then hb8A.out hb8A.out.size hW)))
              rw [hclA.out] at hCkA
              have hCsA := Aside0.mk (fun (W : World) (hW : Below W9.heap.size W9 W) => hCkA.out W _ F1 F2 n1 n2 (hTsA.out W hW) (below_then hb9A.out hb9A.out.size hW))
              rw [hidL] at hCsA
              rw [show chk (⟨L, t.co, t.firm⟩ : Tr).sp (cns ks) (idv t) = 0 from hck0, errv_0] at hCsA
              have hSgA := Aside0.mk (fun (W : World) (hW : Below W9.heap.size W9 W) => sign_calls (t := ⟨L, t.co, t.firm⟩) (A1 := F1) (A2 := F2) (A3 := A3) (c1 := n1) (c2 := n2) (c3 := c3) W (hTsA.out W hW) ks (fun k hk => by have := hleA.out k hk; omega) (hS3A.out.imp_ (below_then hbA.out hbA.out.size hW) (fun _ _ h => h)) (hKA.out.below (below_then hbA.out hbA.out.size hW)) (hBgA.out.below (below_then hbA.out hbA.out.size hW)))
              rw [hsr2, her2, errv_0] at hSgA
              have hNoA := Aside0.mk (fun (W : World) (hW : Below w8.heap.size w8 W) => numtx_calls (a := t) (b := t) (A1 := B1) (A2 := B2) (B1 := A1) (B2 := A2) (c1 := m1) (c2 := m2) (d1 := c1) (d2 := c2) W (Kd.R_reads' (Kd.R_below hR3A.out hW)).2.2 (Kd.R_reads' (Kd.R_below hR4A.out hW)).2.2 (hSA.out.imp_ (below_then hb8A.out hb8A.out.size hW) (fun _ _ h => h)) (hCA.out.imp_ (below_then hb8A.out hb8A.out.size hW) (fun _ _ h => h)) (by omega) (by omega))
              rw [sameT_self] at hNoA
              have hIxA := Aside0.mk (fun W => is_calls 10 10 (.inr (.inr rfl)) W)
              have hnA := Aside0.mk hn; have hLlA := Aside0.mk hLl; have hLkA := Aside0.mk hLk; have hLsA := Aside0.mk hLs; have hckBA := Aside0.mk hckB; have hidBA := Aside0.mk hidB; have hilA := Aside0.mk hil
              clear hn hsr0 her hL hsT hLl hLk hLs hidL hck0 hckB hidB hsr2 her2 hil hb9 hB9
              go_wp2_with (first | ((with_reducible refine gate_dst (N := 50) rfl ?_); (refine wpList_load_blk rfl 38 (.tmp 8) rfl O 38 rfl [.slice B1 t.sp.length m1, .slice B2 t.co.length m2, .bool t.firm] _ hOA.out Tryd.underlying38 rfl (hi3A.out _ _ _) ?_)) | ((with_reducible refine gate_dst (N := 51) rfl ?_); (refine wpList_load_blk rfl 38 (.tmp 2) rfl w.heap.size 38 rfl (trc t A1 A2 c1 c2) _ hXA9.out Tryd.underlying38 rfl hiA.out ?_)) | (go_at_call 19; ((with_reducible refine (hNtA.out _ (Below.refl _ _)).mono ?_); rintro e w10 ⟨rfl, hb10⟩; have hb10A := Aside0.mk hb10; have x0 := pw_cell_below hb10 x0; clear hb10)))
              clear x0
              refine wp_region_noPanic ?_
              have H0 : Below w10.heap.size w10 w10.drew := pw_below_drewN (Below.refl _ _) 1
              have h109A := Aside0.mk (fun (W : World) (hW : Below w10.heap.size w10 W) => below_then hb10A.out hb10A.out.size hW)
              have h108A := Aside0.mk (fun (W : World) (hW : Below w10.heap.size w10 W) => below_then hb9A.out hb9A.out.size (h109A.out W hW))
              refine wp_region_held_drew (S := fun V1 => Below w10.heap.size w10 V1) (by kernel_rfl) H0 (fun _ => ?_)
              generalize w10.drew = V0 at *
              -- REGION B
              refine wpAnyH_take (i := 0) (v := .nilIface) (op_at rfl) (by kernel_rfl) (by kernel_rfl) (by kernel_rfl) (fun _ _ _ h => h) (Or.inl ⟨by rfl, fun w_ hSw => ?_⟩) H0 ?_
              · skip; go_simp
              try simp only [Act.put, List.setIfInBounds_toArray, List.set_cons_zero, List.set_cons_succ]
              refine wpAnyH_take (i := 1) (v := .bool false) (op_at rfl) (by kernel_rfl) (by kernel_rfl) (by kernel_rfl) (fun _ _ _ h => h) (Or.inl ⟨by rfl, fun w_ hSw => ?_⟩) H0 ?_
              · skip; go_simp
              try simp only [Act.put, List.setIfInBounds_toArray, List.set_cons_zero, List.set_cons_succ]
              refine wpAnyH_take (i := 2) (v := .bool false) (op_at rfl) (by kernel_rfl) (by kernel_rfl) (by kernel_rfl) (fun _ _ _ h => h) (Or.inl ⟨by rfl, fun w_ hSw => ?_⟩) H0 ?_
              · skip; go_simp
              try simp only [Act.put, List.setIfInBounds_toArray, List.set_cons_zero, List.set_cons_succ]
              refine wpAnyH_take (i := 3) (v := .agg #[.slice F1 L.length n1, .slice F2 t.co.length n2, .bool t.firm]) (op_at rfl) (by kernel_rfl) (by kernel_rfl) (by kernel_rfl) (fun _ _ _ h => h) (yieldsIf_load_any (by rfl) _ _ rfl ⟨B9, 0, none⟩ rfl _ _ (fun w_ hSw => (hZA.out.below (h109A.out _ hSw)).add) Tryd.underlying38 rfl (hi3A.out _ _ _)) H0 ?_
              try simp only [Act.put, List.setIfInBounds_toArray, List.set_cons_zero, List.set_cons_succ]
              refine wpAnyH_take (i := 4) (v := .agg (trc t A1 A2 c1 c2).toArray) (op_at rfl) (by kernel_rfl) (by kernel_rfl) (by kernel_rfl) (fun _ _ _ h => h) (yieldsIf_load_any (by rfl) _ _ rfl ⟨w.heap.size, 0, none⟩ rfl _ _ (fun w_ hSw => (hXA9.out.below (h109A.out _ hSw)).add) Tryd.underlying38 rfl hiA.out) H0 ?_
              try simp only [Act.put, List.setIfInBounds_toArray, List.set_cons_zero, List.set_cons_succ]
              refine wpAnyH_take (i := 5) (v := .slice A3 ks.length c3) (op_at rfl) (by kernel_rfl) (by kernel_rfl) (by kernel_rfl) (fun _ _ _ h => h) (Or.inl ⟨by rfl, fun w_ hSw => ?_⟩) H0 ?_
              · skip; go_simp
              try simp only [Act.put, List.setIfInBounds_toArray, List.set_cons_zero, List.set_cons_succ]
              refine wpAnyH_ready (rs := [6]) (by kernel_rfl) (by simp) ?_
              refine AllReadyH.cons (op_at rfl) (fun K hK => ?_) AllReadyH.nil
              go_simp
              go_at_call 21
              with_reducible refine (hRsA.out V0 (h108A.out _ H0)).mono ?_
              rintro e V1_ ⟨⟨r1_1, rfl, hR_⟩, hb_⟩
              obtain ⟨G1_1, g1_1, hv_⟩ := Kd.R_slice hR_
              subst hv_
              go_wp2_with fail
              refine hK.out _ _ (below_then H0 H0.size hb_) (fun H1_ => ?_)
              have RR_1 := Aside0.mk (rowS hR_)
              clear hK K hb_ hR_
              try simp only [Act.put, List.setIfInBounds_toArray, List.set_cons_zero, List.set_cons_succ]
              refine wpAnyH_ready (rs := [7]) (by kernel_rfl) (by simp) ?_
              refine AllReadyH.cons (op_at rfl) (fun K hK => ?_) AllReadyH.nil
              go_simp
              go_at_call 19
              with_reducible refine (hN2A.out V1_ F1 F2 n1 n2 (rowS (Kd.R_below hRSA.out (h109A.out _ H1_))) (rowC (Kd.R_below hRC2A.out (h109A.out _ H1_))) (h108A.out _ H1_) G1_1 g1_1 RR_1.out).mono ?_
              rintro e V2_ ⟨rfl, hb_⟩
              go_wp2_with fail
              refine hK.out _ _ (below_then H1_ H1_.size hb_) (fun H2_ => ?_)
              clear hK K hb_
              try simp only [Act.put, List.setIfInBounds_toArray, List.set_cons_zero, List.set_cons_succ]
              refine wpAnyH_take (i := 8) (v := .bool false) (op_at rfl) (by kernel_rfl) (by kernel_rfl) (by kernel_rfl) (fun _ _ _ h => h) (Or.inl ⟨by rfl, fun w_ hSw => ?_⟩) H2_ ?_
              · skip; go_simp
              try simp only [Act.put, List.setIfInBounds_toArray, List.set_cons_zero, List.set_cons_succ]
              refine wpAnyH_take (i := 9) (v := .bool false) (op_at rfl) (by kernel_rfl) (by kernel_rfl) (by kernel_rfl) (fun _ _ _ h => h) (Or.inl ⟨by rfl, fun w_ hSw => ?_⟩) H2_ ?_
              · skip; go_simp
              try simp only [Act.put, List.setIfInBounds_toArray, List.set_cons_zero, List.set_cons_succ]
              refine wpAnyH_take (i := 10) (v := .bool false) (op_at rfl) (by kernel_rfl) (by kernel_rfl) (by kernel_rfl) (fun _ _ _ h => h) (Or.inl ⟨by rfl, fun w_ hSw => ?_⟩) H2_ ?_
              · skip; go_simp
              try simp only [Act.put, List.setIfInBounds_toArray, List.set_cons_zero, List.set_cons_succ]
              refine wpAnyH_take (i := 11) (v := .agg #[.slice F1 L.length n1, .slice F2 t.co.length n2, .bool t.firm]) (op_at rfl) (by kernel_rfl) (by kernel_rfl) (by kernel_rfl) (fun _ _ _ h => h) (yieldsIf_load_any (by rfl) _ _ rfl ⟨B9, 0, none⟩ rfl _ _ (fun w_ hSw => (hZA.out.below (h109A.out _ hSw)).add) Tryd.underlying38 rfl (hi3A.out _ _ _)) H2_ ?_
              try simp only [Act.put, List.setIfInBounds_toArray, List.set_cons_zero, List.set_cons_succ]
              refine wpAnyH_take (i := 13) (v := .agg (trc t A1 A2 c1 c2).toArray) (op_at rfl) (by kernel_rfl) (by kernel_rfl) (by kernel_rfl) (fun _ _ _ h => h) (yieldsIf_load_any (by rfl) _ _ rfl ⟨w.heap.size, 0, none⟩ rfl _ _ (fun w_ hSw => (hXA9.out.below (h109A.out _ hSw)).add) Tryd.underlying38 rfl hiA.out) H2_ ?_
              try simp only [Act.put, List.setIfInBounds_toArray, List.set_cons_zero, List.set_cons_succ]
              refine wpAnyH_ready (rs := [12]) (by kernel_rfl) (by simp) ?_
              refine AllReadyH.cons (op_at rfl) (fun K hK => ?_) AllReadyH.nil
              go_simp
              go_at_call 22
              with_reducible refine (hIsA.out V2_ (h109A.out _ H2_)).mono ?_
              rintro e V3_ ⟨rfl, hb⟩
              go_wp2_with fail
              refine hK.out _ _ (below_then H2_ H2_.size hb) (fun H3_ => ?_)
              clear hK K hb
              try simp only [Act.put, List.setIfInBounds_toArray, List.set_cons_zero, List.set_cons_succ]
              refine wpAnyH_ready (rs := [14]) (by kernel_rfl) (by simp) ?_
              refine AllReadyH.cons (op_at rfl) (fun K hK => ?_) AllReadyH.nil
              go_simp
              go_at_call 22
              with_reducible refine (hItA.out V3_ (h108A.out _ H3_)).mono ?_
              rintro e V4_ ⟨rfl, hb⟩
              go_wp2_with fail
              refine hK.out _ _ (below_then H3_ H3_.size hb) (fun H4_ => ?_)
              clear hK K hb
              try simp only [Act.put, List.setIfInBounds_toArray, List.set_cons_zero, List.set_cons_succ]
              refine wpAnyH_take (i := 15) (v := .bool false) (op_at rfl) (by kernel_rfl) (by kernel_rfl) (by kernel_rfl) (fun _ _ _ h => h) (Or.inl ⟨by rfl, fun w_ hSw => exec_neq_same (.tmp 85) (.tmp 87) rfl (idv t) rfl rfl hilA.out w_⟩) H4_ ?_
              try simp only [Act.put, List.setIfInBounds_toArray, List.set_cons_zero, List.set_cons_succ]
              refine wpAnyH_take (i := 16) (v := .bool false) (op_at rfl) (by kernel_rfl) (by kernel_rfl) (by kernel_rfl) (fun _ _ _ h => h) (Or.inl ⟨by rfl, fun w_ hSw => ?_⟩) H4_ ?_
              · skip; go_simp
              try simp only [Act.put, List.setIfInBounds_toArray, List.set_cons_zero, List.set_cons_succ]
              refine wpAnyH_take (i := 17) (v := .bool false) (op_at rfl) (by kernel_rfl) (by kernel_rfl) (by kernel_rfl) (fun _ _ _ h => h) (Or.inl ⟨by rfl, fun w_ hSw => ?_⟩) H4_ ?_
              · skip; go_simp
              try simp only [Act.put, List.setIfInBounds_toArray, List.set_cons_zero, List.set_cons_succ]
              refine wpAnyH_take (i := 18) (v := .agg #[.slice F1 L.length n1, .slice F2 t.co.length n2, .bool t.firm]) (op_at rfl) (by kernel_rfl) (by kernel_rfl) (by kernel_rfl) (fun _ _ _ h => h) (yieldsIf_load_any (by rfl) _ _ rfl ⟨B9, 0, none⟩ rfl _ _ (fun w_ hSw => (hZA.out.below (h109A.out _ hSw)).add) Tryd.underlying38 rfl (hi3A.out _ _ _)) H4_ ?_
              try simp only [Act.put, List.setIfInBounds_toArray, List.set_cons_zero, List.set_cons_succ]
              refine wpAnyH_take (i := 19) (v := .slice E5 ks.length k5) (op_at rfl) (by kernel_rfl) (by kernel_rfl) (by kernel_rfl) (fun _ _ _ h => h) (Or.inl ⟨by rfl, fun w_ hSw => ?_⟩) H4_ ?_
              · skip; go_simp
              try simp only [Act.put, List.setIfInBounds_toArray, List.set_cons_zero, List.set_cons_succ]
              refine wpAnyH_ready (rs := [20]) (by kernel_rfl) (by simp) ?_
              refine AllReadyH.cons (op_at rfl) (fun K hK => ?_) AllReadyH.nil
              go_simp
              go_at_call 15
              with_reducible refine (hCsA.out V4_ (h109A.out _ H4_)).mono ?_
              rintro e V5_ ⟨rfl, hb⟩
              go_wp2_with fail
              refine hK.out _ _ (below_then H4_ H4_.size hb) (fun H5_ => ?_)
              clear hK K hb
              try simp only [Act.put, List.setIfInBounds_toArray, List.set_cons_zero, List.set_cons_succ]
              refine wpAnyH_take (i := 21) (v := .bool false) (op_at rfl) (by kernel_rfl) (by kernel_rfl) (by kernel_rfl) (fun _ _ _ h => h) (Or.inl ⟨by rfl, fun w_ hSw => ?_⟩) H5_ ?_
              · skip; go_simp
              try simp only [Act.put, List.setIfInBounds_toArray, List.set_cons_zero, List.set_cons_succ]
              refine wpAnyH_take (i := 22) (v := .bool false) (op_at rfl) (by kernel_rfl) (by kernel_rfl) (by kernel_rfl) (fun _ _ _ h => h) (Or.inl ⟨by rfl, fun w_ hSw => ?_⟩) H5_ ?_
              · skip; go_simp
              try simp only [Act.put, List.setIfInBounds_toArray, List.set_cons_zero, List.set_cons_succ]
              refine wpAnyH_done (by kernel_rfl) ?_ _
              refine NoPanic.normal ?_
              have hHA := Aside0.mk H5_
              obtain ⟨W20, hW20⟩ : ∃ W20, W20 = V5_ := ⟨_, rfl⟩
              rw [← hW20] at hHA ⊢
              clear hW20 H5_
              -- END B
              have hb20A := Aside0.mk (h109A.out _ hHA.out)
              have hZ20A := Aside0.mk (hZA.out.below hb20A.out); have hR20A := Aside0.mk (Kd.R_below hRSA.out hb20A.out); have hC20A := Aside0.mk (Kd.R_below hRC2A.out hb20A.out); have hb208A := Aside0.mk (below_then hb9A.out hb9A.out.size hb20A.out)
              clear hHA h109A h108A hZA hRSA hRC2A hCsA hIsA hNtA
              go_wp2_with (first | ((with_reducible refine gate_dst (N := 97) rfl ?_); (refine wpList_load_blk rfl 38 (.tmp 9) rfl B9 38 rfl [.slice F1 L.length n1, .slice F2 t.co.length n2, .bool t.firm] _ hZ20A.out Tryd.underlying38 rfl (hi3A.out _ _ _) ?_)) | (go_at_call 18; ((with_reducible refine (hSgA.out _ hb20A.out).mono ?_); rintro e w21 ⟨⟨u1, u2, rfl, hP1, hP2⟩, hb21⟩; obtain ⟨H1, y1, hu1⟩ := Kd.R_slice hP1; obtain ⟨H2, y2, hu2⟩ := Kd.R_slice hP2; subst hu1; subst hu2; obtain ⟨_, ho_⟩ := Kd.R_own hR20A.out; have hP1A := Aside0.mk (Kd.R_new hP1 ho_); have hP2A := Aside0.mk (Kd.R_new hP2 ho_); have hZ21A := Aside0.mk (hZ20A.out.below hb21); have hR21A := Aside0.mk (Kd.R_below hR20A.out hb21); have hC21A := Aside0.mk (Kd.R_below hC20A.out hb21); have hb21A := Aside0.mk (below_then hb208A.out hb208A.out.size hb21); clear hP1 hP2 ho_ hb21)) | ((with_reducible refine gate_dst (N := 11) rfl ?_); (refine wpList_new_put rfl (N := 11) rfl rfl 38 (.tmp 100) rfl [.slice H1 L.length y1, .slice H2 t.co.length y2, .bool t.firm] [.slice none 0 0, .slice none 0 0, .bool false] rfl ?hr rfl rfl (hi3A.out _ _ _) (by intro u hu; simp at hu; rcases hu with rfl | rfl | rfl <;> rfl) ?_; (case hr => first | (go_simp; done) | (go_simp; rfl)); intro w22 hO22 hb22 hs22; have hQ22A := Aside0.mk hO22; have hZ22A := Aside0.mk (hZ21A.out.below hb22); have x1 := (hZ21A.out.below hb22).get 0 _ rfl; have hR22A := Aside0.mk (Kd.R_below hR21A.out hb22); have hC22A := Aside0.mk (Kd.R_below hC21A.out hb22); have hG1A := Aside0.mk (Kd.R_below hP1A.out hb22); have hG2A := Aside0.mk (Kd.R_below hP2A.out hb22); have hb22A := Aside0.mk (below_then hb21A.out hb21A.out.size hb22); clear hO22 hb22 hs22)))
              obtain ⟨B11, hB11⟩ : ∃ O, O = w21.heap.size := ⟨_, rfl⟩
              rw [← hB11] at hQ22A
              rw [← hB11]
              clear hB11 hP1A hP2A hZ21A hR21A hC21A hb21A hR20A hC20A hZ20A hSgA
              go_loopw [12, 105] (fun u i wr => ∃ k : Nat, k ≤ L.length ∧ i = .int .i64 (k : Int) ∧ RSp w8.heap.size wr (.slice F1 L.length n1) (parted bump L k) ∧ RCo w8.heap.size wr (.slice F2 t.co.length n2) t.co ∧ Kd.R kSp 28 wr W20.heap.size (fun k => True ∧ some k ≠ (Value.slice F1 L.length n1).ownBlock) (.slice H1 L.length y1) L ∧ Kd.R kCo 30 wr W20.heap.size (fun k => True ∧ some k ≠ (Value.slice F1 L.length n1).ownBlock) (.slice H2 t.co.length y2) t.co ∧ Blk wr B9 38 [.slice F1 L.length n1, .slice F2 t.co.length n2, .bool t.firm] ∧ Blk wr B11 38 [.slice H1 L.length y1, .slice H2 t.co.length y2, .bool t.firm] ∧ Below w8.heap.size w8 wr) (fun _ i _ => L.length - (intOf i).toNat)
              case atStart => exact ⟨0, by omega, rfl, by rw [parted_zero]; exact hR22A.out, hC22A.out, hG1A.out, hG2A.out, hZ22A.out, hQ22A.out, hb22A.out⟩
              case round =>
                clear x1 hR22A hC22A hG1A hG2A hZ22A hQ22A hb22A
                obtain ⟨k, hk, rfl, RS, RC, GS, GC, ZZ, QQ, BB⟩ := hrel
                by_cases hlt : k < L.length
                · obtain ⟨s, hs⟩ : ∃ s, L[k]? = some s := ⟨_, List.getElem?_eq_getElem hlt⟩
                  have hps := (parted_at bump L k hlt).trans hs
                  obtain ⟨g, cap, hv, -⟩ := Kd.R_form RS (by rw [parted_length _ _ _ hk]; omega)
                  obtain rfl : F1 = some ⟨g, 0, none⟩ := by injection hv
                  obtain ⟨hr, hg, hc, hf, hbg⟩ := RSp_bump RS k hlt s hps
                  rw [parted_set bump L k s hs] at hr
                  have z0 := ZZ.get 0 _ rfl
                  have p0 : (0 : Int) ≤ (k : Int) := by omega
                  have p1 : (k : Int) < (L.length : Int) := by omega
                  have e2 : IntKind.i64.wrap ((k : Int) + 1) = (k : Int) + 1 := IntWalk.i64_in _ (by have := hLlA.out; omega)
                  have hrA := Aside0.mk hr
                  have hRCrA := Aside0.mk (Kd.R_mono (Kd.R_grown (Kd.R_apartR RC RS (by decide)) hg (fun _ hk => hk.2)) (fun _ _ => trivial) : RCo w8.heap.size _ _ _)
                  have hGSrA := Aside0.mk (Kd.R_grown GS hg (fun _ hk => hk.2))
                  have hGCrA := Aside0.mk (Kd.R_grown GC hg (fun _ hk => hk.2))
                  have hZrA := Aside0.mk (ZZ.grown hg (Kd.R_ne RS ZZ (by decide)))
                  have hQrA := Aside0.mk (QQ.grown hg (Kd.R_ne RS QQ (by decide)))
                  have hBrA := Aside0.mk (BB.setCell (p := ⟨g, k * 35 + 34, none⟩) hbg (.int .u64 (IntKind.u64.wrap (s.sel + 1))))
                  clear hr hg hbg RS RC GS GC ZZ QQ BB hs hps hv
                  go_wp2_with fail
                  go_roundw
                  · exact ⟨k + 1, by omega, by go_num, hrA.out, hRCrA.out, hGSrA.out, hGCrA.out, hZrA.out, hQrA.out, hBrA.out⟩
                  · simp [intOf]; omega
                · obtain rfl : k = L.length := by omega
                  have p1 : ¬ (L.length : Int) < (L.length : Int) := by omega
                  rw [parted_end] at RS
                  have hLbs : ∀ s ∈ L.map bump, s.key.size ≤ 5000 := fun s hs => by
                    obtain ⟨s', hs', rfl⟩ := List.mem_map.1 hs
                    exact hLsA.out s' hs'
                  have hll := hLlA.out
                  have hBBA := Aside0.mk BB; have hQA := Aside0.mk QQ; have hZeA := Aside0.mk ZZ; have hGSA := Aside0.mk GS; have hGCA := Aside0.mk GC
                  have hOeA := Aside0.mk (hO8A.out.below BB); have hXeA := Aside0.mk (hX8A.out.below BB)
                  have hCbA := Aside0.mk (fun (W : World) (hW : Below wr.heap.size wr W) => hCkA.out W _ F1 F2 n1 n2 (⟨(SpR0.small (Kd.R_reads' (Kd.R_below RS hW)).2.2 hLbs), (Kd.R_reads' (Kd.R_below RC hW)).2.2, by show (L.map bump).length ≤ 1000; rw [List.length_map]; omega, by show t.co.length ≤ 1000; omega⟩ : TrOk W ⟨L.map bump, t.co, t.firm⟩ F1 F2 n1 n2) (below_then hBBA.out hBBA.out.size hW))
                  rw [hidBA.out] at hCbA
                  simp only [trv, List.length_map] at hCbA
                  clear RS RC GS GC ZZ QQ BB hLbs hll
                  have hX2A := Aside0.mk (fun (W : World) => (hIxA.out W : Calls Tryd.prog 20 #[errv 10, .int .i64 10] W fun e w' => e = .returned (.bool true) ∧ Below W.heap.size W w'))
                  have H0 : Below wr.heap.size wr wr.drew := pw_below_drewN (Below.refl _ _) 1
                  by_cases h0 : ks.length = 0
                  · have q2 : ((ks.length : Int) == 0) = true := by rw [h0]; rfl
                    clear h0
                    go_wp2_with fail
                    refine wp_region_noPanic ?_
                    refine wp_region_held_drew (S := fun V1 => Below wr.heap.size wr V1) (by kernel_rfl) H0 (fun _ => ?_)
                    generalize wr.drew = V0 at *
                    -- REGION C
                    refine wpAnyH_take (i := 0) (v := .nilIface) (op_at rfl) (by kernel_rfl) (by kernel_rfl) (by kernel_rfl) (fun _ _ _ h => h) (Or.inl ⟨by rfl, fun w_ hSw => ?_⟩) H0 ?_
                    · skip; go_simp
                    try simp only [Act.put, List.setIfInBounds_toArray, List.set_cons_zero, List.set_cons_succ]
                    refine wpAnyH_take (i := 1) (v := .bool true) (op_at rfl) (by kernel_rfl) (by kernel_rfl) (by kernel_rfl) (fun _ _ _ h => h) (Or.inl ⟨by rfl, fun w_ hSw => ?_⟩) H0 ?_
                    · skip; go_simp
                    try simp only [Act.put, List.setIfInBounds_toArray, List.set_cons_zero, List.set_cons_succ]
                    refine wpAnyH_take (i := 2) (v := .bool true) (op_at rfl) (by kernel_rfl) (by kernel_rfl) (by kernel_rfl) (fun _ _ _ h => h) (Or.inl ⟨by rfl, fun w_ hSw => ?_⟩) H0 ?_
                    · skip; go_simp
                    try simp only [Act.put, List.setIfInBounds_toArray, List.set_cons_zero, List.set_cons_succ]
                    refine wpAnyH_take (i := 3) (v := .agg #[.slice H1 L.length y1, .slice H2 t.co.length y2, .bool t.firm]) (op_at rfl) (by kernel_rfl) (by kernel_rfl) (by kernel_rfl) (fun _ _ _ h => h) (yieldsIf_load_any (by rfl) _ _ rfl ⟨B11, 0, none⟩ rfl _ _ (fun w_ hSw => (hQA.out.below hSw).add) Tryd.underlying38 rfl (hi3A.out _ _ _)) H0 ?_
                    try simp only [Act.put, List.setIfInBounds_toArray, List.set_cons_zero, List.set_cons_succ]
                    refine wpAnyH_take (i := 4) (v := .agg (trc t A1 A2 c1 c2).toArray) (op_at rfl) (by kernel_rfl) (by kernel_rfl) (by kernel_rfl) (fun _ _ _ h => h) (yieldsIf_load_any (by rfl) _ _ rfl ⟨w.heap.size, 0, none⟩ rfl _ _ (fun w_ hSw => (hXeA.out.below hSw).add) Tryd.underlying38 rfl hiA.out) H0 ?_
                    try simp only [Act.put, List.setIfInBounds_toArray, List.set_cons_zero, List.set_cons_succ]
                    refine wpAnyH_take (i := 5) (v := .slice A3 ks.length c3) (op_at rfl) (by kernel_rfl) (by kernel_rfl) (by kernel_rfl) (fun _ _ _ h => h) (Or.inl ⟨by rfl, fun w_ hSw => ?_⟩) H0 ?_
                    · skip; go_simp
                    try simp only [Act.put, List.setIfInBounds_toArray, List.set_cons_zero, List.set_cons_succ]
                    refine wpAnyH_ready (rs := [6]) (by kernel_rfl) (by simp) ?_
                    refine AllReadyH.cons (op_at rfl) (fun K hK => ?_) AllReadyH.nil
                    go_simp
                    go_at_call 21
                    with_reducible refine (hRsA.out V0 (below_then hBBA.out hBBA.out.size H0)).mono ?_
                    rintro e V1_ ⟨⟨r1_1, rfl, hR_⟩, hb_⟩
                    obtain ⟨G1_1, g1_1, hv_⟩ := Kd.R_slice hR_
                    subst hv_
                    go_wp2_with fail
                    refine hK.out _ _ (below_then H0 H0.size hb_) (fun H1_ => ?_)
                    have RR_1 := Aside0.mk (rowS hR_)
                    clear hK K hb_ hR_
                    try simp only [Act.put, List.setIfInBounds_toArray, List.set_cons_zero, List.set_cons_succ]
                    refine wpAnyH_ready (rs := [7]) (by kernel_rfl) (by simp) ?_
                    refine AllReadyH.cons (op_at rfl) (fun K hK => ?_) AllReadyH.nil
                    go_simp
                    go_at_call 19
                    with_reducible refine (hN2A.out V1_ H1 H2 y1 y2 (rowS (Kd.R_below hGSA.out H1_)) (rowC (Kd.R_below hGCA.out H1_)) (below_then hBBA.out hBBA.out.size H1_) G1_1 g1_1 RR_1.out).mono ?_
                    rintro e V2_ ⟨rfl, hb_⟩
                    go_wp2_with fail
                    refine hK.out _ _ (below_then H1_ H1_.size hb_) (fun H2_ => ?_)
                    clear hK K hb_
                    try simp only [Act.put, List.setIfInBounds_toArray, List.set_cons_zero, List.set_cons_succ]
                    refine wpAnyH_take (i := 8) (v := .bool true) (op_at rfl) (by kernel_rfl) (by kernel_rfl) (by kernel_rfl) (fun _ _ _ h => h) (Or.inl ⟨by rfl, fun w_ hSw => ?_⟩) H2_ ?_
                    · skip; go_simp
                    try simp only [Act.put, List.setIfInBounds_toArray, List.set_cons_zero, List.set_cons_succ]
                    refine wpAnyH_take (i := 9) (v := .bool true) (op_at rfl) (by kernel_rfl) (by kernel_rfl) (by kernel_rfl) (fun _ _ _ h => h) (Or.inl ⟨by rfl, fun w_ hSw => ?_⟩) H2_ ?_
                    · skip; go_simp
                    try simp only [Act.put, List.setIfInBounds_toArray, List.set_cons_zero, List.set_cons_succ]
                    refine wpAnyH_take (i := 10) (v := .agg #[.slice B1 t.sp.length m1, .slice B2 t.co.length m2, .bool t.firm]) (op_at rfl) (by kernel_rfl) (by kernel_rfl) (by kernel_rfl) (fun _ _ _ h => h) (yieldsIf_load_any (by rfl) _ _ rfl ⟨O, 0, none⟩ rfl _ _ (fun w_ hSw => (hOeA.out.below hSw).add) Tryd.underlying38 rfl (hi3A.out _ _ _)) H2_ ?_
                    try simp only [Act.put, List.setIfInBounds_toArray, List.set_cons_zero, List.set_cons_succ]
                    refine wpAnyH_take (i := 11) (v := .agg (trc t A1 A2 c1 c2).toArray) (op_at rfl) (by kernel_rfl) (by kernel_rfl) (by kernel_rfl) (fun _ _ _ h => h) (yieldsIf_load_any (by rfl) _ _ rfl ⟨w.heap.size, 0, none⟩ rfl _ _ (fun w_ hSw => (hXeA.out.below hSw).add) Tryd.underlying38 rfl hiA.out) H2_ ?_
                    try simp only [Act.put, List.setIfInBounds_toArray, List.set_cons_zero, List.set_cons_succ]
                    refine wpAnyH_ready (rs := [12]) (by kernel_rfl) (by simp) ?_
                    refine AllReadyH.cons (op_at rfl) (fun K hK => ?_) AllReadyH.nil
                    go_simp
                    go_at_call 19
                    with_reducible refine (hNoA.out V2_ (below_then hBBA.out hBBA.out.size H2_)).mono ?_
                    rintro e V3_ ⟨rfl, hb⟩
                    go_wp2_with fail
                    refine hK.out _ _ (below_then H2_ H2_.size hb) (fun H3_ => ?_)
                    clear hK K hb
                    try simp only [Act.put, List.setIfInBounds_toArray, List.set_cons_zero, List.set_cons_succ]
                    refine wpAnyH_take (i := 13) (v := .bool true) (op_at rfl) (by kernel_rfl) (by kernel_rfl) (by kernel_rfl) (fun _ _ _ h => h) (Or.inl ⟨by rfl, fun w_ hSw => ?_⟩) H3_ ?_
                    · skip; go_simp
                    try simp only [Act.put, List.setIfInBounds_toArray, List.set_cons_zero, List.set_cons_succ]
                    refine wpAnyH_take (i := 14) (v := .bool true) (op_at rfl) (by kernel_rfl) (by kernel_rfl) (by kernel_rfl) (fun _ _ _ h => h) (Or.inl ⟨by rfl, fun w_ hSw => ?_⟩) H3_ ?_
                    · skip; go_simp
                    try simp only [Act.put, List.setIfInBounds_toArray, List.set_cons_zero, List.set_cons_succ]
                    refine wpAnyH_take (i := 15) (v := .slice A3 ks.length c3) (op_at rfl) (by kernel_rfl) (by kernel_rfl) (by kernel_rfl) (fun _ _ _ h => h) (Or.inl ⟨by rfl, fun w_ hSw => ?_⟩) H3_ ?_
                    · skip; go_simp
                    try simp only [Act.put, List.setIfInBounds_toArray, List.set_cons_zero, List.set_cons_succ]
                    refine wpAnyH_take (i := 16) (v := .int .i64 (ks.length : Int)) (op_at rfl) (by kernel_rfl) (by kernel_rfl) (by kernel_rfl) (fun _ _ _ h => h) (Or.inl ⟨by rfl, fun w_ hSw => ?_⟩) H3_ ?_
                    · skip; go_simp
                    try simp only [Act.put, List.setIfInBounds_toArray, List.set_cons_zero, List.set_cons_succ]
                    refine wpAnyH_take (i := 17) (v := .bool true) (op_at rfl) (by kernel_rfl) (by kernel_rfl) (by kernel_rfl) (fun _ _ _ h => h) (Or.inl ⟨by rfl, fun w_ hSw => ?_⟩) H3_ ?_
                    · skip; go_simp
                    try simp only [Act.put, List.setIfInBounds_toArray, List.set_cons_zero, List.set_cons_succ]
                    refine wpAnyH_take (i := 18) (v := .bool true) (op_at rfl) (by kernel_rfl) (by kernel_rfl) (by kernel_rfl) (fun _ _ _ h => h) (Or.inl ⟨by rfl, fun w_ hSw => ?_⟩) H3_ ?_
                    · skip; go_simp
                    try simp only [Act.put, List.setIfInBounds_toArray, List.set_cons_zero, List.set_cons_succ]
                    refine wpAnyH_take (i := 19) (v := undef) (op_at rfl) (by kernel_rfl) (by kernel_rfl) (by kernel_rfl) (fun _ _ _ h => h) (Or.inr ⟨by rfl, rfl⟩) H3_ ?_
                    try simp only [Act.put, List.setIfInBounds_toArray, List.set_cons_zero, List.set_cons_succ]
                    refine wpAnyH_take (i := 20) (v := undef) (op_at rfl) (by kernel_rfl) (by kernel_rfl) (by kernel_rfl) (fun _ _ _ h => h) (Or.inr ⟨by rfl, rfl⟩) H3_ ?_
                    try simp only [Act.put, List.setIfInBounds_toArray, List.set_cons_zero, List.set_cons_succ]
                    refine wpAnyH_take (i := 21) (v := undef) (op_at rfl) (by kernel_rfl) (by kernel_rfl) (by kernel_rfl) (fun _ _ _ h => h) (Or.inr ⟨by rfl, rfl⟩) H3_ ?_
                    try simp only [Act.put, List.setIfInBounds_toArray, List.set_cons_zero, List.set_cons_succ]
                    refine wpAnyH_take (i := 22) (v := undef) (op_at rfl) (by kernel_rfl) (by kernel_rfl) (by kernel_rfl) (fun _ _ _ h => h) (Or.inr ⟨by rfl, rfl⟩) H3_ ?_
                    try simp only [Act.put, List.setIfInBounds_toArray, List.set_cons_zero, List.set_cons_succ]
                    refine wpAnyH_take (i := 23) (v := .bool true) (op_at rfl) (by kernel_rfl) (by kernel_rfl) (by kernel_rfl) (fun _ _ _ h => h) (Or.inl ⟨by rfl, fun w_ hSw => ?_⟩) H3_ ?_
                    · skip; go_simp
                    try simp only [Act.put, List.setIfInBounds_toArray, List.set_cons_zero, List.set_cons_succ]
                    refine wpAnyH_take (i := 24) (v := .bool true) (op_at rfl) (by kernel_rfl) (by kernel_rfl) (by kernel_rfl) (fun _ _ _ h => h) (Or.inl ⟨by rfl, fun w_ hSw => ?_⟩) H3_ ?_
                    · skip; go_simp
                    try simp only [Act.put, List.setIfInBounds_toArray, List.set_cons_zero, List.set_cons_succ]
                    refine wpAnyH_take (i := 25) (v := .bool true) (op_at rfl) (by kernel_rfl) (by kernel_rfl) (by kernel_rfl) (fun _ _ _ h => h) (Or.inl ⟨by rfl, fun w_ hSw => ?_⟩) H3_ ?_
                    · skip; go_simp
                    try simp only [Act.put, List.setIfInBounds_toArray, List.set_cons_zero, List.set_cons_succ]
                    refine wpAnyH_done (by kernel_rfl) ?_ _
                    refine NoPanic.normal ?_
                    have hHA := Aside0.mk H3_
                    go_wp2
                    go_ret
                    exact ⟨rfl, below_then hb8A.out hb8A.out.size (below_then hBBA.out hBBA.out.size hHA.out)⟩
                    -- END C
                  · have q2 : ((ks.length : Int) == 0) = false := by rw [beq_eq_false_iff_ne]; omega
                    rw [hckBA.out (by omega)] at hCbA
                    clear h0
                    go_wp2_with fail
                    refine wp_region_noPanic ?_
                    refine wp_region_held_drew (S := fun V1 => Below wr.heap.size wr V1) (by kernel_rfl) H0 (fun _ => ?_)
                    generalize wr.drew = V0 at *
                    -- REGION D
                    refine wpAnyH_take (i := 0) (v := .nilIface) (op_at rfl) (by kernel_rfl) (by kernel_rfl) (by kernel_rfl) (fun _ _ _ h => h) (Or.inl ⟨by rfl, fun w_ hSw => ?_⟩) H0 ?_
                    · skip; go_simp
                    try simp only [Act.put, List.setIfInBounds_toArray, List.set_cons_zero, List.set_cons_succ]
                    refine wpAnyH_take (i := 1) (v := .bool true) (op_at rfl) (by kernel_rfl) (by kernel_rfl) (by kernel_rfl) (fun _ _ _ h => h) (Or.inl ⟨by rfl, fun w_ hSw => ?_⟩) H0 ?_
                    · skip; go_simp
                    try simp only [Act.put, List.setIfInBounds_toArray, List.set_cons_zero, List.set_cons_succ]
                    refine wpAnyH_take (i := 2) (v := .bool true) (op_at rfl) (by kernel_rfl) (by kernel_rfl) (by kernel_rfl) (fun _ _ _ h => h) (Or.inl ⟨by rfl, fun w_ hSw => ?_⟩) H0 ?_
                    · skip; go_simp
                    try simp only [Act.put, List.setIfInBounds_toArray, List.set_cons_zero, List.set_cons_succ]
                    refine wpAnyH_take (i := 3) (v := .agg #[.slice H1 L.length y1, .slice H2 t.co.length y2, .bool t.firm]) (op_at rfl) (by kernel_rfl) (by kernel_rfl) (by kernel_rfl) (fun _ _ _ h => h) (yieldsIf_load_any (by rfl) _ _ rfl ⟨B11, 0, none⟩ rfl _ _ (fun w_ hSw => (hQA.out.below hSw).add) Tryd.underlying38 rfl (hi3A.out _ _ _)) H0 ?_
                    try simp only [Act.put, List.setIfInBounds_toArray, List.set_cons_zero, List.set_cons_succ]
                    refine wpAnyH_take (i := 4) (v := .agg (trc t A1 A2 c1 c2).toArray) (op_at rfl) (by kernel_rfl) (by kernel_rfl) (by kernel_rfl) (fun _ _ _ h => h) (yieldsIf_load_any (by rfl) _ _ rfl ⟨w.heap.size, 0, none⟩ rfl _ _ (fun w_ hSw => (hXeA.out.below hSw).add) Tryd.underlying38 rfl hiA.out) H0 ?_
                    try simp only [Act.put, List.setIfInBounds_toArray, List.set_cons_zero, List.set_cons_succ]
                    refine wpAnyH_take (i := 5) (v := .slice A3 ks.length c3) (op_at rfl) (by kernel_rfl) (by kernel_rfl) (by kernel_rfl) (fun _ _ _ h => h) (Or.inl ⟨by rfl, fun w_ hSw => ?_⟩) H0 ?_
                    · skip; go_simp
                    try simp only [Act.put, List.setIfInBounds_toArray, List.set_cons_zero, List.set_cons_succ]
                    refine wpAnyH_ready (rs := [6]) (by kernel_rfl) (by simp) ?_
                    refine AllReadyH.cons (op_at rfl) (fun K hK => ?_) AllReadyH.nil
                    go_simp
                    go_at_call 21
                    with_reducible refine (hRsA.out V0 (below_then hBBA.out hBBA.out.size H0)).mono ?_
                    rintro e V1_ ⟨⟨r1_1, rfl, hR_⟩, hb_⟩
                    obtain ⟨G1_1, g1_1, hv_⟩ := Kd.R_slice hR_
                    subst hv_
                    go_wp2_with fail
                    refine hK.out _ _ (below_then H0 H0.size hb_) (fun H1_ => ?_)
                    have RR_1 := Aside0.mk (rowS hR_)
                    clear hK K hb_ hR_
                    try simp only [Act.put, List.setIfInBounds_toArray, List.set_cons_zero, List.set_cons_succ]
                    refine wpAnyH_ready (rs := [7]) (by kernel_rfl) (by simp) ?_
                    refine AllReadyH.cons (op_at rfl) (fun K hK => ?_) AllReadyH.nil
                    go_simp
                    go_at_call 19
                    with_reducible refine (hN2A.out V1_ H1 H2 y1 y2 (rowS (Kd.R_below hGSA.out H1_)) (rowC (Kd.R_below hGCA.out H1_)) (below_then hBBA.out hBBA.out.size H1_) G1_1 g1_1 RR_1.out).mono ?_
                    rintro e V2_ ⟨rfl, hb_⟩
                    go_wp2_with fail
                    refine hK.out _ _ (below_then H1_ H1_.size hb_) (fun H2_ => ?_)
                    clear hK K hb_
                    try simp only [Act.put, List.setIfInBounds_toArray, List.set_cons_zero, List.set_cons_succ]
                    refine wpAnyH_take (i := 8) (v := .bool true) (op_at rfl) (by kernel_rfl) (by kernel_rfl) (by kernel_rfl) (fun _ _ _ h => h) (Or.inl ⟨by rfl, fun w_ hSw => ?_⟩) H2_ ?_
                    · skip; go_simp
                    try simp only [Act.put, List.setIfInBounds_toArray, List.set_cons_zero, List.set_cons_succ]
                    refine wpAnyH_take (i := 9) (v := .bool true) (op_at rfl) (by kernel_rfl) (by kernel_rfl) (by kernel_rfl) (fun _ _ _ h => h) (Or.inl ⟨by rfl, fun w_ hSw => ?_⟩) H2_ ?_
                    · skip; go_simp
                    try simp only [Act.put, List.setIfInBounds_toArray, List.set_cons_zero, List.set_cons_succ]
                    refine wpAnyH_take (i := 10) (v := .agg #[.slice B1 t.sp.length m1, .slice B2 t.co.length m2, .bool t.firm]) (op_at rfl) (by kernel_rfl) (by kernel_rfl) (by kernel_rfl) (fun _ _ _ h => h) (yieldsIf_load_any (by rfl) _ _ rfl ⟨O, 0, none⟩ rfl _ _ (fun w_ hSw => (hOeA.out.below hSw).add) Tryd.underlying38 rfl (hi3A.out _ _ _)) H2_ ?_
                    try simp only [Act.put, List.setIfInBounds_toArray, List.set_cons_zero, List.set_cons_succ]
                    refine wpAnyH_take (i := 11) (v := .agg (trc t A1 A2 c1 c2).toArray) (op_at rfl) (by kernel_rfl) (by kernel_rfl) (by kernel_rfl) (fun _ _ _ h => h) (yieldsIf_load_any (by rfl) _ _ rfl ⟨w.heap.size, 0, none⟩ rfl _ _ (fun w_ hSw => (hXeA.out.below hSw).add) Tryd.underlying38 rfl hiA.out) H2_ ?_
                    try simp only [Act.put, List.setIfInBounds_toArray, List.set_cons_zero, List.set_cons_succ]
                    refine wpAnyH_ready (rs := [12]) (by kernel_rfl) (by simp) ?_
                    refine AllReadyH.cons (op_at rfl) (fun K hK => ?_) AllReadyH.nil
                    go_simp
                    go_at_call 19
                    with_reducible refine (hNoA.out V2_ (below_then hBBA.out hBBA.out.size H2_)).mono ?_
                    rintro e V3_ ⟨rfl, hb⟩
                    go_wp2_with fail
                    refine hK.out _ _ (below_then H2_ H2_.size hb) (fun H3_ => ?_)
                    clear hK K hb
                    try simp only [Act.put, List.setIfInBounds_toArray, List.set_cons_zero, List.set_cons_succ]
                    refine wpAnyH_take (i := 13) (v := .bool true) (op_at rfl) (by kernel_rfl) (by kernel_rfl) (by kernel_rfl) (fun _ _ _ h => h) (Or.inl ⟨by rfl, fun w_ hSw => ?_⟩) H3_ ?_
                    · skip; go_simp
                    try simp only [Act.put, List.setIfInBounds_toArray, List.set_cons_zero, List.set_cons_succ]
                    refine wpAnyH_take (i := 14) (v := .bool true) (op_at rfl) (by kernel_rfl) (by kernel_rfl) (by kernel_rfl) (fun _ _ _ h => h) (Or.inl ⟨by rfl, fun w_ hSw => ?_⟩) H3_ ?_
                    · skip; go_simp
                    try simp only [Act.put, List.setIfInBounds_toArray, List.set_cons_zero, List.set_cons_succ]
                    refine wpAnyH_take (i := 15) (v := .slice A3 ks.length c3) (op_at rfl) (by kernel_rfl) (by kernel_rfl) (by kernel_rfl) (fun _ _ _ h => h) (Or.inl ⟨by rfl, fun w_ hSw => ?_⟩) H3_ ?_
                    · skip; go_simp
                    try simp only [Act.put, List.setIfInBounds_toArray, List.set_cons_zero, List.set_cons_succ]
                    refine wpAnyH_take (i := 16) (v := .int .i64 (ks.length : Int)) (op_at rfl) (by kernel_rfl) (by kernel_rfl) (by kernel_rfl) (fun _ _ _ h => h) (Or.inl ⟨by rfl, fun w_ hSw => ?_⟩) H3_ ?_
                    · skip; go_simp
                    try simp only [Act.put, List.setIfInBounds_toArray, List.set_cons_zero, List.set_cons_succ]
                    refine wpAnyH_take (i := 17) (v := .bool false) (op_at rfl) (by kernel_rfl) (by kernel_rfl) (by kernel_rfl) (fun _ _ _ h => h) (Or.inl ⟨by rfl, fun w_ hSw => ?_⟩) H3_ ?_
                    · skip; go_simp
                    try simp only [Act.put, List.setIfInBounds_toArray, List.set_cons_zero, List.set_cons_succ]
                    refine wpAnyH_take (i := 18) (v := .bool false) (op_at rfl) (by kernel_rfl) (by kernel_rfl) (by kernel_rfl) (fun _ _ _ h => h) (Or.inl ⟨by rfl, fun w_ hSw => ?_⟩) H3_ ?_
                    · skip; go_simp
                    try simp only [Act.put, List.setIfInBounds_toArray, List.set_cons_zero, List.set_cons_succ]
                    refine wpAnyH_take (i := 19) (v := .agg #[.slice F1 L.length n1, .slice F2 t.co.length n2, .bool t.firm]) (op_at rfl) (by kernel_rfl) (by kernel_rfl) (by kernel_rfl) (fun _ _ _ h => h) (yieldsIf_load_any (by rfl) _ _ rfl ⟨B9, 0, none⟩ rfl _ _ (fun w_ hSw => (hZeA.out.below hSw).add) Tryd.underlying38 rfl (hi3A.out _ _ _)) H3_ ?_
                    try simp only [Act.put, List.setIfInBounds_toArray, List.set_cons_zero, List.set_cons_succ]
                    refine wpAnyH_take (i := 20) (v := .slice E5 ks.length k5) (op_at rfl) (by kernel_rfl) (by kernel_rfl) (by kernel_rfl) (fun _ _ _ h => h) (Or.inl ⟨by rfl, fun w_ hSw => ?_⟩) H3_ ?_
                    · skip; go_simp
                    try simp only [Act.put, List.setIfInBounds_toArray, List.set_cons_zero, List.set_cons_succ]
                    refine wpAnyH_ready (rs := [21]) (by kernel_rfl) (by simp) ?_
                    refine AllReadyH.cons (op_at rfl) (fun K hK => ?_) AllReadyH.nil
                    go_simp
                    go_at_call 15
                    with_reducible refine (hCbA.out V3_ H3_).mono ?_
                    rintro e V4_ ⟨rfl, hb⟩
                    go_wp2_with fail
                    refine hK.out _ _ (below_then H3_ H3_.size hb) (fun H4_ => ?_)
                    clear hK K hb
                    try simp only [Act.put, List.setIfInBounds_toArray, List.set_cons_zero, List.set_cons_succ]
                    refine wpAnyH_ready (rs := [22]) (by kernel_rfl) (by simp) ?_
                    refine AllReadyH.cons (op_at rfl) (fun K hK => ?_) AllReadyH.nil
                    go_simp
                    go_at_call 20
                    with_reducible refine (hIxA.out V4_).mono ?_
                    rintro e V5_ ⟨rfl, hb⟩
                    go_wp2_with fail
                    refine hK.out _ _ (below_then H4_ H4_.size hb) (fun H5_ => ?_)
                    clear hK K hb
                    try simp only [Act.put, List.setIfInBounds_toArray, List.set_cons_zero, List.set_cons_succ]
                    refine wpAnyH_take (i := 23) (v := .bool true) (op_at rfl) (by kernel_rfl) (by kernel_rfl) (by kernel_rfl) (fun _ _ _ h => h) (Or.inl ⟨by rfl, fun w_ hSw => ?_⟩) H5_ ?_
                    · skip; go_simp
                    try simp only [Act.put, List.setIfInBounds_toArray, List.set_cons_zero, List.set_cons_succ]
                    refine wpAnyH_take (i := 24) (v := .bool true) (op_at rfl) (by kernel_rfl) (by kernel_rfl) (by kernel_rfl) (fun _ _ _ h => h) (Or.inl ⟨by rfl, fun w_ hSw => ?_⟩) H5_ ?_
                    · skip; go_simp
                    try simp only [Act.put, List.setIfInBounds_toArray, List.set_cons_zero, List.set_cons_succ]
                    refine wpAnyH_take (i := 25) (v := .bool true) (op_at rfl) (by kernel_rfl) (by kernel_rfl) (by kernel_rfl) (fun _ _ _ h => h) (Or.inl ⟨by rfl, fun w_ hSw => ?_⟩) H5_ ?_
                    · skip; go_simp
                    try simp only [Act.put, List.setIfInBounds_toArray, List.set_cons_zero, List.set_cons_succ]
                    refine wpAnyH_done (by kernel_rfl) ?_ _
                    refine NoPanic.normal ?_
                    have hHA := Aside0.mk H5_
                    go_wp2
                    go_ret
                    exact ⟨rfl, below_then hb8A.out hb8A.out.size (below_then hBBA.out hBBA.out.size hHA.out)⟩
                    -- END D
            · have q1 : ((ks.length : Int) != (t.sp.length : Int)) = true := by rw [bne_iff_ne]; omega
              have hsr : sres t ks = ⟨[], [], false⟩ := if_neg hn
              have her : ern t ks = 1 := if_neg hn
              have hck : chk t.sp (cns ks) (idv t) = 1 := chk_len (by rw [hclA.out]; exact hn)
              rw [hsr] at hZA hRSA hRC2A ⊢
              rw [her]
              obtain ⟨F1, n1, hv1⟩ := Kd.R_slice hRSA.out
              obtain ⟨F2, n2, hv2⟩ := Kd.R_slice hRC2A.out
              subst hv1
              subst hv2
              have hIsA := Aside0.mk (fun W => is_calls 1 1 (.inr (.inl rfl)) W)
              have hNzA := Aside0.mk (fun (W : World) (hW : Below W9.heap.size W9 W) => numtx_calls (a := ⟨[], [], false⟩) (b := ⟨[], [], false⟩) (A1 := F1) (A2 := F2) (B1 := none) (B2 := none) (c1 := n1) (c2 := n2) (d1 := 0) (d2 := 0) W (Kd.R_reads' (Kd.R_below hRSA.out hW)).2.2 (Kd.R_reads' (Kd.R_below hRC2A.out hW)).2.2 (Kd.R_reads' (Kd.R_nil kSp 28 W 0 (fun _ => True))).2.2 (Kd.R_reads' (Kd.R_nil kCo 30 W 0 (fun _ => True))).2.2 (by simp) (by simp))
              rw [sameT_self] at hNzA
              simp only [trv, List.length_nil] at hNzA
              have hCkA := Aside0.mk (fun (W : World) (hW : Below W9.heap.size W9 W) => check_calls (c3 := k5) W (hTrA.out.below (below_then hbA.out hbA.out.size hW)) (cns ks) (Kd.R_reads' (Kd.R_below hRCA.out hW)).2.2 (by rw [hclA.out]; omega) (hKA.out.below (below_then hbA.out hbA.out.size hW)) (hBgA.out.below (below_then hbA.out hbA.out.size hW)))
              rw [hck] at hCkA
              rw [hclA.out] at hCkA
              have hclear := hn
              clear hsr her hck hn
              go_wp2_with (first | ((with_reducible refine gate_dst (N := 50) rfl ?_); (refine wpList_load_blk rfl 38 (.tmp 8) rfl O 38 rfl [.slice B1 t.sp.length m1, .slice B2 t.co.length m2, .bool t.firm] _ hOA.out Tryd.underlying38 rfl (hi3A.out _ _ _) ?_)) | ((with_reducible refine gate_dst (N := 51) rfl ?_); (refine wpList_load_blk rfl 38 (.tmp 2) rfl w.heap.size 38 rfl (trc t A1 A2 c1 c2) _ hXA9.out Tryd.underlying38 rfl hiA.out ?_)) | (go_at_call 19; (first | ((with_reducible refine (hNtA.out _ (Below.refl _ _)).mono ?_); rintro e w10 ⟨rfl, hb10⟩; have hb10A := Aside0.mk hb10; have x0 := pw_cell_below hb10 x0; clear hb10) | ((with_reducible refine (hNzA.out _ hb11A.out).mono ?_); rintro e w12 ⟨rfl, hb12⟩; have hb12A := Aside0.mk (below_then hb11A.out hb11A.out.size hb12); clear hb12))) | (go_at_call 20; (first | ((with_reducible refine (hIsA.out _).mono ?_); rintro e w11 ⟨rfl, hb11⟩; have hb11A := Aside0.mk (below_then hb10A.out hb10A.out.size hb11); clear hb11 x0) | ((with_reducible refine (hIsA.out _).mono ?_); rintro e w14 ⟨rfl, hb14⟩; have hb14A := Aside0.mk (below_then hb13A.out hb13A.out.size hb14); clear hb14))) | ((with_reducible refine gate_dst (N := 63) rfl ?_); (refine wpList_load_w (by rfl) 38 (.tmp 9) rfl B9 38 rfl [.slice F1 0 n1, .slice F2 0 n2, .bool false] _ (hZA.out.below hb11A.out) Tryd.underlying38 rfl (hi3A.out _ _ _) ?_)) | ((with_reducible refine gate_dst (N := 68) rfl ?_); (refine wpList_load_w (by rfl) 38 (.tmp 2) rfl w.heap.size 38 rfl (trc t A1 A2 c1 c2) _ (hXA9.out.below hb12A.out) Tryd.underlying38 rfl hiA.out ?_)) | (go_at_call 15; (first | ((with_reducible refine (hCkA.out _ hb12A.out).mono ?_); rintro e w13 ⟨rfl, hb13⟩; have hb13A := Aside0.mk (below_then hb12A.out hb12A.out.size hb13); clear hb13))))
              go_ret
              exact ⟨rfl, below_then hbA.out hbA.out.size hb14A.out⟩
  · go_enter Tryd.func5, Tryd.ntmps5
    go_wp2_with (first | (go_at_call 6; (rw [show (w.alloc (.cells #[.slice A1 t.sp.length c1, .slice A2 t.co.length c2, .bool t.firm] 38)) = V from hVA.out.symm]; (with_reducible refine hAlA.out.mono ?_); rintro e w1 ⟨rfl, hb1⟩; have hXtA := Aside0.mk (hXA.out.below hb1); have hb1A := Aside0.mk (below_then hBA.out hBA.out.size hb1); clear hb1)) | ((with_reducible refine gate_dst (N := 15) rfl ?_); (refine wpList_load_blk rfl 38 (.tmp 2) rfl w.heap.size 38 rfl (trc t A1 A2 c1 c2) _ hXtA.out Tryd.underlying38 rfl hiA.out ?_)) | (go_at_call 13; ((with_reducible refine (hLgA.out _ hb1A.out).mono ?_); rintro e w3 ⟨rfl, hb3⟩; rw [hlA.out]; have hX3A := Aside0.mk (hXtA.out.below ((below_alloc (Below.refl _ _) _).trans (hb3.mono (by simp)))); have hb3A := Aside0.mk (below_then hb1A.out hb1A.out.size ((below_alloc (Below.refl _ _) _).trans (hb3.mono (by simp)))); clear hb3)))
    go_ret
    exact ⟨rfl, hb3A.out⟩
end Go.Proofs.YthnfjbnebfjjfaaDoor.Walk
