/- A parameter that is a list of texts: opened. -/
import Derived.Test.YtlgfekllkahfaaaDoorLaid
import Derived.Deep.Slices
import Derived.Test.YtlgfekllkahfaaaDoorMPa
import Derived.Deep.Strs
import Derived.Lib.SmallJoins
import Derived.Test.YtlgfekllkahfaaaDoorMPb
set_option linter.unusedVariables false
namespace Go.Proofs.YtlgfekllkahfaaaDoor.Laid
open Go Go.ChangeShapes Go.WideShapes Go.RowKit Go.Proofs.YtlgfekllkahfaaaDoorW.PrintWords Go.Proofs.YtlgfekllkahfaaaDoor.Bits Sha ShaW
section
variable {H : Type} {enc : TypeId × Value → H} {w : World} {base : Nat} {sp : Nat → Bool} {held : Bool}
/-- one text -/
theorem open_text {fuel : Nat} {cs : List Value} {y : DataW H × List MemPlace} (hl : cs.length = 1) (hf : DataW.trod enc Tryd.prog w base sp held fuel 40 cs = some y) :
    ∃ (p : List Int) (A : Option Addr) (c : Nat), cs = [.slice A p.length c] ∧ p.length ≤ c ∧ Kd.C (Kd.int .u8) w A p.length p ∧ Bytes p := by
  rcases open_ints Tryd.underlying40 Tryd.underlying5 (by kernel_rfl) hf with ⟨hcs, _⟩ | ⟨x, l, c, zs, hcs, _, hl, hm, hz, _, hcell, hwz⟩
  · exact ⟨[], none, 0, hcs, Nat.le_refl _, Kd.C_nil _ _, fun x hx => by cases hx⟩
  · have hzl : l ≤ zs.length := by rw [hz]; split <;> omega
    have hlz : (zs.take l).length = l := by rw [List.length_take]; omega
    refine ⟨zs.take l, some x, c, by rw [hlz]; exact hcs, by omega, ?_, fun z hz' => wf_u8 (hwz z (List.mem_of_mem_take hz'))⟩
    refine Kd.C_of_reads (d := (0 : Int)) (h1 := fun _ => rfl) ⟨rfl, by rw [hlz]; unfold maxLen at hm; omega, fun _ => ⟨x, rfl, fun j hj => ?_⟩⟩
    rw [hlz] at hj
    rw [hcell j (by omega)]
    simp only [List.getD_eq_getElem?_getD]
    rw [List.getElem?_take_of_lt hj]
theorem open_texts {fuel : Nat} {a : Option Addr} {len cap : Nat} {x : DataW H × List MemPlace} (hf : DataW.trod enc Tryd.prog w base sp held fuel 75 [.slice a len cap] = some x) :
    ∃ L : List (List Int), L.length = len ∧ len ≤ cap ∧ cap ≤ maxLen ∧ kp.C w a L.length L ∧ ∀ p ∈ L, Bytes p := by
  have hc : Tryd.prog.cellsOf 40 = 1 := by kernel_rfl
  rcases Deep.open_slice Tryd.underlying75 hf with ⟨hcs, _⟩ | ⟨ad, l, c, m, n, D, Pl, hcs, _, hl, hm, hmm, _, hx⟩
  · simp only [List.cons.injEq, and_true, Value.slice.injEq] at hcs
    obtain ⟨rfl, rfl, rfl⟩ := hcs
    exact ⟨[], rfl, Nat.le_refl _, Nat.zero_le _, Kd.C_nil _ _, fun p hp => by cases hp⟩
  · simp only [List.cons.injEq, and_true, Value.slice.injEq] at hcs
    obtain ⟨rfl, rfl, rfl⟩ := hcs
    have hlm : len ≤ m := by rw [hmm]; split <;> omega
    obtain ⟨Z, hZ⟩ := Deep.choose_lt (α := List Int) (n := m) (p := fun i p => Bytes p ∧ ∃ (A : Option Addr) (c' : Nat), p.length ≤ c' ∧ Kd.C (Kd.int .u8) w A p.length p ∧ w.cell? (ad.add i) = some (.slice A p.length c')) (fun i hi => by
      obtain ⟨cs', h1, h2⟩ := hx i hi
      rw [hc] at h1
      obtain ⟨_, hlen, hcell⟩ := World.cells?_some h1
      obtain ⟨p, A, c', rfl, k1, k2, k3⟩ := open_text hlen h2
      have e0 := hcell 0 (by omega)
      rw [Deep.add_add] at e0
      exact ⟨p, k3, A, c', k1, k2, by simpa using e0⟩)
    have hlen : ((List.range len).map Z).length = len := by simp
    have hget : ∀ i p, ((List.range len).map Z)[i]? = some p → i < len ∧ p = Z i := fun i p hi => by
      have hil : i < len := by have := (List.getElem?_eq_some_iff.1 hi).1; simpa using this
      refine ⟨hil, ?_⟩
      simp [List.getElem?_map, List.getElem?_range hil] at hi; exact hi.symm
    refine ⟨(List.range len).map Z, hlen, hl, hm, ⟨rfl, by rw [hlen]; unfold maxLen at hm; omega, fun _ => ⟨ad, rfl, fun i p hi => ?_⟩⟩, fun p hp => ?_⟩
    · obtain ⟨hil, rfl⟩ := hget i p hi
      obtain ⟨k3, A, c', k1, k2, k4⟩ := hZ i (by omega)
      refine ⟨[.slice A (Z i).length c'], rfl, ⟨A, c', rfl, k1, k2⟩, fun j u hu => ?_⟩
      have hj : j = 0 ∧ u = .slice A (Z i).length c' := by
        match j, hu with
        | 0, hu => exact ⟨rfl, (Option.some.inj hu).symm⟩
      obtain ⟨rfl, rfl⟩ := hj
      have e : i * kp.sz + 0 = i := by show i * 1 + 0 = i; omega
      rw [e]; exact k4
    · obtain ⟨i, hi, rfl⟩ := List.mem_map.1 hp
      exact (hZ i (by have := List.mem_range.1 hi; omega)).1
end
end Go.Proofs.YtlgfekllkahfaaaDoor.Laid
/- An array's cells, opened. -/
set_option linter.unusedVariables false
namespace Go.Proofs.YtlgfekllkahfaaaDoor.Laid
open Go Go.ChangeShapes Go.WideShapes Go.RowKit Go.Proofs.YtlgfekllkahfaaaDoorW.PrintWords Go.Proofs.YtlgfekllkahfaaaDoor.Bits Sha ShaW
section
variable {H : Type} {enc : TypeId × Value → H} {P : Program} {w : World} {base : Nat} {sp : Nat → Bool} {held : Bool}
theorem open_cells {k e : TypeId} {n : Nat} {q : IntKind} {fuel : Nat} {cs : List Value} {y : DataW H × List MemPlace} (hu : P.underlying k = some (.array n e)) (he : P.underlying e = some (.int q)) (h1 : P.cellsOf e = 1) (hC : P.cellsOf k = n) (hlen : cs.length = n)
    (hf : DataW.trod enc P w base sp held fuel k cs = some y) : ∃ zs : List Int, cs = zs.map (Value.int q) ∧ ∀ z ∈ zs, (Lit.int q z).wf = true := by
  cases fuel with
  | zero => simp [DataW.trod] at hf
  | succ m =>
    rw [DataW.trod_step] at hf
    unfold DataW.trodStep at hf
    simp only [hu, h1, Nat.mul_one] at hf
    rw [if_pos (by rw [hC]; exact hlen)] at hf
    simp only [Option.map_eq_some_iff] at hf
    obtain ⟨ys, hy, e1⟩ := hf
    rw [← hlen] at hy
    obtain ⟨zs, hL, _, hw⟩ := Arrs.each he _ _ hy
    exact ⟨zs, hL, hw⟩
end
end Go.Proofs.YtlgfekllkahfaaaDoor.Laid
/- Parameters that are spends or coins: opened. -/
set_option linter.unusedVariables false
namespace Go.Proofs.YtlgfekllkahfaaaDoor.Laid
open Go Go.ChangeShapes Go.WideShapes Go.RowKit Go.Proofs.YtlgfekllkahfaaaDoorW.PrintWords Go.Proofs.YtlgfekllkahfaaaDoor.Bits Sha ShaW
section
variable {H : Type} {enc : TypeId × Value → H} {P : Program} {w : World} {base : Nat} {sp : Nat → Bool} {held : Bool}
theorem cHash : Tryd.prog.cellsOf 34 = 32 := by kernel_rfl
theorem cInt : Tryd.prog.cellsOf 3 = 1 := by kernel_rfl
theorem cU64 : Tryd.prog.cellsOf 26 = 1 := by kernel_rfl
theorem cStr : Tryd.prog.cellsOf 9 = 1 := by kernel_rfl
theorem cPoint : Tryd.prog.cellsOf 36 = 33 := by kernel_rfl
theorem cSpend : Tryd.prog.cellsOf 38 = 35 := by kernel_rfl
theorem cCoin : Tryd.prog.cellsOf 52 = 2 := by kernel_rfl
/-- a digest, of its cells -/
theorem cells_hash {fuel : Nat} {cs : List Value} {y : DataW H × List MemPlace} (hl : cs.length = 32) (hf : DataW.trod enc Tryd.prog w base sp held fuel 34 cs = some y) : ∃ h, h.length = 32 ∧ Bytes h ∧ cs = nums .u8 h := by
  obtain ⟨zs, rfl, hw⟩ := open_cells Tryd.underlying34 Tryd.underlying5 (by kernel_rfl) cHash hl hf
  exact ⟨zs, by simpa using hl, fun z hz => wf_u8 (hw z hz), rfl⟩
theorem take_one {cs : List Value} {v : Value} (h1 : cs.take 1 = [v]) (h : cs.length = 1) : cs = [v] := by rw [← h1, List.take_of_length_le (by omega)]
theorem cells_point {fuel : Nat} {cs : List Value} {y : DataW H × List MemPlace} (hf : DataW.trod enc Tryd.prog w base sp held fuel 36 cs = some y) :
    ∃ h n, h.length = 32 ∧ Bytes h ∧ (Lit.int .i64 n).wf = true ∧ cs = nums .u8 h ++ [.int .i64 n] := by
  obtain ⟨y0, y1, m, _, hl, h0, h1⟩ := trod_struct2 Tryd.underlying36 hf
  rw [cPoint] at hl
  simp only [cHash, cInt, List.drop_zero] at h0 h1
  obtain ⟨h, hh, hb, e0⟩ := cells_hash (by rw [List.length_take]; omega) h0
  obtain ⟨n, e1, _, hw⟩ := DataW.trod_int Tryd.underlying3 h1
  refine ⟨h, n, hh, hb, hw, ?_⟩
  rw [← e0, ← take_one e1 (by rw [List.length_drop]; omega), List.take_append_drop]
theorem cells_spend {fuel : Nat} {cs : List Value} {y : DataW H × List MemPlace} (hf : DataW.trod enc Tryd.prog w base sp held fuel 38 cs = some y) :
    ∃ s : Sp, s.tx.length = 32 ∧ Bytes s.tx ∧ (Lit.int .i64 s.n).wf = true ∧ s.key.size ≤ maxLen ∧ (Lit.int .u64 s.sel).wf = true ∧ cs = spc s := by
  obtain ⟨y0, y1, y2, m, _, hl, h0, h1, h2⟩ := Go.Deep.trod_struct3 Tryd.underlying38 hf
  rw [cSpend] at hl
  simp only [cPoint, cStr, cU64, List.drop_zero] at h0 h1 h2
  obtain ⟨h, n, hh, hb, hn, e0⟩ := cells_point h0
  obtain ⟨s, e1, _, hs⟩ := DataW.trod_string Tryd.underlying9 h1
  obtain ⟨x, e2, _, hx⟩ := DataW.trod_int Tryd.underlying26 h2
  refine ⟨⟨h, n, s, x⟩, hh, hb, hn, hs, hx, ?_⟩
  have d2 := take_one e2 (by rw [List.length_drop]; omega)
  have d1 : cs.drop 33 = .string s :: cs.drop 34 := by
    have := List.take_append_drop 1 (cs.drop 33)
    rw [e1, List.drop_drop] at this
    exact this.symm
  unfold spc
  have := List.take_append_drop 33 cs
  rw [e0, d1, d2] at this
  rw [← this]; simp
theorem cells_coin {fuel : Nat} {cs : List Value} {y : DataW H × List MemPlace} (hf : DataW.trod enc Tryd.prog w base sp held fuel 52 cs = some y) :
    ∃ c : Co, (Lit.int .i64 c.value).wf = true ∧ (Lit.int .u64 c.lock).wf = true ∧ cs = coc c := by
  obtain ⟨y0, y1, m, _, hl, h0, h1⟩ := trod_struct2 Tryd.underlying52 hf
  rw [cCoin] at hl
  simp only [cInt, cU64, List.drop_zero] at h0 h1
  obtain ⟨v, e0, _, hv⟩ := DataW.trod_int Tryd.underlying3 h0
  obtain ⟨l, e1, _, hx⟩ := DataW.trod_int Tryd.underlying26 h1
  refine ⟨⟨v, l⟩, hv, hx, ?_⟩
  have := List.take_append_drop 1 cs
  rw [e0, take_one e1 (by rw [List.length_drop]; omega)] at this
  rw [← this]; rfl
end
end Go.Proofs.YtlgfekllkahfaaaDoor.Laid
/- Parameters that are transactions, or slices of coins: opened. -/
set_option linter.unusedVariables false
namespace Go.Proofs.YtlgfekllkahfaaaDoor.Laid
open Go Go.ChangeShapes Go.WideShapes Go.RowKit Go.Proofs.YtlgfekllkahfaaaDoorW.PrintWords Go.Proofs.YtlgfekllkahfaaaDoor.Bits Sha ShaW Pack
section
variable {H : Type} {enc : TypeId × Value → H} {w : World} {base : Nat} {sp : Nat → Bool} {held : Bool}
/-- a row of elements that lie flat -/
theorem open_rows {α : Type} {ts e : TypeId} {sz fuel : Nat} {cs : List Value} {x : DataW H × List MemPlace} (R : α → List Value → Prop) (hu : Tryd.prog.underlying ts = some (.slice e)) (hc : Tryd.prog.cellsOf e = sz)
    (hcell : ∀ (f : Nat) (l : List Value) (y : DataW H × List MemPlace), DataW.trod enc Tryd.prog w base sp held f e l = some y → ∃ a, R a l) (hf : DataW.trod enc Tryd.prog w base sp held fuel ts cs = some x) :
    ∃ (L : List α) (a : Option Addr) (cap : Nat), cs = [.slice a L.length cap] ∧ L.length ≤ cap ∧ ReadsRow R sz w a L.length L := by
  rcases Deep.open_slice hu hf with ⟨hcs, _⟩ | ⟨ad, l, c, m, n, D, Pl, hcs, _, hl, hm, hmm, _, hx⟩
  · exact ⟨[], none, 0, hcs, Nat.le_refl _, ⟨rfl, Nat.zero_le _, fun h => absurd h (Nat.lt_irrefl _)⟩⟩
  · have hlm : l ≤ m := by rw [hmm]; split <;> omega
    rcases Nat.eq_zero_or_pos l with h0 | h0
    · subst h0
      exact ⟨[], some ad, c, hcs, Nat.zero_le _, ⟨rfl, Nat.zero_le _, fun h => absurd h (Nat.lt_irrefl _)⟩⟩
    obtain ⟨cs0, h1, h2⟩ := hx 0 (by omega)
    obtain ⟨a0, _⟩ := hcell _ _ _ h2
    haveI : Inhabited α := ⟨a0⟩
    obtain ⟨Z, hZ⟩ := Deep.choose_lt (α := α) (n := m) (p := fun i a => ∃ c, c.length = sz ∧ R a c ∧ ∀ (j : Nat) (u : Value), c[j]? = some u → w.cell? (ad.add (i * sz + j)) = some u) (fun i hi => by
      obtain ⟨cs', h1, h2⟩ := hx i hi
      rw [hc] at h1
      obtain ⟨_, hlen, hce⟩ := World.cells?_some h1
      obtain ⟨a, ha⟩ := hcell _ _ _ h2
      refine ⟨a, cs', hlen, ha, fun j u hu => ?_⟩
      have e0 := hce j (by have := (List.getElem?_eq_some_iff.1 hu).1; omega)
      rw [Deep.add_add] at e0
      rw [e0]; exact hu)
    have hlen : ((List.range l).map Z).length = l := by simp
    refine ⟨(List.range l).map Z, some ad, c, by rw [hlen]; exact hcs, by rw [hlen]; exact hl, ⟨rfl, by rw [hlen]; unfold maxLen at hm; omega, fun _ => ⟨ad, rfl, fun i p hi => ?_⟩⟩⟩
    have hil : i < l := by have := (List.getElem?_eq_some_iff.1 hi).1; simpa using this
    simp [List.getElem?_map, List.getElem?_range hil] at hi
    subst hi
    exact hZ i (by omega)
theorem open_spends {fuel : Nat} {cs : List Value} {x : DataW H × List MemPlace} (hf : DataW.trod enc Tryd.prog w base sp held fuel 22 cs = some x) :
    ∃ (L : List Sp) (a : Option Addr) (cap : Nat), cs = [.slice a L.length cap] ∧ L.length ≤ cap ∧ SpR0 w a L.length L :=
  open_rows _ Tryd.underlying22 cSpend (fun f l y h => by
    obtain ⟨s, h1, h2, h3, h4, h5, h6⟩ := cells_spend h
    exact ⟨s, ⟨h1, h2, (wf_u64 h5).1, (wf_u64 h5).2, by unfold maxLen at h4; omega⟩, h6⟩) hf
theorem open_coins {fuel : Nat} {cs : List Value} {x : DataW H × List MemPlace} (hf : DataW.trod enc Tryd.prog w base sp held fuel 23 cs = some x) :
    ∃ (L : List Co) (a : Option Addr) (cap : Nat), cs = [.slice a L.length cap] ∧ L.length ≤ cap ∧ CoR w a L.length L :=
  open_rows _ Tryd.underlying23 cCoin (fun f l y h => by
    obtain ⟨c, h1, h2, h3⟩ := cells_coin h
    exact ⟨c, wf_u64 h2, h3⟩) hf
theorem cSpends : Tryd.prog.cellsOf 22 = 1 := by kernel_rfl
theorem cCoins : Tryd.prog.cellsOf 23 = 1 := by kernel_rfl
theorem cBool : Tryd.prog.cellsOf 4 = 1 := by kernel_rfl
theorem cTx : Tryd.prog.cellsOf 25 = 3 := by kernel_rfl
theorem cells_tx {fuel : Nat} {cs : List Value} {y : DataW H × List MemPlace} (hf : DataW.trod enc Tryd.prog w base sp held fuel 25 cs = some y) :
    ∃ (t : Tr) (A1 A2 : Option Addr) (c1 c2 : Nat), cs = trc t A1 A2 c1 c2 ∧ SpR0 w A1 t.sp.length t.sp ∧ CoR w A2 t.co.length t.co ∧ t.sp.length ≤ c1 ∧ t.co.length ≤ c2 := by
  obtain ⟨y0, y1, y2, m, _, hl, h0, h1, h2⟩ := Go.Deep.trod_struct3 Tryd.underlying25 hf
  rw [cTx] at hl
  simp only [cSpends, cCoins, cBool, List.drop_zero] at h0 h1 h2
  obtain ⟨L, A1, c1, e0, k1, hL⟩ := open_spends h0
  obtain ⟨M, A2, c2, e1, k2, hM⟩ := open_coins h1
  obtain ⟨b, e2, _⟩ := DataW.trod_bool Tryd.underlying4 h2
  refine ⟨⟨L, M, b⟩, A1, A2, c1, c2, ?_, hL, hM, k1, k2⟩
  have d2 := take_one e2 (by rw [List.length_drop]; omega)
  have d1 : cs.drop 1 = .slice A2 M.length c2 :: cs.drop 2 := by
    have := List.take_append_drop 1 (cs.drop 1)
    rw [e1, List.drop_drop] at this
    exact this.symm
  have := List.take_append_drop 1 cs
  rw [e0, d1, d2] at this
  rw [← this]; rfl
end
end Go.Proofs.YtlgfekllkahfaaaDoor.Laid
