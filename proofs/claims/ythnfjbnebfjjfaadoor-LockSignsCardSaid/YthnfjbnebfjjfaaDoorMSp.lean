/- An array's cells, opened. -/
import Derived.Test.YthnfjbnebfjjfaaDoorShaO
import Derived.Test.YthnfjbnebfjjfaaDoorMLk
import Derived.Deep.Strs
import Derived.Lib.SmallJoins
set_option linter.unusedVariables false
namespace Go.Proofs.YthnfjbnebfjjfaaDoor.Laid
open Go Go.ChangeShapes Go.WideShapes Go.RowKit Go.Proofs.YthnfjbnebfjjfaaDoorW.PrintWords Go.Proofs.YthnfjbnebfjjfaaDoor.Bits Sha ShaW
section
variable {H : Type} {enc : TypeId × Value → H} {P : Program} {w : World} {base : Nat} {sp : Nat → Bool} {held : Bool}
theorem open_cells {k e : TypeId} {n : Nat} {q : IntKind} {fuel : Nat} {cs : List Value} {y : DataW H × List MemPlace} (hu : P.underlying k = some (.array n e)) (he : P.underlying e = some (.int q)) (h1 : P.cellsOf e = 1) (hC : P.cellsOf k = n) (hlen : cs.length = n)
    (hf : DataW.trod enc P w base sp held fuel k cs = some y) : ∃ zs : List Int, cs = zs.map (Value.int q) ∧ ∀ z ∈ zs, (Lit.int q z).wf = true := by
  cases fuel with
  | zero => simp [DataW.trod] at hf
  | succ m =>
    rw [DataW.trod_step] at hf
    unfold DataW.trodStep at hf
    simp only [hu, h1, Nat.mul_one] at hf
    rw [if_pos (by rw [hC]; exact hlen)] at hf
    simp only [Option.map_eq_some_iff] at hf
    obtain ⟨ys, hy, e1⟩ := hf
    rw [← hlen] at hy
    obtain ⟨zs, hL, _, hw⟩ := Arrs.each he _ _ hy
    exact ⟨zs, hL, hw⟩
end
end Go.Proofs.YthnfjbnebfjjfaaDoor.Laid
/- Parameters that are spends or coins: opened. -/
set_option linter.unusedVariables false
namespace Go.Proofs.YthnfjbnebfjjfaaDoor.Laid
open Go Go.ChangeShapes Go.WideShapes Go.RowKit Go.Proofs.YthnfjbnebfjjfaaDoorW.PrintWords Go.Proofs.YthnfjbnebfjjfaaDoor.Bits Sha ShaW
section
variable {H : Type} {enc : TypeId × Value → H} {P : Program} {w : World} {base : Nat} {sp : Nat → Bool} {held : Bool}
theorem cHash : Tryd.prog.cellsOf 23 = 32 := by kernel_rfl
theorem cInt : Tryd.prog.cellsOf 3 = 1 := by kernel_rfl
theorem cU64 : Tryd.prog.cellsOf 26 = 1 := by kernel_rfl
theorem cStr : Tryd.prog.cellsOf 9 = 1 := by kernel_rfl
theorem cPoint : Tryd.prog.cellsOf 25 = 33 := by kernel_rfl
theorem cSpend : Tryd.prog.cellsOf 28 = 35 := by kernel_rfl
theorem cCoin : Tryd.prog.cellsOf 30 = 2 := by kernel_rfl
/-- a digest, of its cells -/
theorem cells_hash {fuel : Nat} {cs : List Value} {y : DataW H × List MemPlace} (hl : cs.length = 32) (hf : DataW.trod enc Tryd.prog w base sp held fuel 23 cs = some y) : ∃ h, h.length = 32 ∧ Bytes h ∧ cs = nums .u8 h := by
  obtain ⟨zs, rfl, hw⟩ := open_cells Tryd.underlying23 Tryd.underlying5 (by kernel_rfl) cHash hl hf
  exact ⟨zs, by simpa using hl, fun z hz => wf_u8 (hw z hz), rfl⟩
theorem take_one {cs : List Value} {v : Value} (h1 : cs.take 1 = [v]) (h : cs.length = 1) : cs = [v] := by rw [← h1, List.take_of_length_le (by omega)]
theorem cells_point {fuel : Nat} {cs : List Value} {y : DataW H × List MemPlace} (hf : DataW.trod enc Tryd.prog w base sp held fuel 25 cs = some y) :
    ∃ h n, h.length = 32 ∧ Bytes h ∧ (Lit.int .i64 n).wf = true ∧ cs = nums .u8 h ++ [.int .i64 n] := by
  obtain ⟨y0, y1, m, _, hl, h0, h1⟩ := trod_struct2 Tryd.underlying25 hf
  rw [cPoint] at hl
  simp only [cHash, cInt, List.drop_zero] at h0 h1
  obtain ⟨h, hh, hb, e0⟩ := cells_hash (by rw [List.length_take]; omega) h0
  obtain ⟨n, e1, _, hw⟩ := DataW.trod_int Tryd.underlying3 h1
  refine ⟨h, n, hh, hb, hw, ?_⟩
  rw [← e0, ← take_one e1 (by rw [List.length_drop]; omega), List.take_append_drop]
theorem cells_spend {fuel : Nat} {cs : List Value} {y : DataW H × List MemPlace} (hf : DataW.trod enc Tryd.prog w base sp held fuel 28 cs = some y) :
    ∃ s : Sp, s.tx.length = 32 ∧ Bytes s.tx ∧ (Lit.int .i64 s.n).wf = true ∧ s.key.size ≤ maxLen ∧ (Lit.int .u64 s.sel).wf = true ∧ cs = spc s := by
  obtain ⟨y0, y1, y2, m, _, hl, h0, h1, h2⟩ := Go.Deep.trod_struct3 Tryd.underlying28 hf
  rw [cSpend] at hl
  simp only [cPoint, cStr, cU64, List.drop_zero] at h0 h1 h2
  obtain ⟨h, n, hh, hb, hn, e0⟩ := cells_point h0
  obtain ⟨s, e1, _, hs⟩ := DataW.trod_string Tryd.underlying9 h1
  obtain ⟨x, e2, _, hx⟩ := DataW.trod_int Tryd.underlying26 h2
  refine ⟨⟨h, n, s, x⟩, hh, hb, hn, hs, hx, ?_⟩
  have d2 := take_one e2 (by rw [List.length_drop]; omega)
  have d1 : cs.drop 33 = .string s :: cs.drop 34 := by
    have := List.take_append_drop 1 (cs.drop 33)
    rw [e1, List.drop_drop] at this
    exact this.symm
  unfold spc
  have := List.take_append_drop 33 cs
  rw [e0, d1, d2] at this
  rw [← this]; simp
theorem cells_coin {fuel : Nat} {cs : List Value} {y : DataW H × List MemPlace} (hf : DataW.trod enc Tryd.prog w base sp held fuel 30 cs = some y) :
    ∃ c : Co, (Lit.int .i64 c.value).wf = true ∧ (Lit.int .u64 c.lock).wf = true ∧ cs = coc c := by
  obtain ⟨y0, y1, m, _, hl, h0, h1⟩ := trod_struct2 Tryd.underlying30 hf
  rw [cCoin] at hl
  simp only [cInt, cU64, List.drop_zero] at h0 h1
  obtain ⟨v, e0, _, hv⟩ := DataW.trod_int Tryd.underlying3 h0
  obtain ⟨l, e1, _, hx⟩ := DataW.trod_int Tryd.underlying26 h1
  refine ⟨⟨v, l⟩, hv, hx, ?_⟩
  have := List.take_append_drop 1 cs
  rw [e0, take_one e1 (by rw [List.length_drop]; omega)] at this
  rw [← this]; rfl
end
end Go.Proofs.YthnfjbnebfjjfaaDoor.Laid
