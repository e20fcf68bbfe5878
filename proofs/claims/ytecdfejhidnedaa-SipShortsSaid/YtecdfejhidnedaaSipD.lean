/- Lists of digests; the short ids of all. -/
import Derived.Test.YtecdfejhidnedaaSipS
import Derived.Deep.Slices
import Derived.Deep.MidRow
set_option linter.unusedVariables false
set_option linter.unusedSimpArgs false
namespace Go.Proofs.Ytecdfejhidnedaa.Sip
open Go.RowKit Go.Proofs.YtecdfejhidnedaaW.PrintWords Go.Proofs.Ytecdfejhidnedaa Go.Proofs.Ytecdfejhidnedaa.Bits
/-- a slice of digests -/
def Dg (W : World) (A : Option Addr) (L : List (List Int)) : Prop := ∀ (i : Nat) (h : List Int), L[i]? = some h → h.length = 32 ∧ Bytes h ∧ ∃ ad, A = some ad ∧ ∀ j : Nat, j < 32 → W.cell? (ad.add (i * 32 + j)) = some (.int .u8 (h.getD j 0))
theorem Dg.below {W W1 : World} {A : Option Addr} {L : List (List Int)} (h : Dg W A L) (hb : Below W.heap.size W W1) : Dg W1 A L := fun i x hx => by
  obtain ⟨h1, h2, ad, rfl, h3⟩ := h i x hx
  exact ⟨h1, h2, ad, rfl, fun j hj => (hb.cell (World.block_lt_of_cell? W _ (h3 j hj))).trans (h3 j hj)⟩
theorem Dg.at {W : World} {A : Option Addr} {L : List (List Int)} (h : Dg W A L) (i : Nat) (x : List Int) (hx : L[i]? = some x) : ∃ ad, A = some ad ∧ ∀ j v, (nums .u8 x)[j]? = some v → W.cell? ((ad.add (i * 32)).add j) = some v := by
  obtain ⟨h1, h2, ad, rfl, h3⟩ := h i x hx
  refine ⟨ad, rfl, fun j v hv => ?_⟩
  have hj : j < 32 := by have := (List.getElem?_eq_some_iff.1 hv).1; simpa [nums, h1] using this
  rw [Deep.add_add, h3 j hj, ← hv]
  simp [nums, List.getElem?_eq_getElem (show j < x.length by omega)]
theorem run_loadAt_any {P : Program} (w : World) (a : Addr) (ty : TypeId) (cs : List Value) (d : TypeDesc) (hc : ∀ j v, cs[j]? = some v → w.cell? (a.add j) = some v)
    (hu : P.underlying ty = some d) (hd : d.isRow = true) (hi : (P.info? ty).map (·.size) = some cs.length) :
    (Instr.loadAt ty (.pointer (some a))).run P w = .ok (.agg cs.toArray) w := by
  have hl : (loadCells a cs.length).run P w = .ok cs.toArray w := run_loadCells_list (P := P) w a cs hc
  have : (loadVar ty a).run P w = .ok (.agg cs.toArray) w := by
    cases hq : P.info? ty with
    | none => simp [hq] at hi
    | some i =>
      have hs : i.size = cs.length := by simpa [hq] using hi
      have hagg : (isAgg ty).run P w = .ok true w := by
        unfold isAgg
        rw [Sem.run_bind, run_underlying hu w]
        cases d <;> simp_all
      simp [loadVar, Sem.run_bind, hagg, sizeOf, typeInfo, hq, hs, hl]
  simp only [Instr.loadAt, Instr.sureAddr, Sem.run_bind, Sem.run_pure, Result.andThen_ok, this]
theorem wpList_load_any {P : Program} {ops : Array Oper} {rest : List Oper} {op : Oper} {a : Act} {w : World} {Q : Exit → Act → World → Prop} (hgd : op.guard = none) (ty : TypeId) (x : Operand) (ho : op.op = .load ty x)
    (ad : Addr) (hx : a.eval x = .pointer (some ad)) (cs : List Value) (d : TypeDesc) (hc : ∀ j v, cs[j]? = some v → w.cell? (ad.add j) = some v)
    (hu : P.underlying ty = some d) (hd : d.isRow = true) (hi : (P.info? ty).map (·.size) = some cs.length)
    (h : wpList P ops Q rest (a.put op.dst (.agg cs.toArray)) w) : wpList P ops Q (op :: rest) a w :=
  wpList_plain hgd fun K hK => by
    unfold Oper.wp execOp
    simp only [ho, hx, Sem.run_bind, Sem.run_pure, Result.andThen_ok, run_loadAt_any w ad ty cs d hc hu hd hi]
    exact hK _ _ h
theorem below_setCells {B : Nat} {w : World} (b : Nat) (hb : B ≤ b) : ∀ (vs : List Value) (o : Nat) (W : World), Below B w W → Below B w (W.setCells b o vs)
  | [], _, _, h => h
  | v :: r, o, W, h => by
    rw [World.setCells]
    exact below_setCells b hb r (o + 1) _ (h.setCell (p := ⟨b, o, none⟩) hb v)
/-- a digest stored into a new block -/
theorem wpList_put_hash {P : Program} {ops : Array Oper} {rest : List Oper} {op : Oper} {a : Act} {w0 w : World} {Q : Exit → Act → World → Prop} (hgd : op.guard = none) (ty : TypeId) (x y : Operand) (ho : op.op = .store ty x y)
    (b : Nat) (h : List Int) (hl : h.length = 32) (hx : a.eval x = .pointer (some ⟨b, 0, none⟩)) (hy : a.eval y = hv h) (cs : Array Value) (t : TypeId) (hbk : w.heap[b]? = some (.cells cs t (0, 0))) (hcs : cs.size = 32)
    (hi : (P.info? ty).map (·.size) = some (nums .u8 h).length) (B : Nat) (hB : Below B w0 w) (hBb : B ≤ b)
    (hk : ∀ W1, Below B w0 W1 → b < W1.heap.size → (∀ j v, (nums .u8 h)[j]? = some v → W1.cell? ((⟨b, 0, none⟩ : Addr).add j) = some v) → (∀ p : Addr, p.block ≠ b → W1.cell? p = w.cell? p) → wpList P ops Q rest (a.put op.dst undef) W1) : wpList P ops Q (op :: rest) a w := by
  have hz : (nums .u8 h).length = 32 := by simp [nums, hl]
  have ht : w.there b 0 (nums .u8 h).length := fun j hj => by
    rw [hz] at hj
    refine ⟨?_, blk_frozen hbk _⟩
    rw [blk_cell hbk]; simp [hcs]; omega
  refine wpList_store_mid hgd ty x y ho b 0 (nums .u8 h).toArray hx hy (by simpa using ht) (by simpa using hi) (by simp [nums, Value.oneCell']) ?_
  have hr := World.rangeAt_setCells_same w b 0 _ ht
  refine hk _ (below_setCells b hBb _ 0 w hB) ?_ (fun j v hv => ?_) (fun p hp => ?_)
  · exact World.block_lt_of_cell? _ ⟨b, 0 + 0, none⟩ (hr 0 (nums .u8 h)[0] (List.getElem?_eq_getElem (by omega)))
  · rw [add_plain]; have := hr j v hv; rw [Nat.zero_add] at this; exact this
  · exact World.cell?_setCells_out b _ 0 w p (fun e => absurd e hp)
theorem info_hash (h : List Int) (hl : h.length = 32) : (Try.prog.info? 36).map (·.size) = some (nums .u8 h).length := by rw [show (nums .u8 h).length = 32 by simp [nums, hl]]; kernel_rfl
theorem info_u32 : (Try.prog.info? 39).map (fun i => (i.zero, i.size, i.bytes)) = some (some (.int .u32 0), 1, 4) := by kernel_rfl
/-- a new digest's cells -/
abbrev noughts : Array Value := #[.int .u8 0, .int .u8 0, .int .u8 0, .int .u8 0, .int .u8 0, .int .u8 0, .int .u8 0, .int .u8 0, .int .u8 0, .int .u8 0, .int .u8 0, .int .u8 0, .int .u8 0, .int .u8 0, .int .u8 0, .int .u8 0, .int .u8 0, .int .u8 0, .int .u8 0, .int .u8 0, .int .u8 0, .int .u8 0, .int .u8 0, .int .u8 0, .int .u8 0, .int .u8 0, .int .u8 0, .int .u8 0, .int .u8 0, .int .u8 0, .int .u8 0, .int .u8 0]
def sh (k0 k1 : W) (h : List Int) : Int := q (hash k0 k1 h) % 4294967295 + 1
theorem hash_row : Try.prog.underlying 36 = some (.array 32 5) := Try.underlying36
set_option maxRecDepth 100000 in
set_option maxHeartbeats 400000 in
theorem shorts_calls (k0 k1 : W) (A : Option Addr) (c : Nat) (L : List (List Int)) (w : World) (hD : Dg w A L) (hc : L.length ≤ c) (hn : L.length ≤ 30) :
    Calls Try.prog 16 #[.agg #[.int .u64 (q k0), .int .u64 (q k1)], .slice A L.length c] w fun e w' => (∃ A' c', e = .returned (.slice A' L.length c') ∧ L.length ≤ c' ∧ Kd.C (Kd.int .u32) w' A' L.length (L.map (sh k0 k1))) ∧ Below w.heap.size w w' := by
  have hu2 := Try.underlying27
  obtain ⟨V, hV⟩ : ∃ V, V = w.alloc (.cells #[.int .u64 (q k0), .int .u64 (q k1)] 27) := ⟨_, rfl⟩
  have hVs : V.heap.size = w.heap.size + 1 := by rw [hV]; simp
  have hVB : Below w.heap.size w V := by rw [hV]; exact (Below.refl _ _).alloc (Nat.le_refl _) _
  have hc0 : V.cell? ⟨w.heap.size, 0, none⟩ = some (.int .u64 (q k0)) := by rw [hV]; simp
  have hc1 : V.cell? ⟨w.heap.size, 1, none⟩ = some (.int .u64 (q k1)) := by rw [hV]; simp
  have hDV := hD.below hVB
  have hS := fun (h : List Int) (hb : Bytes h) (hl : h.length = 32) (W : World) => short_calls k0 k1 h hb hl W
  go_enter Try.func16, Try.ntmps16
  go_wp2_with fail
  rw [← hV]
  clear hV hD
  go_loopw [10, 5] (fun i v wr => ∃ k : Nat, k ≤ L.length ∧ i = .int .i64 k ∧ Below V.heap.size V wr ∧ Kd.R (Kd.int .u32) 39 wr V.heap.size (fun _ => True) v ((L.take k).map (sh k0 k1))) (fun i _ _ => L.length - (intOf i).toNat)
  case atStart => exact ⟨0, by omega, by simp, Below.refl _ _, Kd.R_nil _ _ _ _ _⟩
  case round =>
    obtain ⟨k, hk, rfl, hBr, hR⟩ := hrel
    by_cases hlt : k < L.length
    · have g1 : (k : Int) < L.length := by omega
      have g0 : (0 : Int) ≤ (k : Int) := by omega
      obtain ⟨h, hh⟩ : ∃ h, L[k]? = some h := ⟨_, List.getElem?_eq_getElem hlt⟩
      obtain ⟨hl, hb, _⟩ := hDV k h hh
      obtain ⟨ad, rfl, hat⟩ := (hDV.below hBr).at k h hh
      have hi := IntWalk.i64_in ((k : Int) + 1) (by omega)
      have hih := info_hash h hl
      have z0 := (hBr.cell (p := ⟨w.heap.size, 0, none⟩) (by simp; omega)).trans hc0
      have z1 := (hBr.cell (p := ⟨w.heap.size, 1, none⟩) (by simp; omega)).trans hc1
      have hA := Aside0.mk hat
      have hcS := hS h hb hl
      obtain ⟨y, hy⟩ : ∃ y, y = sh k0 k1 h := ⟨_, rfl⟩
      change ∀ W : World, Calls Try.prog 13 #[.agg #[.int .u64 (q k0), .int .u64 (q k1)], hv h] W (fun e w' => e = .returned (.int .u32 (sh k0 k1 h)) ∧ Below W.heap.size W w') at hcS
      obtain ⟨l, hl2⟩ : ∃ l, l = (L.take k).map (sh k0 k1) := ⟨_, rfl⟩
      have hll : l.length ≤ 30 := by rw [hl2, List.length_map, List.length_take]; omega
      have htk : (L.take (k + 1)).map (sh k0 k1) = l ++ [y] := by
        rw [List.take_add_one, hh, hy, hl2]; simp
      rw [← hy] at hcS
      rw [← hl2] at hR
      replace htk := Aside0.mk htk
      have hBs := hBr.size
      clear hat hc0 hc1 hDV hy hl2 hS hh
      go_wp2_with (first | ((with_reducible refine gate_dst (N := 13) rfl ?_); refine wpList_load_any rfl 36 (.tmp 12) rfl (ad.add (k * 32)) rfl (nums .u8 h) _ hA.out hash_row rfl hih ?_) | ((with_reducible refine gate_dst (N := 7) rfl ?_); refine box_event ?hg (N := 7) ?hd (cs := noughts) (t := 36) ?hr ?_; (case hd => rfl); (case hg => rfl); (case hr => first | (go_simp; done) | (go_simp; rfl)); rintro gb rfl w5 hbox hb5; refine wpList_put_hash (w0 := wr) rfl 36 (.tmp 7) (.tmp 13) rfl wr.heap.size h hl rfl rfl noughts 36 hbox rfl hih wr.heap.size hb5 (Nat.le_refl _) ?_; clear hbox hb5; intro w6 hb6 hlt6 hat6 hap6; clear hap6; have hA6 := Aside0.mk hat6; clear hat6; have z06 := (hb6.cell (p := ⟨w.heap.size, 0, none⟩) (by simp; omega)).trans z0; have z16 := (hb6.cell (p := ⟨w.heap.size, 1, none⟩) (by simp; omega)).trans z1; clear z0 z1) | ((with_reducible refine gate_dst (N := 16) rfl ?_); refine wpList_load_any rfl 36 (.tmp 7) rfl ⟨wr.heap.size, 0, none⟩ rfl (nums .u8 h) _ hA6.out hash_row rfl hih ?_) | (go_at_call 13; with_reducible refine (hcS w6).mono ?_; rintro e w7 ⟨rfl, hb7⟩; have hR7 := Kd.R_below (Kd.R_below hR hb6) hb7; have hB7 := below_to (below_to hBr hBs hb6) (Nat.le_trans hBs hb6.size) hb7; clear hb6 hb7 hR hBr z06 z16 hA6) | (at_builtin; refine Kd.R_append (Kd.int .u32) (w0 := V) V.heap.size rfl (.tmp 14) (.tmp 18) 43 39 (.int .u32 0) 4 rfl Try.underlying43 info_u32 rfl (by decide) (by omega) u5 l y [.int .u32 y] (fun _ => True) (fun _ => False) rfl rfl rfl (fun _ hk => hk.elim) (fun _ _ => trivial) hR7 hB7 hB7.size (by omega) ?_; intro v1 w10 hR1 hb1 hg7 hat7; clear hR7 hB7 hg7 hat7))
      go_roundw
      case rel =>
        refine ⟨k + 1, by omega, by go_num, hb1, ?_⟩
        rw [htk.out]; exact hR1
      case measure => simp [intOf]; omega
    · obtain rfl : k = L.length := by omega
      rw [List.take_length] at hR
      obtain ⟨Ap, Ap_c, rfl⟩ := Kd.R_slice hR
      have hCx := (Kd.R_reads' hR).2.2
      have hcx := (Kd.R_reads' hR).2.1
      have hlm : (L.map (sh k0 k1)).length = L.length := List.length_map _
      rw [hlm] at hCx hcx ⊢
      have hBf := below_to hVB (by omega) hBr
      clear hR hc0 hc1 hDV hS hBr
      go_wp2
      go_ret
      exact ⟨⟨_, _, rfl, hcx, hCx⟩, hBf⟩
end Go.Proofs.Ytecdfejhidnedaa.Sip
