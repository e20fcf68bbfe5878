/- Digests in rows: their kind, one that is read, one that is made. -/
import Derived.Test.YtlgfekllkahfaaaDoorShaI
import Derived.Test.YtlgfekllkahfaaaDoorWArr
import Derived.Great.BuildSlice
set_option linter.unusedVariables false
set_option linter.unusedSimpArgs false
namespace Go.Proofs.YtlgfekllkahfaaaDoor.ShaW
open Go.RowKit Go.Proofs.YtlgfekllkahfaaaDoorW.PrintWords Go.Proofs.YtlgfekllkahfaaaDoorW.PrintMore Go.Proofs.YtlgfekllkahfaaaDoor Go.Proofs.YtlgfekllkahfaaaDoor.Bits Sha ArrK
/-- a digest in a row -/
abbrev kh : Kd (List Int) := Kd.arr 32 (Kd.int .u8) (by decide)
theorem kh_sz : kh.sz = 32 := rfl
theorem info_hash3 : (Tryd.prog.info? 34).map (fun i => (i.zero, i.size, i.bytes)) = some (some (hv zero32), kh.sz, 32) := by kernel_rfl
theorem kh_M {W : World} {base : Nat} {ok : Nat → Prop} {h : List Int} (hl : h.length = 32) : kh.M W base ok h (nums .u8 h) := Kd.arr_of_cells hl
theorem kh_K {W : World} {h : List Int} {cs : List Value} (hh : kh.K W h cs) : h.length = 32 ∧ cs = nums .u8 h := Kd.arr_cells (enc := Value.int .u8) (h1 := fun _ => rfl) hh
theorem kh_mk {W : World} {h : List Int} (hl : h.length = 32) : kh.K W h (nums .u8 h) := kh.K_of_M (base := 0) (ok := fun _ => True) (kh_M hl)
/-- one of a row -/
theorem kh_at {W : World} {A : Option Addr} {L : List (List Int)} (hr : kh.C W A L.length L) (i : Nat) (h : List Int) (hi : L[i]? = some h) :
    h.length = 32 ∧ ∃ ad, A = some ad ∧ ∀ j u, (nums .u8 h)[j]? = some u → W.cell? ((ad.add (i * 32)).add j) = some u := by
  have hlt : i < L.length := (List.getElem?_eq_some_iff.1 hi).1
  obtain ⟨ad, e, hc⟩ := hr.2.2 (by omega)
  obtain ⟨c, _, hK, hcell⟩ := hc i h hi
  obtain ⟨hl, rfl⟩ := kh_K hK
  exact ⟨hl, ad, e, fun j u hu => by rw [Deep.add_add]; exact hcell j u hu⟩
/-- its bytes, as a text -/
theorem kh_text {W : World} {A : Option Addr} {L : List (List Int)} (hr : kh.C W A L.length L) (i : Nat) (h : List Int) (hi : L[i]? = some h) :
    h.length = 32 ∧ ∃ ad, A = some ad ∧ Kd.C (Kd.int .u8) W (some (ad.add (i * 32))) h.length h := by
  obtain ⟨hl, ad, e, hc⟩ := kh_at hr i h hi
  refine ⟨hl, ad, e, Kd.C_of_reads (d := (0 : Int)) (h1 := fun _ => rfl) ⟨rfl, by omega, fun _ => ⟨_, rfl, fun j hj => hc j _ ?_⟩⟩⟩
  simp [nums, hj]
theorem kh_lens {W : World} {A : Option Addr} {L : List (List Int)} (hr : kh.C W A L.length L) : ∀ h ∈ L, h.length = 32 := fun h hm => by
  obtain ⟨i, hi⟩ := List.mem_iff_getElem?.1 hm
  exact (kh_at hr i h hi).1
/-- a whole value, laid over cells as many -/
theorem fill_one {place : Nat → Option (Nat × Nat)} {cells vs : Array Value} {n : Nat} (hp : place 0 = some (0, n)) (hn : vs.size = n) (hc : cells.size = n) : Instr.fill place cells [(0, .agg vs)] = some vs := by
  have e : ∀ (l : List Value) (k : Nat) (cs : Array Value), k + l.length = cs.size → ((l.zipIdx k).foldl (fun cs (p : Value × Nat) => cs.setIfInBounds (0 + p.2) p.1) cs).toList = cs.toList.take k ++ l := by
    intro l
    induction l with
    | nil => intro k cs hk; simp at hk; rw [hk, List.append_nil, List.take_of_length_le (by simp)]; rfl
    | cons v r ih =>
      intro k cs hk
      simp only [List.zipIdx_cons, List.foldl_cons]
      rw [ih (k + 1) _ (by simp at hk ⊢; omega)]
      simp only [Nat.zero_add, Array.toList_setIfInBounds]
      have hlt : k < cs.toList.length := by simp at hk ⊢; omega
      rw [List.take_succ_eq_append_getElem (by rw [List.length_set]; exact hlt), List.take_set_of_le (Nat.le_refl _), List.getElem_set_self]
      simp
  have hcl : (Value.agg vs).cells = vs := rfl
  simp only [Instr.fill, hp, hcl, hn, ne_eq, not_true_eq_false, decide_false, Bool.false_or, Nat.zero_add]
  rw [if_neg (by simp; omega)]
  congr 1
  apply Array.toList_inj.1
  have h := e vs.toList 0 cells (by simp; omega)
  rw [List.take_zero, List.nil_append] at h
  rw [← Array.foldl_toList, Array.toList_zipIdx]
  simpa using h
/-- a slice literal of one digest -/
theorem run_slice_hash (w : World) (t : TypeId) (h : List Int) (hl : h.length = 32) (hu : Tryd.prog.underlying t = some (.slice 34)) :
    (Instr.buildSlice t 1 #[(0, hv h)]).run Tryd.prog w = .ok (.slice (some ⟨w.heap.size, 0, none⟩) 1 1) (w.alloc (.cells (nums .u8 h).toArray 34)) := by
  have hi := info_hash3
  cases hq : Tryd.prog.info? 34 with
  | none => simp [hq] at hi
  | some i =>
    simp only [hq, Option.map_some, Option.some.injEq, Prod.mk.injEq] at hi
    obtain ⟨h1, h2, h3⟩ := hi
    rw [kh_sz] at h2
    refine run_buildSlice w t 34 1 _ _ i (hv zero32) hu hq h1 (by rw [h2]; decide) (by rw [h2]; decide) ?_
    exact fill_one (n := 32) (by rw [h2]) (by simp [nums, hl]) (by rw [h2]; simp)
/-- the same, in a statement that draws its order -/
theorem step_slice_hash {ops : Array Oper} {o : Oper} {a : Act} {w : World} {K : Act → World → Prop} {Q : Exit → Act → World → Prop} (hw : Region.wanted o (yielded ops a.tmps) = true) (t : TypeId) (x : Operand) (ho : o.op = .buildSlice t 1 #[(0, x)])
    (h : List Int) (hl : h.length = 32) (hx : a.eval x = hv h) (hu : Tryd.prog.underlying t = some (.slice 34))
    (hk : K (a.put o.dst (.slice (some ⟨w.heap.size, 0, none⟩) 1 1)) (w.alloc (.cells (nums .u8 h).toArray 34))) :
    if Region.wanted o (yielded ops a.tmps) = true then Oper.wp Tryd.prog o a w K Q else K (a.put o.dst undef) w := by
  rw [if_pos hw]
  unfold Oper.wp execOp
  have hp : (#[(0, x)] : Array (Nat × Operand)).map (fun (i, y) => (i, a.eval y)) = #[(0, hv h)] := by simp [hx]
  simp only [ho, hp, Sem.run_bind, run_slice_hash w t h hl hu, Result.andThen_ok]
  exact hk
theorem wpList_slice_hash {ops : Array Oper} {rest : List Oper} {o : Oper} {a : Act} {w : World} {Q : Exit → Act → World → Prop} (hg : o.guard = none) (t : TypeId) (x : Operand) (ho : o.op = .buildSlice t 1 #[(0, x)])
    (h : List Int) (hl : h.length = 32) (hx : a.eval x = hv h) (hu : Tryd.prog.underlying t = some (.slice 34))
    (hk : wpList Tryd.prog ops Q rest (a.put o.dst (.slice (some ⟨w.heap.size, 0, none⟩) 1 1)) (w.alloc (.cells (nums .u8 h).toArray 34))) : wpList Tryd.prog ops Q (o :: rest) a w :=
  wpList_plain hg fun K hK => by
    have hp : (#[(0, x)] : Array (Nat × Operand)).map (fun (i, y) => (i, a.eval y)) = #[(0, hv h)] := by simp [hx]
    unfold Oper.wp execOp
    simp only [ho, hp, Sem.run_bind, run_slice_hash w t h hl hu, Result.andThen_ok]
    exact hK _ _ hk
/-- two digests compared -/
theorem exec_eql_hash {a : Act} {o : Oper} (x y : Operand) {tt : TypeId} (ho : o.op = .binOp .eql 34 x y tt) (s s' : List Int) (hx : a.eval x = hv s) (hy : a.eval y = hv s') (h1 : s.length = 32) (h2 : s'.length = 32) (w : World) :
    (execOp a.eval o).run Tryd.prog w = .ok (.value (.bool (decide (s = s')))) w := by
  have hE := fun W => run_equalIn_hash s s' h1 h2 W
  unfold execOp
  simp only [ho, hx, hy]
  go_simp
theorem exec_eql_same {a : Act} {o : Oper} (x y : Operand) {tt : TypeId} (ho : o.op = .binOp .eql 34 x y tt) (s : List Int) (hx : a.eval x = hv s) (hy : a.eval y = hv s) (h1 : s.length = 32) (w : World) :
    (execOp a.eval o).run Tryd.prog w = .ok (.value (.bool true)) w := by
  have h := exec_eql_hash (a := a) (o := o) x y ho s s hx hy h1 h1 w
  rwa [decide_eq_true (rfl : s = s)] at h
/-- a load of many cells, in a statement that draws its order -/
theorem yieldsIf_load_any {P : Program} {ops : Array Oper} {S : World → Prop} {op : Oper} {a : Act} (hw : Region.wanted op (yielded ops a.tmps) = true) (ty : TypeId) (x : Operand) (ho : op.op = .load ty x)
    (ad : Addr) (hx : a.eval x = .pointer (some ad)) (cs : List Value) (d : TypeDesc) (hS : ∀ w, S w → ∀ j v, cs[j]? = some v → w.cell? (ad.add j) = some v)
    (hu : P.underlying ty = some d) (hd : d.isRow = true) (hi : (P.info? ty).map (·.size) = some cs.length) : YieldsIf P ops S op (.agg cs.toArray) a :=
  .inl ⟨hw, fun w hw' => by
    unfold execOp
    simp only [ho, hx, Sem.run_bind, Sem.run_pure, Result.andThen_ok, run_loadAt_any w ad ty cs d (hS w hw') hu hd hi]⟩
/-- another row of another type has been written -/
theorem R_apart {α β : Type} {d : Kd α} {d' : Kd β} {e e' : Nat} {W W1 : World} {base base' : Nat} {ok ok' : Nat → Prop} {v v' : Value} {xs : List α} {ys : List β} (h : d.R e W base ok v xs) (h' : d'.R e' W base' ok' v' ys) (ht : ∀ q, q ∈ e :: d.E → q ≠ e') (hg : W.grownBy W1 v'.ownBlock) : d.R e W1 base ok v xs := by
  cases hv : v'.ownBlock with
  | none => rw [hv] at hg; exact Kd.R_grown h hg (fun k _ => by simp)
  | some g =>
    obtain ⟨inner, ho⟩ := Kd.R_own h'
    obtain ⟨cells, hc⟩ := own_typed ho g hv
    rw [hv] at hg
    exact Kd.R_mono (Kd.R_grown (Kd.R_types h hc ht) hg (fun k hk e => hk.2 (Option.some.inj e))) (fun _ hk => hk.1)
theorem exec_neq_same {a : Act} {o : Oper} (x y : Operand) {tt : TypeId} (ho : o.op = .binOp .neq 34 x y tt) (s : List Int) (hx : a.eval x = hv s) (hy : a.eval y = hv s) (h1 : s.length = 32) (w : World) :
    (execOp a.eval o).run Tryd.prog w = .ok (.value (.bool false)) w := by
  have hE := fun W => run_equalIn_hash s s h1 h1 W
  rw [decide_eq_true (rfl : s = s)] at hE
  unfold execOp
  simp only [ho, hx, hy]
  go_simp
theorem kh_KM {W W1 : World} {base : Nat} {ok : Nat → Prop} (x : List Int) (cs : List Value) (h : kh.K W x cs) : kh.M W1 base ok x cs := by obtain ⟨hl, rfl⟩ := kh_K h; exact kh_M hl
/-- a whole value stored over a block, in a statement that draws its order -/
theorem step_put_blk {P : Program} {ops : Array Oper} {o : Oper} {a : Act} {w : World} {K : Act → World → Prop} {Q : Exit → Act → World → Prop} (hw : Region.wanted o (yielded ops a.tmps) = true) (ty : TypeId) (x y : Operand) (ho : o.op = .store ty x y)
    (b t : Nat) (vs cs : List Value) (hl : cs.length = vs.length) (hx : a.eval x = .pointer (some ⟨b, 0, none⟩)) (hy : a.eval y = .agg vs.toArray) (hbk : Blk w b t cs)
    (hi : (P.info? ty).map (·.size) = some vs.length) (h1 : ∀ u ∈ vs, u.oneCell' = true)
    (hk : ∀ W1, Blk W1 b t vs → w.grownBy W1 (some b) → W1.heap.size = w.heap.size → K (a.put o.dst undef) W1) : if Region.wanted o (yielded ops a.tmps) = true then Oper.wp P o a w K Q else K (a.put o.dst undef) w := by
  rw [if_pos hw]
  have ht : w.there b 0 vs.length := fun j hj => by
    refine ⟨?_, hbk.fz _⟩
    rw [hbk.get (0 + j) cs[j] (by simp [hl, hj])]; rfl
  refine wp_store_mid ty x y ho b 0 vs.toArray hx hy (by simpa using ht) (by simpa using hi) (by simpa using h1) ?_
  have hb := blk_setCells vs 0 w cs hbk (by omega)
  rw [List.take_zero, List.nil_append, Nat.zero_add, List.drop_of_length_le (by omega), List.append_nil] at hb
  have hs : (w.setCells b 0 vs).heap.size = w.heap.size := by
    have : ∀ (l : List Value) (o : Nat) (W : World), (W.setCells b o l).heap.size = W.heap.size := by
      intro l
      induction l with
      | nil => intro o W; rfl
      | cons u l ih => intro o W; rw [World.setCells, ih]; simp [World.setCell]
    exact this vs 0 w
  have hg : w.grownBy (w.setCells b 0 vs) (some b) := by
    have hbl := ArrK.below_setCells (w := w) b (Nat.le_refl b) vs 0 w (Below.refl _ _)
    refine ⟨hbl.os, hbl.tape, hbl.output, by omega, fun k hk hne => World.heap_setCells_other w b 0 vs hk (fun e => hne (by rw [e]))⟩
  exact hk _ hb hg hs
end Go.Proofs.YtlgfekllkahfaaaDoor.ShaW
