/- Arrays: whole blocks, loaded and stored. -/
import Derived.WalkKit
import Derived.StillTailTactics
import Derived.Deep.Slices
import Derived.Deep.MidRow
import Derived.Deep.Upon
import Derived.Test.YtfjkiiajbeaaoaaProg
import Derived.Test.YtfjkiiajbeaaoaaWMore
import Derived.Test.YtfjkiiajbeaaoaaWLast
set_option linter.unusedVariables false
set_option linter.unusedSimpArgs false
namespace Go.Proofs.Ytfjkiiajbeaaoaa.ArrK
open Go.RowKit Go.Proofs.YtfjkiiajbeaaoaaW.PrintWords Go.Proofs.YtfjkiiajbeaaoaaW.PrintMore Go.Proofs.Ytfjkiiajbeaaoaa
theorem run_loadAt_any {P : Program} (w : World) (a : Addr) (ty : TypeId) (cs : List Value) (d : TypeDesc) (hc : ∀ j v, cs[j]? = some v → w.cell? (a.add j) = some v)
    (hu : P.underlying ty = some d) (hd : d.isRow = true) (hi : (P.info? ty).map (·.size) = some cs.length) :
    (Instr.loadAt ty (.pointer (some a))).run P w = .ok (.agg cs.toArray) w := by
  have hl : (loadCells a cs.length).run P w = .ok cs.toArray w := run_loadCells_list (P := P) w a cs hc
  have : (loadVar ty a).run P w = .ok (.agg cs.toArray) w := by
    cases hq : P.info? ty with
    | none => simp [hq] at hi
    | some i =>
      have hs : i.size = cs.length := by simpa [hq] using hi
      have hagg : (isAgg ty).run P w = .ok true w := by
        unfold isAgg
        rw [Sem.run_bind, run_underlying hu w]
        cases d <;> simp_all
      simp [loadVar, Sem.run_bind, hagg, sizeOf, typeInfo, hq, hs, hl]
  simp only [Instr.loadAt, Instr.sureAddr, Sem.run_bind, Sem.run_pure, Result.andThen_ok, this]
theorem wpList_load_any {P : Program} {ops : Array Oper} {rest : List Oper} {op : Oper} {a : Act} {w : World} {Q : Exit → Act → World → Prop} (hgd : op.guard = none) (ty : TypeId) (x : Operand) (ho : op.op = .load ty x)
    (ad : Addr) (hx : a.eval x = .pointer (some ad)) (cs : List Value) (d : TypeDesc) (hc : ∀ j v, cs[j]? = some v → w.cell? (ad.add j) = some v)
    (hu : P.underlying ty = some d) (hd : d.isRow = true) (hi : (P.info? ty).map (·.size) = some cs.length)
    (h : wpList P ops Q rest (a.put op.dst (.agg cs.toArray)) w) : wpList P ops Q (op :: rest) a w :=
  wpList_plain hgd fun K hK => by
    unfold Oper.wp execOp
    simp only [ho, hx, Sem.run_bind, Sem.run_pure, Result.andThen_ok, run_loadAt_any w ad ty cs d hc hu hd hi]
    exact hK _ _ h
theorem below_setCells {B : Nat} {w : World} (b : Nat) (hb : B ≤ b) : ∀ (vs : List Value) (o : Nat) (W : World), Below B w W → Below B w (W.setCells b o vs)
  | [], _, _, h => h
  | v :: r, o, W, h => by
    rw [World.setCells]
    exact below_setCells b hb r (o + 1) _ (h.setCell (p := ⟨b, o, none⟩) hb v)
/-- a block of cells, none of them frozen -/
def Blk (W : World) (B : Nat) (t : TypeId) (cs : List Value) : Prop := W.heap[B]? = some (.cells cs.toArray t (0, 0))
section
variable {W W1 : World} {B t : Nat} {cs : List Value}
theorem Blk.lt (h : Blk W B t cs) : B < W.heap.size := blk_lt h
theorem Blk.get (h : Blk W B t cs) (j : Nat) (u : Value) (hu : cs[j]? = some u) : W.cell? ⟨B, j, none⟩ = some u := by rw [blk_cell h]; simpa using hu
theorem Blk.add (h : Blk W B t cs) : ∀ (j : Nat) (u : Value), cs[j]? = some u → W.cell? ((⟨B, 0, none⟩ : Addr).add j) = some u := fun j u hu => by rw [add_plain]; exact h.get j u hu
theorem Blk.fz (h : Blk W B t cs) (j : Nat) : W.frozen? ⟨B, j, none⟩ = false := blk_frozen h j
theorem Blk.set (h : Blk W B t cs) (j : Nat) (u : Value) : Blk (W.setCell ⟨B, j, none⟩ u) B t (cs.set j u) := by
  unfold Blk; rw [blk_set h]; simp
theorem Blk.far (h : Blk W B t cs) {p : Addr} (hp : B ≠ p.block) (u : Value) : Blk (W.setCell p u) B t cs := blk_far h hp u
theorem Blk.below (h : Blk W B t cs) (hb : Below W.heap.size W W1) : Blk W1 B t cs := by unfold Blk; rw [hb.block B h.lt]; exact h
theorem Blk.grown (h : Blk W B t cs) {row : Option Nat} (hg : W.grownBy W1 row) (hne : some B ≠ row) : Blk W1 B t cs := blk_grown h hg hne
theorem Blk.drewN (h : Blk W B t cs) (n : Nat) : Blk (W.drewN n) B t cs := h
theorem Blk.drew (h : Blk W B t cs) : Blk W.drew B t cs := h
end
theorem alloc_new (w : World) (o : Obj) : (w.alloc o).heap[w.heap.size]? = some o := by
  show (w.heap.push o)[w.heap.size]? = some o
  simp
theorem Blk.new (w : World) (t : TypeId) (cs : List Value) : Blk (w.alloc (.cells cs.toArray t)) w.heap.size t cs := alloc_new w _
theorem Blk.alloc {w : World} {B t : Nat} {cs : List Value} (h : Blk w B t cs) (o : Obj) : Blk (w.alloc o) B t cs := h.below ((Below.refl _ _).alloc (Nat.le_refl _) o)
/-- what is laid over a block's cells -/
theorem blk_setCells {b : Nat} {t : TypeId} : ∀ (vs : List Value) (o : Nat) (w : World) (cs : List Value), Blk w b t cs → o + vs.length ≤ cs.length → Blk (w.setCells b o vs) b t (cs.take o ++ vs ++ cs.drop (o + vs.length))
  | [], o, w, cs, h, _ => by rw [World.setCells]; simpa using h
  | v :: r, o, w, cs, h, hl => by
    rw [World.setCells]
    have hl' : o + 1 + r.length ≤ cs.length := by simp at hl; omega
    have := blk_setCells r (o + 1) _ _ (h.set o v) (by rw [List.length_set]; exact hl')
    have e : (cs.set o v).take (o + 1) ++ r ++ (cs.set o v).drop (o + 1 + r.length) = cs.take o ++ v :: r ++ cs.drop (o + (v :: r).length) := by
      have h1 : (cs.set o v).take (o + 1) = cs.take o ++ [v] := by
        rw [List.take_succ_eq_append_getElem (by rw [List.length_set]; omega), List.take_set_of_le (Nat.le_refl _), List.getElem_set_self]
      have h2 : (cs.set o v).drop (o + 1 + r.length) = cs.drop (o + (v :: r).length) := by
        rw [List.drop_set_of_lt (by omega)]; congr 1; simp; omega
      rw [h1, h2]; simp
    rw [e] at this
    exact this
theorem wpList_load_blk {P : Program} {ops : Array Oper} {rest : List Oper} {op : Oper} {a : Act} {w : World} {Q : Exit → Act → World → Prop} (hgd : op.guard = none) (ty : TypeId) (x : Operand) (ho : op.op = .load ty x)
    (B t : Nat) (hx : a.eval x = .pointer (some ⟨B, 0, none⟩)) (cs : List Value) (d : TypeDesc) (hB : Blk w B t cs)
    (hu : P.underlying ty = some d) (hd : d.isRow = true) (hi : (P.info? ty).map (·.size) = some cs.length)
    (h : wpList P ops Q rest (a.put op.dst (.agg cs.toArray)) w) : wpList P ops Q (op :: rest) a w :=
  wpList_load_any hgd ty x ho ⟨B, 0, none⟩ hx cs d hB.add hu hd hi h
/-- a whole value stored over a block -/
theorem wpList_put_blk {P : Program} {ops : Array Oper} {rest : List Oper} {op : Oper} {a : Act} {w : World} {Q : Exit → Act → World → Prop} (hgd : op.guard = none) (ty : TypeId) (x y : Operand) (ho : op.op = .store ty x y)
    (b t : Nat) (vs cs : List Value) (hl : cs.length = vs.length) (hx : a.eval x = .pointer (some ⟨b, 0, none⟩)) (hy : a.eval y = .agg vs.toArray) (hbk : Blk w b t cs)
    (hi : (P.info? ty).map (·.size) = some vs.length) (h1 : ∀ u ∈ vs, u.oneCell' = true)
    (hk : ∀ W1, Blk W1 b t vs → w.grownBy W1 (some b) → W1.heap.size = w.heap.size → wpList P ops Q rest (a.put op.dst undef) W1) : wpList P ops Q (op :: rest) a w := by
  have ht : w.there b 0 vs.length := fun j hj => by
    refine ⟨?_, hbk.fz _⟩
    rw [hbk.get (0 + j) cs[j] (by simp [hl, hj])]; rfl
  refine wpList_store_mid hgd ty x y ho b 0 vs.toArray hx hy (by simpa using ht) (by simpa using hi) (by simpa using h1) ?_
  have hb := blk_setCells vs 0 w cs hbk (by omega)
  rw [List.take_zero, List.nil_append, Nat.zero_add, List.drop_of_length_le (by omega), List.append_nil] at hb
  have hs : (w.setCells b 0 vs).heap.size = w.heap.size := by
    have : ∀ (l : List Value) (o : Nat) (W : World), (W.setCells b o l).heap.size = W.heap.size := by
      intro l
      induction l with
      | nil => intro o W; rfl
      | cons u l ih => intro o W; rw [World.setCells, ih]; simp [World.setCell]
    exact this vs 0 w
  have hg : w.grownBy (w.setCells b 0 vs) (some b) := by
    have hk := World.keptBut_setCells b (may := fun _ => True) vs 0 w (fun _ _ => trivial)
    have hbl := below_setCells (w := w) b (Nat.le_refl b) vs 0 w (Below.refl _ _)
    refine ⟨hbl.os, hbl.tape, hbl.output, by omega, fun k hk hne => World.heap_setCells_other w b 0 vs hk (fun e => hne (by rw [e]))⟩
  exact hk _ hb hg hs
end Go.Proofs.Ytfjkiiajbeaaoaa.ArrK
