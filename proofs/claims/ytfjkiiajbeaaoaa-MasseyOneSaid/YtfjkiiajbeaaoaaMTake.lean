/- (*state).take: one element. -/
import Derived.Test.YtfjkiiajbeaaoaaMMendW
import Derived.Test.YtfjkiiajbeaaoaaMOffW
set_option linter.unusedVariables false
set_option linter.unusedSimpArgs false
namespace Go.Proofs.Ytfjkiiajbeaaoaa.MW
open Go.RowKit Go.Proofs.Ytfjkiiajbeaaoaa.Q Go.Proofs.YtfjkiiajbeaaoaaW.PrintWords Go.Proofs.YtfjkiiajbeaaoaaW.PrintLast Go.Proofs.YtfjkiiajbeaaoaaW.PrintMore Go.Proofs.Ytfjkiiajbeaaoaa.Bits Go.Proofs.Ytfjkiiajbeaaoaa GF PolyT MV Massey
/-- the state's block -/
def S5 (W : World) (B : Nat) (n0 n1 : Nat) (A0 : Option Addr) (c0 : Nat) (A1 : Option Addr) (c1 len gap : Nat) (was : F) : Prop :=
  W.heap[B]? = some (.cells #[.slice A0 n0 c0, .slice A1 n1 c1, .int .i64 len, .int .i64 gap, .int .u32 (v was)] 42 (0, 0))
section
variable {W W1 : World} {B n0 n1 : Nat} {A0 A1 : Option Addr} {c0 c1 len gap : Nat} {was : F}
theorem S5.at (h : S5 W B n0 n1 A0 c0 A1 c1 len gap was) : At W B A0 n0 c0 A1 n1 c1 len gap was :=
  ⟨by rw [blk_cell h]; rfl, by rw [blk_cell h]; rfl, by rw [blk_cell h]; rfl, by rw [blk_cell h]; rfl, by rw [blk_cell h]; rfl⟩
theorem S5.fz (h : S5 W B n0 n1 A0 c0 A1 c1 len gap was) (i : Nat) : W.frozen? ⟨B, i, none⟩ = false := blk_frozen h i
theorem S5.lt (h : S5 W B n0 n1 A0 c0 A1 c1 len gap was) : B < W.heap.size := (Array.getElem?_eq_some_iff.1 h).1
theorem S5.below (h : S5 W B n0 n1 A0 c0 A1 c1 len gap was) (hb : Below W.heap.size W W1) : S5 W1 B n0 n1 A0 c0 A1 c1 len gap was := by unfold S5; rw [hb.block B h.lt]; exact h
theorem S5.p0 (h : S5 W B n0 n1 A0 c0 A1 c1 len gap was) (A : Option Addr) (n c : Nat) : S5 (W.setCell ⟨B, 0, none⟩ (.slice A n c)) B n n1 A c A1 c1 len gap was := blk_set h 0 _
theorem S5.p1 (h : S5 W B n0 n1 A0 c0 A1 c1 len gap was) (A : Option Addr) (n c : Nat) : S5 (W.setCell ⟨B, 1, none⟩ (.slice A n c)) B n0 n A0 c0 A c len gap was := blk_set h 1 _
theorem S5.p2 (h : S5 W B n0 n1 A0 c0 A1 c1 len gap was) (x : Nat) : S5 (W.setCell ⟨B, 2, none⟩ (.int .i64 x)) B n0 n1 A0 c0 A1 c1 x gap was := blk_set h 2 _
theorem S5.p3 (h : S5 W B n0 n1 A0 c0 A1 c1 len gap was) (x : Nat) : S5 (W.setCell ⟨B, 3, none⟩ (.int .i64 x)) B n0 n1 A0 c0 A1 c1 len x was := blk_set h 3 _
theorem S5.p4 (h : S5 W B n0 n1 A0 c0 A1 c1 len gap was) (x : F) : S5 (W.setCell ⟨B, 4, none⟩ (.int .u32 (v x))) B n0 n1 A0 c0 A1 c1 len gap x := blk_set h 4 _
end
/-- all but the block B is as it was -/
def Out (B : Nat) (W W1 : World) : Prop := W.grownBy W1 (some B)
theorem Out.refl (B : Nat) (W : World) : Out B W W := World.grownBy.refl _ _
theorem Out.trans {B : Nat} {W1 W2 W3 : World} (h : Out B W1 W2) (k : Out B W2 W3) : Out B W1 W3 := World.grownBy.trans h k
theorem Out.set (B i : Nat) (W : World) (u : Value) : Out B W (W.setCell ⟨B, i, none⟩ u) :=
  ⟨rfl, rfl, rfl, by simp [World.setCell], fun k hk hne => Below.heap_setCell W ⟨B, i, none⟩ u k (fun e => hne (by rw [e]))⟩
theorem C_out {W W1 : World} {B : Nat} {A : Option Addr} {l : List Int} (h : Kd.C (Kd.int .u32) W A l.length l) (hA : ∀ ad, A = some ad → ad.block ≠ B) (ho : Out B W W1) : Kd.C (Kd.int .u32) W1 A l.length l := by
  obtain ⟨h1, h2, h3⟩ := Kd.reads_of_C (enc := Value.int .u32) (d := (0 : Int)) (h1 := fun _ => rfl) h
  refine Kd.C_of_reads (d := (0 : Int)) (h1 := fun _ => rfl) ⟨h1, h2, fun hp => ?_⟩
  obtain ⟨ad, rfl, h4⟩ := h3 hp
  refine ⟨ad, rfl, fun j hj => ?_⟩
  have hb : (ad.add j).block = ad.block := by unfold Addr.add; split <;> rfl
  exact World.grownBy.cell ho (h4 j hj) (by rw [hb]; intro e; injection e with e; exact hA ad rfl e)
end Go.Proofs.Ytfjkiiajbeaaoaa.MW
