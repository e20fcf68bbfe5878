/- A text, 64 bytes at a time (slices.Chunk): what the iterator comes to, by whatever its rounds do. -/
import Derived.RangeFuncBox
import Derived.RangeFuncLeaves
import Derived.RangeFuncNested
import Derived.RangeFuncBound
import Derived.RangeFuncCalls
import Derived.Shelf.Abstract
import Derived.Shelf.RegionOpen
import Derived.WalkKit
import Derived.OwnWalkIn
import Derived.TacticsInMore
import Derived.LoopNIn
import Derived.LoopIn
import Derived.BigQuiet
import Derived.Deep.QuietTactic
import Derived.Test.YtlgfekllkahfaaaDoorProg
import Derived.Test.YtlgfekllkahfaaaDoorWMore
set_option linter.unusedVariables false
set_option linter.unusedSimpArgs false
namespace Go.Proofs.YtlgfekllkahfaaaDoor.Chunk
open Go.RowKit Go.Shelf Go.Proofs.YtlgfekllkahfaaaDoorW.PrintWords
attribute [local go_sem] Oper.semAt_some
/-- what has come when k rounds are over -/
def upto (N : Nat) : Nat → List (Fin N)
  | 0 => []
  | k + 1 => if h : k < N then upto N k ++ [⟨k, h⟩] else upto N k
theorem upto_succ {N k : Nat} (h : k < N) : upto N (k + 1) = upto N k ++ [⟨k, h⟩] := by simp [upto, h]
theorem upto_length {N : Nat} : ∀ k, k ≤ N → (upto N k).length = k
  | 0, _ => rfl
  | k + 1, h => by rw [upto_succ (show k < N by omega), List.length_append, upto_length k (by omega)]; rfl
/-- the k-th part -/
def part (A : Option Addr) (k : Nat) : Value := .slice (A.map fun ad => ad.add (64 * k)) 64 64
/-- what a round of the caller's keeps: what lay below n₀, and the boxes of the slice and the size -/
def Kp (n₀ Bs Bn : Nat) (W W' : World) : Prop := Below n₀ W W' ∧ (∀ u, W.cell? ⟨Bs, 0, none⟩ = some u → W'.cell? ⟨Bs, 0, none⟩ = some u) ∧ ∀ u, W.cell? ⟨Bn, 0, none⟩ = some u → W'.cell? ⟨Bn, 0, none⟩ = some u
theorem Kp.refl (n₀ Bs Bn : Nat) (W : World) : Kp n₀ Bs Bn W W := ⟨Below.refl _ _, fun _ h => h, fun _ h => h⟩
theorem Kp.trans {n₀ Bs Bn : Nat} {A B C : World} (h : Kp n₀ Bs Bn A B) (k : Kp n₀ Bs Bn B C) : Kp n₀ Bs Bn A C := ⟨h.1.trans k.1, fun u hu => k.2.1 u (h.2.1 u hu), fun u hu => k.2.2 u (h.2.2 u hu)⟩
theorem Kp.b {n₀ Bs Bn : Nat} {w : World} (hn : n₀ ≤ w.heap.size) (W : World) (l : Nat) (o o' : Obj) (hl : w.heap.size ≤ l) (h : W.heap[l]? = some o) (hc : o.isCells = false) (hw : o.isWalk = false) : Kp n₀ Bs Bn W (W.putObj l o') :=
  ⟨belowK_b hn W l o o' hl h hc hw, fun u hu => cell_kept hu (grownBy_putObj' W l o') (fun r e => by cases e; exact ⟨o, h, hc⟩), fun u hu => cell_kept hu (grownBy_putObj' W l o') (fun r e => by cases e; exact ⟨o, h, hc⟩)⟩
set_option maxRecDepth 100000 in
set_option maxHeartbeats 400000 in
theorem chunk1_in (n : Nat) (hn : 1 ≤ n) (l Bs Bn n₀ cap N : Nat) (A : Option Addr) (hcap : 64 * N ≤ cap) (hreach : 64 * N ≤ 140737488351232) (hA : 0 < N → ∃ ad, A = some ad)
    (J Jx : List (Fin N) → World → Prop)
    (hY : ∀ pre x W, J pre W → pre.length < N → YieldAt Fence.wide (n - 1) Tryd.prog l #[part A x.val] W fun e W' =>
      (e = .returned (.bool true) ∧ J (pre ++ [x]) W' ∧ Kp n₀ Bs Bn W W') ∨ (e = .returned (.bool false) ∧ Jx (pre ++ [x]) W'))
    (hdr : ∀ pre W n, J pre W → J pre (World.drewN W n))
    (W : World) (hBs : W.cell? ⟨Bs, 0, none⟩ = some (.slice A (64 * N) cap)) (hBn : W.cell? ⟨Bn, 0, none⟩ = some (.int .i64 64)) (h0 : J [] W) :
    CallsIn Fence.wide n Tryd.prog 74 #[.func (.yield l) #[] #[], .pointer (some ⟨Bs, 0, none⟩), .pointer (some ⟨Bn, 0, none⟩)] W fun e W' => (∃ v, e = .returned v) ∧
      ((∃ ys, ys = upto N N ∧ J ys W') ∨ (∃ pre, (∃ k, k ≤ N ∧ pre = upto N k) ∧ Jx pre W')) := by
  refine callsIn_of_wp Tryd.func74 rfl trivial ?_ rfl
  simp only [Tryd.ntmps74, List.size_toArray, List.length_cons, List.length_nil, Nat.reduceAdd, Nat.reduceSub, Array.replicate_succ, Array.replicate_zero, List.push_toArray, List.append_toArray, List.nil_append, List.cons_append]
  gi_wp2
  gi_loopw [4] (fun i wr => ∃ (k : Nat), k ≤ N ∧ i = .int .i64 ((64 * k : Nat) : Int) ∧ J (upto N k) wr ∧ Kp n₀ Bs Bn W wr)
    (fun i _ => 64 * N + 1 - (intOf i).toNat)
  case atStart => exact ⟨0, Nat.zero_le _, by simp, h0, Kp.refl _ _ _ _⟩
  case round =>
    obtain ⟨k, hk, rfl, hJs, hnx⟩ := hrel
    have hB1 := hnx.2.1 _ hBs
    have hB2 := hnx.2.2 _ hBn
    by_cases hlt : k < N
    · obtain ⟨ad, rfl⟩ := hA (by omega)
      have g1 : ((64 * k : Nat) : Int) < ((64 * N : Nat) : Int) := by omega
      have g2 : (0 : Int) ≤ ((64 * k : Nat) : Int) := by omega
      gi_wp2
      refine wpIn_wide.2 ?_
      have e1 : ((64 * k : Nat) : Int) ≤ ((64 * N : Nat) : Int) := by omega
      have e2 : (64 * (k : Int)).toNat = 64 * k := by omega
      go_quiet (fail)
      rename_i nq
      have hJ2 := hdr _ _ nq hJs
      have hnx2 : Kp n₀ Bs Bn W (wr.drewN nq) := ⟨pw_below_drewN hnx.1 _, hnx.2.1, hnx.2.2⟩
      have hB3 : (wr.drewN nq).cell? ⟨Bs, 0, none⟩ = some (.slice (some ad) (64 * N) cap) := hB1
      have hB4 : (wr.drewN nq).cell? ⟨Bn, 0, none⟩ = some (.int .i64 64) := hB2
      clear hB1 hB2 hJs hnx
      obtain ⟨wz, hwz⟩ : ∃ wz, wz = wr.drewN nq := ⟨_, rfl⟩
      rw [← hwz] at hJ2 hnx2 hB3 hB4 ⊢
      clear hwz
      obtain ⟨fn, tmps, assign, body, hy, hR⟩ := hY _ ⟨k, hlt⟩ wz hJ2 (by rw [upto_length k (by omega)]; omega)
      dsimp only [part, Option.map] at hy
      have e3 : 64 * k + 64 - 64 * k = 64 := by omega
      have e4 : (64 * (k : Int) + 64).toNat = 64 * k + 64 := by omega
      have e5 : IntKind.i64.wrap (64 * (k : Int) + 64) = 64 * (k : Int) + 64 := by rw [IntKind.wrap_i64]; omega
      have e6 : (64 * (k : Int) + 64) ≤ (cap : Int) := by omega
      have e7 : (0 : Int) ≤ 64 * (k : Int) + 64 := by omega
      gi_wp2
      refine hR.mono ?_
      rintro e W3 (⟨rfl, hJ3, hk3⟩ | ⟨rfl, hJx3⟩)
      · have hnx3 := hnx2.trans hk3
        have hB5 := hk3.2.2 _ hB4
        clear hB3 hB4 hk3 hJ2 hR hy
        gi_wp2
        go_roundw
        case rel => exact ⟨k + 1, by omega, by go_num, by rw [upto_succ hlt]; exact hJ3, hnx3⟩
        case measure => simp [intOf]; omega
      · gi_wp2
        refine bodyPost_ret (results_none rfl _ _ _) rfl ?_
        exact ⟨⟨_, rfl⟩, .inr ⟨_, ⟨k + 1, by omega, by rw [upto_succ hlt]⟩, hJx3⟩⟩
    · obtain rfl : k = N := by omega
      have g1 : decide (((64 * k : Nat) : Int) < ((64 * k : Nat) : Int)) = false := decide_eq_false (by omega)
      gi_wp2
      go_end0
      exact ⟨⟨_, rfl⟩, .inl ⟨_, rfl, hJs⟩⟩
set_option maxRecDepth 100000 in
/-- the slice and the size are boxed; the function value captures the boxes -/
theorem chunk_in (n : Nat) (a : Option Addr) (len cap : Nat) (w : World) :
    CallsIn Fence.wide n Tryd.prog 66 #[.slice a len cap, .int .i64 64] w fun e w' => e = .returned (.func (.func 74) #[] #[.pointer (some ⟨w.heap.size, 0, none⟩), .pointer (some ⟨w.heap.size + 1, 0, none⟩)]) ∧
      w' = (w.alloc (.cells #[.slice a len cap] 40)).alloc (.cells #[.int .i64 64] 3) := by
  have hmf : ∀ (fn : Fn) (first cap : Array Value) (w : World), (Instr.makeFunc fn first cap).run Tryd.prog w = .ok (.func fn first cap) w := fun _ _ _ _ => rfl
  refine callsIn_of_wp Tryd.func66 rfl trivial ?_ rfl
  simp only [Tryd.ntmps66, List.size_toArray, List.length_cons, List.length_nil, Nat.reduceAdd, Nat.reduceSub, Array.replicate_succ, Array.replicate_zero, List.push_toArray, List.append_toArray, List.nil_append, List.cons_append]
  gi_wp2
  go_ret
  exact ⟨rfl, rfl⟩
theorem chunk_stops (n : Nat) (hn : 1 ≤ n) (Bs Bn n₀ cap N : Nat) (A : Option Addr) (hcap : 64 * N ≤ cap) (hreach : 64 * N ≤ 140737488351232) (hA : 0 < N → ∃ ad, A = some ad) (w : World) (hBs : Bs < w.heap.size) (hBn : Bn < w.heap.size) (hn₀ : n₀ ≤ w.heap.size)
    (hb : w.cell? ⟨Bs, 0, none⟩ = some (.slice A (64 * N) cap)) (hb2 : w.cell? ⟨Bn, 0, none⟩ = some (.int .i64 64)) :
    SeqStopsK Fence.wide n Tryd.prog 74 #[.pointer (some ⟨Bs, 0, none⟩), .pointer (some ⟨Bn, 0, none⟩)] (fun x : Fin N => #[part A x.val]) (Kp n₀ Bs Bn) (fun ys => ys = upto N N)
      (fun pre => ∃ k, k ≤ N ∧ pre = upto N k) N w := fun l J Jx W hW hJ _ hY h0 =>
  chunk1_in n hn l Bs Bn n₀ cap N A hcap hreach hA J Jx hY (fun pre W m h => hJ pre W (W.drewN m) none h ⟨rfl, rfl, rfl, Nat.le_refl _, fun _ _ _ => rfl⟩ (fun r e => by cases e)) W ((hW.cell (p := ⟨Bs, 0, none⟩) hBs).trans hb) ((hW.cell (p := ⟨Bn, 0, none⟩) hBn).trans hb2) h0
end Go.Proofs.YtlgfekllkahfaaaDoor.Chunk
