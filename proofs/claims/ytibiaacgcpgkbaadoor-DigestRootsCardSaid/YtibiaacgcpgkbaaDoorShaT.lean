/- A list of digests, two at a time (slices.Chunk): what the iterator comes to, by whatever its rounds do. -/
import Derived.RangeFuncBox
import Derived.RangeFuncLeaves
import Derived.RangeFuncNested
import Derived.RangeFuncBound
import Derived.RangeFuncCalls
import Derived.Shelf.Abstract
import Derived.Shelf.RegionOpen
import Derived.WalkKit
import Derived.OwnWalkIn
import Derived.TacticsInMore
import Derived.LoopNIn
import Derived.LoopIn
import Derived.BigQuiet
import Derived.Deep.QuietTactic
import Derived.Test.YtibiaacgcpgkbaaDoorShaE
import Derived.Test.YtibiaacgcpgkbaaDoorWMore
set_option linter.unusedVariables false
set_option linter.unusedSimpArgs false
namespace Go.Proofs.YtibiaacgcpgkbaaDoor.Chunk2
open Go.RowKit Go.Shelf Go.Proofs.YtibiaacgcpgkbaaDoorW.PrintWords
open Go.Proofs.YtibiaacgcpgkbaaDoor.Chunk (Kp upto upto_succ upto_length Kp.refl Kp.trans Kp.b)
attribute [local go_sem] Oper.semAt_some
/-- the k-th part: two of them, or the last one -/
def part (A : Option Addr) (L k : Nat) : Value := .slice (A.map fun ad => ad.add (64 * k)) (min 2 (L - 2 * k)) (min 2 (L - 2 * k))
set_option maxRecDepth 100000 in
set_option maxHeartbeats 400000 in
theorem chunk1_in (n : Nat) (hn : 1 ≤ n) (l Bs Bn n₀ cap L N : Nat) (A : Option Addr) (hN : N = (L + 1) / 2) (hcap : L ≤ cap) (hreach : L ≤ 1000000000) (hA : 0 < N → ∃ ad, A = some ad)
    (J Jx : List (Fin N) → World → Prop)
    (hY : ∀ pre x W, J pre W → pre.length < N → YieldAt Fence.wide (n - 1) Tryd.prog l #[part A L x.val] W fun e W' =>
      (e = .returned (.bool true) ∧ J (pre ++ [x]) W' ∧ Kp n₀ Bs Bn W W') ∨ (e = .returned (.bool false) ∧ Jx (pre ++ [x]) W'))
    (hdr : ∀ pre W n, J pre W → J pre (World.drewN W n))
    (W : World) (hBs : W.cell? ⟨Bs, 0, none⟩ = some (.slice A L cap)) (hBn : W.cell? ⟨Bn, 0, none⟩ = some (.int .i64 2)) (h0 : J [] W) :
    CallsIn Fence.wide n Tryd.prog 36 #[.func (.yield l) #[] #[], .pointer (some ⟨Bs, 0, none⟩), .pointer (some ⟨Bn, 0, none⟩)] W fun e W' => (∃ v, e = .returned v) ∧
      ((∃ ys, ys = upto N N ∧ J ys W') ∨ (∃ pre, (∃ k, k ≤ N ∧ pre = upto N k) ∧ Jx pre W')) := by
  replace hN := Aside0.mk hN
  refine callsIn_of_wp Tryd.func36 rfl trivial ?_ rfl
  simp only [Tryd.ntmps36, List.size_toArray, List.length_cons, List.length_nil, Nat.reduceAdd, Nat.reduceSub, Array.replicate_succ, Array.replicate_zero, List.push_toArray, List.append_toArray, List.nil_append, List.cons_append]
  gi_wp2
  gi_loopw [4] (fun i wr => ∃ (k : Nat), k ≤ N ∧ i = .int .i64 ((2 * k : Nat) : Int) ∧ J (upto N k) wr ∧ Kp n₀ Bs Bn W wr)
    (fun i _ => 2 * N + 1 - (intOf i).toNat)
  case atStart => exact ⟨0, Nat.zero_le _, by simp, h0, Kp.refl _ _ _ _⟩
  case round =>
    obtain ⟨k, hk, rfl, hJs, hnx⟩ := hrel
    have hB1 := hnx.2.1 _ hBs
    have hB2 := hnx.2.2 _ hBn
    by_cases hlt : k < N
    · obtain ⟨ad, rfl⟩ := hA (by omega)
      have hk2 : 2 * k < L := by have := hN.out; omega
      obtain ⟨i, hi⟩ : ∃ i, i = 2 * k := ⟨_, rfl⟩
      rw [← hi] at hk2 ⊢
      have hiA := Aside0.mk hi
      have g1 : (i : Int) < (L : Int) := by omega
      have g2 : (0 : Int) ≤ (i : Int) := by omega
      have e1 : (i : Int) ≤ (L : Int) := by omega
      have e2 : (i : Int).toNat = i := by omega
      obtain ⟨m, hm⟩ : ∃ m, m = min 2 (L - i) := ⟨_, rfl⟩
      have m1 : 1 ≤ m := by omega
      have m2 : m ≤ 2 := by omega
      have m3 : i + m ≤ L := by omega
      have hmA := Aside0.mk hm
      clear hi hm
      gi_wp2
      refine wpIn_wide.2 ?_
      go_quiet (fail)
      rename_i nq
      have hmE : (if ((L - i : Nat) : Int) < 2 then ((L - i : Nat) : Int) else 2) = (m : Int) := by rw [hmA.out]; split <;> omega
      rw [hmE]
      clear hmE
      have hJ2 := hdr _ _ nq hJs
      have hnx2 : Kp n₀ Bs Bn W (wr.drewN nq) := ⟨pw_below_drewN hnx.1 _, hnx.2.1, hnx.2.2⟩
      have hB3 : (wr.drewN nq).cell? ⟨Bs, 0, none⟩ = some (.slice (some ad) L cap) := hB1
      have hB4 : (wr.drewN nq).cell? ⟨Bn, 0, none⟩ = some (.int .i64 2) := hB2
      clear hB1 hB2 hJs hnx
      obtain ⟨wz, hwz⟩ : ∃ wz, wz = wr.drewN nq := ⟨_, rfl⟩
      rw [← hwz] at hJ2 hnx2 hB3 hB4 ⊢
      clear hwz
      obtain ⟨fn, tmps, assign, body, hy, hR⟩ := hY _ ⟨k, hlt⟩ wz hJ2 (by rw [upto_length k (by omega)]; omega)
      dsimp only [part, Option.map] at hy
      rw [← hiA.out, ← hmA.out, show 64 * k = i * 32 by have := hiA.out; omega] at hy
      have e3 : i + m - i = m := by omega
      have e4 : ((i : Int) + (m : Int)).toNat = i + m := by omega
      have e5 : IntKind.i64.wrap ((i : Int) + (m : Int)) = (i : Int) + (m : Int) := by rw [IntKind.wrap_i64]; omega
      have e6 : ((i : Int) + (m : Int)) ≤ (cap : Int) := by omega
      have e7 : (0 : Int) ≤ (i : Int) + (m : Int) := by omega
      have e8 : IntKind.i64.wrap ((i : Int) + 2) = (i : Int) + 2 := by rw [IntKind.wrap_i64]; omega
      gi_wp2
      refine hR.mono ?_
      rintro e W3 (⟨rfl, hJ3, hk3⟩ | ⟨rfl, hJx3⟩)
      · have hnx3 := hnx2.trans hk3
        have hB5 := hk3.2.2 _ hB4
        clear hB3 hB4 hk3 hJ2 hR hy
        gi_wp2
        go_roundw
        case rel => exact ⟨k + 1, by omega, by have := hiA.out; go_num, by rw [upto_succ hlt]; exact hJ3, hnx3⟩
        case measure => have := hiA.out; simp [intOf]; omega
      · gi_wp2
        refine bodyPost_ret (results_none rfl _ _ _) rfl ?_
        exact ⟨⟨_, rfl⟩, .inr ⟨_, ⟨k + 1, by omega, by rw [upto_succ hlt]⟩, hJx3⟩⟩
    · obtain rfl : k = N := by omega
      have g1 : decide (((2 * k : Nat) : Int) < (L : Int)) = false := decide_eq_false (by have := hN.out; omega)
      have g1' : ¬ ((2 * k : Nat) : Int) < (L : Int) := by have := hN.out; omega
      gi_wp2
      go_end0
      first | exact ⟨⟨_, rfl⟩, .inl ⟨_, rfl, hJs⟩⟩ | exact ⟨⟨_, rfl⟩, .inl hJs⟩
set_option maxRecDepth 100000 in
/-- the slice and the size are boxed; the function value captures the boxes -/
theorem chunk_in (n : Nat) (a : Option Addr) (len cap : Nat) (w : World) :
    CallsIn Fence.wide n Tryd.prog 34 #[.slice a len cap, .int .i64 2] w fun e w' => e = .returned (.func (.func 36) #[] #[.pointer (some ⟨w.heap.size, 0, none⟩), .pointer (some ⟨w.heap.size + 1, 0, none⟩)]) ∧
      w' = (w.alloc (.cells #[.slice a len cap] 35)).alloc (.cells #[.int .i64 2] 3) := by
  have hmf : ∀ (fn : Fn) (first cap : Array Value) (w : World), (Instr.makeFunc fn first cap).run Tryd.prog w = .ok (.func fn first cap) w := fun _ _ _ _ => rfl
  refine callsIn_of_wp Tryd.func34 rfl trivial ?_ rfl
  simp only [Tryd.ntmps34, List.size_toArray, List.length_cons, List.length_nil, Nat.reduceAdd, Nat.reduceSub, Array.replicate_succ, Array.replicate_zero, List.push_toArray, List.append_toArray, List.nil_append, List.cons_append]
  gi_wp2
  go_ret
  exact ⟨rfl, rfl⟩
theorem chunk_stops (n : Nat) (hn : 1 ≤ n) (Bs Bn n₀ cap L N : Nat) (A : Option Addr) (hN : N = (L + 1) / 2) (hcap : L ≤ cap) (hreach : L ≤ 1000000000) (hA : 0 < N → ∃ ad, A = some ad) (w : World) (hBs : Bs < w.heap.size) (hBn : Bn < w.heap.size) (hn₀ : n₀ ≤ w.heap.size)
    (hb : w.cell? ⟨Bs, 0, none⟩ = some (.slice A L cap)) (hb2 : w.cell? ⟨Bn, 0, none⟩ = some (.int .i64 2)) :
    SeqStopsK Fence.wide n Tryd.prog 36 #[.pointer (some ⟨Bs, 0, none⟩), .pointer (some ⟨Bn, 0, none⟩)] (fun x : Fin N => #[part A L x.val]) (Kp n₀ Bs Bn) (fun ys => ys = upto N N)
      (fun pre => ∃ k, k ≤ N ∧ pre = upto N k) N w := fun l J Jx W hW hJ _ hY h0 =>
  chunk1_in n hn l Bs Bn n₀ cap L N A hN hcap hreach hA J Jx hY (fun pre W m h => hJ pre W (W.drewN m) none h ⟨rfl, rfl, rfl, Nat.le_refl _, fun _ _ _ => rfl⟩ (fun r e => by cases e)) W ((hW.cell (p := ⟨Bs, 0, none⟩) hBs).trans hb) ((hW.cell (p := ⟨Bn, 0, none⟩) hBn).trans hb2) h0
end Go.Proofs.YtibiaacgcpgkbaaDoor.Chunk2
