/- The value of a polynomial (poly.At), which ranges over slices.Backward: what the call comes to, by whatever total function gf.Mul computes. -/
import Derived.RangeFuncBox
import Derived.RangeFuncLeaves
import Derived.RangeFuncNested
import Derived.RangeFuncBound
import Derived.RangeFuncCalls
import Derived.Shelf.Abstract
import Derived.Shelf.RegionOpen
import Derived.WalkKit
import Derived.OwnWalkIn
import Derived.TacticsInMore
import Derived.LoopNIn
import Derived.LoopIn
import Derived.Test.YtljkbkhaamlbmaaProg
import Derived.Test.YtljkbkhaamlbmaaWMore
set_option linter.unusedVariables false
set_option linter.unusedSimpArgs false
namespace Go.Proofs.Ytljkbkhaamlbmaa.EAt
open Go.RowKit Go.Shelf Go.Proofs.YtljkbkhaamlbmaaW.PrintWords
attribute [local go_sem] Oper.semAt_some
def upto {α : Type} (f : Nat → α) (k : Nat) : List α := (List.range k).map f
theorem upto_succ {α : Type} (f : Nat → α) (k : Nat) : upto f (k + 1) = upto f k ++ [f k] := by simp [upto, List.range_succ]
theorem upto_length {α : Type} (f : Nat → α) (k : Nat) : (upto f k).length = k := by simp [upto]
def pair (zs : List Int) (j : Nat) : Int × Int := ((zs.length : Int) - 1 - (j : Int), rd zs ((zs.length : Int) - 1 - (j : Int)))
def Cells (W : World) (A : Option Addr) (zs : List Int) : Prop := ∀ i : Int, 0 ≤ i → i < (zs.length : Int) → ∃ ad, A = some ad ∧ W.cell? (ad.add i.toNat) = some (.int .u32 (rd zs i))
def Kp (n₀ Bs : Nat) (W W' : World) : Prop := Below n₀ W W' ∧ ∀ u, W.cell? ⟨Bs, 0, none⟩ = some u → W'.cell? ⟨Bs, 0, none⟩ = some u
theorem Kp.refl (n₀ Bs : Nat) (W : World) : Kp n₀ Bs W W := ⟨Below.refl _ _, fun _ h => h⟩
theorem Kp.trans {n₀ Bs : Nat} {A B C : World} (h : Kp n₀ Bs A B) (k : Kp n₀ Bs B C) : Kp n₀ Bs A C := ⟨h.1.trans k.1, fun u hu => k.2 u (h.2 u hu)⟩
theorem Kp.b {n₀ Bs : Nat} {w : World} (hn : n₀ ≤ w.heap.size) (W : World) (l : Nat) (o o' : Obj) (hl : w.heap.size ≤ l) (h : W.heap[l]? = some o) (hc : o.isCells = false) (hw : o.isWalk = false) : Kp n₀ Bs W (W.putObj l o') :=
  ⟨belowK_b hn W l o o' hl h hc hw, fun u hu => cell_kept hu (grownBy_putObj' W l o') (fun r e => by cases e; exact ⟨o, h, hc⟩)⟩
theorem pair_at {zs : List Int} {k : Nat} {i0 : Int} (h1 : i0 ≤ (zs.length : Int) - 1 - (k : Int)) (h2 : (zs.length : Int) - 1 - (k : Int) ≤ i0) : pair zs k = (i0, rd zs i0) := by
  unfold pair
  have e : (zs.length : Int) - 1 - (k : Int) = i0 := by omega
  rw [e]
set_option maxRecDepth 100000 in
set_option maxHeartbeats 2000000 in
theorem back1_in (F : Fence) (n : Nat) (h7 : F.fn 60) (hro : F.round = none) (hn : 1 ≤ n) (l Bs n₀ cap : Nat) (A : Option Addr) (zs : List Int) (hreach : zs.length * 8 ≤ 140737488351232)
    (J Jx : List (Int × Int) → World → Prop)
    (hY : ∀ pre x W, J pre W → pre.length < zs.length → YieldAt F (n - 1) Try.prog l #[.int .i64 x.1, .int .u32 x.2] W fun e W' =>
      (e = .returned (.bool true) ∧ J (pre ++ [x]) W' ∧ Kp n₀ Bs W W') ∨ (e = .returned (.bool false) ∧ Jx (pre ++ [x]) W'))
    (W : World) (hBs : W.cell? ⟨Bs, 0, none⟩ = some (.slice A zs.length cap)) (hc : ∀ W', Below n₀ W W' → Cells W' A zs) (h0 : J [] W) :
    CallsIn F n Try.prog 60 #[.func (.yield l) #[] #[], .pointer (some ⟨Bs, 0, none⟩)] W fun e W' => (∃ v, e = .returned v) ∧
      ((∃ ys, ys = upto (pair zs) zs.length ∧ J ys W') ∨ (∃ pre, (∃ k, k ≤ zs.length ∧ pre = upto (pair zs) k) ∧ Jx pre W')) := by
  refine callsIn_of_wp Try.func60 rfl h7 ?_ hro
  simp only [Try.ntmps60, List.size_toArray, List.length_cons, List.length_nil, Nat.reduceAdd, Nat.reduceSub, Array.replicate_succ, Array.replicate_zero, List.push_toArray, List.append_toArray, List.nil_append, List.cons_append]
  have hw1 : wrap64 ((zs.length : Int) - 1) = (zs.length : Int) - 1 := by unfold wrap64; omega
  gi_wp2
  gi_loopw [3] (fun i wr => ∃ (k : Nat) (i0 : Int), k ≤ zs.length ∧ i0 ≤ (zs.length : Int) - 1 - (k : Int) ∧ (zs.length : Int) - 1 - (k : Int) ≤ i0 ∧ i = .int .i64 i0 ∧ J (upto (pair zs) k) wr ∧ Kp n₀ Bs W wr)
    (fun i _ => (intOf i + 1).toNat)
  case atStart => exact ⟨0, (zs.length : Int) - 1, Nat.zero_le _, by omega, by omega, by simp, h0, Kp.refl _ _ _⟩
  case round =>
    obtain ⟨k, i0, hk, hi1, hi2, rfl, hJs, hnx⟩ := hrel
    have hB1 := hnx.2 _ hBs
    by_cases hlt : 0 ≤ i0
    · obtain ⟨ad, hA, hcell⟩ := hc wr hnx.1 i0 hlt (by omega)
      obtain ⟨fn, tmps, assign, body, hy, hR⟩ := hY _ (i0, rd zs i0) wr hJs (by rw [upto_length]; omega)
      dsimp only at hy
      subst hA
      have g2 : i0 < (zs.length : Int) := by omega
      gi_wp2
      refine hR.mono ?_
      rintro e W3 (⟨rfl, hJ3, hk3⟩ | ⟨rfl, hJx3⟩)
      · gi_wp2
        go_roundw
        case rel => exact ⟨k + 1, i0 - 1, by omega, by omega, by omega, by simp, by rw [upto_succ, pair_at hi1 hi2]; exact hJ3, hnx.trans hk3⟩
        case measure => simp [intOf]; omega
      · gi_wp2
        refine bodyPost_ret (results_none rfl _ _ _) rfl ?_
        exact ⟨⟨_, rfl⟩, .inr ⟨_, ⟨k + 1, by omega, by rw [upto_succ, pair_at hi1 hi2]⟩, hJx3⟩⟩
    · obtain rfl : k = zs.length := by omega
      have hlt' : i0 < 0 := by omega
      gi_wp2
      go_end0
      exact ⟨⟨_, rfl⟩, .inl hJs⟩
theorem back_in (F : Fence) (n : Nat) (h5 : F.fn 41) (hro : F.round = none) (a : Option Addr) (len cap : Nat) (w : World) :
    CallsIn F n Try.prog 41 #[.slice a len cap] w fun e w' => e = .returned (.func (.func 60) #[] #[.pointer (some ⟨w.heap.size, 0, none⟩)]) ∧ w' = w.alloc (.cells #[.slice a len cap] 24) := by
  refine callsIn_of_wp Try.func41 rfl h5 ?_ hro
  simp only [Try.ntmps41, List.size_toArray, List.length_cons, List.length_nil, Nat.reduceAdd, Nat.reduceSub, Array.replicate_succ, Array.replicate_zero, List.push_toArray, List.append_toArray, List.nil_append, List.cons_append]
  gi_wp2
  go_ret
  exact ⟨rfl, rfl⟩
theorem back_stops (F : Fence) (n : Nat) (h7 : F.fn 60) (hro : F.round = none) (hn : 1 ≤ n) (Bs n₀ cap : Nat) (A : Option Addr) (zs : List Int) (hreach : zs.length * 8 ≤ 140737488351232) (w : World) (hBs : Bs < w.heap.size) (hn₀ : n₀ ≤ w.heap.size)
    (hb : w.cell? ⟨Bs, 0, none⟩ = some (.slice A zs.length cap)) (hc : ∀ W', Below n₀ w W' → Cells W' A zs) :
    SeqStopsK F n Try.prog 60 #[.pointer (some ⟨Bs, 0, none⟩)] (fun x : Int × Int => #[Value.int .i64 x.1, Value.int .u32 x.2]) (Kp n₀ Bs) (fun ys => ys = upto (pair zs) zs.length)
      (fun pre => ∃ k, k ≤ zs.length ∧ pre = upto (pair zs) k) zs.length w := fun l J Jx W hW _ _ hY h0 => by
  have hW0 : Below n₀ w W := hW.mono hn₀
  exact back1_in F n h7 hro hn l Bs n₀ cap A zs hreach J Jx hY W ((hW.cell (p := ⟨Bs, 0, none⟩) hBs).trans hb) (fun W' h => hc W' (hW0.trans h)) h0
def fold (m : Int → Int → Int) (x : Int) (pre : List (Int × Int)) : Int := pre.foldl (fun o c => Go.bits .xor .u32 (m o x) c.2) 0
theorem fold_snoc (m : Int → Int → Int) (x : Int) (pre : List (Int × Int)) (c : Int × Int) : fold m x (pre ++ [c]) = Go.bits .xor .u32 (m (fold m x pre) x) c.2 := by simp [fold]
set_option maxRecDepth 100000 in
set_option maxHeartbeats 4000000 in
theorem at_in (m : Int → Int → Int) (hmul : ∀ (a b : Int) (w : World), Calls Try.prog 29 #[.int .u32 a, .int .u32 b] w fun e w' => e = .returned (.int .u32 (m a b)) ∧ Drawn0 w w')
    (A : Option Addr) (cap : Nat) (zs : List Int) (x : Int) (hreach : zs.length * 8 ≤ 140737488351232) (w : World) (hc : ∀ W', Below w.heap.size w W' → Cells W' A zs) :
    Calls Try.prog 20 #[.slice A zs.length cap, .int .u32 x] w fun e w' => e = .returned (.int .u32 (fold m x (upto (pair zs) zs.length))) ∧ Below w.heap.size w w' := by
  refine (callsIn_wide (n := 5)).1 ?_
  have hro : Fence.wide.round = none := rfl
  have h1 : 1 ≤ 5 := by decide
  refine callsIn_of_wp_marks Try.func20 rfl trivial ?_ hro
  simp only [Try.ntmps20, List.size_toArray, List.length_cons, List.length_nil, Nat.reduceAdd, Nat.reduceSub, Array.replicate_succ, Array.replicate_zero, List.push_toArray, List.append_toArray, List.nil_append, List.cons_append]
  gi_wp2_with (refine ⟨trivial, ?_⟩; gi_at_call 41; refine (back_in Fence.wide 4 trivial hro _ _ _ _).mono ?_; rintro e w' ⟨rfl, rfl⟩)
  have bX := Boxed.new w 25 (.int .u32 x)
  have bO := Boxed.new (w.alloc (.cells #[.int .u32 x] 25)) 25 (.int .u32 0)
  have bN := Boxed.new ((w.alloc (.cells #[.int .u32 x] 25)).alloc (.cells #[.int .u32 0] 25)) 24 (.slice A zs.length cap)
  rw [World.size_alloc] at bO
  rw [World.size_alloc, World.size_alloc] at bN
  have hB0 : Below w.heap.size w (((w.alloc (.cells #[.int .u32 x] 25)).alloc (.cells #[.int .u32 0] 25)).alloc (.cells #[.slice A zs.length cap] 24)) :=
    (((Below.refl _ w).alloc (Nat.le_refl _) _).alloc (by simp) _).alloc (by simp; omega) _
  refine wpIn_rangeFunc_ownG hro h1 (gf := 60) (lb := #[.pointer (some ⟨w.heap.size + 1 + 1, 0, none⟩)]) rfl trivial (enters_of Try.func60 (by kernel_rfl) rfl)
    (back_stops Fence.wide 4 trivial hro (by omega) (w.heap.size + 1 + 1) w.heap.size cap A zs hreach _ (by simp) (by simp; omega) bN.cell (fun W' h => hc W' (hB0.trans h))) Kp.trans (Kp.b (by simp; omega)) (Below.refl _ _) (fun _ => rfl)
    (fun pre W => ((W.cell? ⟨w.heap.size, 0, none⟩ = some (.int .u32 x) ∧ W.frozen? ⟨w.heap.size, 0, none⟩ = false) ∧ (W.cell? ⟨w.heap.size + 1, 0, none⟩ = some (.int .u32 (fold m x pre)) ∧ W.frozen? ⟨w.heap.size + 1, 0, none⟩ = false)) ∧ Below w.heap.size w W)
    (fun _ _ _ => False)
    (OwnFrom.and (Own.from (fun s A B row hs hg hr => ⟨⟨cell_kept hs.1.1 hg hr, (frozen_kept hs.1.1 hg hr).trans hs.1.2⟩, ⟨cell_kept hs.2.1 hg hr, (frozen_kept hs.2.1 hg hr).trans hs.2.2⟩⟩) _) (ownFrom_below (Nat.le_refl _) (by simp; omega)))
    (fun _ _ _ _ _ hs _ _ => hs)
    ⟨⟨⟨((bX.alloc _).alloc _).cell, ((bX.alloc _).alloc _).frozen⟩, ⟨(bO.alloc _).cell, (bO.alloc _).frozen⟩⟩, hB0⟩
    (fun y => { tmps := #[.slice A zs.length cap, .int .u32 x, undef, .pointer (some ⟨w.heap.size, 0, none⟩), .int .u32 0, .pointer (some ⟨w.heap.size + 1, 0, none⟩), undef, .int .u32 y.2, .slice A zs.length cap, .func (.func 60) #[] #[.pointer (some ⟨w.heap.size + 1 + 1, 0, none⟩)], .int .i64 y.1, .int .u32 y.2, undef, undef, undef, undef, undef, undef], defers := [] }) ?assign ?body ?done ?stop
  case assign =>
    intro l y W K hK
    gi_wp2
    exact hK
  case body =>
    rintro l pre y W ⟨⟨⟨hx, hxf⟩, ⟨ho, hof⟩⟩, hB⟩ _
    gi_wp2_with (refine ⟨trivial, ?_⟩; gi_at_call 29; refine (CallsIn.inRound l (callsIn_wide.2 (hmul _ _ _))).mono ?_; rintro e w' ⟨rfl, ⟨nd, rfl⟩⟩)
    have k0 : KeepsOthers W (W.drewN nd) := ⟨Nat.le_refl _, fun _ _ h _ => h⟩
    have b0 : Below w.heap.size W (W.drewN nd) := ⟨rfl, rfl, rfl, Nat.le_refl _, fun _ _ => rfl⟩
    have ne1 : (⟨w.heap.size + 1, 0, none⟩ : Addr) ≠ ⟨w.heap.size, 0, none⟩ := by intro e; injection e with e; omega
    refine ⟨(k0.trans (KeepsOthers.setCell _ _ _)).from _, ⟨b0.setCell (p := ⟨w.heap.size + 1, 0, none⟩) (by simp) _, fun u hu => ?_⟩, ⟨⟨?_, ?_⟩, ⟨?_, ?_⟩⟩, (hB.trans b0).setCell (p := ⟨w.heap.size + 1, 0, none⟩) (by simp) _⟩
    · rw [World.cell?_setCell_other _ _ _ _ (by intro e; injection e with e; omega)]; exact hu
    · rw [World.cell?_setCell_other _ _ _ _ ne1]; exact hx
    · rw [World.frozen?_setCell]; exact hxf
    · rw [fold_snoc]; exact World.cell?_setCell_same' _ _ _ (by rw [show (W.drewN nd).cell? ⟨w.heap.size + 1, 0, none⟩ = W.cell? ⟨w.heap.size + 1, 0, none⟩ from rfl, ho]; rfl)
    · rw [World.frozen?_setCell]; exact hof
  case done =>
    rintro D ys W hD rfl ⟨⟨_, ⟨ho, _⟩⟩, hB⟩ hK
    gi_wp2
    refine ⟨by simp, .inl ⟨_, _, rfl, run_takeDeferred hK, ?_⟩⟩
    exact ⟨_, results_tmp rfl _ _ _, rfl, hB.trans (belowK_b (w := w) (Nat.le_refl _) W D _ _ (by simp at hD; omega) hK rfl rfl)⟩
  case stop =>
    rintro D c pre W _ _ h _
    exact h.elim
end Go.Proofs.Ytljkbkhaamlbmaa.EAt
