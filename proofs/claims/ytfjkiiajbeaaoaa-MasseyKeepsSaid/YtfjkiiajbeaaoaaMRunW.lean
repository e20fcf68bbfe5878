/- massey.run: the walk. -/
import Derived.Test.YtfjkiiajbeaaoaaMRun
set_option linter.unusedVariables false
set_option linter.unusedSimpArgs false
namespace Go.Proofs.Ytfjkiiajbeaaoaa.MW
open Go.RowKit Go.Proofs.Ytfjkiiajbeaaoaa.Q Go.Proofs.YtfjkiiajbeaaoaaW.PrintWords Go.Proofs.YtfjkiiajbeaaoaaW.PrintLast Go.Proofs.YtfjkiiajbeaaoaaW.PrintMore Go.Proofs.Ytfjkiiajbeaaoaa.Bits Go.Proofs.Ytfjkiiajbeaaoaa GF PolyT MV Massey
theorem heap_new (w : World) (o : Obj) : (w.alloc o).heap[w.heap.size]? = some o := by
  show (w.heap.push o)[w.heap.size]? = some o
  simp
theorem below_out {n B : Nat} {w w0 w1 : World} (h : Below n w w0) (o : Out B w0 w1) (hn : n ≤ B) (hs : n ≤ w.heap.size) : Below n w w1 :=
  ⟨o.os.trans h.os, o.tape.trans h.tape, o.output.trans h.output, Nat.le_trans h.size o.size, fun k hk => by
    rw [o.block k (by have := h.size; omega) (by simp; omega)]; exact h.block k hk⟩
/-- a block of one word -/
theorem C_one (w : World) (g : Nat) (x : F) (ty : TypeId) (h : w.heap[g]? = some (.cells #[.int .u32 (v x)] ty (0, 0))) : Kd.C (Kd.int .u32) w (some ⟨g, 0, none⟩) (V [x]).length (V [x]) :=
  Kd.C_of_reads (d := 0) ⟨rfl, by show 1 ≤ _; decide, fun _ => ⟨_, rfl, fun j hj => by
    have : j = 0 := by simp [V] at hj; omega
    subst this
    show w.cell? ⟨g, 0, none⟩ = _
    rw [blk_cell h]; rfl⟩⟩
/-- the state at the beginning -/
theorem has_start (f : S) (w : World) : Has (((w.alloc (.cells #[.int .u32 1] 30)).alloc (.cells #[.int .u32 1] 30)).alloc (.cells #[.slice (some ⟨w.heap.size, 0, none⟩) 1 1, .slice (some ⟨w.heap.size + 1, 0, none⟩) 1 1, .int .i64 0, .int .i64 0, .int .u32 1] 42)) (w.heap.size + 1 + 1) (run f 0) := by
  have e0 : ((w.alloc (.cells #[.int .u32 1] 30)).alloc (.cells #[.int .u32 1] 30)).heap.size = w.heap.size + 1 + 1 := by simp
  have a := C_one (w.alloc (.cells #[.int .u32 1] 30)) w.heap.size 1#32 _ (heap_new _ _)
  have b := C_one ((w.alloc (.cells #[.int .u32 1] 30)).alloc (.cells #[.int .u32 1] 30)) (w.heap.size + 1) 1#32 _ (by
    have := heap_new (w.alloc (.cells #[.int .u32 1] 30)) (.cells #[.int .u32 1] 30)
    rwa [show (w.alloc (.cells #[.int .u32 1] 30)).heap.size = w.heap.size + 1 by simp] at this)
  refine ⟨some ⟨w.heap.size, 0, none⟩, 1, some ⟨w.heap.size + 1, 0, none⟩, 1, ?_, ⟨Kd.C_alloc (Kd.C_alloc a _) _, by simp [run], fun ad e => by cases e; show w.heap.size ≠ _; omega⟩, Kd.C_alloc b _, by simp [run], fun ad e => by cases e; show w.heap.size + 1 ≠ _; omega⟩
  unfold S5
  rw [← e0]
  exact heap_new _ _
theorem below_start (w : World) (o p q : Obj) : Below w.heap.size w (((w.alloc o).alloc p).alloc q) := below_alloc (below_alloc (below_alloc (Below.refl _ _) o) p) q
set_option maxRecDepth 100000 in
set_option maxHeartbeats 400000 in
theorem run_calls (s : List F) (A : Option Addr) (c : Nat) (w : World) (hs : Kd.C (Kd.int .u32) w A (V s).length (V s)) (hc : s.length ≤ c) (hsl : s.length < 50000) :
    Calls Try.prog 18 #[.slice A s.length c] w fun e w' => ∃ B, e = .returned (.pointer (some ⟨B, 0, none⟩)) ∧ Has w' B (run (co s) s.length) ∧ w.heap.size ≤ B ∧ Below w.heap.size w w' := by
  have h0 := Aside0.mk (has_start (co s) w)
  have hb0 := Aside0.mk (below_start w (.cells #[.int .u32 1] 30) (.cells #[.int .u32 1] 30) (.cells #[.slice (some ⟨w.heap.size, 0, none⟩) 1 1, .slice (some ⟨w.heap.size + 1, 0, none⟩) 1 1, .int .i64 0, .int .i64 0, .int .u32 1] 42))
  have hsA := Aside0.mk hs
  clear hs
  go_enter Try.func18, Try.ntmps18
  go_wp2_with fail
  go_loopw [11] (fun i wr => ∃ k : Nat, k ≤ s.length ∧ i = .int .i64 k ∧ Has wr (w.heap.size + 1 + 1) (run (co s) k) ∧ Below w.heap.size w wr) (fun i _ => s.length - (intOf i).toNat)
  case atStart => exact ⟨0, by omega, rfl, h0.out, hb0.out⟩
  case round =>
    obtain ⟨k, hk, rfl, hH, hB⟩ := hrel
    have hC := Kd.C_below hsA.out hB
    have hbd := run_bounds (co s) k
    by_cases hlt : k < s.length
    · have p0 : (k : Int) < (s.length : Int) := by omega
      have hw4 : IntKind.i64.wrap ((k : Int) + 1) = (k : Int) + 1 := IntWalk.i64_in _ (by omega)
      have hne : ∀ ad, A = some ad → ad.block ≠ w.heap.size + 1 + 1 := fun ad e => by
        obtain ⟨ae, e2, hx⟩ := Kd.at_int hsA.out 0 (by omega) (by rw [V_length]; omega)
        have := World.block_lt_of_cell? w _ hx
        rw [e] at e2; cases e2
        have hz : (ad.add (0 : Int).toNat).block = ad.block := rfl
        omega
      have hT := Aside0.mk (take_calls (run (co s) k) s A c (w.heap.size + 1 + 1) k wr hH hC hc hne hlt hsl (by omega) (by omega) (by omega) hbd.2.2.2.1 hbd.2.2.2.2)
      have hBA := Aside0.mk hB
      clear hH hC hbd hne hB
      go_wp2_with (go_at_call 25; with_reducible refine hT.out.mono ?_; rintro e w2 ⟨⟨v0, rfl⟩, hH2, hO2⟩; have hH3 := Aside0.mk hH2; have hB3 := Aside0.mk (below_out hBA.out hO2 (by omega) (Nat.le_refl _)); clear hH2 hO2)
      go_roundw
      case rel => exact ⟨k + 1, by omega, by go_num, hH3.out, hB3.out⟩
      case measure => simp [intOf]; omega
    · obtain rfl : k = s.length := by omega
      have hHA := Aside0.mk hH; have hBA := Aside0.mk hB
      clear hH hB hbd hC
      go_wp2
      go_ret
      exact ⟨_, rfl, hHA.out, by omega, hBA.out⟩
end Go.Proofs.Ytfjkiiajbeaaoaa.MW
