/- Short ids: what the calls come to. -/
import Derived.Test.YtecdfejhidnedaaSipH
set_option linter.unusedVariables false
set_option linter.unusedSimpArgs false
namespace Go.Proofs.Ytecdfejhidnedaa.Sip
open Go.RowKit Go.Proofs.YtecdfejhidnedaaW.PrintWords Go.Proofs.Ytecdfejhidnedaa Go.Proofs.Ytecdfejhidnedaa.Bits
/-- a digest's value -/
abbrev hv (h : List Int) : Value := .agg (nums .u8 h).toArray
theorem C_block {W : World} {B T : Nat} {h : List Int} {fr : Nat × Nat} (hh : W.heap[B]? = some (.cells (nums .u8 h).toArray T fr)) (hl : h.length ≤ 9223372036854775807) : Kd.C (Kd.int .u8) W (some ⟨B, 0, none⟩) h.length h := by
  refine Kd.C_of_reads (d := (0 : Int)) (h1 := fun _ => rfl) ⟨rfl, hl, fun _ => ⟨_, rfl, fun j hj => ?_⟩⟩
  rw [add_plain, cell_of_row W B j _ T fr hh]
  simp [nums, hj]
set_option maxRecDepth 100000 in
set_option maxHeartbeats 400000 in
theorem short_calls (k0 k1 : W) (h : List Int) (hb : Bytes h) (hl : h.length = 32) (w : World) :
    Calls Try.prog 13 #[.agg #[.int .u64 (q k0), .int .u64 (q k1)], hv h] w fun e w' => e = .returned (.int .u32 (q (hash k0 k1 h) % 4294967295 + 1)) ∧ Below w.heap.size w w' := by
  have hu := Try.underlying36
  have hu2 := Try.underlying27
  have hC : Kd.C (Kd.int .u8) ((w.alloc (.cells #[.int .u64 (q k0), .int .u64 (q k1)] 27)).alloc (.cells (nums .u8 h).toArray 36)).drew (some ⟨w.heap.size + 1, 0, none⟩) h.length h := by
    have := World.alloc_heap_new (w.alloc (.cells #[.int .u64 (q k0), .int .u64 (q k1)] 27)) (.cells (nums .u8 h).toArray 36)
    rw [World.size_alloc] at this
    exact C_block (W := ((w.alloc _).alloc _).drew) this (by omega)
  have hh := hash_calls k0 k1 (some ⟨w.heap.size + 1, 0, none⟩) 32 h hb _ hC (by omega) (by omega)
  rw [hl] at hh
  have hB : Below w.heap.size w ((w.alloc (.cells #[.int .u64 (q k0), .int .u64 (q k1)] 27)).alloc (.cells (nums .u8 h).toArray 36)).drew := pw_below_drewN (((Below.refl _ _).alloc (Nat.le_refl _) _).alloc (by simp) _) 1
  have hx := q_lt (hash k0 k1 h)
  obtain ⟨x, hxx⟩ : ∃ x, x = q (hash k0 k1 h) := ⟨_, rfl⟩
  rw [← hxx] at hh hx ⊢
  clear hxx hC
  have e1 : Int.tmod x 4294967295 = x % 4294967295 := Int.tmod_eq_emod_of_nonneg hx.1
  have e2 : IntKind.u32.wrap (x % 4294967295) = x % 4294967295 := by rw [IntKind.wrap_u32]; omega
  have e3 : IntKind.u32.wrap (x % 4294967295 + 1) = x % 4294967295 + 1 := by rw [IntKind.wrap_u32]; omega
  have hx0 := hx.1
  go_enter Try.func13, Try.ntmps13
  go_wp2
  go_region_with (first | (go_at_call 8; refine hh.mono ?_; rintro e w' ⟨rfl, hb'⟩))
  all_goals
    go_wp2
    go_ret
    exact ⟨rfl, below_step hB hb'⟩
end Go.Proofs.Ytecdfejhidnedaa.Sip
