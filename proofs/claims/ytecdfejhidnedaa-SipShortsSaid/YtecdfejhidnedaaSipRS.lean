/- The document's short id of a digest: what the call comes to. -/
import Derived.Test.YtecdfejhidnedaaQx1
import Derived.Test.YtecdfejhidnedaaSipS
import Derived.Test.YtecdfejhidnedaaC06
set_option linter.unusedVariables false
set_option linter.unusedSimpArgs false
namespace Go.Proofs.Ytecdfejhidnedaa.Sip
open Go.RowKit Go.Proofs.Ytecdfejhidnedaa.Q Go.Proofs.YtecdfejhidnedaaW.PrintWords Go.Proofs.YtecdfejhidnedaaW.PrintLast Go.Proofs.YtecdfejhidnedaaW.PrintMore Go.Proofs.Ytecdfejhidnedaa Go.Proofs.Ytecdfejhidnedaa.Bits
theorem info_u8 : (Try.prog.info? 5).map (fun i => (i.zero, i.size, i.bytes)) = some (some (.int .u8 0), 1, 1) := by kernel_rfl
set_option maxRecDepth 100000 in
set_option maxHeartbeats 400000 in
theorem rshort_calls (k0 k1 : W) (h : List Int) (hb : Bytes h) (hl : h.length = 32) (w : World) :
    Calls Try.prog 14 #[.agg #[.int .u64 (q k0), .int .u64 (q k1)], hv h] w fun e w' => e = .returned (.int .u32 (q (hash k0 k1 h) % 4294967295 + 1)) ∧ Below w.heap.size w w' := by
  have hu := Try.underlying36
  have hu2 := Try.underlying29
  obtain ⟨K, hK⟩ := rhash_V hb (by omega) k0 k1
  replace hK := hK K (Nat.le_refl _)
  have hx := q_lt (hash k0 k1 h)
  obtain ⟨x, hxx⟩ : ∃ x, x = q (hash k0 k1 h) := ⟨_, rfl⟩
  rw [← hxx] at hK hx ⊢
  clear hxx
  have e1 : Int.tmod x 4294967295 = x % 4294967295 := Int.tmod_eq_emod_of_nonneg hx.1
  have e2 : IntKind.u64.wrap (x % 4294967295 + 1) = x % 4294967295 + 1 := by rw [wrap_u64]; omega
  have e3 : IntKind.u32.wrap (x % 4294967295 + 1) = x % 4294967295 + 1 := by rw [IntKind.wrap_u32]; omega
  obtain ⟨V, hV⟩ : ∃ V, V = (w.alloc (.cells #[.int .u64 (q k0), .int .u64 (q k1)] 29)).alloc (.cells (nums .u8 h).toArray 36) := ⟨_, rfl⟩
  have hVs : V.heap.size = w.heap.size + 2 := by rw [hV]; simp
  have hVB : Below w.heap.size w V := by rw [hV]; exact ((Below.refl _ _).alloc (Nat.le_refl _) _).alloc (by simp) _
  have hc0 : V.cell? ⟨w.heap.size, 0, none⟩ = some (.int .u64 (q k0)) := by rw [hV, World.cell?_alloc_past _ _ _ (by simp)]; simp
  have hc1 : V.cell? ⟨w.heap.size, 1, none⟩ = some (.int .u64 (q k1)) := by rw [hV, World.cell?_alloc_past _ _ _ (by simp)]; simp
  have hcs : ∀ k : Nat, k < 32 → V.cell? ⟨w.heap.size + 1, k, none⟩ = some (.int .u8 (h.getD k 0)) := fun k hk => by
    have := World.alloc_heap_new (w.alloc (.cells #[.int .u64 (q k0), .int .u64 (q k1)] 29)) (.cells (nums .u8 h).toArray 36)
    rw [← hV, World.size_alloc] at this
    rw [cell_of_row _ _ _ _ _ _ this]
    simp [nums, List.getElem?_eq_getElem (show k < h.length by omega)]
  go_enter Try.func14, Try.ntmps14
  go_wp2_with fail
  rw [← hV]
  clear hV
  replace hK := Aside0.mk hK
  go_loopw [6, 5] (fun i v wr => ∃ k : Nat, k ≤ 32 ∧ i = .int .i64 k ∧ Below V.heap.size V wr ∧ Kd.R (Kd.int .u8) 5 wr V.heap.size (fun _ => True) v (h.take k)) (fun i _ _ => 32 - (intOf i).toNat)
  case atStart => exact ⟨0, by omega, by simp, Below.refl _ _, Kd.R_nil _ _ _ _ _⟩
  case round =>
    obtain ⟨k, hk, rfl, hBr, hR⟩ := hrel
    by_cases hlt : k < 32
    · have g1 : (k : Int) < 32 := by omega
      have g0 : (0 : Int) ≤ (k : Int) := by omega
      have hcell := (hBr.cell (p := ⟨w.heap.size + 1, k, none⟩) (by simp; omega)).trans (hcs k hlt)
      have hi := IntWalk.i64_in ((k : Int) + 1) (by omega)
      have htk : h.take (k + 1) = h.take k ++ [h.getD k 0] := by
        rw [List.take_succ_eq_append_getElem (by omega), List.getD_eq_getElem?_getD, List.getElem?_eq_getElem (show k < h.length by omega)]; rfl
      obtain ⟨z, hz⟩ : ∃ z, z = h.getD k 0 := ⟨_, rfl⟩
      rw [← hz] at hcell htk
      obtain ⟨l, hl2⟩ : ∃ l, l = h.take k := ⟨_, rfl⟩
      have hll : l.length ≤ 32 := by rw [hl2, List.length_take]; omega
      rw [← hl2] at hR htk
      replace htk := Aside0.mk htk
      clear hcs hc0 hc1 hz hl2
      go_wp2_with (first | (at_builtin; refine Kd.R_append (Kd.int .u8) (w0 := V) V.heap.size rfl (.tmp 11) (.tmp 15) 23 5 (.int .u8 0) 1 rfl Try.underlying23 info_u8 rfl (by decide) (by omega) u5 l z [.int .u8 z] (fun _ => True) (fun _ => False) rfl rfl rfl (fun _ hk => hk.elim) (fun _ _ => trivial) hR hBr hBr.size (by omega) ?_; intro v1 w10 hR1 hb1 hg7 hat7; clear hR hBr hg7 hat7))
      go_roundw
      case rel =>
        refine ⟨k + 1, by omega, by go_num, hb1, ?_⟩
        rw [htk.out]; exact hR1
      case measure => simp [intOf]; omega
    · obtain rfl : k = 32 := by omega
      rw [List.take_of_length_le (by omega)] at hR
      have z0 := (hBr.cell (p := ⟨w.heap.size, 0, none⟩) (by simp; omega)).trans hc0
      have z1 := (hBr.cell (p := ⟨w.heap.size, 1, none⟩) (by simp; omega)).trans hc1
      obtain ⟨Ap, Ap_c, rfl⟩ := Kd.R_slice hR
      clear hcs hc0 hc1
      go_wp2_with fail
      have hcl := gossamerref06_Hash.calls K (q k0) (q k1) Ap Ap_c h x wr (Kd.R_reads' hR).2.2 (Kd.R_reads' hR).2.1 hK.out
      rw [hl] at hcl
      with_reducible refine hcl.mono ?_
      rintro e w' ⟨rfl, hb2⟩
      go_wp2
      go_ret
      exact ⟨rfl, below_to (below_to hVB (by omega) hBr) (Nat.le_trans (by omega) hBr.size) hb2⟩
end Go.Proofs.Ytecdfejhidnedaa.Sip
