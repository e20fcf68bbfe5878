/- The short ids of any digests, by any salt, and that none is 0.
   Conditions: none. -/
import Derived.Test.YtecdfejhidnedaaQx1
import Derived.Test.YtecdfejhidnedaaSipRS
import Derived.Test.YtecdfejhidnedaaSipD
set_option linter.unusedVariables false
set_option linter.unusedSimpArgs false
namespace Go.Proofs.Ytecdfejhidnedaa.Walk
open Go.RowKit Go.Proofs.Ytecdfejhidnedaa.Q Go.Proofs.YtecdfejhidnedaaW.PrintWords Go.Proofs.YtecdfejhidnedaaW.PrintLast Go.Proofs.YtecdfejhidnedaaW.PrintMore Go.Proofs.Ytecdfejhidnedaa.Bits Go.Proofs.Ytecdfejhidnedaa Sip
theorem wordsS_loop (l : List Int) (hs : l.length < 4096) : ∀ (n i : Nat), i + n = l.length → Ev (fun k => gossamernum_Words.l0 k l l (l.length : Int) (i : Int)) true := by
  intro n
  induction n with
  | zero =>
    intro i hi
    refine Ev.succ ?_
    simp only [gossamernum_Words.l0]
    exact Ev.neg (by omega) Ev.some'
  | succ n ih =>
    intro i hi
    refine Ev.succ ?_
    have hw2 : wrap64 ((i : Int) + 1) = ((i + 1 : Nat) : Int) := by rw [wrap64_small (by omega) (by omega)]; omega
    simp only [gossamernum_Words.l0]
    rw [hw2]
    exact Ev.pos (by omega) (Ev.pos (by omega) (Ev.pos (by omega) (Ev.pos (by omega) (Ev.pos trivial (ih (i + 1) (by omega))))))
theorem wordsS_self (l : List Int) (hs : l.length < 4096) : Ev (fun k => gossamernum_Words.f k l l) true := by
  unfold gossamernum_Words.f
  exact Ev.pos rfl (wordsS_loop l hs l.length 0 (by omega))
set_option maxRecDepth 100000 in
set_option maxHeartbeats 400000 in
theorem SipShorts (a0 a1 : Int) (A : Option Addr) (c : Nat) (L : List (List Int)) (w : World) (w0 : (Lit.int .u64 a0).wf = true) (w1 : (Lit.int .u64 a1).wf = true) (hD : Dg w A L) (hc : L.length ≤ c) (hm : c ≤ maxLen) :
    Calls Try.prog 6 #[.agg #[.int .u64 a0, .int .u64 a1], .slice A L.length c] w fun e w' => e = .returned (.bool true) ∧ Below w.heap.size w w' := by
  obtain ⟨k0, rfl⟩ := q_of (wf_u64 w0).1 (wf_u64 w0).2
  obtain ⟨k1, rfl⟩ := q_of (wf_u64 w1).1 (wf_u64 w1).2
  have hu2 := Try.underlying29
  have hAl := fun W : World => gossamerlaw06_alive.calls true W alive6
  clear w0 w1
  by_cases hbig : 30 < L.length
  · have hd : decide ((30 : Int) < (L.length : Int)) = true := decide_eq_true (by omega)
    go_enter Try.func6, Try.ntmps6
    go_wp2_with (go_at_call 7; with_reducible refine (hAl _).mono ?_; rintro e w1 ⟨rfl, hb1⟩; have hB1 := below_to (below_alloc (Below.refl _ _) _) (by simp) hb1; clear hb1)
    go_ret
    exact ⟨rfl, hB1⟩
  have hn : L.length ≤ 30 := by omega
  have hd : decide ((30 : Int) < (L.length : Int)) = false := decide_eq_false (by omega)
  obtain ⟨K, hK⟩ := wordsS_self (L.map (sh k0 k1)) (by rw [List.length_map]; omega)
  replace hK := Aside0.mk (hK K (Nat.le_refl _))
  have hS := fun (h : List Int) (hb : Bytes h) (hl : h.length = 32) (W : World) => short_calls k0 k1 h hb hl W
  have hR_ := fun (h : List Int) (hb : Bytes h) (hl : h.length = 32) (W : World) => rshort_calls k0 k1 h hb hl W
  go_enter Try.func6, Try.ntmps6
  go_wp2_with (first | (go_at_call 7; with_reducible refine (hAl _).mono ?_; rintro e V ⟨rfl, hb1⟩) | ((with_reducible refine gate_dst (N := 14) rfl ?_); refine Kd.R_lit (Kd.int .u32) _ 39 ?hg (N := 14) ?hd (xs := ([] : List Int)) (inner := []) (ok := fun _ => True) (okp := fun _ => True) ?hr ?hp (fun _ hk => hk) trivial (Below.refl _ _) (Nat.le_refl _) (by simp) ?_; (case hd => rfl); (case hg => rfl); (case hr => first | (go_simp; done) | (go_simp; rfl)); (case hp => exact Reps.none _ _); intro v5 w2 hR0 hb2 hg_ hnew_; clear hg_ hnew_))
  have hVB : Below w.heap.size w V := below_to (below_alloc (Below.refl _ _) _) (by simp) hb1
  have hVs : w.heap.size + 1 ≤ V.heap.size := Nat.le_trans (by simp) hb1.size
  have hc0 : V.cell? ⟨w.heap.size, 0, none⟩ = some (.int .u64 (q k0)) := (hb1.cell (p := ⟨w.heap.size, 0, none⟩) (by simp)).trans (by simp)
  have hc1 : V.cell? ⟨w.heap.size, 1, none⟩ = some (.int .u64 (q k1)) := (hb1.cell (p := ⟨w.heap.size, 1, none⟩) (by simp)).trans (by simp)
  have hDV := hD.below hVB
  clear hb1 hD hd hbig hAl
  go_loopw [17, 5] (fun i v wr => ∃ k : Nat, k ≤ L.length ∧ i = .int .i64 k ∧ Below V.heap.size V wr ∧ Kd.R (Kd.int .u32) 39 wr V.heap.size (fun _ => True) v ((L.take k).map (sh k0 k1))) (fun i _ _ => L.length - (intOf i).toNat)
  case atStart => exact ⟨0, by omega, by simp, hb2, hR0⟩
  case round =>
    obtain ⟨k, hk, rfl, hBr, hR⟩ := hrel
    clear hR0 hb2
    by_cases hlt : k < L.length
    · have g1 : (k : Int) < L.length := by omega
      have g0 : (0 : Int) ≤ (k : Int) := by omega
      obtain ⟨h, hh⟩ : ∃ h, L[k]? = some h := ⟨_, List.getElem?_eq_getElem hlt⟩
      obtain ⟨hl, hb, _⟩ := hDV k h hh
      obtain ⟨ad, rfl, hat⟩ := (hDV.below hBr).at k h hh
      have hi := IntWalk.i64_in ((k : Int) + 1) (by omega)
      have hih := info_hash h hl
      have z0 := (hBr.cell (p := ⟨w.heap.size, 0, none⟩) (by simp; omega)).trans hc0
      have z1 := (hBr.cell (p := ⟨w.heap.size, 1, none⟩) (by simp; omega)).trans hc1
      have hA := Aside0.mk hat
      have hcS := hS h hb hl
      have hcR := hR_ h hb hl
      obtain ⟨y, hy⟩ : ∃ y, y = sh k0 k1 h := ⟨_, rfl⟩
      have hy0 : 0 < y := by rw [hy]; unfold sh; have := (q_lt (hash k0 k1 h)).1; omega
      have hy1 : (y == 0) = false := by simp; omega
      have hy2 : (y != y) = false := by simp
      have hy3 : decide (y = 0) = false := decide_eq_false (by omega)
      have hy4 : ¬ y = 0 := by omega
      change ∀ W : World, Calls Try.prog 13 #[.agg #[.int .u64 (q k0), .int .u64 (q k1)], hv h] W (fun e w' => e = .returned (.int .u32 (sh k0 k1 h)) ∧ Below W.heap.size W w') at hcS
      change ∀ W : World, Calls Try.prog 14 #[.agg #[.int .u64 (q k0), .int .u64 (q k1)], hv h] W (fun e w' => e = .returned (.int .u32 (sh k0 k1 h)) ∧ Below W.heap.size W w') at hcR
      obtain ⟨l, hl2⟩ : ∃ l, l = (L.take k).map (sh k0 k1) := ⟨_, rfl⟩
      have hll : l.length ≤ 30 := by rw [hl2, List.length_map, List.length_take]; omega
      have htk : (L.take (k + 1)).map (sh k0 k1) = l ++ [y] := by
        rw [List.take_add_one, hh, hy, hl2]; simp
      rw [← hy] at hcS hcR
      rw [← hl2] at hR
      replace htk := Aside0.mk htk
      have hBs := hBr.size
      clear hat hc0 hc1 hDV hy hl2 hS hR_ hh
      go_wp2_with (first | ((with_reducible refine gate_dst (N := 20) rfl ?_); refine wpList_load_any rfl 36 (.tmp 19) rfl (ad.add (k * 32)) rfl (nums .u8 h) _ hA.out hash_row rfl hih ?_) | ((with_reducible refine gate_dst (N := 7) rfl ?_); refine box_event ?hg (N := 7) ?hd (cs := noughts) (t := 36) ?hr ?_; (case hd => rfl); (case hg => rfl); (case hr => first | (go_simp; done) | (go_simp; rfl)); rintro gb rfl w5 hbox hb5; refine wpList_put_hash (w0 := wr) rfl 36 (.tmp 7) (.tmp 20) rfl wr.heap.size h hl rfl rfl noughts 36 hbox rfl hih wr.heap.size hb5 (Nat.le_refl _) ?_; clear hbox hb5; intro w6 hb6 hlt6 hat6 hap6; clear hap6; have hA6 := Aside0.mk hat6; have z06 := (hb6.cell (p := ⟨w.heap.size, 0, none⟩) (by simp; omega)).trans z0; have z16 := (hb6.cell (p := ⟨w.heap.size, 1, none⟩) (by simp; omega)).trans z1; clear z0 z1 hat6) | ((with_reducible refine gate_dst (N := 22) rfl ?_); refine wpList_load_any rfl 36 (.tmp 7) rfl ⟨wr.heap.size, 0, none⟩ rfl (nums .u8 h) _ hA6.out hash_row rfl hih ?_) | ((with_reducible refine gate_dst (N := 25) rfl ?_); refine wpList_load_any rfl 36 (.tmp 7) rfl ⟨wr.heap.size, 0, none⟩ rfl (nums .u8 h) _ hA7.out hash_row rfl hih ?_) | (go_at_call 14; with_reducible refine (hcR w6).mono ?_; rintro e w7 ⟨rfl, hb7⟩; have hR7 := Kd.R_below (Kd.R_below hR hb6) hb7; have hB7 := below_to (below_to hBr hBs hb6) (Nat.le_trans hBs hb6.size) hb7; have z07 := (hb7.cell (p := ⟨w.heap.size, 0, none⟩) (by simp; omega)).trans z06; have z17 := (hb7.cell (p := ⟨w.heap.size, 1, none⟩) (by simp; omega)).trans z16; have hA7 := Aside0.mk (fun j v hv => (hb7.cell (p := (⟨wr.heap.size, 0, none⟩ : Addr).add j) (by rw [add_plain]; exact hlt6)).trans (hA6.out j v hv)); clear hb6 hb7 hR hBr z06 z16 hA6) | (go_at_call 13; with_reducible refine (hcS w7).mono ?_; rintro e w8 ⟨rfl, hb8⟩; have hR8 := Kd.R_below hR7 hb8; have hB8 := below_to hB7 hB7.size hb8; clear hb8 hR7 hB7 z07 z17 hA7) | (at_builtin; refine Kd.R_append (Kd.int .u32) (w0 := V) V.heap.size rfl (.tmp 33) (.tmp 35) 43 39 (.int .u32 0) 4 rfl Try.underlying43 info_u32 rfl (by decide) (by omega) u5 l y [.int .u32 y] (fun _ => True) (fun _ => False) rfl rfl rfl (fun _ hk => hk.elim) (fun _ _ => trivial) hR8 hB8 hB8.size (by omega) ?_; intro v1 w10 hR1 hb1 hg7 hat7; clear hR8 hB8 hg7 hat7))
      go_roundw
      case rel =>
        refine ⟨k + 1, by omega, by go_num, hb1, ?_⟩
        rw [htk.out]; exact hR1
      case measure => simp [intOf]; omega
    · obtain rfl : k = L.length := by omega
      rw [List.take_length] at hR
      obtain ⟨Ap, Ap_c, rfl⟩ := Kd.R_slice hR
      have hCx := (Kd.R_reads' hR).2.2
      have hcx := (Kd.R_reads' hR).2.1
      have hlm : (L.map (sh k0 k1)).length = L.length := List.length_map _
      have hBf := below_to hVB (by omega) hBr
      have hDr := hDV.below hBr
      have z0 := (hBr.cell (p := ⟨w.heap.size, 0, none⟩) (by simp; omega)).trans hc0
      have z1 := (hBr.cell (p := ⟨w.heap.size, 1, none⟩) (by simp; omega)).trans hc1
      have hBs := hBr.size
      clear hR hc0 hc1 hDV hS hR_ hBr
      rw [hlm] at hcx
      have hW := fun (W : World) (A' : Option Addr) (c' : Nat) (h1 : Kd.C (Kd.int .u32) W A' (L.map (sh k0 k1)).length (L.map (sh k0 k1))) (h2 : (L.map (sh k0 k1)).length ≤ c') (h3 : Kd.C (Kd.int .u32) W Ap (L.map (sh k0 k1)).length (L.map (sh k0 k1))) (h4 : (L.map (sh k0 k1)).length ≤ Ap_c) => gossamernum_Words.calls K A' c' _ Ap Ap_c _ true W h1 h2 h3 h4 hK.out
      rw [hlm] at hW hCx
      go_wp2_with (first | (go_at_call 16; with_reducible refine (shorts_calls k0 k1 A c L wr hDr hc hn).mono ?_; rintro e w7 ⟨⟨A', c', rfl, hc', hC'⟩, hb7⟩; have hC7 := Kd.C_below hCx hb7; have hB7 := below_to hBf (by omega) hb7; clear hb7 hCx hBf z0 z1 hDr) | (go_at_call 15; with_reducible refine (hW w7 A' c' hC' hc' hC7 hcx).mono ?_; rintro e w8 ⟨rfl, hd8⟩; have hB8 := below_to hB7 hB7.size (Drawn0.below hd8); clear hd8 hB7 hC7 hC'))
      go_ret
      exact ⟨rfl, hB8⟩
end Go.Proofs.Ytecdfejhidnedaa.Walk
