/- slices.Grow and slices.Concat, of bytes. -/
import Derived.Test.YtlgfekllkahfaaaDoorShaC
import Derived.Test.YtlgfekllkahfaaaDoorWZeros
set_option linter.unusedVariables false
set_option linter.unusedSimpArgs false
namespace Go.Proofs.YtlgfekllkahfaaaDoor.ShaW
open Go.RowKit Go.Proofs.YtlgfekllkahfaaaDoorW.PrintWords Go.Proofs.YtlgfekllkahfaaaDoorW.PrintMore Go.Proofs.YtlgfekllkahfaaaDoor Go.Proofs.YtlgfekllkahfaaaDoor.Bits Sha ArrK
theorem info_u8 : (Tryd.prog.info? 5).map (fun i => (i.zero, i.size, i.bytes)) = some (some (.int .u8 0), 1, 1) := by kernel_rfl
set_option maxRecDepth 100000 in
set_option maxHeartbeats 400000 in
theorem grow_calls (n : Nat) (hn : n ≤ 1000000000) (w : World) :
    Calls Tryd.prog 75 #[.slice none 0 0, .int .i64 n] w fun e w' => ∃ v0, e = .returned v0 ∧ Kd.R (Kd.int .u8) 5 w' w.heap.size (fun _ => True) v0 [] ∧ Below w.heap.size w w' := by
  have q1 : IntKind.i64.wrap (n : Int) = (n : Int) := IntWalk.i64_in _ (by omega)
  have p0 : (0 : Int) ≤ (n : Int) := by omega
  by_cases h0 : n = 0
  · subst h0
    go_enter Tryd.func75, Tryd.ntmps75
    go_wp2_with fail
    go_ret
    exact ⟨_, rfl, Kd.R_nil _ _ _ _ _, Below.refl _ _⟩
  · have p1 : (0 : Int) < (n : Int) := by omega
    go_enter Tryd.func75, Tryd.ntmps75
    go_wp2_with (first | (at_builtin; refine Kd.R_append_zeros (Kd.int .u8) (w0 := w) w.heap.size rfl (.tmp 20) (.tmp 21) 40 3 5 (.int .u8 0) 1 rfl Tryd.underlying40 Tryd.underlying3 info_u8 rfl (by decide) (by decide) (.slice none 0 0) [] 0 (n : Int) (fun _ => True) rfl rfl rfl (fun _ _ => trivial) (Kd.R_nil _ _ _ _ _) (by omega) (Below.refl _ _) (Nat.le_refl _) (by simp; omega) ?_; intro v1 w1 hR1 hB1 hg1 hat1; obtain ⟨g, cap, hv, hbg, hgl, _⟩ := Kd.R_form hR1 (by simp; omega); subst hv; have hRA := Aside0.mk hR1; have hBA := Aside0.mk hB1; clear hR1 hB1 hg1 hat1))
    go_ret
    exact ⟨_, rfl, Kd.R_take hRA.out (m := 0) (Nat.zero_le _), hBA.out⟩
/-- a list of texts -/
abbrev kp : Kd (List Int) := Kd.slice 5 (Kd.int .u8)
theorem part_at {w : World} {ad : Addr} {parts : List (List Int)} (h : kp.C w (some ad) parts.length parts) (k : Nat) (hk : k < parts.length) :
    ∃ A c, w.cell? (ad.add k) = some (.slice A parts[k].length c) ∧ parts[k].length ≤ c ∧ (Kd.int .u8).C w A parts[k].length parts[k] := by
  obtain ⟨ad', cs, e, hl, ⟨A, c, hcs, hc, hC⟩, hx⟩ := Kd.C_get h [] (k : Int) (by omega) (by omega)
  cases e
  rw [Int.toNat_natCast, List.getD_eq_getElem?_getD, List.getElem?_eq_getElem hk, Option.getD_some] at hcs hc hC
  refine ⟨A, c, ?_, hc, hC⟩
  have := hx 0 (.slice A parts[k].length c) (by rw [hcs]; rfl)
  have e : k * kp.sz + 0 = k := by show k * 1 + 0 = k; omega
  rw [Int.toNat_natCast, e] at this
  exact this
theorem flat_take (parts : List (List Int)) (k : Nat) (hk : k < parts.length) : (parts.take (k + 1)).flatten = (parts.take k).flatten ++ parts[k] := by
  rw [List.take_succ_eq_append_getElem hk, List.flatten_append]; simp
theorem flat_le (parts : List (List Int)) (k : Nat) : (parts.take k).flatten.length ≤ parts.flatten.length := by
  conv => rhs; rw [← List.take_append_drop k parts]
  rw [List.flatten_append, List.length_append]; omega
set_option maxRecDepth 100000 in
set_option maxHeartbeats 400000 in
theorem concat_calls (parts : List (List Int)) (A : Option Addr) (c : Nat) (w : World) (hr : kp.C w A parts.length parts) (hc : parts.length ≤ c) (hn : parts.length ≤ 1000000000) (hl : parts.flatten.length ≤ 1000000000) :
    Calls Tryd.prog 68 #[.slice A parts.length c] w fun e w' => ∃ v0, e = .returned v0 ∧ Kd.R (Kd.int .u8) 5 w' w.heap.size (fun _ => True) v0 parts.flatten ∧ Below w.heap.size w w' := by
  have hrA := Aside0.mk hr
  have hflA := Aside0.mk (flat_le parts)
  clear hr
  go_enter Tryd.func68, Tryd.ntmps68
  go_wp2_with fail
  go_loopw [11, 3] (fun i o wr => ∃ k : Nat, k ≤ parts.length ∧ i = .int .i64 k ∧ o = .int .i64 ((parts.take k).flatten.length : Nat) ∧ w = wr) (fun i _ _ => parts.length - (intOf i).toNat)
  case atStart => exact ⟨0, by omega, rfl, rfl, rfl⟩
  case round =>
    obtain ⟨k, hk, rfl, rfl, rfl⟩ := hrel
    by_cases hlt : k < parts.length
    · have p0 : (0 : Int) ≤ (k : Int) := by omega
      have p1 : (k : Int) < (parts.length : Int) := by omega
      have hw4 : IntKind.i64.wrap ((k : Int) + 1) = (k : Int) + 1 := IntWalk.i64_in _ (by omega)
      obtain ⟨ad, e0⟩ : ∃ ad, A = some ad := by obtain ⟨ad, _, e, _⟩ := Kd.C_get hrA.out [] (k : Int) p0 p1; exact ⟨ad, e⟩
      subst e0
      obtain ⟨A1, c1, hx, _, _⟩ := part_at hrA.out k hlt
      have hst := congrArg List.length (flat_take parts k hlt)
      rw [List.length_append] at hst
      have hle := hflA.out (k + 1)
      obtain ⟨m, hm⟩ : ∃ m, m = parts[k].length := ⟨_, rfl⟩
      obtain ⟨q, hq⟩ : ∃ q, q = (parts.take k).flatten.length := ⟨_, rfl⟩
      rw [← hm] at hx hst
      rw [← hq] at hst ⊢
      have hwq : IntKind.i64.wrap ((q : Int) + (m : Int)) = (q : Int) + (m : Int) := IntWalk.i64_in _ (by omega)
      have hnn : ¬ ((q : Int) + (m : Int) < 0) := by omega
      have hdec : decide ((q : Int) + (m : Int) < 0) = false := decide_eq_false hnn
      have hstA := Aside0.mk hst
      clear hst hle hm hq
      go_wp2_with fail
      go_roundw
      case rel => exact ⟨k + 1, by omega, by go_num, by rw [hstA.out]; rfl, trivial⟩
      case measure => simp [intOf]; omega
    · obtain rfl : k = parts.length := by omega
      rw [List.take_of_length_le (Nat.le_refl _)]
      have hG := grow_calls parts.flatten.length hl w
      obtain ⟨N, hN⟩ : ∃ N, N = parts.flatten.length := ⟨_, rfl⟩
      rw [← hN] at hG ⊢
      have hGA := Aside0.mk hG
      have hNA := Aside0.mk hN
      have hlA := Aside0.mk hl
      clear hG hN hl
      go_wp2_with (go_at_call 75; with_reducible refine hGA.out.mono ?_; rintro e w2 ⟨v2, rfl, hR2, hB2⟩; have hR2A := Aside0.mk hR2; have hB2A := Aside0.mk hB2; clear hR2 hB2)
      go_loopw [27, 6] (fun i o wr => ∃ k : Nat, k ≤ parts.length ∧ i = .int .i64 k ∧ Kd.R (Kd.int .u8) 5 wr w.heap.size (fun _ => True) o (parts.take k).flatten ∧ Below w.heap.size w wr) (fun i _ _ => parts.length - (intOf i).toNat)
      case atStart => exact ⟨0, by omega, rfl, hR2A.out, hB2A.out⟩
      case round =>
        obtain ⟨k, hk, rfl, hR, hB⟩ := hrel
        have hRA := Aside0.mk hR; have hBA := Aside0.mk hB
        clear hR hB hR2A hB2A
        by_cases hlt : k < parts.length
        · have p0 : (0 : Int) ≤ (k : Int) := by omega
          have p1 : (k : Int) < (parts.length : Int) := by omega
          have hw4 : IntKind.i64.wrap ((k : Int) + 1) = (k : Int) + 1 := IntWalk.i64_in _ (by omega)
          have hrB := Kd.C_below hrA.out hBA.out
          obtain ⟨ad, e0⟩ : ∃ ad, A = some ad := by obtain ⟨ad, _, e, _⟩ := Kd.C_get hrA.out [] (k : Int) p0 p1; exact ⟨ad, e⟩
          subst e0
          obtain ⟨A1, c1, hx, hc1, hC1⟩ := part_at hrB k hlt
          have hst := Aside0.mk (flat_take parts k hlt)
          have hle := hflA.out (k + 1)
          rw [flat_take parts k hlt, List.length_append] at hle
          have hleA := Aside0.mk hle
          have hCA := Aside0.mk hC1
          clear hle hrB hC1
          obtain ⟨y, hy⟩ : ∃ y, y = parts[k] := ⟨_, rfl⟩
          rw [← hy] at hx hc1 hCA hst hleA
          obtain ⟨x, hxx⟩ : ∃ x, x = (parts.take k).flatten := ⟨_, rfl⟩
          rw [← hxx] at hst hleA hRA
          clear hy hxx
          go_wp2_with (at_builtin; refine Kd.R_append_rows (Kd.int .u8) (Rr := (Kd.int .u8).K wr) (w0 := w) w.heap.size rfl (.tmp 31) (.tmp 32) 40 5 (.int .u8 0) 1 rfl Tryd.underlying40 info_u8 rfl (by decide) (by decide) _ x y A1 y.length c1 (fun _ => True) (fun _ => False) rfl rfl hRA.out hCA.out (fun _ _ h => h) (fun _ h => h.elim) (fun _ _ => trivial) hBA.out hBA.out.size (by have := hleA.out; have := hlA.out; have := hNA.out; omega) ?_; intro v1 w1 hR1 hB1 hg1 hat1; have hR1A := Aside0.mk hR1; have hB1A := Aside0.mk hB1; clear hR1 hB1 hg1 hat1)
          go_roundw
          case rel => exact ⟨k + 1, by omega, by go_num, by rw [hst.out]; exact hR1A.out, hB1A.out⟩
          case measure => simp [intOf]; omega
        · obtain rfl : k = parts.length := by omega
          rw [List.take_of_length_le (Nat.le_refl _)] at hRA
          go_wp2
          go_ret
          exact ⟨_, rfl, hRA.out, hBA.out⟩
end Go.Proofs.YtlgfekllkahfaaaDoor.ShaW
