/- Which transactions are large; errors as numbers. -/
import Derived.Test.YtlgfekllkahfaaaTyI
set_option linter.unusedVariables false
set_option linter.unusedSimpArgs false
namespace Go.Proofs.Ytlgfekllkahfaaa.Pack
open Go.RowKit Go.Proofs.YtlgfekllkahfaaaW.PrintWords Go.Proofs.YtlgfekllkahfaaaW.PrintMore Go.Proofs.Ytlgfekllkahfaaa Go.Proofs.Ytlgfekllkahfaaa.Bits Sha ArrK ShaW
/-- a spend of any key -/
def SpO (s : Sp) : Prop := s.tx.length = 32 ∧ Bytes s.tx ∧ 0 ≤ s.sel ∧ s.sel < 18446744073709551616 ∧ s.key.size ≤ 9223372036854775807
abbrev SpR0 (W : World) (A : Option Addr) (n : Nat) (l : List Sp) : Prop := ReadsRow (fun s cs => SpO s ∧ cs = spc s) 35 W A n l
def keys (l : List Sp) : Nat := (l.map fun s => min s.key.size 10000).sum
theorem keys_take (l : List Sp) (k : Nat) (s : Sp) (h : l[k]? = some s) : keys (l.take (k + 1)) = keys (l.take k) + min s.key.size 10000 := by
  have hk := (List.getElem?_eq_some_iff.1 h)
  unfold keys
  rw [List.take_succ_eq_append_getElem hk.1, List.map_append, List.sum_append, hk.2]; simp
theorem keys_le : ∀ l : List Sp, keys l ≤ l.length * 10000
  | [] => by simp [keys]
  | s :: r => by have := keys_le r; unfold keys at this ⊢; simp only [List.map_cons, List.sum_cons, List.length_cons]; omega
theorem keys_mem : ∀ (l : List Sp) (s : Sp), s ∈ l → min s.key.size 10000 ≤ keys l
  | x :: r, s, h => by
    unfold keys
    simp only [List.map_cons, List.sum_cons]
    rcases List.mem_cons.1 h with rfl | h
    · omega
    · have := keys_mem r s h; unfold keys at this; omega
def large (t : Tr) : Bool := decide (30 < t.sp.length) || decide (30 < t.co.length) || decide (5000 < keys t.sp)
theorem SpR0.small {W : World} {A : Option Addr} {n : Nat} {l : List Sp} (h : SpR0 W A n l) (hk : ∀ s ∈ l, s.key.size ≤ 5000) : SpR W A n l :=
  ⟨h.1, h.2.1, fun hn => by
    obtain ⟨ad, e, hc⟩ := h.2.2 hn
    refine ⟨ad, e, fun j p hj => ?_⟩
    obtain ⟨c, h1, ⟨h2, h4⟩, h3⟩ := hc j p hj
    exact ⟨c, h1, ⟨⟨h2.1, h2.2.1, h2.2.2.1, h2.2.2.2.1, hk p (List.mem_of_getElem? hj)⟩, h4⟩, h3⟩⟩
theorem large_no {t : Tr} (h : large t = false) : t.sp.length ≤ 30 ∧ t.co.length ≤ 30 ∧ ∀ s ∈ t.sp, s.key.size ≤ 5000 := by
  simp only [large, Bool.or_eq_false_iff, decide_eq_false_iff_not] at h
  refine ⟨by omega, by omega, fun s hs => ?_⟩
  have := keys_mem t.sp s hs
  omega
section
variable {t : Tr} {A1 A2 : Option Addr} {c1 c2 : Nat}
set_option maxRecDepth 100000 in
set_option maxHeartbeats 400000 in
theorem large_calls (w : World) (b : Nat) (hb : Blk w b 25 (trc t A1 A2 c1 c2)) (hS : SpR0 w A1 t.sp.length t.sp) : Calls Try.prog 7 #[.slice (some ⟨b, 0, none⟩) 1 1] w fun e w' => e = .returned (.bool (large t)) ∧ Below w.heap.size w w' := by
  obtain ⟨sp, co, firm⟩ := t
  simp only at hb hS ⊢
  have hbA := Aside0.mk hb; have hSA := Aside0.mk hS
  clear hb hS
  go_enter Try.func7, Try.ntmps7
  go_wp2_with fail
  go_loopw [10, 3] (fun i n wr => ((i = .int .i64 0 ∧ n = .int .i64 0) ∨ (i = .int .i64 1 ∧ n = .int .i64 (keys sp : Nat) ∧ sp.length ≤ 30 ∧ co.length ≤ 30)) ∧ Below w.heap.size w wr) (fun i _ _ => 1 - (intOf i).toNat)
  case atStart => exact ⟨.inl ⟨rfl, rfl⟩, Below.refl _ _⟩
  case round =>
    obtain ⟨h | h, hB⟩ := hrel
    · obtain ⟨rfl, rfl⟩ := h
      have hX := hbA.out.below hB
      have hat : ∀ j u, (trc ⟨sp, co, firm⟩ A1 A2 c1 c2)[j]? = some u → wr.cell? ((⟨b, 0, none⟩ : Addr).add j) = some u := hX.add
      have hatA := Aside0.mk hat; have hBA := Aside0.mk hB
      have hiA := Aside0.mk (info_tx ⟨sp, co, firm⟩ A1 A2 c1 c2)
      obtain ⟨S, hSz⟩ : ∃ S, S = wr.heap.size := ⟨_, rfl⟩
      have hSzA := Aside0.mk hSz
      clear hX hat hB hSz
      by_cases q1 : 30 < sp.length
      · have p1 : (30 : Int) < (sp.length : Int) := by omega
        go_wp2_with (first | ((with_reducible refine gate_dst (N := 14) rfl ?_); (refine wpList_load_any rfl 25 (.tmp 13) rfl ⟨b, 0, none⟩ rfl (trc ⟨sp, co, firm⟩ A1 A2 c1 c2) _ hatA.out Try.underlying25 rfl hiA.out ?_)))
        go_ret
        exact ⟨by simp [large, q1], below_alloc hBA.out _⟩
      · have p1 : ¬ (30 : Int) < (sp.length : Int) := by omega
        by_cases q2 : 30 < co.length
        · have p2 : (30 : Int) < (co.length : Int) := by omega
          go_wp2_with (first | ((with_reducible refine gate_dst (N := 14) rfl ?_); (refine wpList_load_any rfl 25 (.tmp 13) rfl ⟨b, 0, none⟩ rfl (trc ⟨sp, co, firm⟩ A1 A2 c1 c2) _ hatA.out Try.underlying25 rfl hiA.out ?_)))
          go_ret
          exact ⟨by simp [large, q1, q2], below_alloc hBA.out _⟩
        · have p2 : ¬ (30 : Int) < (co.length : Int) := by omega
          go_wp2_with (first | ((with_reducible refine gate_dst (N := 14) rfl ?_); (refine wpList_load_any rfl 25 (.tmp 13) rfl ⟨b, 0, none⟩ rfl (trc ⟨sp, co, firm⟩ A1 A2 c1 c2) _ hatA.out Try.underlying25 rfl hiA.out ?_)))
          go_loopw [32, 3] (fun i n wr => ∃ j : Nat, j ≤ sp.length ∧ i = .int .i64 (j : Int) ∧ n = .int .i64 (keys (sp.take j) : Nat) ∧ Below w.heap.size w wr) (fun i _ _ => sp.length - (intOf i).toNat)
          case atStart => exact ⟨0, by omega, rfl, by simp [keys], below_alloc hBA.out _⟩
          case round =>
            obtain ⟨j, hj, rfl, rfl, hB⟩ := hrel
            clear hatA hBA hSzA
            have hBA := Aside0.mk hB
            clear hB
            have hkb : keys (sp.take j) ≤ 300000 := by have := keys_le (sp.take j); have h3 : (sp.take j).length ≤ 30 := by rw [List.length_take]; omega
                                                       have := Nat.mul_le_mul_right 10000 h3; omega
            by_cases hlt : j < sp.length
            · obtain ⟨s, hs⟩ : ∃ s, sp[j]? = some s := ⟨_, List.getElem?_eq_getElem hlt⟩
              obtain ⟨ad, cs, rfl, ⟨hok, rfl⟩, -, hcell⟩ := row_at (hSA.out.imp_ hBA.out (fun _ _ h => h)) j s hs
              have hkt := keys_take sp j s hs
              have p3 : (j : Int) < (sp.length : Int) := by omega
              have p0 : (0 : Int) ≤ (j : Int) := by omega
              have e2 : IntKind.i64.wrap ((j : Int) + 1) = (j : Int) + 1 := IntWalk.i64_in _ (by omega)
              have t2 := spc_key s hok.1
              have hi := info_spend s hok.1
              have hll := spc_length s hok.1
              have hone := spc_one s
              have hks := hok.2.2.2.2
              obtain ⟨S, hSz⟩ : ∃ S, S = wr.heap.size := ⟨_, rfl⟩
              generalize keys (sp.take j) = n at *
              have hktA := Aside0.mk hkt; have t2A := Aside0.mk t2; have hiA2 := Aside0.mk hi; have hllA := Aside0.mk hll; have honeA := Aside0.mk hone; have hceA := Aside0.mk hcell; have hSzA := Aside0.mk hSz
              clear hkt t2 hi hll hone hcell hSz hs hok
              have e3 : min (s.key.size : Int) 10000 = ((min s.key.size 10000 : Nat) : Int) := by omega
              have e4 : IntKind.i64.wrap ((n : Int) + ((min s.key.size 10000 : Nat) : Int)) = ((n + min s.key.size 10000 : Nat) : Int) := by rw [IntWalk.i64_in _ (by omega)]; omega
              go_wp2_with (first | ((with_reducible refine gate_dst (N := 35) rfl ?_); (refine wpList_load_any rfl 36 (.tmp 34) rfl (ad.add (j * 35)) rfl (spc s) _ hceA.out Try.underlying36 rfl hiA2.out ?_)) | ((with_reducible refine gate_dst (N := 7) rfl ?_); (refine wpList_new_put rfl (N := 7) rfl rfl 36 (.tmp 35) rfl (spc s) (spc zsp) (by rw [hllA.out]; rfl) ?hr rfl rfl hiA2.out honeA.out ?_; (case hr => first | (go_simp; done) | (go_simp; rfl)); intro w2 hX2 hb2 hs2; rw [← hSzA.out] at hX2 ⊢; have g33 := hX2.get 33 _ t2A.out; have hB2A := Aside0.mk (below_then hBA.out hBA.out.size hb2); clear hX2 hb2 hs2)))
              go_roundw
              · exact ⟨j + 1, by omega, by go_num, by rw [hktA.out]; congr 1; split <;> omega, hB2A.out⟩
              · simp [intOf]; omega
            · obtain rfl : j = sp.length := by omega
              have p3 : ¬ (sp.length : Int) < (sp.length : Int) := by omega
              rw [List.take_of_length_le (Nat.le_refl _)] at *
              go_wp2_with fail
              go_roundw
              · exact ⟨.inr ⟨rfl, rfl, by omega, by omega⟩, hBA.out⟩
              · simp [intOf]
    · obtain ⟨rfl, rfl, l1, l2⟩ := h
      have hkb : keys sp ≤ 300000 := by have := keys_le sp; have := Nat.mul_le_mul_right 10000 l1; omega
      have hBA := Aside0.mk hB
      clear hB
      by_cases q : 5000 < keys sp
      · have p : (5000 : Int) < ((keys sp : Nat) : Int) := by omega
        go_wp2_with fail
        go_ret
        exact ⟨by simp [large, q], hBA.out⟩
      · have p : ¬ (5000 : Int) < ((keys sp : Nat) : Int) := by omega
        have q1 : ¬ 30 < sp.length := by omega
        have q2 : ¬ 30 < co.length := by omega
        go_wp2_with fail
        go_ret
        exact ⟨by simp [large, q, q1, q2], hBA.out⟩
end
theorem errno_is (v : Value) (xT : TypeId) (w : World) : (Instr.typeAssert (.iface 55 v) xT 55 true).run Try.prog w = .ok (.tuple #[v, .bool true]) w := by
  simp [Instr.typeAssert, Sem.run_bind, run_underlying Try.underlying55 w]
set_option maxRecDepth 100000 in
set_option maxHeartbeats 400000 in
theorem num_nil (w : World) : Calls Try.prog 13 #[.nilIface] w fun e w' => e = .returned (.int .i64 0) ∧ w = w' := by
  have ha := fun v w => errno_is v 41 w
  go_enter Try.func13, Try.ntmps13
  go_wp2
  go_ret
  exact ⟨rfl, rfl⟩
set_option maxRecDepth 100000 in
set_option maxHeartbeats 400000 in
theorem num_1 (w : World) : Calls Try.prog 13 #[.iface 55 (.int .i64 1)] w fun e w' => e = .returned (.int .i64 1) ∧ w = w' := by
  have ha := fun v w => errno_is v 41 w
  go_enter Try.func13, Try.ntmps13
  go_wp2
  go_ret
  exact ⟨rfl, rfl⟩
set_option maxRecDepth 100000 in
set_option maxHeartbeats 400000 in
theorem num_10 (w : World) : Calls Try.prog 13 #[.iface 55 (.int .i64 10)] w fun e w' => e = .returned (.int .i64 10) ∧ w = w' := by
  have ha := fun v w => errno_is v 41 w
  go_enter Try.func13, Try.ntmps13
  go_wp2
  go_ret
  exact ⟨rfl, rfl⟩
end Go.Proofs.Ytlgfekllkahfaaa.Pack
