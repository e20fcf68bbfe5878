/- A text with noughts behind it is another one, or the document's hash is that of both.
   Conditions: none. -/
import Derived.Test.YtecdfejhidnedaaQx2
import Derived.Test.YtecdfejhidnedaaC06
set_option linter.unusedVariables false
namespace Go.Proofs.Ytecdfejhidnedaa.Walk
open Go.RowKit Go.Proofs.Ytecdfejhidnedaa.Q Go.Proofs.YtecdfejhidnedaaW.PrintWords Go.Proofs.YtecdfejhidnedaaW.PrintLast Go.Proofs.YtecdfejhidnedaaW.PrintMore Go.Proofs.Ytecdfejhidnedaa.Bits Go.Proofs.Ytecdfejhidnedaa Sip
theorem bytes_zeros {l : List Int} (hb : Bytes l) (n : Nat) : Bytes (l ++ List.replicate n 0) := by
  intro x hx
  rcases List.mem_append.1 hx with h | h
  · exact hb x h
  · rw [List.eq_of_mem_replicate h]; omega
theorem ends_V (x y : BitVec 64) (l : List Int) (hb : Bytes l) (m : Int) (hm : -9223372036854775808 ≤ m ∧ m < 9223372036854775808) : Ev (fun k => gossamerlaw06_ends.f k (q x) (q y) l m) true := by
  obtain ⟨n, hn, hn7⟩ : ∃ n : Nat, wrap64 (1 + (wrap64 (Int.tmod (IntKind.u64.wrap m) 7))) = (n : Int) ∧ n ≤ 7 := by
    have h0 : 0 ≤ IntKind.u64.wrap m := by rw [wrap_u64]; omega
    have h1 : Int.tmod (IntKind.u64.wrap m) 7 = IntKind.u64.wrap m % 7 := Int.tmod_eq_emod_of_nonneg h0
    rw [h1]
    obtain ⟨z, hz⟩ : ∃ z, z = IntKind.u64.wrap m % 7 := ⟨_, rfl⟩
    rw [← hz]
    have hz0 : 0 ≤ z ∧ z < 7 := by omega
    refine ⟨(1 + z).toNat, ?_, by omega⟩
    rw [wrap64_small (n := z) (by omega) (by omega), wrap64_small (by omega) (by omega)]; omega
  unfold gossamerlaw06_ends.f
  rw [hn]
  refine Ev.bind' alive6 (Ev.pos rfl ?_)
  by_cases hlen : (l.length : Int) > 200
  · exact Ev.pos hlen Ev.some'
  have hz := bytes_zeros hb n
  have hzl : (l ++ List.replicate n 0).length ≤ 100000 := by rw [List.length_append, List.length_replicate]; omega
  refine Ev.neg hlen (Ev.bind' (hash_q x y l hb (by omega)) (Ev.bind' rfl (Ev.pos (by simp; omega) ?_)))
  rw [List.nil_append]
  refine Ev.bind' (hash_q x y l hb (by omega)) (Ev.pos rfl (Ev.bind' rfl (Ev.pos (by simp; omega) (Ev.bind' rfl (Ev.pos (by omega) (Ev.pos (by simp; omega) ?_))))))
  rw [List.nil_append, Int.toNat_natCast]
  refine Ev.bind' (hash_q x y _ hz hzl) ?_
  by_cases he : q (hash x y l) = q (hash x y (l ++ List.replicate n 0))
  · refine Ev.pos he (Ev.bind (rhash_V hb (by omega) x y) (Ev.bind' rfl (Ev.pos (by simp; omega) (Ev.bind' rfl (Ev.pos (by simp; omega) ?_)))))
    rw [List.nil_append]
    refine Ev.bind (rhash_V hz hzl x y) (Ev.some'.to ?_)
    rw [he]; simp
  · exact Ev.neg he Ev.some'
set_option maxRecDepth 100000 in
theorem SipEnds (a0 a1 : Int) (a2 : Option Addr) (len2 cap2 : Nat) (z2 : List Int) (a3 : Int) (w : World) (w0 : (Lit.int .u64 a0).wf = true) (w1 : (Lit.int .u64 a1).wf = true)
    (w2 : (a2 = none ∧ len2 = 0 ∧ cap2 = 0 ∧ z2 = []) ∨ ∃ x, a2 = some x ∧ len2 ≤ cap2 ∧ cap2 ≤ maxLen ∧ z2.length = cap2 ∧ (∀ i, i < z2.length → w.cell? (x.add i) = some (.int .u8 (z2.getD i 0))) ∧ ∀ n ∈ z2, (Lit.int .u8 n).wf = true) (w3 : (Lit.int .i64 a3).wf = true) :
    Calls Try.prog 4 #[.agg #[.int .u64 a0, .int .u64 a1, .slice a2 len2 cap2, .int .i64 a3]] w fun e w' => e = .returned (.bool true) ∧ Below w.heap.size w w' := by
  obtain ⟨x, rfl⟩ := q_of (wf_u64 w0).1 (wf_u64 w0).2
  obtain ⟨y, rfl⟩ := q_of (wf_u64 w1).1 (wf_u64 w1).2
  obtain ⟨l, rfl, hr, hm, hw, hc⟩ := ReadsInt.ofRowC w2
  obtain ⟨K, hK⟩ := ends_V x y l (bytes_wf hw) a3 (wf_i64 w3)
  have hC := Kd.C_of_reads (d := (0 : Int)) (h1 := fun _ => rfl) hr
  have hu := Try.underlying32
  go_enter Try.func4, Try.ntmps4
  go_wp2_with fail
  refine (gossamerlaw06_ends.calls K _ _ _ _ l _ true _ (Kd.C_alloc hC _) hc (hK K (Nat.le_refl _))).mono ?_
  rintro e w' ⟨rfl, hb⟩
  go_wp2
  go_ret
  exact ⟨rfl, below_step (below_alloc (Below.refl _ _) _) hb⟩
end Go.Proofs.Ytecdfejhidnedaa.Walk
