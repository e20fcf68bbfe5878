/- What any text is hashed to, by any words, is the document's; the text stays as it was.
   Conditions: none. -/
import Derived.Test.YtecdfejhidnedaaQx1
import Derived.Test.YtecdfejhidnedaaC06
set_option linter.unusedVariables false
namespace Go.Proofs.Ytecdfejhidnedaa.Pure
open Go.RowKit Go.Proofs.Ytecdfejhidnedaa.Q Go.Proofs.YtecdfejhidnedaaW.PrintWords Go.Proofs.YtecdfejhidnedaaW.PrintLast Go.Proofs.YtecdfejhidnedaaW.PrintMore Go.Proofs.Ytecdfejhidnedaa.Bits Go.Proofs.Ytecdfejhidnedaa Sip
theorem SipHashes : gossamerlaw06_SipHashes.Pure := by
  intro a0 a1 l h0 h1 hm hl hw
  obtain ⟨x, rfl⟩ := q_of (wf_u64 h0).1 (wf_u64 h0).2
  obtain ⟨y, rfl⟩ := q_of (wf_u64 h1).1 (wf_u64 h1).2
  have hb := bytes_wf hw
  suffices h : Ev (fun k => gossamerlaw06_SipHashes.f k (q x) (q y) l) true by
    obtain ⟨K, hK⟩ := h
    exact ⟨K, hK K (Nat.le_refl _)⟩
  unfold gossamerlaw06_SipHashes.f
  refine Ev.bind' alive6 (Ev.pos rfl ?_)
  by_cases hlen : (l.length : Int) > 5000
  · exact Ev.pos hlen Ev.some'
  refine Ev.neg hlen (Ev.bind' rfl (Ev.pos (by simp; omega) (Ev.bind' rfl ?_)))
  rw [List.nil_append]
  refine Ev.bind' (hash_q x y l hb (by omega)) (Ev.bind (rhash_V hb (by omega) x y) (Ev.pos rfl (Ev.some'.to ?_)))
  simp
end Go.Proofs.Ytecdfejhidnedaa.Pure
