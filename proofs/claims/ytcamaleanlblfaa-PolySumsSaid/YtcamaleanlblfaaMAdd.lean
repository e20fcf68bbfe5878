/- What the printed sums and values of polynomials come to. -/
import Derived.Test.YtcamaleanlblfaaQx2
import Derived.Test.YtcamaleanlblfaaCPoly
import Derived.Test.YtcamaleanlblfaaETabV
import Derived.Test.YtcamaleanlblfaaEAt
import Derived.Test.YtcamaleanlblfaaPolyE
import Derived.Test.YtcamaleanlblfaaQx1
import Derived.Test.YtcamaleanlblfaaQx3
set_option linter.unusedVariables false
set_option linter.unusedSimpArgs false
namespace Go.Proofs.Ytcamaleanlblfaa.Q
open Go.RowKit Go.Proofs.YtcamaleanlblfaaW.PrintWords Go.Proofs.YtcamaleanlblfaaW.PrintLast Go.Proofs.YtcamaleanlblfaaW.PrintMore Go.Proofs.Ytcamaleanlblfaa.Bits Go.Proofs.Ytcamaleanlblfaa GF PolyT
theorem at_fold (l : List F) (x : F) : ∀ k, k ≤ l.length → EAt.fold EMul.mulI (v x) (EAt.upto (EAt.pair (V l)) k) = v (ev (l.drop (l.length - k)) x) := by
  intro k
  induction k with
  | zero => intro _; rw [Nat.sub_zero, List.drop_length]; rfl
  | succ k ih =>
    intro hk
    have h := ih (by omega)
    have e : EAt.fold EMul.mulI (v x) (EAt.upto (EAt.pair (V l)) (k + 1)) = Go.bits .xor .u32 (EMul.mulI (EAt.fold EMul.mulI (v x) (EAt.upto (EAt.pair (V l)) k)) (v x)) (EAt.pair (V l) k).2 := by
      unfold EAt.fold EAt.upto
      rw [List.range_succ, List.map_append, List.foldl_append]; rfl
    rw [e, h, EMul.mulI_v]
    have e2 : (EAt.pair (V l) k).2 = v (co l (l.length - (k + 1))) := by
      show rd (V l) (((V l).length : Int) - 1 - (k : Int)) = _
      have : ((V l).length : Int) - 1 - (k : Int) = ((l.length - (k + 1) : Nat) : Int) := by rw [V_length]; omega
      rw [this, rd_Vn]
    have e3 : l.drop (l.length - (k + 1)) = co l (l.length - (k + 1)) :: l.drop (l.length - k) := by
      rw [List.drop_eq_getElem_cons (by omega), co_lt (by omega)]
      congr 2; omega
    rw [e2, xor_v, e3]; rfl
theorem at_V (l : List F) (x : F) (hs : Small l) : poly_At.f (V l) (v x) = some (v (ev l x)) := by
  unfold poly_At.f
  rw [V_length, if_pos (by omega), at_fold l x l.length (Nat.le_refl _), Nat.sub_self, List.drop_zero]
end Go.Proofs.Ytcamaleanlblfaa.Q
/- What the printed sums and values of polynomials come to. -/
set_option linter.unusedVariables false
set_option linter.unusedSimpArgs false
namespace Go.Proofs.Ytcamaleanlblfaa.Q
open Go.RowKit Go.Proofs.YtcamaleanlblfaaW.PrintWords Go.Proofs.YtcamaleanlblfaaW.PrintLast Go.Proofs.YtcamaleanlblfaaW.PrintMore Go.Proofs.Ytcamaleanlblfaa.Bits Go.Proofs.Ytcamaleanlblfaa GF PolyT
theorem add_l1 (a t0 : List F) (L : List (List Int)) (cnt j : Int) (ha : Small a) {R : List Int}
    (hK : ∀ t', t'.length = t0.length → co t' = sadd (co t0) (co a) → Ev (fun k => poly_Add.l0 k (V t') L cnt (wrap64 (j + 1))) R) :
    ∀ (n i : Nat) (t : List F), i + n = a.length → t.length = t0.length → a.length ≤ t.length → (∀ p, co t p = co t0 p ^^^ (if p < i then co a p else 0#32)) →
    Ev (fun k => poly_Add.l1 k (V t) L cnt j (V a) (a.length : Int) (i : Int)) R := by
  intro n
  induction n with
  | zero =>
    intro i t hi ht hl hc
    refine Ev.succ ?_
    simp only [poly_Add.l1]
    refine Ev.neg (by omega) (hK t ht (funext fun p => ?_))
    rw [hc p]; simp only [sadd]
    by_cases h : p < i
    · rw [if_pos h]
    · rw [if_neg h, co_ge (l := a) (by omega)]
  | succ n ih =>
    intro i t hi ht hl hc
    have hw2 : wrap64 ((i : Int) + 1) = ((i + 1 : Nat) : Int) := wrap_nat1 (by unfold Small at ha; omega)
    refine Ev.succ ?_
    simp only [poly_Add.l1, V_length]
    rw [hw2, rd_Vn, rd_Vn, xor_v, Int.toNat_natCast, V_set]
    refine Ev.pos (by omega) (Ev.pos (by omega) (Ev.pos (by omega) (Ev.pos (by omega) (ih (i + 1) _ (by omega) (by rw [List.length_set]; exact ht) (by rw [List.length_set]; exact hl) (fun p => ?_)))))
    rw [co_set]
    by_cases e : p = i
    · subst e
      rw [if_pos ⟨rfl, by omega⟩, if_pos (by omega), hc p, if_neg (by omega), BitVec.xor_zero]
    · rw [if_neg (fun h => e h.1), hc p]
      by_cases h : p < i
      · rw [if_pos h, if_pos (by omega)]
      · rw [if_neg h, if_neg (by omega)]
theorem add_step (a t : List F) (L : List (List Int)) (cnt : Int) (j : Nat) (ha : Small a) (ht : Small t) (hj : rd_L1 L (j : Int) = V a) (hlt : (j : Int) < cnt) (hL : (j : Int) < (L.length : Int)) (hj2 : j < 4096) {R : List Int}
    (hK : ∀ t', t'.length = max t.length a.length → co t' = sadd (co t) (co a) → Ev (fun k => poly_Add.l0 k (V t') L cnt ((j + 1 : Nat) : Int)) R) :
    Ev (fun k => poly_Add.l0 k (V t) L cnt (j : Int)) R := by
  unfold Small at ha ht
  refine Ev.succ ?_
  simp only [poly_Add.l0]
  have hmx : mx 0 (wrap64 ((a.length : Int) - (t.length : Int))) = ((a.length - t.length : Nat) : Int) := by
    rw [wrap64_small (by omega) (by omega)]; unfold mx; split <;> omega
  rw [hj, V_length, V_length, hmx, Int.toNat_natCast, V_replicate]
  have e : V t ++ V (List.replicate (a.length - t.length) 0#32) = V (t ++ List.replicate (a.length - t.length) 0#32) := by simp [V]
  have hco : co (t ++ List.replicate (a.length - t.length) 0#32) = co t := by
    funext i
    rw [co_append, co_replicate]
    by_cases h : i < t.length
    · rw [if_pos h]
    · rw [if_neg h, co_ge (by omega)]
  have hlen : (t ++ List.replicate (a.length - t.length) 0#32).length = max t.length a.length := by simp; omega
  rw [e]
  have hw : wrap64 ((j : Int) + 1) = ((j + 1 : Nat) : Int) := wrap_nat1 (by omega)
  refine Ev.pos hlt (Ev.pos (by omega) (Ev.pos hL (Ev.pos (by omega) (Ev.pos (by omega) ?_))))
  refine add_l1 a _ L cnt (j : Int) (by unfold Small; omega) (fun t' h1 h2 => ?_) a.length 0 _ (by omega) rfl (by omega) (fun p => by rw [if_neg (by omega), BitVec.xor_zero])
  rw [hw]
  exact hK t' (by omega) (by rw [h2, hco])
theorem add_V (a b : List F) (ha : Small a) (hb : Small b) : ∃ s, Ev (fun k => poly_Add.f k [V a, V b]) (V s) ∧ Tr s ∧ co s = sadd (co a) (co b) ∧ s.length ≤ max a.length b.length := by
  obtain ⟨l, hl, hn⟩ := of_fn (sadd (co a) (co b)) (max a.length b.length) (fun i hi => by simp only [sadd]; rw [co_ge (by omega), co_ge (by omega)]; rfl)
  refine ⟨trim l, ?_, tr_trim l, by rw [← hl]; exact funext (co_trim l), by rw [trim_length]; have := len_le l; omega⟩
  unfold Small at ha hb
  unfold poly_Add.f
  refine add_step a [] [V a, V b] _ 0 ha (by unfold Small; simp) rfl (by simp) (by simp) (by omega) (fun t h1 h2 => ?_)
  refine add_step b t [V a, V b] _ 1 hb (by unfold Small; simp at h1; omega) rfl (by simp) (by simp) (by omega) (fun u h3 h4 => ?_)
  refine Ev.succ ?_
  simp only [poly_Add.l0]
  have hu : u = l := list_ext (by simp at h1; omega) (fun i => by
    rw [h4, h2, hl]; simp only [sadd]; rw [co_nil, BitVec.zero_xor])
  rw [hu]
  exact Ev.neg (by simp) (Ev.bind (cut_V l (by unfold Small; omega)) Ev.some')
end Go.Proofs.Ytcamaleanlblfaa.Q
