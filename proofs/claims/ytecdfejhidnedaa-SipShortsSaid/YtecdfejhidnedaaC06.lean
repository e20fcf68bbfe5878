/- What the printed hashes come to. -/
import Derived.Test.YtecdfejhidnedaaQx1
import Derived.Test.YtecdfejhidnedaaSipM
import Derived.Test.YtecdfejhidnedaaEv
set_option linter.unusedVariables false
set_option linter.unusedSimpArgs false
namespace Go.Proofs.Ytecdfejhidnedaa.Q
open Go.RowKit Go.Proofs.YtecdfejhidnedaaW.PrintWords Go.Proofs.YtecdfejhidnedaaW.PrintLast Go.Proofs.YtecdfejhidnedaaW.PrintMore Go.Proofs.Ytecdfejhidnedaa.Bits Go.Proofs.Ytecdfejhidnedaa Sip
theorem inq (x : BitVec 64) : gossamerref06_rounds.In (q x) := q_lt x
theorem rounds_q (s : St) (n : Nat) (hn : n ≤ 1000) : gossamerref06_rounds.f (q s.v0) (q s.v1) (q s.v2) (q s.v3) (n : Int) = some (q (s.rounds n).v0, q (s.rounds n).v1, q (s.rounds n).v2, q (s.rounds n).v3) := by
  unfold gossamerref06_rounds.f
  rw [if_pos ⟨inq _, inq _, inq _, inq _, by omega, by omega⟩]
  have e : gossamerref06_rounds.st (q s.v0) (q s.v1) (q s.v2) (q s.v3) = s := by
    unfold gossamerref06_rounds.st; rw [ofInt_q, ofInt_q, ofInt_q, ofInt_q]
  rw [e, Int.toNat_natCast]
theorem hash_q (k0 k1 : BitVec 64) (l : List Int) (hb : Bytes l) (hl : l.length ≤ 100000) : sip_Hash.f (q k0) (q k1) l = some (q (hash k0 k1 l)) := by
  unfold sip_Hash.f
  rw [if_pos ⟨q_lt k0, q_lt k1, hb, by omega⟩, ofInt_q, ofInt_q]
theorem alive6 : gossamerlaw06_alive.f = some true := by decide +kernel
theorem part_rd {l : List Int} (a i : Nat) (h : a + i < l.length) (hi : i < 8) : le (((l.drop a).take 8).drop i) = rd l ((a + i : Nat) : Int) + 256 * le (((l.drop a).take 8).drop (i + 1)) := by
  have hlen : i < ((l.drop a).take 8).length := by rw [List.length_take, List.length_drop]; omega
  rw [List.drop_eq_getElem_cons hlen]
  have : ((l.drop a).take 8)[i] = rd l ((a + i : Nat) : Int) := by
    rw [List.getElem_take, List.getElem_drop]; unfold rd; rw [Int.toNat_natCast, List.getD_eq_getElem?_getD, List.getElem?_eq_getElem h]; rfl
  rw [this]; rfl
theorem part_no {l : List Int} (a i : Nat) (h : l.length ≤ a + i) : ((l.drop a).take 8).drop i = [] := by
  apply List.drop_eq_nil_of_le
  rw [List.length_take, List.length_drop]; omega
theorem rhash_l1 {l : List Int} (hb : Bytes l) (hl : l.length ≤ 100000) (a : Nat) (ha : a ≤ l.length) (x0 x1 x2 x3 : Int) {R : Int} (h : Ev (fun k => gossamerref06_Hash.l1 k l (a : Int) (le ((l.drop a).take 8)) (-1) x0 x1 x2 x3) R) :
    ∀ n : Nat, n ≤ 8 → Ev (fun k => gossamerref06_Hash.l1 k l (a : Int) (le (((l.drop a).take 8).drop n)) ((n : Int) - 1) x0 x1 x2 x3) R := by
  intro n
  induction n with
  | zero => intro _; exact h
  | succ n ih =>
    intro hn
    have hi := ih (by omega)
    refine Ev.succ ?_
    have e1 : (((n + 1 : Nat) : Int) - 1) = (n : Int) := by omega
    have hw : wrap64 ((a : Int) + (n : Int)) = ((a + n : Nat) : Int) := by rw [wrap64_small] <;> omega
    have hw2 : wrap64 ((n : Int) - 1) = (n : Int) - 1 := wrap64_small (by omega) (by omega)
    have hbd := le7 (((hb.drop a).take 8).drop (n + 1)) (by rw [List.length_drop, List.length_take]; omega)
    simp only [gossamerref06_Hash.l1]
    rw [e1, hw, hw2]
    refine Ev.pos (by omega) ?_
    by_cases hlt : a + n < l.length
    · refine Ev.pos (by omega) (Ev.pos (by omega) ?_)
      have hx := bytes_at hb (a + n) hlt
      have e : IntKind.u64.wrap (IntKind.u64.wrap (le (((l.drop a).take 8).drop (n + 1)) * 256) + IntKind.u64.wrap (rd l ((a + n : Nat) : Int))) = le (((l.drop a).take 8).drop n) := by
        rw [part_rd a n hlt (by omega), wrap_u64, wrap_u64, wrap_u64]; omega
      rw [e]; exact hi
    · refine Ev.neg (by omega) ?_
      have e : IntKind.u64.wrap (le (((l.drop a).take 8).drop (n + 1)) * 256) = le (((l.drop a).take 8).drop n) := by
        rw [part_no a n (by omega), part_no a (n + 1) (by omega)]; rfl
      rw [e]; exact hi
theorem rhash_l0 {l : List Int} (hb : Bytes l) (hl : l.length ≤ 100000) (s0 : St) : ∀ (n j : Nat), j + n = l.length / 8 + 1 → n ≠ 0 →
    Ev (fun k => gossamerref06_Hash.l0 k l ((8 * j : Nat) : Int) (q (steps l s0 j).v0) (q (steps l s0 j).v1) (q (steps l s0 j).v2) (q (steps l s0 j).v3)) (q (fin l s0)) := by
  intro n
  induction n with
  | zero => intro j _ h; exact absurd rfl h
  | succ n ih =>
    intro j hj _
    have hat : 8 * j ≤ l.length := by omega
    obtain ⟨s, hs⟩ : ∃ s, s = steps l s0 j := ⟨_, rfl⟩
    refine Ev.succ ?_
    simp only [gossamerref06_Hash.l0]
    rw [← hs]
    refine Ev.pos (by omega) ?_
    have h8 := rhash_l1 hb hl (8 * j) hat (q s.v0) (q s.v1) (q s.v2) (q s.v3) (R := q (fin l s0)) ?_ 8 (Nat.le_refl _)
    · have e : le (((l.drop (8 * j)).take 8).drop 8) = 0 := by
        rw [List.drop_eq_nil_of_le (by rw [List.length_take]; omega)]; rfl
      rw [e] at h8
      exact h8
    · refine Ev.succ ?_
      have hw : wrap64 (((8 * j : Nat) : Int) + 8) = ((8 * (j + 1) : Nat) : Int) := by rw [wrap64_small] <;> omega
      simp only [gossamerref06_Hash.l1]
      rw [hw]
      refine Ev.neg (by omega) ?_
      by_cases hlast : 8 * (j + 1) > l.length
      · refine Ev.pos (by omega) ?_
        have hjn : j = l.length / 8 := by omega
        have em : IntKind.u64.wrap (le ((l.drop (8 * j)).take 8) + (l.length : Int) % 256 * 72057594037927936) = q (lastw l) := by
          rw [List.take_of_length_le (by rw [List.length_drop]; omega), lastw_q hb, hjn, wrap_u64]
          have := le7 (hb.drop (8 * (l.length / 8))) (by rw [List.length_drop]; omega)
          omega
        rw [em, xor_q]
        refine Ev.bind' (rounds_q (s.x3 (lastw l)) 2 (by omega)) ?_
        simp only []
        rw [xor_q]
        refine Ev.succ ?_
        simp only [gossamerref06_Hash.l0]
        have e255 : (255 : Int) = q 255#64 := by decide
        rw [e255, xor_q]
        refine Ev.neg (by omega) (Ev.bind' (rounds_q ((s.take (lastw l)).x2) 4 (by omega)) (Ev.some'.to ?_))
        simp only []
        rw [xor_q, xor_q, xor_q]
        have : fin l s0 = (((s.take (lastw l)).x2).rounds 4).out := by unfold fin; rw [← hjn, hs]
        rw [this]; rfl
      · refine Ev.neg (by omega) ?_
        rw [← lw_q hb j, xor_q]
        refine Ev.bind' (rounds_q (s.x3 (lw l j)) 2 (by omega)) ?_
        simp only []
        rw [xor_q]
        have hi := ih (j + 1) (by omega) (by omega)
        have e : steps l s0 (j + 1) = s.take (lw l j) := by rw [hs]; rfl
        rw [e] at hi
        exact hi
theorem rhash_V {l : List Int} (hb : Bytes l) (hl : l.length ≤ 100000) (k0 k1 : BitVec 64) : Ev (fun k => gossamerref06_Hash.f k (q k0) (q k1) l) (q (hash k0 k1 l)) := by
  unfold gossamerref06_Hash.f
  have e0 : (8317987319222330741 : Int) = q 0x736f6d6570736575#64 := by decide
  have e1 : (7237128888997146477 : Int) = q 0x646f72616e646f6d#64 := by decide
  have e2 : (7816392313619706465 : Int) = q 0x6c7967656e657261#64 := by decide
  have e3 : (8387220255154660723 : Int) = q 0x7465646279746573#64 := by decide
  rw [e0, e1, e2, e3, xor_q, xor_q, xor_q, xor_q]
  exact rhash_l0 hb hl (init k0 k1) (l.length / 8 + 1) 0 (by omega) (by omega)
theorem bytes_wf {l : List Int} (h : ∀ x ∈ l, (Lit.int .u8 x).wf = true) : Bytes l := fun x hx => wf_u8 (h x hx)
end Go.Proofs.Ytecdfejhidnedaa.Q
