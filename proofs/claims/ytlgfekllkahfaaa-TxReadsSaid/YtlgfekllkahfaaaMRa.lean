/- Is there a coin of which a function value says yes? -/
import Derived.Test.YtlgfekllkahfaaaTyF
import Derived.Shelf.Abstract
import Derived.Test.YtlgfekllkahfaaaTyJ
import Derived.Test.YtlgfekllkahfaaaMV
import Derived.Laws.BytesArg
import Derived.Test.YtlgfekllkahfaaaTyK
import Derived.Laws.Tables
import Derived.Test.YtlgfekllkahfaaaTyT
import Derived.Test.YtlgfekllkahfaaaTxY
set_option linter.unusedVariables false
set_option linter.unusedSimpArgs false
namespace Go.Proofs.Ytlgfekllkahfaaa.Pack
open Go.RowKit Go.Proofs.YtlgfekllkahfaaaW.PrintWords Go.Proofs.YtlgfekllkahfaaaW.PrintMore Go.Proofs.Ytlgfekllkahfaaa Go.Proofs.Ytlgfekllkahfaaa.Bits Sha ArrK ShaW
theorem any_takeC (p : Co → Bool) (l : List Co) (k : Nat) (s : Co) (h : l[k]? = some s) : (l.take (k + 1)).any p = ((l.take k).any p || p s) := by
  have hk := (List.getElem?_eq_some_iff.1 h)
  rw [List.take_succ_eq_append_getElem hk.1, List.any_append, hk.2]; simp
set_option maxRecDepth 100000 in
set_option maxHeartbeats 800000 in
theorem indexC_calls (w : World) (A : Option Addr) (c : Nat) (ss : List Co) (g : Nat) (lb : Array Value) (eg : ∀ args w, (callFunc g args).run Try.prog w = .ok (.enter g args) w) (p : Co → Bool) (hS : CoR w A ss.length ss) (hn : ss.length ≤ 1000)
    (hp : ∀ W s, s ∈ ss → Below w.heap.size w W → Calls Try.prog g (#[cov s] ++ lb) W fun e w' => e = .returned (.bool (p s)) ∧ Below w.heap.size w w') :
    Calls Try.prog 58 #[.slice A ss.length c, .func (.func g) #[] lb] w fun e w' => (∃ z : Int, e = .returned (.int .i64 z) ∧ decide (0 ≤ z) = ss.any p) ∧ Below w.heap.size w w' := by
  have hSA := Aside0.mk hS; have hpA := Aside0.mk hp
  clear hS hp
  go_enter Try.func58, Try.ntmps58
  go_wp2_with fail
  go_loopw [8] (fun i wr => ∃ k : Nat, k ≤ ss.length ∧ i = .int .i64 (k : Int) ∧ (ss.take k).any p = false ∧ Below w.heap.size w wr) (fun i _ => ss.length - (intOf i).toNat)
  case atStart => exact ⟨0, by omega, rfl, by simp, Below.refl _ _⟩
  case round =>
    obtain ⟨k, hk, rfl, hno, hB⟩ := hrel
    have hBA := Aside0.mk hB; have hnoA := Aside0.mk hno
    clear hB hno
    by_cases hlt : k < ss.length
    · obtain ⟨s, hs⟩ : ∃ s, ss[k]? = some s := ⟨_, List.getElem?_eq_getElem hlt⟩
      obtain ⟨ad, cc, rfl, ⟨hok, rfl⟩, -, hcell⟩ := row_at (hSA.out.imp_ hBA.out (fun _ _ h => h)) k s hs
      have p0 : (0 : Int) ≤ (k : Int) := by omega
      have p1 : (k : Int) < (ss.length : Int) := by omega
      have e2 : IntKind.i64.wrap ((k : Int) + 1) = (k : Int) + 1 := IntWalk.i64_in _ (by omega)
      have hnx := any_takeC p ss k s hs
      rw [hnoA.out, Bool.false_or] at hnx
      have hcall := hpA.out wr s (List.mem_of_getElem? hs) hBA.out
      have hmem := List.mem_of_getElem? hs
      have hany : p s = true → ss.any p = true := fun h => List.any_eq_true.2 ⟨s, hmem, h⟩
      generalize p s = o at *
      have hiA := Aside0.mk (info_coin s); have hceA := Aside0.mk hcell; have hnxA := Aside0.mk hnx; have hcA := Aside0.mk hcall; have hanyA := Aside0.mk hany
      clear hok hcell hnx hcall hany hs hmem
      cases o
      · go_wp2_with (first | ((with_reducible refine gate_dst (N := 15) rfl ?_); (refine wpList_load_any rfl 38 (.tmp 14) rfl (ad.add (k * 2)) rfl (coc s) _ hceA.out Try.underlying38 rfl hiA.out ?_)) | (go_at_fn g; refine hcA.out.mono ?_; rintro e w2 ⟨rfl, hb2⟩; have hb2A := Aside0.mk hb2; clear hb2))
        go_roundw
        · exact ⟨k + 1, by omega, by go_num, hnxA.out, hb2A.out⟩
        · simp [intOf]; omega
      · go_wp2_with (first | ((with_reducible refine gate_dst (N := 15) rfl ?_); (refine wpList_load_any rfl 38 (.tmp 14) rfl (ad.add (k * 2)) rfl (coc s) _ hceA.out Try.underlying38 rfl hiA.out ?_)) | (go_at_fn g; refine hcA.out.mono ?_; rintro e w2 ⟨rfl, hb2⟩; have hb2A := Aside0.mk hb2; clear hb2))
        go_ret
        exact ⟨⟨_, rfl, by rw [hanyA.out (by trivial), decide_eq_true_iff]; omega⟩, hb2A.out⟩
    · obtain rfl : k = ss.length := by omega
      have p1 : ¬ (ss.length : Int) < (ss.length : Int) := by omega
      rw [List.take_of_length_le (Nat.le_refl _)] at hnoA
      go_wp2_with fail
      go_ret
      exact ⟨⟨-1, rfl, by rw [hnoA.out]; rfl⟩, hBA.out⟩
set_option maxRecDepth 100000 in
set_option maxHeartbeats 800000 in
theorem containsC_calls (w : World) (A : Option Addr) (c : Nat) (ss : List Co) (g : Nat) (lb : Array Value) (eg : ∀ args w, (callFunc g args).run Try.prog w = .ok (.enter g args) w) (p : Co → Bool) (hS : CoR w A ss.length ss) (hn : ss.length ≤ 1000)
    (hp : ∀ W s, s ∈ ss → Below w.heap.size w W → Calls Try.prog g (#[cov s] ++ lb) W fun e w' => e = .returned (.bool (p s)) ∧ Below w.heap.size w w') :
    Calls Try.prog 37 #[.slice A ss.length c, .func (.func g) #[] lb] w fun e w' => e = .returned (.bool (ss.any p)) ∧ Below w.heap.size w w' := by
  have hI := Aside0.mk (indexC_calls w A c ss g lb eg p hS hn hp)
  clear hS hp
  go_enter Try.func37, Try.ntmps37
  go_wp2_with (go_at_call 58; (with_reducible refine hI.out.mono ?_); rintro e w2 ⟨⟨z, rfl, hz⟩, hb2⟩; have hF := Aside0.mk (And.intro hz hb2); clear hz hb2)
  go_ret
  exact ⟨by rw [← hF.out.1]; rfl, hF.out.2⟩
end Go.Proofs.Ytlgfekllkahfaaa.Pack
/- Bytes read one after another (pack.In): what is read, the next bytes. -/
set_option linter.unusedVariables false
set_option linter.unusedSimpArgs false
namespace Go.Proofs.Ytlgfekllkahfaaa.Pack
open Go.RowKit Go.Proofs.YtlgfekllkahfaaaW.PrintWords Go.Proofs.YtlgfekllkahfaaaW.PrintMore Go.Proofs.Ytlgfekllkahfaaa Go.Proofs.Ytlgfekllkahfaaa.Bits Sha ArrK ShaW
/-- what is left to read; none: something was wrong -/
abbrev Rd := Option (List Int)
def rdNext (n : Nat) : Rd → List Int × Rd
  | some l => if n ≤ l.length then (l.take n, some (l.drop n)) else ([], none)
  | none => ([], none)
/-- a number, the lowest byte first -/
def le : List Int → Int
  | [] => 0
  | x :: r => x + 256 * le r
def rdNum (n : Nat) (r : Rd) : Int × Rd := (le (rdNext n r).1, (rdNext n r).2)
theorem le_bound : ∀ l : List Int, Bytes l → 0 ≤ le l ∧ le l < 256 ^ l.length
  | [], _ => by simp [le]
  | x :: r, h => by
    have h1 := le_bound r (fun y hy => h y (List.mem_cons_of_mem _ hy))
    have h2 := h x List.mem_cons_self
    rw [le, List.length_cons, Int.pow_succ]
    omega
theorem le_append : ∀ l m : List Int, le (l ++ m) = le l + 256 ^ l.length * le m
  | [], m => by simp [le]
  | x :: r, m => by
    rw [List.cons_append, le, le_append r m, le, List.length_cons, Int.pow_succ, Int.mul_add, ← Int.mul_assoc, Int.add_assoc]
    congr 2
    rw [Int.mul_comm (256 ^ r.length) 256]
/-- a reader in memory: P, its block; N: what it reads lies below -/
def InH (N : Nat) (w : World) (P : Nat) : Rd → Prop
  | some l => N ≤ P ∧ Bytes l ∧ ∃ A c, Blk w P 92 [.slice A l.length c, .bool false] ∧ l.length ≤ c ∧ Kd.F (Kd.int .u8) w (fun k => k < N) A l.length l
  | none => N ≤ P ∧ Blk w P 92 [.slice none 0 0, .bool true]
section
variable {N P : Nat} {w w' : World} {r : Rd}
theorem InH.le (h : InH N w P r) : N ≤ P := by cases r <;> exact h.1
theorem InH.lt (h : InH N w P r) : P < w.heap.size := by
  cases r with
  | none => exact h.2.lt
  | some l => obtain ⟨_, _, _, _, hb, _⟩ := h; exact hb.lt
theorem InH.blk (h : InH N w P r) : ∃ cs, Blk w P 92 cs := by
  cases r with
  | none => exact ⟨_, h.2⟩
  | some l => obtain ⟨_, _, _, _, hb, _⟩ := h; exact ⟨_, hb⟩
theorem InH.move (h : InH N w P r) (hm : ∀ k, k < w.heap.size → (k < N ∨ k = P) → w'.heap[k]? = w.heap[k]?) : InH N w' P r := by
  cases r with
  | none => exact ⟨h.1, (hm P h.2.lt (.inr rfl)).trans h.2⟩
  | some l =>
    obtain ⟨h1, h2, A, c, hb, hc, hF⟩ := h
    exact ⟨h1, h2, A, c, (hm P hb.lt (.inr rfl)).trans hb, hc, Kd.F_step hF (fun k hk hlt => hm k hlt (.inl hk))⟩
theorem InH.below (h : InH N w P r) (hb : Below w.heap.size w w') : InH N w' P r := h.move (fun k hk _ => hb.block k hk)
theorem InH.grown (h : InH N w P r) {row : Option Nat} (hg : w.grownBy w' row) (hr : ∀ k, row = some k → N ≤ k ∧ k ≠ P) : InH N w' P r :=
  h.move (fun k hk hkP => hg.block k hk (fun e => by
    obtain ⟨h1, h2⟩ := hr k e.symm
    rcases hkP with h3 | h3
    · omega
    · exact h2 h3))
theorem grown_set (w : World) (P j : Nat) (u : Value) : w.grownBy (w.setCell ⟨P, j, none⟩ u) (some P) :=
  ⟨rfl, rfl, rfl, by simp [World.setCell], fun k hk hne => Below.heap_setCell w ⟨P, j, none⟩ u k (fun e => hne (by rw [e]))⟩
theorem grown_trans {w1 w2 : World} {row : Option Nat} (h : w.grownBy w1 row) (h2 : w1.grownBy w2 row) : w.grownBy w2 row :=
  ⟨h2.os.trans h.os, h2.tape.trans h.tape, h2.output.trans h.output, Nat.le_trans h.size h2.size, fun k hk hne => (h2.block k (by have := h.size; omega) hne).trans (h.block k hk hne)⟩
theorem grown_refl (w : World) (row : Option Nat) : w.grownBy w row := grown_of_below (Below.refl _ _) row
set_option maxRecDepth 100000 in
set_option maxHeartbeats 400000 in
theorem fail_calls (h : InH N w P r) : Calls Try.prog 55 #[.pointer (some ⟨P, 0, none⟩)] w fun e w' => (∃ v, e = .returned v) ∧ InH N w' P none ∧ w.grownBy w' (some P) := by
  obtain ⟨a, b, hb⟩ : ∃ a b, Blk w P 92 [a, b] := by
    cases r with
    | none => exact ⟨_, _, h.2⟩
    | some l => obtain ⟨_, _, _, _, hb, _⟩ := h; exact ⟨_, _, hb⟩
  have hN := h.le
  have hP : ∀ W : World, (Go.binOp BinOp.neq 67 (.pointer (some ⟨P, 0, none⟩)) (.pointer none)).run Try.prog W = Result.ok (.bool true) W := fun W => by go_simp
  have hb1 := hb.set 1 (.bool true)
  have hb2 := hb1.set 0 (.slice none 0 0)
  have g1 := hb.get 1 _ rfl
  have f1 := hb.fz 1
  have g0 := hb1.get 0 _ rfl
  have f0 := hb1.fz 0
  have hb2A := Aside0.mk hb2
  have hNA := Aside0.mk hN
  clear hb hb1 hb2 h hN
  go_enter Try.func55, Try.ntmps55
  go_wp2
  exact bodyPost_end (results_none rfl _ _ _) rfl ⟨⟨_, rfl⟩, ⟨hNA.out, hb2A.out⟩, grown_trans (grown_set _ _ _ _) (grown_set _ _ _ _)⟩
theorem next_no {n : Nat} (h : r = none ∨ ∃ l, r = some l ∧ l.length < n) : rdNext n r = ([], none) := by
  rcases h with rfl | ⟨l, rfl, h⟩
  · rfl
  · rw [rdNext, if_neg (by omega)]
theorem next_end {l : List Int} {A B : Option Addr} {c n : Nat} {d : Value} (hN : N ≤ P) (hbt : Bytes l) (hb : Blk w P 92 [.slice A l.length c, .bool false]) (hc : l.length ≤ c) (hF : Kd.F (Kd.int .u8) w (fun k => k < N) A l.length l) (q : n ≤ l.length) (hB : B = if c = n then A else A.map (·.add n)) (hd : d = .slice B (l.length - n) (c - n)) :
    (∃ A' c', Ending.returned (.slice A n c) = .returned (.slice A' (rdNext n (some l)).1.length c') ∧ (rdNext n (some l)).1.length ≤ c' ∧ Kd.F (Kd.int .u8) (w.setCell ⟨P, 0, none⟩ d) (fun k => k < N) A' (rdNext n (some l)).1.length (rdNext n (some l)).1) ∧ InH N (w.setCell ⟨P, 0, none⟩ d) P (rdNext n (some l)).2 ∧ w.grownBy (w.setCell ⟨P, 0, none⟩ d) (some P) := by
  subst hd
  have e1 : rdNext n (some l) = (l.take n, some (l.drop n)) := by rw [rdNext, if_pos q]
  rw [e1]
  have hl : (l.take n).length = n := by rw [List.length_take]; omega
  have hd : (l.drop n).length = l.length - n := List.length_drop
  have hg := grown_set w P 0 (.slice B (l.length - n) (c - n))
  have hF2 := Kd.F_grown hF hg (fun k hk e => by cases e; omega)
  have h1 := Kd.F_take hF2 q
  have h2 := Kd.F_cut hF2 q hc
  have h3 := hb.set 0 (.slice B (l.length - n) (c - n))
  refine ⟨⟨A, c, by rw [hl], by show (l.take n).length ≤ c; omega, h1⟩, ⟨hN, fun x hx => hbt x (List.mem_of_mem_drop hx), B, c - n, ?_, by omega, ?_⟩, hg⟩
  · rw [hd]; exact h3
  · have e : (n * (Kd.int .u8).sz) = n := Nat.mul_one n
    rw [e, ← hB] at h2
    exact h2
set_option maxRecDepth 100000 in
set_option maxHeartbeats 800000 in
theorem next_calls (n : Nat) (h : InH N w P r) : Calls Try.prog 56 #[.pointer (some ⟨P, 0, none⟩), .int .i64 (n : Int)] w fun e w' => (∃ A c, e = .returned (.slice A (rdNext n r).1.length c) ∧ (rdNext n r).1.length ≤ c ∧ Kd.F (Kd.int .u8) w' (fun k => k < N) A (rdNext n r).1.length (rdNext n r).1) ∧ InH N w' P (rdNext n r).2 ∧ w.grownBy w' (some P) := by
  have hP : ∀ W : World, (Go.binOp BinOp.eql 67 (.pointer (some ⟨P, 0, none⟩)) (.pointer none)).run Try.prog W = Result.ok (.bool false) W := fun W => by go_simp
  have hf := Aside0.mk (fail_calls h)
  have p0 : ¬ (n : Int) < 0 := by omega
  cases r with
  | none =>
    have g1 := h.2.get 1 _ rfl
    clear h
    go_enter Try.func56, Try.ntmps56
    go_wp2_with (go_at_call 55; (with_reducible refine hf.out.mono ?_); rintro e w2 ⟨⟨v, rfl⟩, hI, hg⟩; have hIA := Aside0.mk hI; have hgA := Aside0.mk hg; clear hI hg g1)
    go_ret
    exact ⟨⟨none, 0, rfl, Nat.le_refl _, Kd.F_nil _ _ _⟩, hIA.out, hgA.out⟩
  | some l =>
    obtain ⟨hN, hbt, A, c, hb, hc, hF⟩ := h
    have g0 := hb.get 0 _ rfl
    have g1 := hb.get 1 _ rfl
    have f0 := hb.fz 0
    by_cases q : n ≤ l.length
    · have p1 : ¬ (l.length : Int) < (n : Int) := by omega
      have p2 : (n : Int) ≤ (c : Int) := by omega
      have p3 : (0 : Int) ≤ (n : Int) := by omega
      have p4 : (n : Int) ≤ (l.length : Int) := by omega
      have hbA := Aside0.mk hb; have hFA := Aside0.mk hF; have hbtA := Aside0.mk hbt
      clear hb hF hbt hf
      go_enter Try.func56, Try.ntmps56
      go_wp2_with fail
      · obtain rfl : c = n := by assumption
        go_ret
        exact next_end hN hbtA.out hbA.out hc hFA.out q (by rw [if_pos rfl]) (by rw [Nat.sub_self])
      · go_ret
        exact next_end hN hbtA.out hbA.out hc hFA.out q (by rw [if_neg (by assumption)]) rfl
    · have p1 : (l.length : Int) < (n : Int) := by omega
      rw [next_no (.inr ⟨l, rfl, by omega⟩)]
      clear hb hF hbt
      go_enter Try.func56, Try.ntmps56
      go_wp2_with (go_at_call 55; (with_reducible refine hf.out.mono ?_); rintro e w2 ⟨⟨v, rfl⟩, hI, hg⟩; have hIA := Aside0.mk hI; have hgA := Aside0.mk hg; clear hI hg g1 g0 f0)
      go_ret
      exact ⟨⟨none, 0, rfl, Nat.le_refl _, Kd.F_nil _ _ _⟩, hIA.out, hgA.out⟩
end
end Go.Proofs.Ytlgfekllkahfaaa.Pack
/- Numbers read (pack.In's Num). -/
set_option linter.unusedVariables false
set_option linter.unusedSimpArgs false
namespace Go.Proofs.Ytlgfekllkahfaaa.Pack
open Go.RowKit Go.Proofs.YtlgfekllkahfaaaW.PrintWords Go.Proofs.YtlgfekllkahfaaaW.PrintMore Go.Proofs.Ytlgfekllkahfaaa Go.Proofs.Ytlgfekllkahfaaa.Bits Sha ArrK ShaW
theorem or_step (k : Nat) (hk : k < 8) (a c : Int) (ha : 0 ≤ a) (ha2 : a < 256 ^ k) (hc : 0 ≤ c) (hc2 : c < 256) : Go.bits .or .u64 a (c * 256 ^ k) = a + c * 256 ^ k := by
  obtain ⟨m, rfl⟩ := Int.eq_ofNat_of_zero_le ha
  obtain ⟨n, rfl⟩ := Int.eq_ofNat_of_zero_le hc
  have hp : (256 : Int) ^ k = ((2 ^ (8 * k) : Nat) : Int) := by rw [Nat.pow_mul]; simp
  rw [hp] at ha2 ⊢
  have h1 : m < 2 ^ (8 * k) := by omega
  have h2 : n < 256 := by omega
  have h3 : (2 : Nat) ^ (8 * k) * 256 ≤ 2 ^ 64 := by rw [show (256 : Nat) = 2 ^ 8 from rfl, ← Nat.pow_add]; exact Nat.pow_le_pow_right (by decide) (by omega)
  have h4 : n * 2 ^ (8 * k) + 2 ^ (8 * k) ≤ 2 ^ 64 := by
    have : (n + 1) * 2 ^ (8 * k) ≤ 256 * 2 ^ (8 * k) := Nat.mul_le_mul_right _ (by omega)
    rw [Nat.add_mul, Nat.one_mul] at this; omega
  have e1 : ((m : Nat) : Int) = q (BitVec.ofNat 64 m) := by unfold q; rw [BitVec.toNat_ofNat, Nat.mod_eq_of_lt (by omega)]
  have e2 : ((n : Nat) : Int) * ((2 ^ (8 * k) : Nat) : Int) = q (BitVec.ofNat 64 (n * 2 ^ (8 * k))) := by unfold q; rw [BitVec.toNat_ofNat, Nat.mod_eq_of_lt (by omega)]; simp
  rw [e2, e1, or_q]
  unfold q
  rw [BitVec.toNat_or, BitVec.toNat_ofNat, BitVec.toNat_ofNat, Nat.mod_eq_of_lt (by omega : m < 2 ^ 64), Nat.mod_eq_of_lt (by omega : n * 2 ^ (8 * k) < 2 ^ 64)]
  have h5 := Nat.shiftLeft_add_eq_or_of_lt h1 n
  rw [Nat.shiftLeft_eq] at h5
  rw [Nat.or_comm, ← h5]
  simp [Int.add_comm]
theorem le_step (l : List Int) (hl : Bytes l) (hn : l.length ≤ 8) (k : Nat) (hk : k < l.length) :
    Go.bits .or .u64 (le (l.take k)) (IntKind.u64.wrap (IntKind.u64.wrap (rd l (k : Int)) * 2 ^ (8 * k))) = le (l.take (k + 1)) := by
  have hr : rd l (k : Int) = l[k] := by unfold rd; rw [Int.toNat_natCast, List.getD_eq_getElem?_getD, List.getElem?_eq_getElem hk]; rfl
  have hc := hl l[k] (List.getElem_mem hk)
  have ht := le_bound (l.take k) (fun x hx => hl x (List.mem_of_mem_take hx))
  have hlt : (l.take k).length = k := by rw [List.length_take]; omega
  rw [hlt] at ht
  have e1 : IntKind.u64.wrap (l[k]) = l[k] := by rw [wrap_u64]; omega
  have e2 : (2 : Int) ^ (8 * k) = 256 ^ k := by rw [Int.pow_mul]; rfl
  have e3 : IntKind.u64.wrap (l[k] * 256 ^ k) = l[k] * 256 ^ k := by
    have h3 : (256 : Int) ^ k ≤ 256 ^ 7 := by
      have : (256 : Nat) ^ k ≤ 256 ^ 7 := Nat.pow_le_pow_right (by decide) (by omega)
      have h4 : ((256 ^ k : Nat) : Int) ≤ ((256 ^ 7 : Nat) : Int) := by omega
      simpa using h4
    have h5 : (0 : Int) < 256 ^ k := Int.pow_pos (by decide)
    have h6 : l[k] * 256 ^ k ≤ 255 * 256 ^ k := Int.mul_le_mul_of_nonneg_right (by omega) (by omega)
    have h7 : 0 ≤ l[k] * 256 ^ k := Int.mul_nonneg hc.1 (by omega)
    rw [wrap_u64]
    exact Int.emod_eq_of_lt h7 (by omega)
  rw [hr, e1, e2, e3, or_step k (by omega) _ _ ht.1 ht.2 hc.1 hc.2, List.take_succ_eq_append_getElem hk, le_append, hlt]
  simp only [le]
  rw [Int.mul_zero, Int.add_zero, Int.mul_comm]
theorem InH.bytes {N P : Nat} {w : World} {r : Rd} (h : InH N w P r) : ∀ l, r = some l → Bytes l := by rintro l rfl; exact h.2.1
theorem next_bytes {n : Nat} {r : Rd} (hb : ∀ l, r = some l → Bytes l) : Bytes (rdNext n r).1 ∧ ∀ l, (rdNext n r).2 = some l → Bytes l := by
  cases r with
  | none => exact ⟨fun x hx => by simp [rdNext] at hx, fun l h => by simp [rdNext] at h⟩
  | some m =>
    rw [rdNext]; split
    · exact ⟨fun x hx => hb m rfl x (List.mem_of_mem_take hx), fun l h => by cases h; exact fun x hx => hb m rfl x (List.mem_of_mem_drop hx)⟩
    · exact ⟨fun x hx => by simp at hx, fun l h => by cases h⟩
theorem next_len (n : Nat) (r : Rd) : (rdNext n r).1.length ≤ n := by
  cases r with
  | none => simp [rdNext]
  | some l => rw [rdNext]; split <;> simp; omega
theorem num_bound {n : Nat} {r : Rd} (hb : ∀ l, r = some l → Bytes l) : 0 ≤ (rdNum n r).1 ∧ (rdNum n r).1 < 256 ^ n := by
  have h := le_bound _ (next_bytes (n := n) hb).1
  refine ⟨h.1, Int.lt_of_lt_of_le h.2 ?_⟩
  have := Nat.pow_le_pow_right (show 0 < 256 by decide) (next_len n r)
  have h4 : ((256 ^ (rdNext n r).1.length : Nat) : Int) ≤ ((256 ^ n : Nat) : Int) := by omega
  simpa using h4
section
variable {N P : Nat} {w w' : World} {r : Rd}
set_option maxRecDepth 100000 in
set_option maxHeartbeats 800000 in
theorem inum_calls (n : Nat) (hn : n = 1 ∨ n = 2 ∨ n = 4 ∨ n = 8) (h : InH N w P r) : Calls Try.prog 34 #[.pointer (some ⟨P, 0, none⟩), .int .i64 (n : Int)] w fun e w' => e = .returned (.int .u64 (rdNum n r).1) ∧ InH N w' P (rdNum n r).2 ∧ w.grownBy w' (some P) := by
  have hb := h.bytes
  have hsz := Aside0.mk (sized_calls n hn)
  have hnx := Aside0.mk (fun W (hW : Below w.heap.size w W) => next_calls n (h.below hW))
  have hlen : (rdNext n r).1.length ≤ 8 := by
    cases r with
    | none => simp [rdNext]
    | some l => rw [rdNext]; split <;> simp <;> omega
  have hby : Bytes (rdNext n r).1 := by
    cases r with
    | none => intro x hx; simp [rdNext] at hx
    | some l =>
      rw [rdNext]; split
      · exact fun x hx => hb l rfl x (List.mem_of_mem_take hx)
      · intro x hx; simp at hx
  unfold rdNum
  clear h
  generalize rdNext n r = z at *
  obtain ⟨l, r2⟩ := z
  simp only at hlen hby hnx ⊢
  go_enter Try.func34, Try.ntmps34
  go_wp2_with (first | (go_at_call 54; (with_reducible refine (hsz.out w).mono ?_); rintro e w1 ⟨rfl, rfl⟩) | (go_at_call 56; (with_reducible refine (hnx.out w (Below.refl _ _)).mono ?_); rintro e w2 ⟨⟨A, c, rfl, hc, hF⟩, hI, hg⟩; have hFA := Aside0.mk hF; have hIA := Aside0.mk hI; have hgA := Aside0.mk hg; clear hF hI hg))
  go_loopw [17, 5] (fun i o wr => ∃ k : Nat, k ≤ l.length ∧ i = .int .i64 (k : Int) ∧ o = .int .u64 (le (l.take k)) ∧ Below w2.heap.size w2 wr) (fun i _ _ => l.length - (intOf i).toNat)
  case atStart => exact ⟨0, by omega, rfl, rfl, Below.refl _ _⟩
  case round =>
    obtain ⟨k, hk, rfl, rfl, hB⟩ := hrel
    by_cases hlt : k < l.length
    · have hC := Kd.F_now (Kd.F_below hFA.out hB)
      obtain ⟨ad, rfl, -⟩ := hC.2.2 (by omega)
      have p0 : (0 : Int) ≤ (k : Int) := by omega
      have p1 : (k : Int) < (l.length : Int) := by omega
      have g := Kd.foot_int hC (k : Int) p0 p1
      rw [Int.toNat_natCast] at g
      have e2 : IntKind.i64.wrap ((k : Int) + 1) = (k : Int) + 1 := IntWalk.i64_in _ (by omega)
      have e3 : IntKind.i64.wrap (8 * (k : Int)) = 8 * (k : Int) := IntWalk.i64_in _ (by omega)
      have hs := le_step l hby hlen k hlt
      have hsA := Aside0.mk hs
      have hBA := Aside0.mk hB
      clear hs hC hB
      go_wp2_with fail
      go_roundw
      · exact ⟨k + 1, by omega, by go_num, by rw [hsA.out], hBA.out⟩
      · simp [intOf]; omega
    · obtain rfl : k = l.length := by omega
      have p1 : ¬ (l.length : Int) < (l.length : Int) := by omega
      rw [List.take_of_length_le (Nat.le_refl _)]
      have hBA := Aside0.mk hB
      clear hB
      go_wp2_with fail
      go_ret
      exact ⟨rfl, hIA.out.below hBA.out, grown_trans hgA.out (grown_of_below hBA.out _)⟩
theorem inum_at (n : Nat) (z : Int) (hz : (n : Int) = z) (hn : n = 1 ∨ n = 2 ∨ n = 4 ∨ n = 8) (h : InH N w P r) : Calls Try.prog 34 #[.pointer (some ⟨P, 0, none⟩), .int .i64 z] w fun e w' => e = .returned (.int .u64 (rdNum n r).1) ∧ InH N w' P (rdNum n r).2 ∧ w.grownBy w' (some P) := by
  subst hz; exact inum_calls n hn h
theorem inext_at (n : Nat) (z : Int) (hz : (n : Int) = z) (h : InH N w P r) : Calls Try.prog 56 #[.pointer (some ⟨P, 0, none⟩), .int .i64 z] w fun e w' => (∃ A c, e = .returned (.slice A (rdNext n r).1.length c) ∧ (rdNext n r).1.length ≤ c ∧ Kd.F (Kd.int .u8) w' (fun k => k < N) A (rdNext n r).1.length (rdNext n r).1) ∧ InH N w' P (rdNext n r).2 ∧ w.grownBy w' (some P) := by
  subst hz; exact next_calls n h
end
end Go.Proofs.Ytlgfekllkahfaaa.Pack
/- Counts, texts, digests read; the end (pack.In). -/
set_option linter.unusedVariables false
set_option linter.unusedSimpArgs false
namespace Go.Proofs.Ytlgfekllkahfaaa.Pack
open Go.RowKit Go.Proofs.YtlgfekllkahfaaaW.PrintWords Go.Proofs.YtlgfekllkahfaaaW.PrintMore Go.Proofs.Ytlgfekllkahfaaa Go.Proofs.Ytlgfekllkahfaaa.Bits Sha ArrK ShaW
/-- the mark ahead of a count -/
def mark (m : Int) : Int := if m < 253 then 0 else if m ≤ 65535 then 253 else if m ≤ 4294967295 then 254 else 255
def wide (m : Int) : Int := if m < 253 then 1 else if m ≤ 65535 then 2 else if m ≤ 4294967295 then 4 else 8
def szk (b : Int) : Nat := if b = 253 then 2 else if b = 254 then 4 else if b = 255 then 8 else 0
theorem szk_is (b : Int) : szk b = 0 ∨ szk b = 1 ∨ szk b = 2 ∨ szk b = 4 ∨ szk b = 8 := by unfold szk; split; simp; split; simp; split <;> simp
theorem form_f (m : Int) : Go.Proofs.Ytlgfekllkahfaaa.V.pack_form.f m = some (mark m, wide m) := by
  unfold Go.Proofs.Ytlgfekllkahfaaa.V.pack_form.f mark wide
  split
  · rfl
  · split
    · rfl
    · split <;> rfl
theorem size_f (b : Int) : Go.Proofs.Ytlgfekllkahfaaa.V.pack_size.f b = some ((szk b : Nat) : Int) := by
  unfold Go.Proofs.Ytlgfekllkahfaaa.V.pack_size.f szk
  split
  · rfl
  · split
    · rfl
    · split <;> rfl
def rdCnt (r : Rd) : Int × Rd := if 0 < szk (rdNum 1 r).1 then ((rdNum (szk (rdNum 1 r).1) (rdNum 1 r).2).1, if mark (rdNum (szk (rdNum 1 r).1) (rdNum 1 r).2).1 = (rdNum 1 r).1 then (rdNum (szk (rdNum 1 r).1) (rdNum 1 r).2).2 else none) else rdNum 1 r
def rdCount (most : Nat) (r : Rd) : Nat × Rd := if (rdCnt r).2 = none ∨ (most : Int) < (rdCnt r).1 then (0, none) else ((rdCnt r).1.toNat, (rdCnt r).2)
section
variable {N P : Nat} {w w' : World} {r : Rd}
set_option maxRecDepth 100000 in
set_option maxHeartbeats 1600000 in
theorem icount_calls (most : Nat) (hm : most ≤ 1000000000) (h : InH N w P r) : Calls Try.prog 51 #[.pointer (some ⟨P, 0, none⟩), .int .i64 (most : Int)] w fun e w' => e = .returned (.int .i64 ((rdCount most r).1 : Int)) ∧ InH N w' P (rdCount most r).2 ∧ w.grownBy w' (some P) := by
  have hP : ∀ W : World, (Go.binOp BinOp.eql 67 (.pointer (some ⟨P, 0, none⟩)) (.pointer none)).run Try.prog W = Result.ok (.bool false) W := fun W => by go_simp
  have hb := h.bytes
  have hn1 := inum_at 1 1 rfl (.inl rfl) h
  have hb1 := num_bound (n := 1) hb
  have hby1 := (next_bytes (n := 1) hb).2
  have hcd : rdCount most r = rdCount most r := rfl
  unfold rdCount rdCnt
  have hr1 : (rdNum 1 r).2 = (rdNext 1 r).2 := rfl
  rw [← hr1] at hby1
  clear hr1 hcd hb h
  generalize rdNum 1 r = z1 at *
  obtain ⟨n, r1⟩ := z1
  simp only at hn1 hb1 hby1 ⊢
  have hm2 : IntKind.u64.wrap (most : Int) = (most : Int) := by rw [wrap_u64]; omega
  have hn2 : IntKind.u8.wrap n = n := by simp [IntKind.wrap, IntKind.bits, IntKind.signed]; omega
  have p0 : ¬ (most : Int) < 0 := by omega
  have hszA := Aside0.mk (fun W => Go.Proofs.Ytlgfekllkahfaaa.V.pack_size.calls n _ W (size_f n))
  have hn1A := Aside0.mk hn1
  have hk := szk_is n
  generalize szk n = k at *
  clear hn1
  by_cases hk0 : k = 0
  · subst hk0
    rw [if_neg (Nat.lt_irrefl 0)]
    simp only
    cases r1 with
    | none =>
      rw [if_pos (Or.inl rfl)]
      go_enter Try.func51, Try.ntmps51
      go_wp2_with (first | (go_at_call 34; (with_reducible refine hn1A.out.mono ?_); rintro e w2 ⟨rfl, hI, hg⟩; have hI2A := Aside0.mk hI; have hg2A := Aside0.mk hg; clear hI hg) | (go_at_call 67; (with_reducible refine (hszA.out _).mono ?_); rintro e w3 ⟨rfl, hd⟩; have hd3 := hd.below; have hI3 := hI2A.out.below hd3; have g1 := hI3.2.get 1 _ rfl; have hI3A := Aside0.mk hI3; have hg3A := Aside0.mk (grown_trans hg2A.out (grown_of_below hd3 _)); clear hI3 hd hd3) | (go_at_call 55; (with_reducible refine (fail_calls hI3A.out).mono ?_); rintro e w9 ⟨⟨v, rfl⟩, hI, hg⟩; have hI9A := Aside0.mk hI; have hg9A := Aside0.mk (grown_trans hg3A.out hg); clear hI hg g1))
      go_ret
      exact ⟨rfl, hI9A.out, hg9A.out⟩
    | some l =>
      by_cases q : (most : Int) < n
      · rw [if_pos (Or.inr q)]
        go_enter Try.func51, Try.ntmps51
        go_wp2_with (first | (go_at_call 34; (with_reducible refine hn1A.out.mono ?_); rintro e w2 ⟨rfl, hI, hg⟩; have hI2A := Aside0.mk hI; have hg2A := Aside0.mk hg; clear hI hg) | (go_at_call 67; (with_reducible refine (hszA.out _).mono ?_); rintro e w3 ⟨rfl, hd⟩; have hd3 := hd.below; have hI3 := hI2A.out.below hd3; obtain ⟨A, c, hbk, -, -⟩ := hI3.2.2; have g1 := hbk.get 1 _ rfl; clear hbk; have hI3A := Aside0.mk hI3; have hg3A := Aside0.mk (grown_trans hg2A.out (grown_of_below hd3 _)); clear hI3 hd hd3) | (go_at_call 55; (with_reducible refine (fail_calls hI3A.out).mono ?_); rintro e w9 ⟨⟨v, rfl⟩, hI, hg⟩; have hI9A := Aside0.mk hI; have hg9A := Aside0.mk (grown_trans hg3A.out hg); clear hI hg g1))
        go_ret
        exact ⟨rfl, hI9A.out, hg9A.out⟩
      · rw [if_neg (by rintro (h | h); cases h; exact q h)]
        have en : ((n.toNat : Nat) : Int) = n := by omega
        have e64 : IntKind.i64.wrap n = n := IntWalk.i64_in _ (by omega)
        go_enter Try.func51, Try.ntmps51
        go_wp2_with (first | (go_at_call 34; (with_reducible refine hn1A.out.mono ?_); rintro e w2 ⟨rfl, hI, hg⟩; have hI2A := Aside0.mk hI; have hg2A := Aside0.mk hg; clear hI hg) | (go_at_call 67; (with_reducible refine (hszA.out _).mono ?_); rintro e w3 ⟨rfl, hd⟩; have hd3 := hd.below; have hI3 := hI2A.out.below hd3; obtain ⟨A, c, hbk, -, -⟩ := hI3.2.2; have g1 := hbk.get 1 _ rfl; clear hbk; have hI3A := Aside0.mk hI3; have hg3A := Aside0.mk (grown_trans hg2A.out (grown_of_below hd3 _)); clear hI3 hd hd3) | (go_at_call 55; (with_reducible refine (fail_calls hI3A.out).mono ?_); rintro e w9 ⟨⟨v, rfl⟩, hI, hg⟩; have hI9A := Aside0.mk hI; have hg9A := Aside0.mk (grown_trans hg3A.out hg); clear hI hg g1))
        go_ret
        exact ⟨by rw [en]; rfl, hI3A.out, hg3A.out⟩
  · have hk1 : 0 < k := by omega
    have hk2 : k = 1 ∨ k = 2 ∨ k = 4 ∨ k = 8 := by omega
    have p5 : (0 : Int) < (k : Int) := by omega
    rw [if_pos hk1]
    have hn2A := Aside0.mk (fun W (hI : InH N W P r1) => inum_calls k hk2 hI)
    have hb2 := num_bound (n := k) (r := r1) hby1
    have hfmA := Aside0.mk (fun W => Go.Proofs.Ytlgfekllkahfaaa.V.pack_form.calls (rdNum k r1).1 _ _ W (form_f _))
    clear hk0 hk hk1 hby1
    simp only
    have hb3 : 0 ≤ (rdNum k r1).1 ∧ (rdNum k r1).1 < 18446744073709551616 := by
      refine ⟨hb2.1, Int.lt_of_lt_of_le hb2.2 ?_⟩
      have h := Nat.pow_le_pow_right (show 0 < 256 by decide) (show k ≤ 8 by omega)
      have h4 : ((256 ^ k : Nat) : Int) ≤ ((256 ^ 8 : Nat) : Int) := by omega
      simpa using h4
    clear hb2
    generalize rdNum k r1 = z2 at *
    obtain ⟨m, r2⟩ := z2
    simp only at hn2A hfmA hb3 ⊢
    generalize wide m = wd at *
    by_cases hmk : mark m = n
    · rw [if_pos hmk]
      cases r2 with
      | none =>
        rw [if_pos (Or.inl rfl)]
        rw [hmk] at hfmA
        go_enter Try.func51, Try.ntmps51
        go_wp2_with (first | (go_at_call 34; first | ((with_reducible refine hn1A.out.mono ?_); rintro e w2 ⟨rfl, hI, hg⟩; have hI2A := Aside0.mk hI; have hg2A := Aside0.mk hg; clear hI hg hn1A) | ((with_reducible refine (hn2A.out _ hI3A.out).mono ?_); rintro e w4 ⟨rfl, hI, hg⟩; have hI4A := Aside0.mk hI; have hg4A := Aside0.mk (grown_trans hg3A.out hg); clear hI hg)) | (go_at_call 67; (with_reducible refine (hszA.out _).mono ?_); rintro e w3 ⟨rfl, hd⟩; have hd3 := hd.below; have hI3A := Aside0.mk (hI2A.out.below hd3); have hg3A := Aside0.mk (grown_trans hg2A.out (grown_of_below hd3 _)); clear hd hd3) | (go_at_call 68; (with_reducible refine (hfmA.out _).mono ?_); rintro e w5 ⟨rfl, hd⟩; have hd5 := hd.below; have hI5 := hI4A.out.below hd5; have g1 := hI5.2.get 1 _ rfl; have hI5A := Aside0.mk hI5; have hg5A := Aside0.mk (grown_trans hg4A.out (grown_of_below hd5 _)); clear hI5 hd hd5) | (go_at_call 55; (with_reducible refine (fail_calls hI5A.out).mono ?_); rintro e w9 ⟨⟨v, rfl⟩, hI, hg⟩; have hI9A := Aside0.mk hI; have hg9A := Aside0.mk (grown_trans hg5A.out hg); clear hI hg g1))
        go_ret
        exact ⟨rfl, hI9A.out, hg9A.out⟩
      | some l =>
        by_cases q : (most : Int) < m
        · rw [if_pos (Or.inr q)]
          rw [hmk] at hfmA
          go_enter Try.func51, Try.ntmps51
          go_wp2_with (first | (go_at_call 34; first | ((with_reducible refine hn1A.out.mono ?_); rintro e w2 ⟨rfl, hI, hg⟩; have hI2A := Aside0.mk hI; have hg2A := Aside0.mk hg; clear hI hg hn1A) | ((with_reducible refine (hn2A.out _ hI3A.out).mono ?_); rintro e w4 ⟨rfl, hI, hg⟩; have hI4A := Aside0.mk hI; have hg4A := Aside0.mk (grown_trans hg3A.out hg); clear hI hg)) | (go_at_call 67; (with_reducible refine (hszA.out _).mono ?_); rintro e w3 ⟨rfl, hd⟩; have hd3 := hd.below; have hI3A := Aside0.mk (hI2A.out.below hd3); have hg3A := Aside0.mk (grown_trans hg2A.out (grown_of_below hd3 _)); clear hd hd3) | (go_at_call 68; (with_reducible refine (hfmA.out _).mono ?_); rintro e w5 ⟨rfl, hd⟩; have hd5 := hd.below; have hI5 := hI4A.out.below hd5; obtain ⟨A, c, hbk, -, -⟩ := hI5.2.2; have g1 := hbk.get 1 _ rfl; clear hbk; have hI5A := Aside0.mk hI5; have hg5A := Aside0.mk (grown_trans hg4A.out (grown_of_below hd5 _)); clear hI5 hd hd5) | (go_at_call 55; (with_reducible refine (fail_calls hI5A.out).mono ?_); rintro e w9 ⟨⟨v, rfl⟩, hI, hg⟩; have hI9A := Aside0.mk hI; have hg9A := Aside0.mk (grown_trans hg5A.out hg); clear hI hg g1))
          go_ret
          exact ⟨rfl, hI9A.out, hg9A.out⟩
        · rw [if_neg (by rintro (h | h); cases h; exact q h)]
          rw [hmk] at hfmA
          have en : ((m.toNat : Nat) : Int) = m := by omega
          have e64 : IntKind.i64.wrap m = m := IntWalk.i64_in _ (by omega)
          go_enter Try.func51, Try.ntmps51
          go_wp2_with (first | (go_at_call 34; first | ((with_reducible refine hn1A.out.mono ?_); rintro e w2 ⟨rfl, hI, hg⟩; have hI2A := Aside0.mk hI; have hg2A := Aside0.mk hg; clear hI hg hn1A) | ((with_reducible refine (hn2A.out _ hI3A.out).mono ?_); rintro e w4 ⟨rfl, hI, hg⟩; have hI4A := Aside0.mk hI; have hg4A := Aside0.mk (grown_trans hg3A.out hg); clear hI hg)) | (go_at_call 67; (with_reducible refine (hszA.out _).mono ?_); rintro e w3 ⟨rfl, hd⟩; have hd3 := hd.below; have hI3A := Aside0.mk (hI2A.out.below hd3); have hg3A := Aside0.mk (grown_trans hg2A.out (grown_of_below hd3 _)); clear hd hd3) | (go_at_call 68; (with_reducible refine (hfmA.out _).mono ?_); rintro e w5 ⟨rfl, hd⟩; have hd5 := hd.below; have hI5 := hI4A.out.below hd5; obtain ⟨A, c, hbk, -, -⟩ := hI5.2.2; have g1 := hbk.get 1 _ rfl; clear hbk; have hI5A := Aside0.mk hI5; have hg5A := Aside0.mk (grown_trans hg4A.out (grown_of_below hd5 _)); clear hI5 hd hd5) | (go_at_call 55; (with_reducible refine (fail_calls hI5A.out).mono ?_); rintro e w9 ⟨⟨v, rfl⟩, hI, hg⟩; have hI9A := Aside0.mk hI; have hg9A := Aside0.mk (grown_trans hg5A.out hg); clear hI hg g1))
          go_ret
          exact ⟨by rw [en]; rfl, hI5A.out, hg5A.out⟩
    · rw [if_neg hmk, if_pos (Or.inl rfl)]
      go_enter Try.func51, Try.ntmps51
      go_wp2_with (first | (go_at_call 34; first | ((with_reducible refine hn1A.out.mono ?_); rintro e w2 ⟨rfl, hI, hg⟩; have hI2A := Aside0.mk hI; have hg2A := Aside0.mk hg; clear hI hg hn1A) | ((with_reducible refine (hn2A.out _ hI3A.out).mono ?_); rintro e w4 ⟨rfl, hI, hg⟩; have hI4A := Aside0.mk hI; have hg4A := Aside0.mk (grown_trans hg3A.out hg); clear hI hg)) | (go_at_call 67; (with_reducible refine (hszA.out _).mono ?_); rintro e w3 ⟨rfl, hd⟩; have hd3 := hd.below; have hI3A := Aside0.mk (hI2A.out.below hd3); have hg3A := Aside0.mk (grown_trans hg2A.out (grown_of_below hd3 _)); clear hd hd3) | (go_at_call 68; (with_reducible refine (hfmA.out _).mono ?_); rintro e w5 ⟨rfl, hd⟩; have hd5 := hd.below; have hI5 := hI4A.out.below hd5; have hI5A := Aside0.mk hI5; have hg5A := Aside0.mk (grown_trans hg4A.out (grown_of_below hd5 _)); clear hI5 hd hd5) | (go_at_call 55; first | ((with_reducible refine (fail_calls hI5A.out).mono ?_); rintro e w8 ⟨⟨v, rfl⟩, hI, hg⟩; have g1 := hI.2.get 1 _ rfl; have hI8A := Aside0.mk hI; have hg8A := Aside0.mk (grown_trans hg5A.out hg); clear hI hg hI5A) | ((with_reducible refine (fail_calls hI8A.out).mono ?_); rintro e w9 ⟨⟨v, rfl⟩, hI, hg⟩; have hI9A := Aside0.mk hI; have hg9A := Aside0.mk (grown_trans hg8A.out hg); clear hI hg g1)))
      go_ret
      exact ⟨rfl, hI9A.out, hg9A.out⟩
end
end Go.Proofs.Ytlgfekllkahfaaa.Pack
/- Texts and digests read; the end (pack.In). -/
set_option linter.unusedVariables false
set_option linter.unusedSimpArgs false
namespace Go.Proofs.Ytlgfekllkahfaaa.Pack
open Go.RowKit Go.Proofs.YtlgfekllkahfaaaW.PrintWords Go.Proofs.YtlgfekllkahfaaaW.PrintMore Go.Proofs.Ytlgfekllkahfaaa Go.Proofs.Ytlgfekllkahfaaa.Bits Sha ArrK ShaW
open Go.Proofs.Ytlgfekllkahfaaa.InRound (op_at)
/-- 'string(b)' -/
theorem run_text (w : World) (A : Option Addr) (c : Nat) (l : List Int) (hC : Kd.C (Kd.int .u8) w A l.length l) : (convert 49 9 (.slice A l.length c)).run Try.prog w = .ok (.string (strOfNums l)) w := by
  rw [run_convert_bytes_string w 49 9 5 A l.length c Try.underlying49 Try.underlying5 Try.underlying9]
  cases A with
  | none =>
    have h0 : l = [] := by
      cases l with
      | nil => rfl
      | cons x r => obtain ⟨ad, e, _⟩ := hC.2.2 (by simp); cases e
    subst h0
    simp [Conv.bytesToString]; rfl
  | some ad =>
    have hl := run_loadCells_list (P := Try.prog) w ad (l.map (Value.int .u8)) (fun j v hj => by
      have hj' : j < l.length := by simpa using (List.getElem?_eq_some_iff.1 hj).1
      have g := Kd.foot_int hC (j : Int) (by omega) (by omega)
      rw [Int.toNat_natCast] at g
      rw [g]
      have hr : rd l (j : Int) = l[j] := by unfold rd; rw [Int.toNat_natCast, List.getD_eq_getElem?_getD, List.getElem?_eq_getElem hj']; rfl
      rw [hr]
      simp [List.getElem?_eq_getElem hj'] at hj
      rw [hj])
    rw [List.length_map] at hl
    rw [run_bytesToString w ad l.length c l hl, foldl_push_bytes]
    simp [strOfNums, ByteArray.empty, ByteArray.emptyWithCapacity]
    rfl
def rdText (most : Nat) (r : Rd) : List Int × Rd := rdNext (rdCount most r).1 (rdCount most r).2
def rdHash (r : Rd) : List Int × Rd := (if (rdNext 32 r).1.length = 32 then (rdNext 32 r).1 else zero32, (rdNext 32 r).2)
section
variable {N P : Nat} {w w' : World} {r : Rd}
set_option maxRecDepth 100000 in
set_option maxHeartbeats 800000 in
theorem itext_calls (most : Nat) (hm : most ≤ 1000000000) (h : InH N w P r) : Calls Try.prog 53 #[.pointer (some ⟨P, 0, none⟩), .int .i64 (most : Int)] w fun e w' => e = .returned (.string (strOfNums (rdText most r).1)) ∧ InH N w' P (rdText most r).2 ∧ w.grownBy w' (some P) := by
  have h1 := Aside0.mk (icount_calls most hm h)
  unfold rdText
  generalize rdCount most r = z at *
  obtain ⟨n, r1⟩ := z
  simp only at h1 ⊢
  have h2 := Aside0.mk (fun W (hI : InH N W P r1) => next_calls n hI)
  generalize rdNext n r1 = y at *
  obtain ⟨l, r2⟩ := y
  simp only at h2 ⊢
  go_enter Try.func53, Try.ntmps53
  go_wp2_with (first | (go_at_call 51; (with_reducible refine h1.out.mono ?_); rintro e w2 ⟨rfl, hI, hg⟩; have hI2A := Aside0.mk hI; have hg2A := Aside0.mk hg; clear hI hg) | (go_at_call 56; (with_reducible refine (h2.out _ hI2A.out).mono ?_); rintro e w3 ⟨⟨A, c, rfl, hc, hF⟩, hI, hg⟩; have hcv := run_text w3 A c l (Kd.F_now hF); have hI3A := Aside0.mk hI; have hg3A := Aside0.mk (grown_trans hg2A.out hg); clear hI hg hF))
  go_ret
  exact ⟨rfl, hI3A.out, hg3A.out⟩
/-- copy(h[:], b), drawn -/
theorem step_copy {ops : Array Oper} {o : Oper} {a : Act} {w : World} {K : Act → World → Prop} {Q : Exit → Act → World → Prop} (hw : Region.wanted o (yielded ops a.tmps) = true) (x y : Operand) (ho : o.op = .call { callee := .builtin .copy, args := #[x, y], argTypes := #[49, 49] })
    (b t : Nat) (h0 l : List Int) (h32 : h0.length = 32) (A : Option Addr) (c : Nat) (hx : a.eval x = .slice (some ⟨b, 0, none⟩) 32 32) (hy : a.eval y = .slice A l.length c) (hl : l.length = 32 ∨ l = []) (hC : Kd.C (Kd.int .u8) w A l.length l) (hbk : Blk w b t (nums .u8 h0))
    (hk : ∀ W1 z, Blk W1 b t (nums .u8 (if l.length = 32 then l else h0)) → w.grownBy W1 (some b) → W1.heap.size = w.heap.size → K (a.put o.dst z) W1) : if Region.wanted o (yielded ops a.tmps) = true then Oper.wp Try.prog o a w K Q else K (a.put o.dst undef) w := by
  rw [if_pos hw]
  have fin : ∀ z w1, (Builtin.copy_ #[49, 49] o.type #[.slice (some ⟨b, 0, none⟩) 32 32, .slice A l.length c]).run Try.prog w = .ok z w1 → (∀ z, K (a.put o.dst z) w1) → Oper.wp Try.prog o a w K Q := by
    intro z w1 hr hK
    unfold Oper.wp execOp
    simp only [ho, resolve, invoke, builtin, Sem.run_bind, Sem.run_pure, Result.andThen_ok, List.map_toArray, List.map_cons, List.map_nil, hx, hy, hr]
    exact hK _
  rcases hl with hl | rfl
  · obtain ⟨ad, rfl, -⟩ := hC.2.2 (by omega)
    have hr := run_copy_cells (P := Try.prog) w 49 49 o.type 5 b 0 32 32 ad l.length c (nums .u8 l) Try.underlying49 (by kernel_rfl) (by rw [hl]; simp [nums, hl]) (fun j v hj => by
      have hj' : j < l.length := by simpa [nums] using (List.getElem?_eq_some_iff.1 hj).1
      have g := Kd.foot_int hC (j : Int) (by omega) (by omega)
      rw [Int.toNat_natCast] at g
      rw [g]
      have hr : rd l (j : Int) = l[j] := by unfold rd; rw [Int.toNat_natCast, List.getD_eq_getElem?_getD, List.getElem?_eq_getElem hj']; rfl
      rw [hr]
      simp [nums, List.getElem?_eq_getElem hj'] at hj
      rw [hj]) (fun j hj => by
        have hj' : j < 32 := by simpa [nums, hl] using hj
        rw [hbk.get (0 + j) (.int .u8 (h0[j]'(by omega))) (by simp [nums, h32, hj'])]; rfl) (fun j _ => hbk.fz _) (u8_one l)
    have hb := blk_setCells (nums .u8 l) 0 w (nums .u8 h0) hbk (by simp [nums, hl, h32])
    rw [List.take_zero, List.nil_append, Nat.zero_add, List.drop_of_length_le (by simp [nums, hl, h32]), List.append_nil] at hb
    have hs : (w.setCells b 0 (nums .u8 l)).heap.size = w.heap.size := by
      have : ∀ (l : List Value) (o : Nat) (W : World), (W.setCells b o l).heap.size = W.heap.size := by
        intro l
        induction l with
        | nil => intro o W; rfl
        | cons u l ih => intro o W; rw [World.setCells, ih]; simp [World.setCell]
      exact this _ 0 w
    have hg : w.grownBy (w.setCells b 0 (nums .u8 l)) (some b) := by
      have hbl := ArrK.below_setCells (w := w) b (Nat.le_refl b) (nums .u8 l) 0 w (Below.refl _ _)
      refine ⟨hbl.os, hbl.tape, hbl.output, by omega, fun k hk hne => World.heap_setCells_other w b 0 _ hk (fun e => hne (by rw [e]))⟩
    exact fin _ _ hr (fun z => hk _ z (by rw [if_pos hl]; exact hb) hg hs)
  · have hr := run_copy_none (P := Try.prog) w 49 49 o.type 5 (some ⟨b, 0, none⟩) A 32 32 0 c Try.underlying49 (by kernel_rfl) rfl
    exact fin _ _ hr (fun z => hk _ z hbk (grown_refl w _) rfl)
theorem next32 (r : Rd) : (rdNext 32 r).1.length = 32 ∨ (rdNext 32 r).1 = [] := by
  cases r with
  | none => right; rfl
  | some l => rw [rdNext]; split
              · left; simp; omega
              · right; rfl
set_option maxRecDepth 100000 in
set_option maxHeartbeats 800000 in
theorem ihash_calls (h : InH N w P r) : Calls Try.prog 52 #[.pointer (some ⟨P, 0, none⟩)] w fun e w' => e = .returned (hv (rdHash r).1) ∧ InH N w' P (rdHash r).2 ∧ w.grownBy w' (some P) := by
  have hl := next32 r
  have hN := h.le
  have hPlt := h.lt
  obtain ⟨V, hV⟩ : ∃ V, V = (w.alloc (.cells (nums .u8 zero32).toArray 31)).alloc (.cells (nums .u8 zero32).toArray 31) := ⟨_, rfl⟩
  have hX : Blk V w.heap.size 31 (nums .u8 zero32) := by rw [hV]; exact (Blk.new w _ _).alloc _
  have hZ : Blk V (w.heap.size + 1) 31 (nums .u8 zero32) := by
    have := Blk.new (w.alloc (.cells (nums .u8 zero32).toArray 31)) 31 (nums .u8 zero32)
    rw [hV]; rwa [World.size_alloc] at this
  have hB : Below w.heap.size w V := by rw [hV]; exact below_alloc (below_alloc (Below.refl _ _) _) _
  have hI := h.below hB
  have h2 := Aside0.mk (fun W (hI : InH N W P r) => inext_at 32 32 rfl hI)
  unfold rdHash
  generalize rdNext 32 r = y at *
  obtain ⟨l, r2⟩ := y
  simp only at h2 hl ⊢
  obtain ⟨q, hq⟩ : ∃ q, q = (if l.length = 32 then l else zero32) := ⟨_, rfl⟩
  rw [← hq]
  have hq32 : q.length = 32 := by rw [hq]; split <;> first | assumption | rfl
  have hqeA := Aside0.mk hq
  have hqA := Aside0.mk hq32
  clear hq
  have hVA := Aside0.mk hV; have hXA := Aside0.mk hX; have hZA := Aside0.mk hZ; have hBA := Aside0.mk hB; have hIA := Aside0.mk hI
  clear hV hX hZ hB hI h
  go_enter Try.func52, Try.ntmps52
  go_wp2_with fail
  rw [show (w.alloc (.cells #[.int .u8 0, .int .u8 0, .int .u8 0, .int .u8 0, .int .u8 0, .int .u8 0, .int .u8 0, .int .u8 0, .int .u8 0, .int .u8 0, .int .u8 0, .int .u8 0, .int .u8 0, .int .u8 0, .int .u8 0, .int .u8 0, .int .u8 0, .int .u8 0, .int .u8 0, .int .u8 0, .int .u8 0, .int .u8 0, .int .u8 0, .int .u8 0, .int .u8 0, .int .u8 0, .int .u8 0, .int .u8 0, .int .u8 0, .int .u8 0, .int .u8 0, .int .u8 0] 31)).alloc (.cells #[.int .u8 0, .int .u8 0, .int .u8 0, .int .u8 0, .int .u8 0, .int .u8 0, .int .u8 0, .int .u8 0, .int .u8 0, .int .u8 0, .int .u8 0, .int .u8 0, .int .u8 0, .int .u8 0, .int .u8 0, .int .u8 0, .int .u8 0, .int .u8 0, .int .u8 0, .int .u8 0, .int .u8 0, .int .u8 0, .int .u8 0, .int .u8 0, .int .u8 0, .int .u8 0, .int .u8 0, .int .u8 0, .int .u8 0, .int .u8 0, .int .u8 0, .int .u8 0] 31) = V from hVA.out.symm]
  refine wp_region_noPanic ?_
  refine wp_region_held_drew (S := fun _ => True) (by kernel_rfl) trivial (fun _ => ?_)
  have H0 : True := trivial
  have hX0 : Blk V.drew w.heap.size 31 (nums .u8 zero32) := hXA.out
  have hZ0 : Blk V.drew (w.heap.size + 1) 31 (nums .u8 zero32) := hZA.out
  have hB0 : w.grownBy V.drew (some P) := grown_of_below (pw_below_drewN hBA.out 1) _
  have hI0 : InH N V.drew P r := hIA.out.below (pw_below_drewN (Below.refl _ _) 1)
  have hB0 := Aside0.mk hB0
  have hI0 := Aside0.mk hI0
  have hX0 := Aside0.mk hX0
  have hZ0 := Aside0.mk hZ0
  clear hVA hXA hZA hBA hIA
  generalize V.drew = V0 at *
  -- REGION A
  refine wpAnyH_take (i := 0) (v := .slice (some ⟨w.heap.size + 1, 0, none⟩) 32 32) (op_at rfl) (by kernel_rfl) (by kernel_rfl) (by kernel_rfl) (fun _ _ _ h => h) (Or.inl ⟨by rfl, fun w_ hSw => ?_⟩) H0 ?_
  · go_simp
  try simp only [Act.put, List.setIfInBounds_toArray, List.set_cons_zero, List.set_cons_succ]
  refine wpAnyH_take (i := 1) (v := .pointer (some ⟨P, 0, none⟩)) (op_at rfl) (by kernel_rfl) (by kernel_rfl) (by kernel_rfl) (fun _ _ _ h => h) (Or.inl ⟨by rfl, fun w_ hSw => ?_⟩) H0 ?_
  · go_simp
  try simp only [Act.put, List.setIfInBounds_toArray, List.set_cons_zero, List.set_cons_succ]
  refine wpAnyH_ready (rs := [2]) (by kernel_rfl) (by simp) ?_
  refine AllReadyH.cons (op_at rfl) (fun K hK => ?_) AllReadyH.nil
  go_simp
  go_at_call 56
  refine (h2.out _ hI0.out).mono ?_
  rintro e V1 ⟨⟨A, c, rfl, hc, hF⟩, hI1, hg1⟩
  go_wp2_with fail
  refine hK.out _ _ trivial (fun H1_ => ?_)
  have hX1 := Aside0.mk (hX0.out.grown hg1 (by intro e; have := Option.some.inj e; omega))
  have hZ1 := Aside0.mk (hZ0.out.grown hg1 (by intro e; have := Option.some.inj e; omega))
  have hC1 := Aside0.mk (Kd.F_now hF)
  have hI1 := Aside0.mk hI1
  have hg1 := Aside0.mk (grown_trans hB0.out hg1)
  clear hK K hF hI0 hX0 hZ0
  try simp only [Act.put, List.setIfInBounds_toArray, List.set_cons_zero, List.set_cons_succ]
  refine wpAnyH_ready (rs := [3]) (by kernel_rfl) (by simp) ?_
  refine AllReadyH.cons (op_at rfl) (fun K hK => ?_) AllReadyH.nil
  refine step_copy (by rfl) (.tmp 4) (.tmp 6) rfl (w.heap.size + 1) 31 zero32 l rfl A c rfl rfl hl hC1.out hZ1.out ?_
  intro V2 z hZ2 hg2 hs2
  refine hK.out _ _ trivial (fun H2_ => ?_)
  rw [← hqeA.out] at hZ2
  have hX2 := Aside0.mk (hX1.out.grown hg2 (by intro e; have := Option.some.inj e; omega))
  have hZ2 := Aside0.mk hZ2
  have hI2 := Aside0.mk (hI1.out.grown hg2 (by intro k e; have := Option.some.inj e; exact ⟨by omega, by omega⟩))
  have hg2 := Aside0.mk (show w.grownBy V2 (some P) from ⟨hg2.os.trans hg1.out.os, hg2.tape.trans hg1.out.tape, hg2.output.trans hg1.out.output, Nat.le_trans hg1.out.size hg2.size, fun k hk hne => (hg2.block k (by have := hg1.out.size; omega) (by intro e; have := Option.some.inj e; omega)).trans (hg1.out.block k hk hne)⟩)
  clear hK K hX1 hZ1 hI1 hg1 hC1
  try simp only [Act.put, List.setIfInBounds_toArray, List.set_cons_zero, List.set_cons_succ]
  refine wpAnyH_done (by kernel_rfl) ?_ _
  refine NoPanic.normal ?_
  -- END A
  go_wp2_with (first | ((with_reducible refine gate_dst (N := 8) rfl ?_); refine wpList_load_blk rfl 31 (.tmp 3) rfl (w.heap.size + 1) 31 rfl (nums .u8 q) _ hZ2.out Try.underlying31 rfl (info_hash q hqA.out) ?_) | (refine wpList_put_blk rfl 31 (.tmp 2) (.tmp 8) rfl w.heap.size 31 (nums .u8 q) (nums .u8 zero32) (by simp [nums, hqA.out]) rfl rfl hX2.out (info_hash q hqA.out) (u8_one q) ?_; intro w7 hX7 hg7 hs7))
  exact bodyPost_ret (results_cell_row rfl _ _ w.heap.size 31 (nums .u8 q).toArray (0, 0) _ rfl hX7 Try.underlying31 rfl (info_hash q hqA.out)) rfl ⟨rfl, hI2.out.grown hg7 (by intro k e; have := Option.some.inj e; exact ⟨by omega, by omega⟩), ⟨hg7.os.trans hg2.out.os, hg7.tape.trans hg2.out.tape, hg7.output.trans hg2.out.output, Nat.le_trans hg2.out.size hg7.size, fun k hk hne => (hg7.block k (by have := hg2.out.size; omega) (by intro e; have := Option.some.inj e; omega)).trans (hg2.out.block k hk hne)⟩⟩
end
end Go.Proofs.Ytlgfekllkahfaaa.Pack
/- The end of what is read; spends and coins read. -/
set_option linter.unusedVariables false
set_option linter.unusedSimpArgs false
namespace Go.Proofs.Ytlgfekllkahfaaa.Pack
open Go.RowKit Go.Proofs.YtlgfekllkahfaaaW.PrintWords Go.Proofs.YtlgfekllkahfaaaW.PrintMore Go.Proofs.Ytlgfekllkahfaaa Go.Proofs.Ytlgfekllkahfaaa.Bits Sha ArrK ShaW
open Go.Proofs.Ytlgfekllkahfaaa.InRound (op_at)
theorem list32 (h : List Int) (hl : h.length = 32) : ∃ x0 x1 x2 x3 x4 x5 x6 x7 x8 x9 x10 x11 x12 x13 x14 x15 x16 x17 x18 x19 x20 x21 x22 x23 x24 x25 x26 x27 x28 x29 x30 x31 : Int, h = [x0, x1, x2, x3, x4, x5, x6, x7, x8, x9, x10, x11, x12, x13, x14, x15, x16, x17, x18, x19, x20, x21, x22, x23, x24, x25, x26, x27, x28, x29, x30, x31] := by
  obtain _ | ⟨x0, h⟩ := h
  · simp at hl
  obtain _ | ⟨x1, h⟩ := h
  · simp at hl
  obtain _ | ⟨x2, h⟩ := h
  · simp at hl
  obtain _ | ⟨x3, h⟩ := h
  · simp at hl
  obtain _ | ⟨x4, h⟩ := h
  · simp at hl
  obtain _ | ⟨x5, h⟩ := h
  · simp at hl
  obtain _ | ⟨x6, h⟩ := h
  · simp at hl
  obtain _ | ⟨x7, h⟩ := h
  · simp at hl
  obtain _ | ⟨x8, h⟩ := h
  · simp at hl
  obtain _ | ⟨x9, h⟩ := h
  · simp at hl
  obtain _ | ⟨x10, h⟩ := h
  · simp at hl
  obtain _ | ⟨x11, h⟩ := h
  · simp at hl
  obtain _ | ⟨x12, h⟩ := h
  · simp at hl
  obtain _ | ⟨x13, h⟩ := h
  · simp at hl
  obtain _ | ⟨x14, h⟩ := h
  · simp at hl
  obtain _ | ⟨x15, h⟩ := h
  · simp at hl
  obtain _ | ⟨x16, h⟩ := h
  · simp at hl
  obtain _ | ⟨x17, h⟩ := h
  · simp at hl
  obtain _ | ⟨x18, h⟩ := h
  · simp at hl
  obtain _ | ⟨x19, h⟩ := h
  · simp at hl
  obtain _ | ⟨x20, h⟩ := h
  · simp at hl
  obtain _ | ⟨x21, h⟩ := h
  · simp at hl
  obtain _ | ⟨x22, h⟩ := h
  · simp at hl
  obtain _ | ⟨x23, h⟩ := h
  · simp at hl
  obtain _ | ⟨x24, h⟩ := h
  · simp at hl
  obtain _ | ⟨x25, h⟩ := h
  · simp at hl
  obtain _ | ⟨x26, h⟩ := h
  · simp at hl
  obtain _ | ⟨x27, h⟩ := h
  · simp at hl
  obtain _ | ⟨x28, h⟩ := h
  · simp at hl
  obtain _ | ⟨x29, h⟩ := h
  · simp at hl
  obtain _ | ⟨x30, h⟩ := h
  · simp at hl
  obtain _ | ⟨x31, h⟩ := h
  · simp at hl
  obtain _ | ⟨y, h⟩ := h
  · exact ⟨x0, x1, x2, x3, x4, x5, x6, x7, x8, x9, x10, x11, x12, x13, x14, x15, x16, x17, x18, x19, x20, x21, x22, x23, x24, x25, x26, x27, x28, x29, x30, x31, rfl⟩
  · simp at hl
set_option maxRecDepth 100000 in
theorem built_point (h : List Int) (n : Int) (hl : h.length = 32) : Try.prog.built 33 [(0, hv h), (1, .int .i64 n)] = some (nums .u8 h ++ [Value.int .i64 n]).toArray := by
  obtain ⟨x0, x1, x2, x3, x4, x5, x6, x7, x8, x9, x10, x11, x12, x13, x14, x15, x16, x17, x18, x19, x20, x21, x22, x23, x24, x25, x26, x27, x28, x29, x30, x31, rfl⟩ := list32 h hl
  kernel_rfl
set_option maxRecDepth 100000 in
theorem built_spend (h : List Int) (n : Int) (hl : h.length = 32) : Try.prog.built 36 [(0, .agg (nums .u8 h ++ [Value.int .i64 n]).toArray)] = some (spc ⟨h, n, ByteArray.empty, 0⟩).toArray := by
  obtain ⟨x0, x1, x2, x3, x4, x5, x6, x7, x8, x9, x10, x11, x12, x13, x14, x15, x16, x17, x18, x19, x20, x21, x22, x23, x24, x25, x26, x27, x28, x29, x30, x31, rfl⟩ := list32 h hl
  kernel_rfl
theorem wpList_built {ops : Array Oper} {rest : List Oper} {op : Oper} {a : Act} {w : World} {Q : Exit → Act → World → Prop} (hg : op.guard = none) (t : TypeId) (pl : List (Nat × Operand)) (ho : op.op = .build t pl.toArray) (cells : Array Value)
    (hb : Try.prog.built t (pl.map fun (i, x) => (i, a.eval x)) = some cells) (h : wpList Try.prog ops Q rest (a.put op.dst (.agg cells)) w) : wpList Try.prog ops Q (op :: rest) a w := by
  have e : (pl.toArray.map fun (i, x) => (i, a.eval x)).toList = pl.map fun (i, x) => (i, a.eval x) := by simp
  exact wpList_build hg t pl.toArray ho (by rw [e, hb]; rfl) (by rw [e, hb]; exact h)
/-- a whole value, laid over cells as many -/
theorem fill_one_ {place : Nat → Option (Nat × Nat)} {cells vs : Array Value} {n : Nat} (hp : place 0 = some (0, n)) (hn : vs.size = n) (hc : cells.size = n) : Instr.fill place cells [(0, .agg vs)] = some vs := by
  have e : ∀ (l : List Value) (k : Nat) (cs : Array Value), k + l.length = cs.size → ((l.zipIdx k).foldl (fun cs (p : Value × Nat) => cs.setIfInBounds (0 + p.2) p.1) cs).toList = cs.toList.take k ++ l := by
    intro l
    induction l with
    | nil => intro k cs hk; simp at hk; rw [hk, List.append_nil, List.take_of_length_le (by simp)]; rfl
    | cons v r ih =>
      intro k cs hk
      simp only [List.zipIdx_cons, List.foldl_cons]
      rw [ih (k + 1) _ (by simp at hk ⊢; omega)]
      simp only [Nat.zero_add, Array.toList_setIfInBounds]
      have hlt : k < cs.toList.length := by simp at hk ⊢; omega
      rw [List.take_succ_eq_append_getElem (by rw [List.length_set]; exact hlt), List.take_set_of_le (Nat.le_refl _), List.getElem_set_self]
      simp
  have hcl : (Value.agg vs).cells = vs := rfl
  simp only [Instr.fill, hp, hcl, hn, ne_eq, not_true_eq_false, decide_false, Bool.false_or, Nat.zero_add]
  rw [if_neg (by simp; omega)]
  congr 1
  apply Array.toList_inj.1
  have h := e vs.toList 0 cells (by simp; omega)
  rw [List.take_zero, List.nil_append] at h
  rw [← Array.foldl_toList, Array.toList_zipIdx]
  simpa using h
/-- a slice literal of one whole value -/
theorem run_slice_one (w : World) (t e : TypeId) (vs : List Value) (z : Value) (n b : Nat) (hl : vs.length = n) (hu : Try.prog.underlying t = some (.slice e)) (hi : (Try.prog.info? e).map (fun i => (i.zero, i.size, i.bytes)) = some (some z, n, b)) (hz : z.cells.size = n) (hn0 : 0 < n) (hn : n ≤ 100) :
    (Instr.buildSlice t 1 #[(0, .agg vs.toArray)]).run Try.prog w = .ok (.slice (some ⟨w.heap.size, 0, none⟩) 1 1) (w.alloc (.cells vs.toArray e)) := by
  cases hq : Try.prog.info? e with
  | none => simp [hq] at hi
  | some i =>
    simp only [hq, Option.map_some, Option.some.injEq, Prod.mk.injEq] at hi
    obtain ⟨h1, h2, h3⟩ := hi
    refine run_buildSlice w t e 1 _ _ i z hu hq h1 (by rw [h2]; simp only [Nat.reducePow]; omega) (by rw [h2]; omega) ?_
    exact fill_one_ (n := n) (by rw [h2, Nat.zero_mul]) (by simp [hl]) (by rw [h2]; simp [hz])
theorem wpList_slice_one {ops : Array Oper} {rest : List Oper} {o : Oper} {a : Act} {w : World} {Q : Exit → Act → World → Prop} (hg : o.guard = none) (t e : TypeId) (x : Operand) (ho : o.op = .buildSlice t 1 #[(0, x)]) (vs : List Value) (z : Value) (n b : Nat) (hx : a.eval x = .agg vs.toArray) (hl : vs.length = n)
    (hu : Try.prog.underlying t = some (.slice e)) (hi : (Try.prog.info? e).map (fun i => (i.zero, i.size, i.bytes)) = some (some z, n, b)) (hz : z.cells.size = n) (hn0 : 0 < n) (hn : n ≤ 100)
    (hk : wpList Try.prog ops Q rest (a.put o.dst (.slice (some ⟨w.heap.size, 0, none⟩) 1 1)) (w.alloc (.cells vs.toArray e))) : wpList Try.prog ops Q (o :: rest) a w :=
  wpList_plain hg fun K hK => by
    have hp : (#[(0, x)] : Array (Nat × Operand)).map (fun (i, y) => (i, a.eval y)) = #[(0, .agg vs.toArray)] := by simp [hx]
    unfold Oper.wp execOp
    simp only [ho, hp, Sem.run_bind, run_slice_one w t e vs z n b hl hu hi hz hn0 hn, Result.andThen_ok]
    exact hK _ _ hk
theorem spc_set33 (h : List Int) (n : Int) (k k' : ByteArray) (s : Int) (hl : h.length = 32) : (spc ⟨h, n, k, s⟩).set 33 (.string k') = spc ⟨h, n, k', s⟩ := by
  unfold spc; rw [List.set_append_right _ _ (by simp [nums, hl])]; simp [nums, hl]
theorem spc_set34 (h : List Int) (n : Int) (k : ByteArray) (s s' : Int) (hl : h.length = 32) : (spc ⟨h, n, k, s⟩).set 34 (.int .u64 s') = spc ⟨h, n, k, s'⟩ := by
  unfold spc; rw [List.set_append_right _ _ (by simp [nums, hl])]; simp [nums, hl]
/-- was all read? -/
def rdEnd : Rd → Option Int
  | some [] => none
  | _ => some 2
def rdList {α : Type} (f : Rd → α × Rd) : Nat → Rd → List α × Rd
  | 0, r => ([], r)
  | k + 1, r => ((rdList f k r).1 ++ [(f (rdList f k r).2).1], (f (rdList f k r).2).2)
theorem rdList_len {α : Type} (f : Rd → α × Rd) : ∀ (k : Nat) (r : Rd), (rdList f k r).1.length = k
  | 0, r => rfl
  | k + 1, r => by rw [rdList]; simp [rdList_len f k r]
def rdSpend (r : Rd) : Sp × Rd :=
  (⟨(rdHash r).1, (rdNum 4 (rdHash r).2).1, strOfNums (rdText 32 (rdNum 4 (rdHash r).2).2).1, (rdNum 8 (rdText 32 (rdNum 4 (rdHash r).2).2).2).1⟩, (rdNum 8 (rdText 32 (rdNum 4 (rdHash r).2).2).2).2)
def rdCoin (r : Rd) : Co × Rd := (⟨IntKind.i64.wrap (rdNum 8 r).1, (rdNum 8 (rdNum 8 r).2).1⟩, (rdNum 8 (rdNum 8 r).2).2)
def rdSpends (r : Rd) : List Sp × Rd := rdList rdSpend (rdCount 8 r).1 (rdCount 8 r).2
def rdCoins (r : Rd) : List Co × Rd := rdList rdCoin (rdCount 8 r).1 (rdCount 8 r).2
/-- what is left are bytes -/
def RB (r : Rd) : Prop := ∀ l, r = some l → Bytes l
theorem rb_next {n : Nat} {r : Rd} (h : RB r) : RB (rdNext n r).2 := (next_bytes h).2
theorem rb_num {n : Nat} {r : Rd} (h : RB r) : RB (rdNum n r).2 := rb_next h
theorem rb_none : RB none := fun _ h => by cases h
theorem rb_cnt {r : Rd} (h : RB r) : RB (rdCnt r).2 := by
  unfold rdCnt
  split
  · show RB (if _ then _ else _)
    split
    · exact rb_num (rb_num h)
    · exact rb_none
  · exact rb_num h
theorem rb_count {most : Nat} {r : Rd} (h : RB r) : RB (rdCount most r).2 := by
  unfold rdCount
  split
  · exact rb_none
  · exact rb_cnt h
theorem rb_text {most : Nat} {r : Rd} (h : RB r) : RB (rdText most r).2 := rb_next (rb_count h)
theorem rb_hash {r : Rd} (h : RB r) : RB (rdHash r).2 := rb_next h
theorem rb_list {α : Type} {f : Rd → α × Rd} (hf : ∀ r, RB r → RB (f r).2) : ∀ (k : Nat) {r : Rd}, RB r → RB (rdList f k r).2
  | 0, _, h => h
  | k + 1, _, h => hf _ (rb_list hf k h)
theorem rb_spend (r : Rd) (h : RB r) : RB (rdSpend r).2 := rb_num (rb_text (rb_num (rb_hash h)))
theorem rb_coin (r : Rd) (h : RB r) : RB (rdCoin r).2 := rb_num (rb_num h)
theorem hash_ok {r : Rd} (h : RB r) : (rdHash r).1.length = 32 ∧ Bytes (rdHash r).1 := by
  unfold rdHash
  refine ⟨?_, ?_⟩
  · show (if _ then _ else _ : List Int).length = 32
    split
    · assumption
    · rfl
  · show Bytes (if _ then _ else _)
    split
    · exact (next_bytes h).1
    · intro x hx; simp [zero32] at hx; omega
theorem count_le (most : Nat) (r : Rd) : (rdCount most r).1 ≤ most := by
  unfold rdCount
  split
  · exact Nat.zero_le _
  · show (rdCnt r).1.toNat ≤ most; omega
theorem text_len (most : Nat) (r : Rd) : (rdText most r).1.length ≤ most := Nat.le_trans (next_len _ _) (count_le _ _)
theorem spend_ok {r : Rd} (h : RB r) : SpO (rdSpend r).1 := by
  have h1 := hash_ok h
  have h2 := num_bound (n := 8) (rb_text (most := 32) (rb_num (n := 4) (rb_hash h)))
  refine ⟨h1.1, h1.2, h2.1, h2.2, ?_⟩
  show (strOfNums _).size ≤ _
  rw [strOfNums_size]
  exact Nat.le_trans (text_len 32 _) (by decide)
theorem coin_ok {r : Rd} (h : RB r) : CoOk (rdCoin r).1 := num_bound (n := 8) (rb_num (n := 8) h)
section
variable {N P : Nat} {w w' : World} {r : Rd}
set_option maxRecDepth 100000 in
set_option maxHeartbeats 800000 in
theorem iend_calls (h : InH N w P r) : Calls Try.prog 40 #[.pointer (some ⟨P, 0, none⟩)] w fun e w' => e = .returned (Go.Proofs.Ytlgfekllkahfaaa.Q.errW (rdEnd r)) ∧ w = w' := by
  have hP : ∀ W : World, (Go.binOp BinOp.eql 67 (.pointer (some ⟨P, 0, none⟩)) (.pointer none)).run Try.prog W = Result.ok (.bool false) W := fun W => by go_simp
  cases r with
  | none =>
    have g1 := h.2.get 1 _ rfl
    clear h
    go_enter Try.func40, Try.ntmps40
    go_wp2
    go_ret
    exact ⟨rfl, rfl⟩
  | some l =>
    obtain ⟨hN, hbt, A, c, hb, hc, hF⟩ := h
    have g0 := hb.get 0 _ rfl
    have g1 := hb.get 1 _ rfl
    clear hb hF hbt
    cases l with
    | nil =>
      go_enter Try.func40, Try.ntmps40
      go_wp2
      go_ret
      exact ⟨rfl, rfl⟩
    | cons x l =>
      have p0 : (0 : Int) < (((x :: l).length : Nat) : Int) := by simp; try omega
      generalize hk : (x :: l).length = k at *
      have hr : rdEnd (some (x :: l)) = some 2 := rfl
      rw [hr]
      clear hk hr
      go_enter Try.func40, Try.ntmps40
      go_wp2
      go_ret
      exact ⟨rfl, rfl⟩
theorem R_over_P {α : Type} {d : Kd α} {e base : Nat} {ok : Nat → Prop} {W W1 : World} {v : Value} {l : List α} (hR : Kd.R d e W base ok v l) (hP : P < base) (hg : W.grownBy W1 (some P)) : Kd.R d e W1 base ok v l :=
  Kd.R_mono (Kd.R_grown (Kd.R_bound hR) hg (fun k hk e => by have := hk.2.1; have := Option.some.inj e; omega)) (fun _ hk => hk.1)
theorem R_elders {α : Type} {d : Kd α} {e base : Nat} {ok : Nat → Prop} {W : World} {v : Value} {l : List α} (hR : Kd.R d e W base ok v l) : Kd.R d e W base (fun k => k ≠ W.heap.size) v l :=
  Kd.R_mono (Kd.R_bound hR) (fun k hk => by have := hk.2.2.1; omega)
theorem grown_trans2 {w1 w2 : World} {S : Nat} (h : w.grownBy w1 (some P)) (h2 : w1.grownBy w2 (some S)) (hS : w.heap.size ≤ S) : w.grownBy w2 (some P) :=
  ⟨h2.os.trans h.os, h2.tape.trans h.tape, h2.output.trans h.output, Nat.le_trans h.size h2.size, fun k hk hne => (h2.block k (by have := h.size; omega) (by intro e; have := Option.some.inj e; omega)).trans (h.block k hk hne)⟩
theorem grown_trans3 {w1 w2 : World} {row : Option Nat} (h : w.grownBy w1 (some P)) (h2 : w1.grownBy w2 row) (hS : ∀ k, row = some k → w.heap.size ≤ k) : w.grownBy w2 (some P) :=
  ⟨h2.os.trans h.os, h2.tape.trans h.tape, h2.output.trans h.output, Nat.le_trans h.size h2.size, fun k hk hne => (h2.block k (by have := h.size; omega) (by intro e; have := hS k e.symm; omega)).trans (h.block k hk hne)⟩
theorem spend_row {α : Type} {d : Kd α} {e base : Nat} {ok : Nat → Prop} {W : World} {v : Value} {l : List α} (hR : Kd.R d e W base ok v l) (hP : P < base) (hN : N ≤ P) : ∀ k, v.ownBlock = some k → N ≤ k ∧ k ≠ P := fun k hk => by
  have := Kd.R_base hR k hk
  exact ⟨by omega, by omega⟩
set_option maxRecDepth 100000 in
set_option maxHeartbeats 1600000 in
theorem spends_calls (h : InH N w P r) : Calls Try.prog 32 #[.pointer (some ⟨P, 0, none⟩)] w fun e w' => ∃ v, e = .returned v ∧ RSp w.heap.size w' v (rdSpends r).1 ∧ InH N w' P (rdSpends r).2 ∧ w.grownBy w' (some P) := by
  have hrb : RB r := h.bytes
  have hPlt := h.lt
  have hNP := h.le
  have hcA := Aside0.mk (show Calls Try.prog 51 #[.pointer (some ⟨P, 0, none⟩), .int .i64 8] w fun e w' => e = .returned (.int .i64 ((rdCount 8 r).1 : Int)) ∧ InH N w' P (rdCount 8 r).2 ∧ w.grownBy w' (some P) from icount_calls 8 (by decide) h)
  have hle := count_le 8 r
  have hrb1 := rb_count (most := 8) hrb
  unfold rdSpends
  clear h hrb
  generalize rdCount 8 r = z at *
  obtain ⟨n, r1⟩ := z
  simp only at hcA hle hrb1 ⊢
  go_enter Try.func32, Try.ntmps32
  go_wp2_with (go_at_call 51; (with_reducible refine hcA.out.mono ?_); rintro e w2 ⟨rfl, hI, hg⟩; have hI2A := Aside0.mk hI; have hg2A := Aside0.mk hg; clear hI hg)
  go_loopw [7, 3] (fun i u wr => ∃ k : Nat, k ≤ n ∧ i = .int .i64 (k : Int) ∧ RSp w.heap.size wr u (rdList rdSpend k r1).1 ∧ InH N wr P (rdList rdSpend k r1).2 ∧ w.grownBy wr (some P)) (fun i _ _ => n - (intOf i).toNat)
  case atStart => exact ⟨0, by omega, rfl, Kd.R_nil _ _ _ _ _, hI2A.out, hg2A.out⟩
  case round =>
    obtain ⟨k, hk, rfl, hR, hI, hg⟩ := hrel
    by_cases hlt : k < n
    · have p1 : (k : Int) < (n : Int) := by omega
      have e2 : IntKind.i64.wrap ((k : Int) + 1) = (k : Int) + 1 := IntWalk.i64_in _ (by omega)
      have hll := rdList_len rdSpend k r1
      have hrk : RB (rdList rdSpend k r1).2 := rb_list rb_spend k hrb1
      have hso := spend_ok hrk
      have hstep : rdList rdSpend (k + 1) r1 = ((rdList rdSpend k r1).1 ++ [(rdSpend (rdList rdSpend k r1).2).1], (rdSpend (rdList rdSpend k r1).2).2) := rfl
      generalize hrl : rdList rdSpend k r1 = y at *
      obtain ⟨l, rk⟩ := y
      have hsp : rdSpend rk = (⟨(rdHash rk).1, (rdNum 4 (rdHash rk).2).1, strOfNums (rdText 32 (rdNum 4 (rdHash rk).2).2).1, (rdNum 8 (rdText 32 (rdNum 4 (rdHash rk).2).2).2).1⟩, (rdNum 8 (rdText 32 (rdNum 4 (rdHash rk).2).2).2).2) := rfl
      simp only at hll hrk hso hstep hR hI
      rw [hsp] at hso hstep
      clear hsp
      have cH := Aside0.mk (fun W (h : InH N W P rk) => ihash_calls h)
      have cM := Aside0.mk (fun W (h : InH N W P (rdHash rk).2) => inum_at 4 4 rfl (.inr (.inr (.inl rfl))) h)
      have cT := Aside0.mk (fun W (h : InH N W P (rdNum 4 (rdHash rk).2).2) => (show Calls Try.prog 53 #[.pointer (some ⟨P, 0, none⟩), .int .i64 32] W fun e w' => e = .returned (.string (strOfNums (rdText 32 (rdNum 4 (rdHash rk).2).2).1)) ∧ InH N w' P (rdText 32 (rdNum 4 (rdHash rk).2).2).2 ∧ W.grownBy w' (some P) from itext_calls 32 (by decide) h))
      have cS := Aside0.mk (fun W (h : InH N W P (rdText 32 (rdNum 4 (rdHash rk).2).2).2) => inum_at 8 8 rfl (.inr (.inr (.inr rfl))) h)
      have hh := (hash_ok hrk).1
      have hm := num_bound (n := 4) (rb_hash hrk)
      generalize rdHash rk = zh at *
      obtain ⟨hd, rh⟩ := zh
      simp only at cH cM cT cS hh hm hso hstep
      generalize rdNum 4 rh = zm at *
      obtain ⟨m, rm⟩ := zm
      simp only at cM cT cS hm hso hstep
      generalize rdText 32 rm = zt at *
      obtain ⟨tx, rt⟩ := zt
      simp only at cT cS hso hstep
      generalize rdNum 8 rt = zs at *
      obtain ⟨sl, rs⟩ := zs
      simp only at cS hso hstep
      have e4 : IntKind.i64.wrap m = m := IntWalk.i64_in _ (by omega)
      generalize strOfNums tx = key at *
      have hstepA := Aside0.mk hstep
      clear hstep
      have hRA := Aside0.mk hR; have hIA := Aside0.mk hI; have hgA := Aside0.mk hg; have hllA := Aside0.mk hll; have hsoA := Aside0.mk hso; have hhA := Aside0.mk hh
      have hz0 : (spc zsp).length = (spc ⟨hd, m, ByteArray.empty, 0⟩).length := by rw [spc_length zsp (by rfl), spc_length ⟨hd, m, ByteArray.empty, 0⟩ hh]
      have hz0A := Aside0.mk hz0
      have hsl := spc_length ⟨hd, m, key, sl⟩ hh
      clear hR hI hg hll hso hrk hrb1 hm hz0 hh
      go_wp2_with (first | (go_at_call 52; (with_reducible refine (cH.out _ hIA.out).mono ?_); rintro e w3 ⟨rfl, hI, hg⟩; have hI3A := Aside0.mk hI; have hR3A := Aside0.mk (R_over_P hRA.out hPlt hg); have hg3A := Aside0.mk (grown_trans hgA.out hg); clear hI hg) | (go_at_call 34; (with_reducible refine (cM.out _ hI3A.out).mono ?_); rintro e w4 ⟨rfl, hI, hg⟩; have hI4A := Aside0.mk hI; have hR4A := Aside0.mk (R_elders (R_over_P hR3A.out hPlt hg)); have hg4A := Aside0.mk (grown_trans hg3A.out hg); clear hI hg) | ((with_reducible refine gate_dst (N := 13) rfl ?_); (refine Kd.event_run (v := .int .i64 m) (w1 := w4) rfl ?hr ?_; (case hr => first | (go_simp; done) | (go_simp; rfl)); refine wpList_built rfl 33 [(0, .tmp 10), (1, .tmp 13)] rfl (nums .u8 hd ++ [Value.int .i64 m]).toArray (built_point hd m hhA.out) ?_; refine wpList_built rfl 36 [(0, .tmp 14)] rfl (spc ⟨hd, m, ByteArray.empty, 0⟩).toArray (built_spend hd m hhA.out) ?_)) | ((with_reducible refine gate_dst (N := 4) rfl ?_); (refine wpList_new_put rfl (N := 4) rfl rfl 36 (.tmp 15) rfl (spc ⟨hd, m, ByteArray.empty, 0⟩) (spc zsp) hz0A.out ?hr rfl rfl (info_spend _ hhA.out) (spc_one _) ?_; (case hr => first | (go_simp; done) | (go_simp; rfl)); intro w5 hX5 hb5 hs5; have hX5A := Aside0.mk hX5; have hI5A := Aside0.mk (hI4A.out.below hb5); have hR5A := Aside0.mk (Kd.R_below hR4A.out hb5); have hg5A := Aside0.mk (grown_trans hg4A.out (grown_of_below hb5 _)); have hS5 := hI4A.out.lt; have hS6 := hg4A.out.size; clear hX5 hb5 hs5)) | (go_at_call 53; (with_reducible refine (cT.out _ hI5A.out).mono ?_); rintro e w6 ⟨rfl, hI, hg⟩; have hX6 := hX5A.out.grown hg (by intro e; have := Option.some.inj e; omega); have g33 := hX6.get 33 _ (spc_key _ hhA.out); have f33 := hX6.fz 33; have hI7A := Aside0.mk (hI.grown (grown_set w6 w4.heap.size 33 (.string key)) (by intro k e; have := Option.some.inj e; exact ⟨by omega, by omega⟩)); have hR6 := R_over_P hR5A.out hPlt hg; have hR7A := Aside0.mk (Kd.R_far (p := ⟨w4.heap.size, 33, none⟩) hR6 (fun _ h => h) (.string key)); have hX7 := hX6.set 33 (.string key); rw [spc_set33 _ _ _ _ _ hhA.out] at hX7; have hX7A := Aside0.mk hX7; have hg7A := Aside0.mk (show w.grownBy (w6.setCell ⟨w4.heap.size, 33, none⟩ (.string key)) (some P) from grown_trans2 (grown_trans hg5A.out hg) (grown_set w6 w4.heap.size 33 (.string key)) hS6); clear hI hg hX6 hR6 hX7) | (go_at_call 34; (with_reducible refine (cS.out _ hI7A.out).mono ?_); rintro e w8 ⟨rfl, hI, hg⟩; clear g33 f33; have hX8 := hX7A.out.grown hg (by intro e; have := Option.some.inj e; omega); have g34 := hX8.get 34 _ (spc_seal _ hhA.out); have f34 := hX8.fz 34; have hI9A := Aside0.mk (hI.grown (grown_set w8 w4.heap.size 34 (.int .u64 sl)) (by intro k e; have := Option.some.inj e; exact ⟨by omega, by omega⟩)); have hR8 := R_over_P hR7A.out hPlt hg; have hR9A := Aside0.mk (Kd.R_far (p := ⟨w4.heap.size, 34, none⟩) hR8 (fun _ h => h) (.int .u64 sl)); have hX9 := hX8.set 34 (.int .u64 sl); rw [spc_set34 _ _ _ _ _ hhA.out] at hX9; have hX9A := Aside0.mk hX9; have hL9A := Aside0.mk hX9.lt; have hg9A := Aside0.mk (show w.grownBy (w8.setCell ⟨w4.heap.size, 34, none⟩ (.int .u64 sl)) (some P) from grown_trans2 (grown_trans hg7A.out hg) (grown_set w8 w4.heap.size 34 (.int .u64 sl)) hS6); clear hI hg hX8 hR8 hX9) | ((with_reducible refine gate_dst (N := 23) rfl ?_); (clear g34 f34; refine wpList_load_blk rfl 36 (.tmp 4) rfl w4.heap.size 36 rfl (spc ⟨hd, m, key, sl⟩) _ hX9A.out Try.underlying36 rfl (info_spend _ hhA.out) ?_)) | ((with_reducible refine gate_dst (N := 24) rfl ?_); (refine wpList_slice_one rfl 22 36 (.tmp 23) rfl (spc ⟨hd, m, key, sl⟩) (spv zsp) 35 64 rfl (spc_length _ hhA.out) Try.underlying22 info_sp rfl (by decide) (by decide) ?_)) | ((with_reducible refine gate_dst (N := 25) rfl ?_); at_builtin; (refine Kd.R_append kSp (w0 := w8.setCell ⟨w4.heap.size, 34, none⟩ (.int .u64 sl)) (W := w8.setCell ⟨w4.heap.size, 34, none⟩ (.int .u64 sl)) w.heap.size rfl (.tmp 22) (.tmp 24) 22 36 (spv zsp) 64 rfl Try.underlying22 info_sp rfl (by decide) (by omega) _ l ⟨hd, m, key, sl⟩ (spc ⟨hd, m, key, sl⟩) (fun k => k ≠ w4.heap.size) (fun _ => False) rfl (by rw [show (w8.setCell ⟨w4.heap.size, 34, none⟩ (.int .u64 sl)).heap.size = w8.heap.size by simp [World.setCell]]; rfl) ⟨hsoA.out, rfl⟩ (fun _ hk => hk.elim) (fun k hk => by have := hL9A.out; omega) hR9A.out (Below.refl _ _) hg9A.out.size (by have := hllA.out; omega) ?_; intro v9 w10 hR10 hb10 hg10 _; have hR10A := Aside0.mk (Kd.R_mono hR10 (fun _ _ => trivial)); have hI10A := Aside0.mk (hI9A.out.grown hg10 (spend_row hR9A.out hPlt hNP)); have hg10A := Aside0.mk (grown_trans3 hg9A.out hg10 (Kd.R_base hR9A.out)); clear hR10 hb10 hg10)))
      go_roundw
      · exact ⟨k + 1, by omega, by go_num, by rw [hstepA.out]; exact hR10A.out, by rw [hstepA.out]; exact hI10A.out, hg10A.out⟩
      · simp [intOf]; omega
    · obtain rfl : k = n := by omega
      have p1 : ¬ (k : Int) < (k : Int) := by omega
      have hRA := Aside0.mk hR; have hIA := Aside0.mk hI; have hgA := Aside0.mk hg
      clear hR hI hg
      go_wp2_with fail
      go_ret
      exact ⟨_, rfl, hRA.out, hIA.out, hgA.out⟩
set_option maxRecDepth 100000 in
set_option maxHeartbeats 1600000 in
theorem coins_calls (h : InH N w P r) : Calls Try.prog 33 #[.pointer (some ⟨P, 0, none⟩)] w fun e w' => ∃ v, e = .returned v ∧ RCo w.heap.size w' v (rdCoins r).1 ∧ InH N w' P (rdCoins r).2 ∧ w.grownBy w' (some P) := by
  have hrb : RB r := h.bytes
  have hPlt := h.lt
  have hNP := h.le
  have hcA := Aside0.mk (show Calls Try.prog 51 #[.pointer (some ⟨P, 0, none⟩), .int .i64 8] w fun e w' => e = .returned (.int .i64 ((rdCount 8 r).1 : Int)) ∧ InH N w' P (rdCount 8 r).2 ∧ w.grownBy w' (some P) from icount_calls 8 (by decide) h)
  have hle := count_le 8 r
  have hrb1 := rb_count (most := 8) hrb
  unfold rdCoins
  clear h hrb
  generalize rdCount 8 r = z at *
  obtain ⟨n, r1⟩ := z
  simp only at hcA hle hrb1 ⊢
  go_enter Try.func33, Try.ntmps33
  go_wp2_with (go_at_call 51; (with_reducible refine hcA.out.mono ?_); rintro e w2 ⟨rfl, hI, hg⟩; have hI2A := Aside0.mk hI; have hg2A := Aside0.mk hg; clear hI hg)
  go_loopw [7, 3] (fun i u wr => ∃ k : Nat, k ≤ n ∧ i = .int .i64 (k : Int) ∧ RCo w.heap.size wr u (rdList rdCoin k r1).1 ∧ InH N wr P (rdList rdCoin k r1).2 ∧ w.grownBy wr (some P)) (fun i _ _ => n - (intOf i).toNat)
  case atStart => exact ⟨0, by omega, rfl, Kd.R_nil _ _ _ _ _, hI2A.out, hg2A.out⟩
  case round =>
    obtain ⟨k, hk, rfl, hR, hI, hg⟩ := hrel
    by_cases hlt : k < n
    · have p1 : (k : Int) < (n : Int) := by omega
      have e2 : IntKind.i64.wrap ((k : Int) + 1) = (k : Int) + 1 := IntWalk.i64_in _ (by omega)
      have hll := rdList_len rdCoin k r1
      have hrk : RB (rdList rdCoin k r1).2 := rb_list rb_coin k hrb1
      have hso := coin_ok hrk
      have hstep : rdList rdCoin (k + 1) r1 = ((rdList rdCoin k r1).1 ++ [(rdCoin (rdList rdCoin k r1).2).1], (rdCoin (rdList rdCoin k r1).2).2) := rfl
      generalize hrl : rdList rdCoin k r1 = y at *
      obtain ⟨l, rk⟩ := y
      have hsp : rdCoin rk = (⟨IntKind.i64.wrap (rdNum 8 rk).1, (rdNum 8 (rdNum 8 rk).2).1⟩, (rdNum 8 (rdNum 8 rk).2).2) := rfl
      simp only at hll hrk hso hstep hR hI
      rw [hsp] at hso hstep
      clear hsp
      have cM := Aside0.mk (fun W (h : InH N W P rk) => inum_at 8 8 rfl (.inr (.inr (.inr rfl))) h)
      have cS := Aside0.mk (fun W (h : InH N W P (rdNum 8 rk).2) => inum_at 8 8 rfl (.inr (.inr (.inr rfl))) h)
      generalize rdNum 8 rk = zm at *
      obtain ⟨m, rm⟩ := zm
      simp only at cM cS hso hstep
      generalize rdNum 8 rm = zs at *
      obtain ⟨sl, rs⟩ := zs
      simp only at cS hso hstep
      obtain ⟨q, hq⟩ : ∃ q, IntKind.i64.wrap m = q := ⟨_, rfl⟩
      rw [hq] at hso hstep
      have hsl : (coc ⟨q, sl⟩).length = 2 := rfl
      have hstepA := Aside0.mk hstep
      clear hstep
      have hRA := Aside0.mk hR; have hIA := Aside0.mk hI; have hgA := Aside0.mk hg; have hllA := Aside0.mk hll; have hsoA := Aside0.mk hso
      clear hR hI hg hll hso hrk hrb1
      go_wp2_with (first | (go_at_call 34; (first | ((with_reducible refine (cM.out _ hIA.out).mono ?_); rintro e w4 ⟨rfl, hI, hg⟩; have hI4A := Aside0.mk hI; have hR4A := Aside0.mk (R_elders (R_over_P hRA.out hPlt hg)); have hg4A := Aside0.mk (grown_trans hgA.out hg); clear hI hg cM hIA hRA hgA) | ((with_reducible refine (cS.out _ hI5A.out).mono ?_); rintro e w8 ⟨rfl, hI, hg⟩; have hX8 := hX5A.out.grown hg (by intro e; have := Option.some.inj e; omega); have g1 := hX8.get 1 _ rfl; have f1 := hX8.fz 1; have hI9A := Aside0.mk (hI.grown (grown_set w8 w4.heap.size 1 (.int .u64 sl)) (by intro k e; have := Option.some.inj e; exact ⟨by omega, by omega⟩)); have hR8 := R_over_P hR5A.out hPlt hg; have hR9A := Aside0.mk (Kd.R_far (p := ⟨w4.heap.size, 1, none⟩) hR8 (fun _ h => h) (.int .u64 sl)); have hX9 := hX8.set 1 (.int .u64 sl); have hX9A := Aside0.mk (show Blk _ w4.heap.size 38 (coc ⟨q, sl⟩) from hX9); have hL9A := Aside0.mk hX9.lt; have hg9A := Aside0.mk (show w.grownBy (w8.setCell ⟨w4.heap.size, 1, none⟩ (.int .u64 sl)) (some P) from grown_trans2 (grown_trans hg5A.out hg) (grown_set w8 w4.heap.size 1 (.int .u64 sl)) hS6); clear hI hg hX8 hR8 hX9))) | ((with_reducible refine gate_dst (N := 4) rfl ?_); (refine wpList_new_put rfl (N := 4) rfl rfl 38 (.tmp 12) rfl (coc ⟨q, 0⟩) (coc ⟨0, 0⟩) rfl ?hr rfl rfl (info_coin _) (coc_one _) ?_; (case hr => first | (go_simp; done) | (go_simp; rfl)); intro w5 hX5 hb5 hs5; have hX5A := Aside0.mk hX5; have hI5A := Aside0.mk (hI4A.out.below hb5); have hR5A := Aside0.mk (Kd.R_below hR4A.out hb5); have hg5A := Aside0.mk (grown_trans hg4A.out (grown_of_below hb5 _)); have hS5 := hI4A.out.lt; have hS6 := hg4A.out.size; clear hX5 hb5 hs5)) | ((with_reducible refine gate_dst (N := 17) rfl ?_); (clear g1 f1; refine wpList_load_blk rfl 38 (.tmp 4) rfl w4.heap.size 38 rfl (coc ⟨q, sl⟩) _ hX9A.out Try.underlying38 rfl (info_coin _) ?_)) | ((with_reducible refine gate_dst (N := 19) rfl ?_); at_builtin; (refine Kd.R_append kCo (w0 := w8.setCell ⟨w4.heap.size, 1, none⟩ (.int .u64 sl)) (W := w8.setCell ⟨w4.heap.size, 1, none⟩ (.int .u64 sl)) w.heap.size rfl (.tmp 16) (.tmp 18) 23 38 (cov ⟨0, 0⟩) 16 rfl Try.underlying23 info_co rfl (by decide) (by omega) _ l ⟨q, sl⟩ (coc ⟨q, sl⟩) (fun k => k ≠ w4.heap.size) (fun _ => False) rfl (by rw [show (w8.setCell ⟨w4.heap.size, 1, none⟩ (.int .u64 sl)).heap.size = w8.heap.size by simp [World.setCell]]; rfl) ⟨hsoA.out, rfl⟩ (fun _ hk => hk.elim) (fun k hk => by have := hL9A.out; omega) hR9A.out (Below.refl _ _) hg9A.out.size (by have := hllA.out; omega) ?_; intro v9 w10 hR10 hb10 hg10 _; have hR10A := Aside0.mk (Kd.R_mono hR10 (fun _ _ => trivial)); have hI10A := Aside0.mk (hI9A.out.grown hg10 (spend_row hR9A.out hPlt hNP)); have hg10A := Aside0.mk (grown_trans3 hg9A.out hg10 (Kd.R_base hR9A.out)); clear hR10 hb10 hg10)))
      go_roundw
      · exact ⟨k + 1, by omega, by go_num, by rw [hstepA.out]; exact hR10A.out, by rw [hstepA.out]; exact hI10A.out, hg10A.out⟩
      · simp [intOf]; omega
    · obtain rfl : k = n := by omega
      have p1 : ¬ (k : Int) < (k : Int) := by omega
      have hRA := Aside0.mk hR; have hIA := Aside0.mk hI; have hgA := Aside0.mk hg
      clear hR hI hg
      go_wp2_with fail
      go_ret
      exact ⟨_, rfl, hRA.out, hIA.out, hgA.out⟩
end
end Go.Proofs.Ytlgfekllkahfaaa.Pack
/- A transaction read. -/
set_option linter.unusedVariables false
set_option linter.unusedSimpArgs false
namespace Go.Proofs.Ytlgfekllkahfaaa.Pack
open Go.RowKit Go.Proofs.YtlgfekllkahfaaaW.PrintWords Go.Proofs.YtlgfekllkahfaaaW.PrintMore Go.Proofs.Ytlgfekllkahfaaa Go.Proofs.Ytlgfekllkahfaaa.Bits Sha ArrK ShaW
open Go.Proofs.Ytlgfekllkahfaaa.InRound (op_at)
theorem F_of_C8 {w : World} {A : Option Addr} {n : Nat} {xs : List Int} (h : Kd.C (Kd.int .u8) w A n xs) : Kd.F (Kd.int .u8) w (fun k => k < w.heap.size) A n xs := fun W' hW => ⟨h.1, h.2.1, fun hn => by
  obtain ⟨ad, e, hc⟩ := h.2.2 hn
  refine ⟨ad, e, fun j p hj => ?_⟩
  obtain ⟨c, h1, h2, h3⟩ := hc j p hj
  refine ⟨c, h1, h2, fun i u hu => ?_⟩
  have h4 := h3 i u hu
  have hlt := World.block_lt_of_cell? w _ h4
  have := hW _ hlt hlt
  simpa [World.cell?, this] using h4⟩
set_option maxRecDepth 100000 in
set_option maxHeartbeats 800000 in
theorem read_calls (w : World) (A : Option Addr) (c : Nat) (l : List Int) (hC : Kd.C (Kd.int .u8) w A l.length l) (hc : l.length ≤ c) (hb : Bytes l) (hl : l.length ≤ 1000000000) :
    Calls Try.prog 31 #[.slice A l.length c] w fun e w' => ∃ P, e = .returned (.pointer (some ⟨P, 0, none⟩)) ∧ w.heap.size ≤ P ∧ InH P w' P (some l) ∧ Below w.heap.size w w' := by
  have hcl := Aside0.mk (Go.Proofs.Ytlgfekllkahfaaa.V.slices_Clone_byte_byte.calls A c l l w hC hc (by
    unfold Go.Proofs.Ytlgfekllkahfaaa.V.slices_Clone_byte_byte.f
    rw [Option.bind_some, if_pos (by simp; omega)]; rfl))
  clear hC hc
  go_enter Try.func31, Try.ntmps31
  go_wp2_with (go_at_call 50; ((with_reducible refine hcl.out.mono ?_); rintro e w2 ⟨v, rfl, hR, hb2⟩; obtain ⟨A2, c2, rfl⟩ := Kd.R_slice hR; have hR2A := Aside0.mk hR; have hb2A := Aside0.mk hb2; clear hR hb2))
  go_ret
  obtain ⟨-, h1, h2⟩ := Kd.R_reads' hR2A.out
  exact ⟨w2.heap.size, rfl, hb2A.out.size, ⟨Nat.le_refl _, hb, A2, c2, Blk.new w2 92 [.slice A2 l.length c2, .bool false], h1, Kd.F_below (F_of_C8 h2) (below_alloc (Below.refl _ _) _)⟩, below_alloc hb2A.out _⟩
def far (s : Sp) : Bool := decide (s.n ≥ 8)
def oddc (c : Co) : Bool := !good c.value
theorem far_enters (args : Array Value) (w : World) : (callFunc 36 args).run Try.prog w = .ok (.enter 36 args) w := Go.Proofs.enters_of Try.func36 (by kernel_rfl) rfl args w
theorem oddc_enters (args : Array Value) (w : World) : (callFunc 38 args).run Try.prog w = .ok (.enter 38 args) w := Go.Proofs.enters_of Try.func38 (by kernel_rfl) rfl args w
set_option maxRecDepth 100000 in
set_option maxHeartbeats 800000 in
theorem far_calls (s : Sp) (hs : s.tx.length = 32) (W : World) : Calls Try.prog 36 #[spv s] W fun e w' => e = .returned (.bool (far s)) ∧ Below W.heap.size W w' := by
  obtain ⟨V, hV⟩ : ∃ V, V = W.alloc (.cells (spc s).toArray 36) := ⟨_, rfl⟩
  have hX : Blk V W.heap.size 36 (spc s) := by rw [hV]; exact Blk.new W _ _
  have hB : Below W.heap.size W V := by rw [hV]; exact below_alloc (Below.refl _ _) _
  have g32 := hX.get 32 _ (spc_n s hs)
  have hVA := Aside0.mk hV; have hBA := Aside0.mk hB
  clear hV hX hB
  unfold far
  generalize s.n = n at *
  go_enter Try.func36, Try.ntmps36
  go_wp2_with ((with_reducible refine gate_dst (N := 3) rfl ?_); rw [← hVA.out])
  go_ret
  exact ⟨rfl, hBA.out⟩
set_option maxRecDepth 100000 in
set_option maxHeartbeats 800000 in
theorem oddc_calls (s : Co) (W : World) : Calls Try.prog 38 #[cov s] W fun e w' => e = .returned (.bool (oddc s)) ∧ Below W.heap.size W w' := by
  obtain ⟨V, hV⟩ : ∃ V, V = W.alloc (.cells (coc s).toArray 38) := ⟨_, rfl⟩
  have hX : Blk V W.heap.size 38 (coc s) := by rw [hV]; exact Blk.new W _ _
  have hB : Below W.heap.size W V := by rw [hV]; exact below_alloc (Below.refl _ _) _
  have g0 := hX.get 0 _ rfl
  have hg := Aside0.mk (fun W => Go.Proofs.Ytlgfekllkahfaaa.Q.amount_Good.calls s.value (good s.value) W (good_f s.value))
  have hVA := Aside0.mk hV; have hBA := Aside0.mk hB
  clear hV hX hB
  unfold oddc
  generalize good s.value = b at *
  go_enter Try.func38, Try.ntmps38
  go_wp2_with (first | ((with_reducible refine gate_dst (N := 3) rfl ?_); rw [← hVA.out]) | (go_at_call 39; ((with_reducible refine (hg.out _).mono ?_); rintro e w2 ⟨rfl, hd⟩; have hdA := Aside0.mk (below_then hBA.out hBA.out.size hd.below); clear hd)))
  go_ret
  exact ⟨rfl, hdA.out⟩
end Go.Proofs.Ytlgfekllkahfaaa.Pack
/- tx.Read. -/
set_option linter.unusedVariables false
set_option linter.unusedSimpArgs false
namespace Go.Proofs.Ytlgfekllkahfaaa.Pack
open Go.RowKit Go.Proofs.YtlgfekllkahfaaaW.PrintWords Go.Proofs.YtlgfekllkahfaaaW.PrintMore Go.Proofs.Ytlgfekllkahfaaa Go.Proofs.Ytlgfekllkahfaaa.Bits Sha ArrK ShaW
open Go.Proofs.Ytlgfekllkahfaaa.InRound (op_at)
theorem rowS_ {base : Nat} {ok : Nat → Prop} {W : World} {A : Option Addr} {n c : Nat} {l : List Sp} (h : Kd.R kSp 36 W base ok (.slice A n c) l) : SpR0 W A l.length l := (Kd.R_reads' h).2.2
theorem rowC_ {base : Nat} {ok : Nat → Prop} {W : World} {A : Option Addr} {n c : Nat} {l : List Co} (h : Kd.R kCo 38 W base ok (.slice A n c) l) : CoR W A l.length l := (Kd.R_reads' h).2.2
theorem info_tx3_ (x y z : Value) : (Try.prog.info? 25).map (·.size) = some [x, y, z].length := by show _ = some 3; kernel_rfl
def rdFirm (l : List Int) : Int × Rd := rdNum 1 (rdCoins (rdSpends (some l)).2).2
def rdBad (l : List Int) : Bool := (rdEnd (rdFirm l).2).isSome || (decide (1 < (rdFirm l).1) || ((rdSpends (some l)).1.any far || (rdCoins (rdSpends (some l)).2).1.any oddc))
/-- the transaction of bytes -/
def rdTx (l : List Int) : Option Tr := if rdBad l = true then none else some ⟨(rdSpends (some l)).1, (rdCoins (rdSpends (some l)).2).1, (rdFirm l).1 == 1⟩
def ztx : Tr := ⟨[], [], false⟩
theorem rdList_ok {α : Type} {f : Rd → α × Rd} {p : α → Prop} (hf : ∀ r, RB r → RB (f r).2) (hp : ∀ r, RB r → p (f r).1) : ∀ (k : Nat) {r : Rd}, RB r → ∀ x ∈ (rdList f k r).1, p x
  | 0, _, _, x, hx => by simp [rdList] at hx
  | k + 1, r, h, x, hx => by
    rw [rdList] at hx
    rcases List.mem_append.1 hx with hx | hx
    · exact rdList_ok hf hp k h x hx
    · rw [List.mem_singleton] at hx; subst hx; exact hp _ (rb_list hf k h)
theorem below_P {b P : Nat} {w W W1 : World} (h : Below b w W) (hP : b ≤ P) (hb : b ≤ W.heap.size) (hg : W.grownBy W1 (some P)) : Below b w W1 := h.grown hg hb (fun k e => by have := Option.some.inj e; omega)
set_option maxRecDepth 100000 in
set_option maxHeartbeats 3200000 in
theorem txread_calls (w : World) (A : Option Addr) (c : Nat) (l : List Int) (hC : Kd.C (Kd.int .u8) w A l.length l) (hc : l.length ≤ c) (hb : Bytes l) (hl : l.length ≤ 1000000000) :
    Calls Try.prog 17 #[.slice A l.length c] w fun e w' => (∃ v1 v2, e = .returned (.tuple #[.agg #[v1, v2, .bool ((rdTx l).getD ztx).firm], Go.Proofs.Ytlgfekllkahfaaa.Q.errW (if rdBad l = true then some 2 else none)]) ∧ RSp w.heap.size w' v1 ((rdTx l).getD ztx).sp ∧ RCo w.heap.size w' v2 ((rdTx l).getD ztx).co) ∧ Below w.heap.size w w' := by
  have hrb0 : RB (some l) := fun m h => by cases h; exact hb
  have hls8 : (rdSpends (some l)).1.length ≤ 8 := by unfold rdSpends; rw [rdList_len]; exact count_le 8 _
  have hlc8 : (rdCoins (rdSpends (some l)).2).1.length ≤ 8 := by unfold rdCoins; rw [rdList_len]; exact count_le 8 _
  have hrb1 : RB (rdSpends (some l)).2 := rb_list rb_spend _ (rb_count hrb0)
  have hrb2 : RB (rdCoins (rdSpends (some l)).2).2 := rb_list rb_coin _ (rb_count hrb1)
  have hf := num_bound (n := 1) hrb2
  have hrd := Aside0.mk (fun W (hW : Below w.heap.size w W) => read_calls W A c l (Kd.C_below hC hW) hc hb hl)
  have hsp := Aside0.mk (fun W P (h : InH P W P (some l)) => spends_calls h)
  have hco := Aside0.mk (fun W P (h : InH P W P (rdSpends (some l)).2) => coins_calls h)
  have hnm := Aside0.mk (fun W P (h : InH P W P (rdCoins (rdSpends (some l)).2).2) => inum_at 1 1 rfl (.inl rfl) h)
  have hen := Aside0.mk (fun W P (h : InH P W P (rdFirm l).2) => iend_calls h)
  have hfc := Aside0.mk (fun W E k (h : SpR0 W E (rdSpends (some l)).1.length (rdSpends (some l)).1) => contains_calls W E k (rdSpends (some l)).1 36 #[] far_enters far h (by omega) (fun W' s hs hW' => by
    obtain ⟨j, hj⟩ := List.mem_iff_getElem?.1 hs
    obtain ⟨_, _, _, ⟨hok, -⟩, -, -⟩ := row_at h j s hj
    exact (far_calls s hok.1 W').mono fun e w' ⟨h1, h2⟩ => ⟨h1, below_then hW' hW'.size h2⟩))
  have hoc := Aside0.mk (fun W E k (h : CoR W E (rdCoins (rdSpends (some l)).2).1.length (rdCoins (rdSpends (some l)).2).1) => containsC_calls W E k (rdCoins (rdSpends (some l)).2).1 38 #[] oddc_enters oddc h (by omega) (fun W' s hs hW' => (oddc_calls s W').mono fun e w' ⟨h1, h2⟩ => ⟨h1, below_then hW' hW'.size h2⟩))
  unfold rdTx rdBad
  unfold rdFirm at hen ⊢
  clear hrb0 hrb1 hrb2 hC hb hc hl
  generalize rdSpends (some l) = z1 at *
  obtain ⟨ls, r1⟩ := z1
  simp only at hls8 hlc8 hf hsp hco hnm hen hfc hoc ⊢
  generalize rdCoins r1 = z2 at *
  obtain ⟨lc, r2⟩ := z2
  simp only at hlc8 hf hco hnm hen hoc ⊢
  generalize rdNum 1 r2 = z3 at *
  obtain ⟨f, r3⟩ := z3
  simp only at hf hnm hen ⊢
  generalize rdEnd r3 = en at *
  generalize ls.any far = bf at *
  generalize lc.any oddc = bo at *
  have e0 : Below w.heap.size w (w.alloc (.cells #[.slice none 0 0, .slice none 0 0, .bool false] 25)) := below_alloc (Below.refl _ _) _
  have eX : Blk (w.alloc (.cells #[.slice none 0 0, .slice none 0 0, .bool false] 25)) w.heap.size 25 [.slice none 0 0, .slice none 0 0, .bool false] := Blk.new w 25 [.slice none 0 0, .slice none 0 0, .bool false]
  have e0A := Aside0.mk e0
  have eXA := Aside0.mk eX
  clear e0 eX
  cases en with
  | some x =>
    simp only [Go.Proofs.Ytlgfekllkahfaaa.Q.errW] at hen
    simp only [Option.isSome, Bool.true_or, if_true, Option.getD]
    go_enter Try.func17, Try.ntmps17
    go_wp2_with (first | (go_at_call 31; ((with_reducible refine (hrd.out _ e0A.out).mono ?_); rintro e w2 ⟨P, rfl, hP, hI, hb⟩; have hPb : w.heap.size < P := (by have := hP; simp at this; omega); have hX2A := Aside0.mk (eXA.out.below hb); have hI2A := Aside0.mk hI; have hb2A := Aside0.mk (below_then e0A.out e0A.out.size hb); clear hI hb hP)) | (go_at_call 32; ((with_reducible refine (hsp.out _ _ hI2A.out).mono ?_); rintro e w3 ⟨v1, rfl, hR, hI, hg⟩; obtain ⟨E1, k1, rfl⟩ := Kd.R_slice hR; have hX3A := Aside0.mk (hX2A.out.grown hg (by intro e; have := Option.some.inj e; omega)); have hS3 := hI2A.out.lt; have hI3A := Aside0.mk hI; have hR3A := Aside0.mk hR; have hb3A := Aside0.mk (below_P hb2A.out (by omega) hb2A.out.size hg); clear hI hR hg)) | (go_at_call 33; ((with_reducible refine (hco.out _ _ hI3A.out).mono ?_); rintro e w4 ⟨v2, rfl, hR, hI, hg⟩; obtain ⟨E2, k2, rfl⟩ := Kd.R_slice hR; have hX4A := Aside0.mk (hX3A.out.grown hg (by intro e; have := Option.some.inj e; omega)); have hS4 := hI3A.out.lt; have hI4A := Aside0.mk hI; have hC4A := Aside0.mk hR; have hR4A := Aside0.mk (R_over_P hR3A.out hS3 hg); have hb4A := Aside0.mk (below_P hb3A.out (by omega) hb3A.out.size hg); clear hI hR hg)) | (go_at_call 34; (obtain ⟨W5, hW5⟩ : ∃ W5, W5 = w4.alloc (.cells #[.slice E1 ls.length k1, .slice E2 lc.length k2, .bool false] 25) := ⟨_, rfl⟩; rw [show w4.alloc (.cells #[.slice E1 ls.length k1, .slice E2 lc.length k2, .bool false] 25) = W5 from hW5.symm]; have hZ5 : Blk W5 w4.heap.size 25 [.slice E1 ls.length k1, .slice E2 lc.length k2, .bool false] := (by rw [hW5]; exact Blk.new w4 25 [.slice E1 ls.length k1, .slice E2 lc.length k2, .bool false]); have h45 : Below w4.heap.size w4 W5 := (by rw [hW5]; exact below_alloc (Below.refl _ _) _); have hS5 := hI4A.out.lt; have hX5 := hX4A.out.below h45; have hI5 := hI4A.out.below h45; have hR5 := Kd.R_below hR4A.out h45; have hC5 := Kd.R_below hC4A.out h45; have hb5 := below_then hb4A.out hb4A.out.size h45; clear hW5; (with_reducible refine (hnm.out _ _ hI5).mono ?_); rintro e w6 ⟨rfl, hI, hg⟩; have hZ6 := hZ5.grown hg (by intro e; have := Option.some.inj e; omega); have hX6 := hX5.grown hg (by intro e; have := Option.some.inj e; omega); have g2 := hZ6.get 2 _ rfl; have f2 := hZ6.fz 2; have hI7A := Aside0.mk (hI.grown (grown_set w6 w4.heap.size 2 (.bool (f == 1))) (by intro k e; have := Option.some.inj e; exact ⟨by omega, by omega⟩)); have hX7A := Aside0.mk (hX6.far (p := ⟨w4.heap.size, 2, none⟩) (by show w.heap.size ≠ w4.heap.size; omega) (.bool (f == 1))); have hR7A := Aside0.mk (Kd.R_set (R_over_P hR5 hS3 hg) hZ6 (by decide) 2 (.bool (f == 1))); have hC7A := Aside0.mk (Kd.R_set (R_over_P hC5 hS4 hg) hZ6 (by decide) 2 (.bool (f == 1))); have hZ7 : Blk (w6.setCell ⟨w4.heap.size, 2, none⟩ (.bool (f == 1))) w4.heap.size 25 [.slice E1 ls.length k1, .slice E2 lc.length k2, .bool (f == 1)] := hZ6.set 2 (.bool (f == 1)); have q0 := hZ7.get 0 _ rfl; have hZ7A := Aside0.mk hZ7; have hb7A := Aside0.mk ((below_P hb5 (by omega) hb5.size hg).setCell (p := ⟨w4.heap.size, 2, none⟩) (by show w.heap.size ≤ w4.heap.size; omega) (.bool (f == 1))); clear hI hg hX5 hI5 hR5 hC5 hb5 h45 hZ5 hZ6 hX6 hZ7)) | (go_at_call 35; ((with_reducible refine (hfc.out _ _ _ (rowS_ hR7A.out)).mono ?_); rintro e w8 ⟨rfl, hb⟩; have hZ8 := hZ7A.out.below hb; clear q0 g2 f2; have q1 := hZ8.get 1 _ rfl; have hZ8A := Aside0.mk hZ8; have hX8A := Aside0.mk (hX7A.out.below hb); have hI8A := Aside0.mk (hI7A.out.below hb); have hR8A := Aside0.mk (Kd.R_below hR7A.out hb); have hC8A := Aside0.mk (Kd.R_below hC7A.out hb); have hb8A := Aside0.mk (below_then hb7A.out hb7A.out.size hb); clear hb hZ8)) | (go_at_call 37; ((with_reducible refine (hoc.out _ _ _ (rowC_ hC8A.out)).mono ?_); rintro e w9 ⟨rfl, hb⟩; have hZ9A := Aside0.mk (hZ8A.out.below hb); clear q1; have hX9A := Aside0.mk (hX8A.out.below hb); have hI9A := Aside0.mk (hI8A.out.below hb); have hR9A := Aside0.mk (Kd.R_below hR8A.out hb); have hC9A := Aside0.mk (Kd.R_below hC8A.out hb); have hb9A := Aside0.mk (below_then hb8A.out hb8A.out.size hb); clear hb)) | (go_at_call 40; ((with_reducible refine (hen.out _ _ hI9A.out).mono ?_); rintro e w10 ⟨rfl, rfl⟩)) | (refine wpList_put_blk rfl 25 (.tmp 2) (.tmp 40) rfl w.heap.size 25 [.slice none 0 0, .slice none 0 0, .bool false] [.slice none 0 0, .slice none 0 0, .bool false] rfl rfl rfl hX9A.out (info_tx3_ _ _ _) (by intro u hu; simp at hu; rcases hu with rfl | rfl | rfl <;> rfl) ?_; intro w11 hX11 hg11 hs11))
    exact bodyPost_ret (results_ct rfl _ _ w.heap.size 25 #[.slice none 0 0, .slice none 0 0, .bool false] (0, 0) _ rfl hX11 Try.underlying25 rfl (info_tx3_ _ _ _)) rfl ⟨⟨_, _, rfl, Kd.R_nil _ _ _ _ _, Kd.R_nil _ _ _ _ _⟩, hb9A.out.grown hg11 hb9A.out.size (fun k e => by have := Option.some.inj e; omega)⟩
  | none =>
    simp only [Go.Proofs.Ytlgfekllkahfaaa.Q.errW] at hen
    by_cases q1 : 1 < f
    · simp only [Option.isSome, Bool.false_or, q1, decide_true, Bool.true_or, if_true, Option.getD]
      go_enter Try.func17, Try.ntmps17
      go_wp2_with (first | (go_at_call 31; ((with_reducible refine (hrd.out _ e0A.out).mono ?_); rintro e w2 ⟨P, rfl, hP, hI, hb⟩; have hPb : w.heap.size < P := (by have := hP; simp at this; omega); have hX2A := Aside0.mk (eXA.out.below hb); have hI2A := Aside0.mk hI; have hb2A := Aside0.mk (below_then e0A.out e0A.out.size hb); clear hI hb hP)) | (go_at_call 32; ((with_reducible refine (hsp.out _ _ hI2A.out).mono ?_); rintro e w3 ⟨v1, rfl, hR, hI, hg⟩; obtain ⟨E1, k1, rfl⟩ := Kd.R_slice hR; have hX3A := Aside0.mk (hX2A.out.grown hg (by intro e; have := Option.some.inj e; omega)); have hS3 := hI2A.out.lt; have hI3A := Aside0.mk hI; have hR3A := Aside0.mk hR; have hb3A := Aside0.mk (below_P hb2A.out (by omega) hb2A.out.size hg); clear hI hR hg)) | (go_at_call 33; ((with_reducible refine (hco.out _ _ hI3A.out).mono ?_); rintro e w4 ⟨v2, rfl, hR, hI, hg⟩; obtain ⟨E2, k2, rfl⟩ := Kd.R_slice hR; have hX4A := Aside0.mk (hX3A.out.grown hg (by intro e; have := Option.some.inj e; omega)); have hS4 := hI3A.out.lt; have hI4A := Aside0.mk hI; have hC4A := Aside0.mk hR; have hR4A := Aside0.mk (R_over_P hR3A.out hS3 hg); have hb4A := Aside0.mk (below_P hb3A.out (by omega) hb3A.out.size hg); clear hI hR hg)) | (go_at_call 34; (obtain ⟨W5, hW5⟩ : ∃ W5, W5 = w4.alloc (.cells #[.slice E1 ls.length k1, .slice E2 lc.length k2, .bool false] 25) := ⟨_, rfl⟩; rw [show w4.alloc (.cells #[.slice E1 ls.length k1, .slice E2 lc.length k2, .bool false] 25) = W5 from hW5.symm]; have hZ5 : Blk W5 w4.heap.size 25 [.slice E1 ls.length k1, .slice E2 lc.length k2, .bool false] := (by rw [hW5]; exact Blk.new w4 25 [.slice E1 ls.length k1, .slice E2 lc.length k2, .bool false]); have h45 : Below w4.heap.size w4 W5 := (by rw [hW5]; exact below_alloc (Below.refl _ _) _); have hS5 := hI4A.out.lt; have hX5 := hX4A.out.below h45; have hI5 := hI4A.out.below h45; have hR5 := Kd.R_below hR4A.out h45; have hC5 := Kd.R_below hC4A.out h45; have hb5 := below_then hb4A.out hb4A.out.size h45; clear hW5; (with_reducible refine (hnm.out _ _ hI5).mono ?_); rintro e w6 ⟨rfl, hI, hg⟩; have hZ6 := hZ5.grown hg (by intro e; have := Option.some.inj e; omega); have hX6 := hX5.grown hg (by intro e; have := Option.some.inj e; omega); have g2 := hZ6.get 2 _ rfl; have f2 := hZ6.fz 2; have hI7A := Aside0.mk (hI.grown (grown_set w6 w4.heap.size 2 (.bool (f == 1))) (by intro k e; have := Option.some.inj e; exact ⟨by omega, by omega⟩)); have hX7A := Aside0.mk (hX6.far (p := ⟨w4.heap.size, 2, none⟩) (by show w.heap.size ≠ w4.heap.size; omega) (.bool (f == 1))); have hR7A := Aside0.mk (Kd.R_set (R_over_P hR5 hS3 hg) hZ6 (by decide) 2 (.bool (f == 1))); have hC7A := Aside0.mk (Kd.R_set (R_over_P hC5 hS4 hg) hZ6 (by decide) 2 (.bool (f == 1))); have hZ7 : Blk (w6.setCell ⟨w4.heap.size, 2, none⟩ (.bool (f == 1))) w4.heap.size 25 [.slice E1 ls.length k1, .slice E2 lc.length k2, .bool (f == 1)] := hZ6.set 2 (.bool (f == 1)); have q0 := hZ7.get 0 _ rfl; have hZ7A := Aside0.mk hZ7; have hb7A := Aside0.mk ((below_P hb5 (by omega) hb5.size hg).setCell (p := ⟨w4.heap.size, 2, none⟩) (by show w.heap.size ≤ w4.heap.size; omega) (.bool (f == 1))); clear hI hg hX5 hI5 hR5 hC5 hb5 h45 hZ5 hZ6 hX6 hZ7)) | (go_at_call 35; ((with_reducible refine (hfc.out _ _ _ (rowS_ hR7A.out)).mono ?_); rintro e w8 ⟨rfl, hb⟩; have hZ8 := hZ7A.out.below hb; clear q0 g2 f2; have q1 := hZ8.get 1 _ rfl; have hZ8A := Aside0.mk hZ8; have hX8A := Aside0.mk (hX7A.out.below hb); have hI8A := Aside0.mk (hI7A.out.below hb); have hR8A := Aside0.mk (Kd.R_below hR7A.out hb); have hC8A := Aside0.mk (Kd.R_below hC7A.out hb); have hb8A := Aside0.mk (below_then hb7A.out hb7A.out.size hb); clear hb hZ8)) | (go_at_call 37; ((with_reducible refine (hoc.out _ _ _ (rowC_ hC8A.out)).mono ?_); rintro e w9 ⟨rfl, hb⟩; have hZ9A := Aside0.mk (hZ8A.out.below hb); clear q1; have hX9A := Aside0.mk (hX8A.out.below hb); have hI9A := Aside0.mk (hI8A.out.below hb); have hR9A := Aside0.mk (Kd.R_below hR8A.out hb); have hC9A := Aside0.mk (Kd.R_below hC8A.out hb); have hb9A := Aside0.mk (below_then hb8A.out hb8A.out.size hb); clear hb)) | (go_at_call 40; ((with_reducible refine (hen.out _ _ hI9A.out).mono ?_); rintro e w10 ⟨rfl, rfl⟩)) | (refine wpList_put_blk rfl 25 (.tmp 2) (.tmp 40) rfl w.heap.size 25 [.slice none 0 0, .slice none 0 0, .bool false] [.slice none 0 0, .slice none 0 0, .bool false] rfl rfl rfl hX9A.out (info_tx3_ _ _ _) (by intro u hu; simp at hu; rcases hu with rfl | rfl | rfl <;> rfl) ?_; intro w11 hX11 hg11 hs11))
      exact bodyPost_ret (results_ct rfl _ _ w.heap.size 25 #[.slice none 0 0, .slice none 0 0, .bool false] (0, 0) _ rfl hX11 Try.underlying25 rfl (info_tx3_ _ _ _)) rfl ⟨⟨_, _, rfl, Kd.R_nil _ _ _ _ _, Kd.R_nil _ _ _ _ _⟩, hb9A.out.grown hg11 hb9A.out.size (fun k e => by have := Option.some.inj e; omega)⟩
    · cases bf
      · cases bo
        · simp only [Option.isSome, Bool.false_or, q1, decide_false, Option.getD, Bool.false_eq_true, if_false]
          go_enter Try.func17, Try.ntmps17
          go_wp2_with (first | (go_at_call 31; ((with_reducible refine (hrd.out _ e0A.out).mono ?_); rintro e w2 ⟨P, rfl, hP, hI, hb⟩; have hPb : w.heap.size < P := (by have := hP; simp at this; omega); have hX2A := Aside0.mk (eXA.out.below hb); have hI2A := Aside0.mk hI; have hb2A := Aside0.mk (below_then e0A.out e0A.out.size hb); clear hI hb hP)) | (go_at_call 32; ((with_reducible refine (hsp.out _ _ hI2A.out).mono ?_); rintro e w3 ⟨v1, rfl, hR, hI, hg⟩; obtain ⟨E1, k1, rfl⟩ := Kd.R_slice hR; have hX3A := Aside0.mk (hX2A.out.grown hg (by intro e; have := Option.some.inj e; omega)); have hS3 := hI2A.out.lt; have hI3A := Aside0.mk hI; have hR3A := Aside0.mk hR; have hb3A := Aside0.mk (below_P hb2A.out (by omega) hb2A.out.size hg); clear hI hR hg)) | (go_at_call 33; ((with_reducible refine (hco.out _ _ hI3A.out).mono ?_); rintro e w4 ⟨v2, rfl, hR, hI, hg⟩; obtain ⟨E2, k2, rfl⟩ := Kd.R_slice hR; have hX4A := Aside0.mk (hX3A.out.grown hg (by intro e; have := Option.some.inj e; omega)); have hS4 := hI3A.out.lt; have hI4A := Aside0.mk hI; have hC4A := Aside0.mk hR; have hR4A := Aside0.mk (R_over_P hR3A.out hS3 hg); have hb4A := Aside0.mk (below_P hb3A.out (by omega) hb3A.out.size hg); clear hI hR hg)) | (go_at_call 34; (obtain ⟨W5, hW5⟩ : ∃ W5, W5 = w4.alloc (.cells #[.slice E1 ls.length k1, .slice E2 lc.length k2, .bool false] 25) := ⟨_, rfl⟩; rw [show w4.alloc (.cells #[.slice E1 ls.length k1, .slice E2 lc.length k2, .bool false] 25) = W5 from hW5.symm]; have hZ5 : Blk W5 w4.heap.size 25 [.slice E1 ls.length k1, .slice E2 lc.length k2, .bool false] := (by rw [hW5]; exact Blk.new w4 25 [.slice E1 ls.length k1, .slice E2 lc.length k2, .bool false]); have h45 : Below w4.heap.size w4 W5 := (by rw [hW5]; exact below_alloc (Below.refl _ _) _); have hS5 := hI4A.out.lt; have hX5 := hX4A.out.below h45; have hI5 := hI4A.out.below h45; have hR5 := Kd.R_below hR4A.out h45; have hC5 := Kd.R_below hC4A.out h45; have hb5 := below_then hb4A.out hb4A.out.size h45; clear hW5; (with_reducible refine (hnm.out _ _ hI5).mono ?_); rintro e w6 ⟨rfl, hI, hg⟩; have hZ6 := hZ5.grown hg (by intro e; have := Option.some.inj e; omega); have hX6 := hX5.grown hg (by intro e; have := Option.some.inj e; omega); have g2 := hZ6.get 2 _ rfl; have f2 := hZ6.fz 2; have hI7A := Aside0.mk (hI.grown (grown_set w6 w4.heap.size 2 (.bool (f == 1))) (by intro k e; have := Option.some.inj e; exact ⟨by omega, by omega⟩)); have hX7A := Aside0.mk (hX6.far (p := ⟨w4.heap.size, 2, none⟩) (by show w.heap.size ≠ w4.heap.size; omega) (.bool (f == 1))); have hR7A := Aside0.mk (Kd.R_set (R_over_P hR5 hS3 hg) hZ6 (by decide) 2 (.bool (f == 1))); have hC7A := Aside0.mk (Kd.R_set (R_over_P hC5 hS4 hg) hZ6 (by decide) 2 (.bool (f == 1))); have hZ7 : Blk (w6.setCell ⟨w4.heap.size, 2, none⟩ (.bool (f == 1))) w4.heap.size 25 [.slice E1 ls.length k1, .slice E2 lc.length k2, .bool (f == 1)] := hZ6.set 2 (.bool (f == 1)); have q0 := hZ7.get 0 _ rfl; have hZ7A := Aside0.mk hZ7; have hb7A := Aside0.mk ((below_P hb5 (by omega) hb5.size hg).setCell (p := ⟨w4.heap.size, 2, none⟩) (by show w.heap.size ≤ w4.heap.size; omega) (.bool (f == 1))); clear hI hg hX5 hI5 hR5 hC5 hb5 h45 hZ5 hZ6 hX6 hZ7)) | (go_at_call 35; ((with_reducible refine (hfc.out _ _ _ (rowS_ hR7A.out)).mono ?_); rintro e w8 ⟨rfl, hb⟩; have hZ8 := hZ7A.out.below hb; clear q0 g2 f2; have q1 := hZ8.get 1 _ rfl; have hZ8A := Aside0.mk hZ8; have hX8A := Aside0.mk (hX7A.out.below hb); have hI8A := Aside0.mk (hI7A.out.below hb); have hR8A := Aside0.mk (Kd.R_below hR7A.out hb); have hC8A := Aside0.mk (Kd.R_below hC7A.out hb); have hb8A := Aside0.mk (below_then hb7A.out hb7A.out.size hb); clear hb hZ8)) | (go_at_call 37; ((with_reducible refine (hoc.out _ _ _ (rowC_ hC8A.out)).mono ?_); rintro e w9 ⟨rfl, hb⟩; have hZ9A := Aside0.mk (hZ8A.out.below hb); clear q1; have hX9A := Aside0.mk (hX8A.out.below hb); have hI9A := Aside0.mk (hI8A.out.below hb); have hR9A := Aside0.mk (Kd.R_below hR8A.out hb); have hC9A := Aside0.mk (Kd.R_below hC8A.out hb); have hb9A := Aside0.mk (below_then hb8A.out hb8A.out.size hb); clear hb)) | (go_at_call 40; ((with_reducible refine (hen.out _ _ hI9A.out).mono ?_); rintro e w10 ⟨rfl, rfl⟩)) | ((with_reducible refine gate_dst (N := 42) rfl ?_); refine wpList_load_blk rfl 25 (.tmp 5) rfl w4.heap.size 25 rfl [.slice E1 ls.length k1, .slice E2 lc.length k2, .bool (f == 1)] _ hZ9A.out Try.underlying25 rfl (info_tx3_ _ _ _) ?_) | (refine wpList_put_blk rfl 25 (.tmp 2) (.tmp 42) rfl w.heap.size 25 [.slice E1 ls.length k1, .slice E2 lc.length k2, .bool (f == 1)] [.slice none 0 0, .slice none 0 0, .bool false] rfl rfl rfl hX9A.out (info_tx3_ _ _ _) (by intro u hu; simp at hu; rcases hu with rfl | rfl | rfl <;> rfl) ?_; intro w11 hX11 hg11 hs11))
          exact bodyPost_ret (results_ct rfl _ _ w.heap.size 25 #[.slice E1 ls.length k1, .slice E2 lc.length k2, .bool (f == 1)] (0, 0) _ rfl hX11 Try.underlying25 rfl (info_tx3_ _ _ _)) rfl ⟨⟨_, _, rfl, Kd.R_lower (Kd.R_mono (Kd.R_grown (Kd.R_types hR9A.out hX9A.out (by decide)) hg11 (fun k hk e => hk.2 (Option.some.inj e))) (fun _ _ => trivial)) (by omega), Kd.R_lower (Kd.R_mono (Kd.R_grown (Kd.R_types hC9A.out hX9A.out (by decide)) hg11 (fun k hk e => hk.2 (Option.some.inj e))) (fun _ _ => trivial)) (by omega)⟩, hb9A.out.grown hg11 hb9A.out.size (fun k e => by have := Option.some.inj e; omega)⟩
        · simp only [Option.isSome, Bool.false_or, q1, decide_false, if_true, Option.getD]
          go_enter Try.func17, Try.ntmps17
          go_wp2_with (first | (go_at_call 31; ((with_reducible refine (hrd.out _ e0A.out).mono ?_); rintro e w2 ⟨P, rfl, hP, hI, hb⟩; have hPb : w.heap.size < P := (by have := hP; simp at this; omega); have hX2A := Aside0.mk (eXA.out.below hb); have hI2A := Aside0.mk hI; have hb2A := Aside0.mk (below_then e0A.out e0A.out.size hb); clear hI hb hP)) | (go_at_call 32; ((with_reducible refine (hsp.out _ _ hI2A.out).mono ?_); rintro e w3 ⟨v1, rfl, hR, hI, hg⟩; obtain ⟨E1, k1, rfl⟩ := Kd.R_slice hR; have hX3A := Aside0.mk (hX2A.out.grown hg (by intro e; have := Option.some.inj e; omega)); have hS3 := hI2A.out.lt; have hI3A := Aside0.mk hI; have hR3A := Aside0.mk hR; have hb3A := Aside0.mk (below_P hb2A.out (by omega) hb2A.out.size hg); clear hI hR hg)) | (go_at_call 33; ((with_reducible refine (hco.out _ _ hI3A.out).mono ?_); rintro e w4 ⟨v2, rfl, hR, hI, hg⟩; obtain ⟨E2, k2, rfl⟩ := Kd.R_slice hR; have hX4A := Aside0.mk (hX3A.out.grown hg (by intro e; have := Option.some.inj e; omega)); have hS4 := hI3A.out.lt; have hI4A := Aside0.mk hI; have hC4A := Aside0.mk hR; have hR4A := Aside0.mk (R_over_P hR3A.out hS3 hg); have hb4A := Aside0.mk (below_P hb3A.out (by omega) hb3A.out.size hg); clear hI hR hg)) | (go_at_call 34; (obtain ⟨W5, hW5⟩ : ∃ W5, W5 = w4.alloc (.cells #[.slice E1 ls.length k1, .slice E2 lc.length k2, .bool false] 25) := ⟨_, rfl⟩; rw [show w4.alloc (.cells #[.slice E1 ls.length k1, .slice E2 lc.length k2, .bool false] 25) = W5 from hW5.symm]; have hZ5 : Blk W5 w4.heap.size 25 [.slice E1 ls.length k1, .slice E2 lc.length k2, .bool false] := (by rw [hW5]; exact Blk.new w4 25 [.slice E1 ls.length k1, .slice E2 lc.length k2, .bool false]); have h45 : Below w4.heap.size w4 W5 := (by rw [hW5]; exact below_alloc (Below.refl _ _) _); have hS5 := hI4A.out.lt; have hX5 := hX4A.out.below h45; have hI5 := hI4A.out.below h45; have hR5 := Kd.R_below hR4A.out h45; have hC5 := Kd.R_below hC4A.out h45; have hb5 := below_then hb4A.out hb4A.out.size h45; clear hW5; (with_reducible refine (hnm.out _ _ hI5).mono ?_); rintro e w6 ⟨rfl, hI, hg⟩; have hZ6 := hZ5.grown hg (by intro e; have := Option.some.inj e; omega); have hX6 := hX5.grown hg (by intro e; have := Option.some.inj e; omega); have g2 := hZ6.get 2 _ rfl; have f2 := hZ6.fz 2; have hI7A := Aside0.mk (hI.grown (grown_set w6 w4.heap.size 2 (.bool (f == 1))) (by intro k e; have := Option.some.inj e; exact ⟨by omega, by omega⟩)); have hX7A := Aside0.mk (hX6.far (p := ⟨w4.heap.size, 2, none⟩) (by show w.heap.size ≠ w4.heap.size; omega) (.bool (f == 1))); have hR7A := Aside0.mk (Kd.R_set (R_over_P hR5 hS3 hg) hZ6 (by decide) 2 (.bool (f == 1))); have hC7A := Aside0.mk (Kd.R_set (R_over_P hC5 hS4 hg) hZ6 (by decide) 2 (.bool (f == 1))); have hZ7 : Blk (w6.setCell ⟨w4.heap.size, 2, none⟩ (.bool (f == 1))) w4.heap.size 25 [.slice E1 ls.length k1, .slice E2 lc.length k2, .bool (f == 1)] := hZ6.set 2 (.bool (f == 1)); have q0 := hZ7.get 0 _ rfl; have hZ7A := Aside0.mk hZ7; have hb7A := Aside0.mk ((below_P hb5 (by omega) hb5.size hg).setCell (p := ⟨w4.heap.size, 2, none⟩) (by show w.heap.size ≤ w4.heap.size; omega) (.bool (f == 1))); clear hI hg hX5 hI5 hR5 hC5 hb5 h45 hZ5 hZ6 hX6 hZ7)) | (go_at_call 35; ((with_reducible refine (hfc.out _ _ _ (rowS_ hR7A.out)).mono ?_); rintro e w8 ⟨rfl, hb⟩; have hZ8 := hZ7A.out.below hb; clear q0 g2 f2; have q1 := hZ8.get 1 _ rfl; have hZ8A := Aside0.mk hZ8; have hX8A := Aside0.mk (hX7A.out.below hb); have hI8A := Aside0.mk (hI7A.out.below hb); have hR8A := Aside0.mk (Kd.R_below hR7A.out hb); have hC8A := Aside0.mk (Kd.R_below hC7A.out hb); have hb8A := Aside0.mk (below_then hb7A.out hb7A.out.size hb); clear hb hZ8)) | (go_at_call 37; ((with_reducible refine (hoc.out _ _ _ (rowC_ hC8A.out)).mono ?_); rintro e w9 ⟨rfl, hb⟩; have hZ9A := Aside0.mk (hZ8A.out.below hb); clear q1; have hX9A := Aside0.mk (hX8A.out.below hb); have hI9A := Aside0.mk (hI8A.out.below hb); have hR9A := Aside0.mk (Kd.R_below hR8A.out hb); have hC9A := Aside0.mk (Kd.R_below hC8A.out hb); have hb9A := Aside0.mk (below_then hb8A.out hb8A.out.size hb); clear hb)) | (go_at_call 40; ((with_reducible refine (hen.out _ _ hI9A.out).mono ?_); rintro e w10 ⟨rfl, rfl⟩)) | (refine wpList_put_blk rfl 25 (.tmp 2) (.tmp 40) rfl w.heap.size 25 [.slice none 0 0, .slice none 0 0, .bool false] [.slice none 0 0, .slice none 0 0, .bool false] rfl rfl rfl hX9A.out (info_tx3_ _ _ _) (by intro u hu; simp at hu; rcases hu with rfl | rfl | rfl <;> rfl) ?_; intro w11 hX11 hg11 hs11))
          exact bodyPost_ret (results_ct rfl _ _ w.heap.size 25 #[.slice none 0 0, .slice none 0 0, .bool false] (0, 0) _ rfl hX11 Try.underlying25 rfl (info_tx3_ _ _ _)) rfl ⟨⟨_, _, rfl, Kd.R_nil _ _ _ _ _, Kd.R_nil _ _ _ _ _⟩, hb9A.out.grown hg11 hb9A.out.size (fun k e => by have := Option.some.inj e; omega)⟩
      · simp only [Option.isSome, Bool.false_or, q1, decide_false, Bool.true_or, if_true, Option.getD]
        go_enter Try.func17, Try.ntmps17
        go_wp2_with (first | (go_at_call 31; ((with_reducible refine (hrd.out _ e0A.out).mono ?_); rintro e w2 ⟨P, rfl, hP, hI, hb⟩; have hPb : w.heap.size < P := (by have := hP; simp at this; omega); have hX2A := Aside0.mk (eXA.out.below hb); have hI2A := Aside0.mk hI; have hb2A := Aside0.mk (below_then e0A.out e0A.out.size hb); clear hI hb hP)) | (go_at_call 32; ((with_reducible refine (hsp.out _ _ hI2A.out).mono ?_); rintro e w3 ⟨v1, rfl, hR, hI, hg⟩; obtain ⟨E1, k1, rfl⟩ := Kd.R_slice hR; have hX3A := Aside0.mk (hX2A.out.grown hg (by intro e; have := Option.some.inj e; omega)); have hS3 := hI2A.out.lt; have hI3A := Aside0.mk hI; have hR3A := Aside0.mk hR; have hb3A := Aside0.mk (below_P hb2A.out (by omega) hb2A.out.size hg); clear hI hR hg)) | (go_at_call 33; ((with_reducible refine (hco.out _ _ hI3A.out).mono ?_); rintro e w4 ⟨v2, rfl, hR, hI, hg⟩; obtain ⟨E2, k2, rfl⟩ := Kd.R_slice hR; have hX4A := Aside0.mk (hX3A.out.grown hg (by intro e; have := Option.some.inj e; omega)); have hS4 := hI3A.out.lt; have hI4A := Aside0.mk hI; have hC4A := Aside0.mk hR; have hR4A := Aside0.mk (R_over_P hR3A.out hS3 hg); have hb4A := Aside0.mk (below_P hb3A.out (by omega) hb3A.out.size hg); clear hI hR hg)) | (go_at_call 34; (obtain ⟨W5, hW5⟩ : ∃ W5, W5 = w4.alloc (.cells #[.slice E1 ls.length k1, .slice E2 lc.length k2, .bool false] 25) := ⟨_, rfl⟩; rw [show w4.alloc (.cells #[.slice E1 ls.length k1, .slice E2 lc.length k2, .bool false] 25) = W5 from hW5.symm]; have hZ5 : Blk W5 w4.heap.size 25 [.slice E1 ls.length k1, .slice E2 lc.length k2, .bool false] := (by rw [hW5]; exact Blk.new w4 25 [.slice E1 ls.length k1, .slice E2 lc.length k2, .bool false]); have h45 : Below w4.heap.size w4 W5 := (by rw [hW5]; exact below_alloc (Below.refl _ _) _); have hS5 := hI4A.out.lt; have hX5 := hX4A.out.below h45; have hI5 := hI4A.out.below h45; have hR5 := Kd.R_below hR4A.out h45; have hC5 := Kd.R_below hC4A.out h45; have hb5 := below_then hb4A.out hb4A.out.size h45; clear hW5; (with_reducible refine (hnm.out _ _ hI5).mono ?_); rintro e w6 ⟨rfl, hI, hg⟩; have hZ6 := hZ5.grown hg (by intro e; have := Option.some.inj e; omega); have hX6 := hX5.grown hg (by intro e; have := Option.some.inj e; omega); have g2 := hZ6.get 2 _ rfl; have f2 := hZ6.fz 2; have hI7A := Aside0.mk (hI.grown (grown_set w6 w4.heap.size 2 (.bool (f == 1))) (by intro k e; have := Option.some.inj e; exact ⟨by omega, by omega⟩)); have hX7A := Aside0.mk (hX6.far (p := ⟨w4.heap.size, 2, none⟩) (by show w.heap.size ≠ w4.heap.size; omega) (.bool (f == 1))); have hR7A := Aside0.mk (Kd.R_set (R_over_P hR5 hS3 hg) hZ6 (by decide) 2 (.bool (f == 1))); have hC7A := Aside0.mk (Kd.R_set (R_over_P hC5 hS4 hg) hZ6 (by decide) 2 (.bool (f == 1))); have hZ7 : Blk (w6.setCell ⟨w4.heap.size, 2, none⟩ (.bool (f == 1))) w4.heap.size 25 [.slice E1 ls.length k1, .slice E2 lc.length k2, .bool (f == 1)] := hZ6.set 2 (.bool (f == 1)); have q0 := hZ7.get 0 _ rfl; have hZ7A := Aside0.mk hZ7; have hb7A := Aside0.mk ((below_P hb5 (by omega) hb5.size hg).setCell (p := ⟨w4.heap.size, 2, none⟩) (by show w.heap.size ≤ w4.heap.size; omega) (.bool (f == 1))); clear hI hg hX5 hI5 hR5 hC5 hb5 h45 hZ5 hZ6 hX6 hZ7)) | (go_at_call 35; ((with_reducible refine (hfc.out _ _ _ (rowS_ hR7A.out)).mono ?_); rintro e w8 ⟨rfl, hb⟩; have hZ8 := hZ7A.out.below hb; clear q0 g2 f2; have q1 := hZ8.get 1 _ rfl; have hZ8A := Aside0.mk hZ8; have hX8A := Aside0.mk (hX7A.out.below hb); have hI8A := Aside0.mk (hI7A.out.below hb); have hR8A := Aside0.mk (Kd.R_below hR7A.out hb); have hC8A := Aside0.mk (Kd.R_below hC7A.out hb); have hb8A := Aside0.mk (below_then hb7A.out hb7A.out.size hb); clear hb hZ8)) | (go_at_call 37; ((with_reducible refine (hoc.out _ _ _ (rowC_ hC8A.out)).mono ?_); rintro e w9 ⟨rfl, hb⟩; have hZ9A := Aside0.mk (hZ8A.out.below hb); clear q1; have hX9A := Aside0.mk (hX8A.out.below hb); have hI9A := Aside0.mk (hI8A.out.below hb); have hR9A := Aside0.mk (Kd.R_below hR8A.out hb); have hC9A := Aside0.mk (Kd.R_below hC8A.out hb); have hb9A := Aside0.mk (below_then hb8A.out hb8A.out.size hb); clear hb)) | (go_at_call 40; ((with_reducible refine (hen.out _ _ hI9A.out).mono ?_); rintro e w10 ⟨rfl, rfl⟩)) | (refine wpList_put_blk rfl 25 (.tmp 2) (.tmp 40) rfl w.heap.size 25 [.slice none 0 0, .slice none 0 0, .bool false] [.slice none 0 0, .slice none 0 0, .bool false] rfl rfl rfl hX9A.out (info_tx3_ _ _ _) (by intro u hu; simp at hu; rcases hu with rfl | rfl | rfl <;> rfl) ?_; intro w11 hX11 hg11 hs11))
        exact bodyPost_ret (results_ct rfl _ _ w.heap.size 25 #[.slice none 0 0, .slice none 0 0, .bool false] (0, 0) _ rfl hX11 Try.underlying25 rfl (info_tx3_ _ _ _)) rfl ⟨⟨_, _, rfl, Kd.R_nil _ _ _ _ _, Kd.R_nil _ _ _ _ _⟩, hb9A.out.grown hg11 hb9A.out.size (fun k e => by have := Option.some.inj e; omega)⟩
end Go.Proofs.Ytlgfekllkahfaaa.Pack
