/- Spends and coins in rows of the call's own; copies. -/
import Derived.Test.YtlgfekllkahfaaaTyJ
set_option linter.unusedVariables false
set_option linter.unusedSimpArgs false
namespace Go.Proofs.Ytlgfekllkahfaaa.Pack
open Go.RowKit Go.Proofs.YtlgfekllkahfaaaW.PrintWords Go.Proofs.YtlgfekllkahfaaaW.PrintMore Go.Proofs.Ytlgfekllkahfaaa Go.Proofs.Ytlgfekllkahfaaa.Bits Sha ArrK ShaW
/-- a kind whose elements lie flat -/
def flat {α : Type} (n : Nat) (R : α → List Value → Prop) (hl : ∀ x cs, R x cs → cs.length = n) (h1 : ∀ x cs, R x cs → ∀ u ∈ cs, u.oneCell' = true) : Kd α where
  sz := n
  E := []
  K := fun _ x cs => R x cs
  M := fun _ _ _ x cs => R x cs
  K_len := fun h => hl _ _ h
  K_one := fun h => h1 _ _ h
  K_below := fun _ h => h
  K_of_M := fun h => h
  M_mono := fun _ h => h
  M_bound := fun h => h
  M_move := fun _ h => h
  M_lower := fun _ h => h
def kSp : Kd Sp := flat 35 (fun s cs => SpO s ∧ cs = spc s) (fun s cs h => by rw [h.2, spc_length s h.1.1]) (fun s cs h => by rw [h.2]; exact spc_one s)
def kCo : Kd Co := flat 2 (fun c cs => CoOk c ∧ cs = coc c) (fun c cs h => by rw [h.2]; rfl) (fun c cs h => by rw [h.2]; exact coc_one c)
theorem info_sp : (Try.prog.info? 36).map (fun i => (i.zero, i.size, i.bytes)) = some (some (spv zsp), kSp.sz, 64) := by kernel_rfl
theorem info_co : (Try.prog.info? 38).map (fun i => (i.zero, i.size, i.bytes)) = some (some (cov ⟨0, 0⟩), kCo.sz, 16) := by kernel_rfl
abbrev RSp (base : Nat) (W : World) (v : Value) (l : List Sp) : Prop := Kd.R kSp 36 W base (fun _ => True) v l
abbrev RCo (base : Nat) (W : World) (v : Value) (l : List Co) : Prop := Kd.R kCo 38 W base (fun _ => True) v l
theorem RSp.reads {base : Nat} {W : World} {v : Value} {l : List Sp} (h : RSp base W v l) : ∃ A c, v = .slice A l.length c ∧ l.length ≤ c ∧ SpR0 W A l.length l := Kd.R_reads h
theorem RCo.reads {base : Nat} {W : World} {v : Value} {l : List Co} (h : RCo base W v l) : ∃ A c, v = .slice A l.length c ∧ l.length ≤ c ∧ CoR W A l.length l := Kd.R_reads h
theorem row_nil {α : Type} {R : α → List Value → Prop} {sz : Nat} {W : World} {l : List α} (h : ReadsRow R sz W none l.length l) : l = [] := by
  cases l with
  | nil => rfl
  | cons x r => obtain ⟨ad, e, _⟩ := h.2.2 (by simp); cases e
set_option maxRecDepth 100000 in
set_option maxHeartbeats 800000 in
theorem cloneS_calls (w : World) (A : Option Addr) (c : Nat) (ss : List Sp) (hS : SpR0 w A ss.length ss) (hn : ss.length ≤ 1000) :
    Calls Try.prog 23 #[.slice A ss.length c] w fun e w' => ∃ v, e = .returned v ∧ RSp w.heap.size w' v ss ∧ Below w.heap.size w w' := by
  cases A with
  | none =>
    obtain rfl := row_nil hS
    have he : ∀ w : World, (Go.binOp BinOp.eql 22 (.slice none 0 c) (.slice none 0 0)).run Try.prog w = Result.ok (.bool true) w := fun w => run_eql_slice_nil w 22 36 none _ _ Try.underlying22
    clear hS
    go_enter Try.func23, Try.ntmps23
    go_wp2
    go_ret
    exact ⟨_, rfl, Kd.R_nil _ _ _ _ _, Below.refl _ _⟩
  | some ad =>
    have he : ∀ w : World, (Go.binOp BinOp.eql 22 (.slice (some ad) ss.length c) (.slice none 0 0)).run Try.prog w = Result.ok (.bool false) w := fun w => run_eql_slice_nil w 22 36 (some ad) _ _ Try.underlying22
    have hSA := Aside0.mk hS
    clear hS
    go_enter Try.func23, Try.ntmps23
    go_wp2_with (first | ((with_reducible refine gate_dst (N := 5) rfl ?_); (refine Kd.R_lit kSp (w0 := w) w.heap.size 36 rfl (N := 5) rfl (xs := ([] : List Sp)) (inner := []) (ok := fun _ => True) (okp := fun _ => True) ?hr (Reps.none _ _) (fun _ hk => hk) trivial (Below.refl _ _) (Nat.le_refl _) (by simp) ?_; (case hr => first | (go_simp; done) | (go_simp; rfl)); intro v1 w1 hR1 hB1 _ _; have hR1A := Aside0.mk hR1; have hB1A := Aside0.mk hB1; clear hR1 hB1)) | ((with_reducible refine gate_dst (N := 7) rfl ?_); at_builtin; (refine Kd.R_append_rows kSp (w0 := w) w.heap.size rfl (.tmp 5) (.tmp 6) 22 36 (spv zsp) 64 rfl Try.underlying22 info_sp rfl (by decide) (by omega) v1 [] ss (some ad) _ _ (fun _ => True) (fun _ => False) rfl rfl hR1A.out (hSA.out.imp_ hB1A.out (fun _ _ h => h)) (fun _ _ h => h) (fun _ h => h.elim) (fun _ _ => trivial) hB1A.out hB1A.out.size (by simp; omega) ?_; intro v2 w2 hR2 hB2 _ _; have hF := Aside0.mk (And.intro hR2 hB2); clear hR2 hB2)))
    go_ret
    exact ⟨_, rfl, hF.out.1, hF.out.2⟩
set_option maxRecDepth 100000 in
set_option maxHeartbeats 800000 in
theorem cloneC_calls (w : World) (A : Option Addr) (c : Nat) (ss : List Co) (hS : CoR w A ss.length ss) (hn : ss.length ≤ 1000) :
    Calls Try.prog 24 #[.slice A ss.length c] w fun e w' => ∃ v, e = .returned v ∧ RCo w.heap.size w' v ss ∧ Below w.heap.size w w' := by
  cases A with
  | none =>
    obtain rfl := row_nil hS
    have he : ∀ w : World, (Go.binOp BinOp.eql 23 (.slice none 0 c) (.slice none 0 0)).run Try.prog w = Result.ok (.bool true) w := fun w => run_eql_slice_nil w 23 38 none _ _ Try.underlying23
    clear hS
    go_enter Try.func24, Try.ntmps24
    go_wp2
    go_ret
    exact ⟨_, rfl, Kd.R_nil _ _ _ _ _, Below.refl _ _⟩
  | some ad =>
    have he : ∀ w : World, (Go.binOp BinOp.eql 23 (.slice (some ad) ss.length c) (.slice none 0 0)).run Try.prog w = Result.ok (.bool false) w := fun w => run_eql_slice_nil w 23 38 (some ad) _ _ Try.underlying23
    have hSA := Aside0.mk hS
    clear hS
    go_enter Try.func24, Try.ntmps24
    go_wp2_with (first | ((with_reducible refine gate_dst (N := 5) rfl ?_); (refine Kd.R_lit kCo (w0 := w) w.heap.size 38 rfl (N := 5) rfl (xs := ([] : List Co)) (inner := []) (ok := fun _ => True) (okp := fun _ => True) ?hr (Reps.none _ _) (fun _ hk => hk) trivial (Below.refl _ _) (Nat.le_refl _) (by simp) ?_; (case hr => first | (go_simp; done) | (go_simp; rfl)); intro v1 w1 hR1 hB1 _ _; have hR1A := Aside0.mk hR1; have hB1A := Aside0.mk hB1; clear hR1 hB1)) | ((with_reducible refine gate_dst (N := 7) rfl ?_); at_builtin; (refine Kd.R_append_rows kCo (w0 := w) w.heap.size rfl (.tmp 5) (.tmp 6) 23 38 (cov ⟨0, 0⟩) 16 rfl Try.underlying23 info_co rfl (by decide) (by omega) v1 [] ss (some ad) _ _ (fun _ => True) (fun _ => False) rfl rfl hR1A.out (hSA.out.imp_ hB1A.out (fun _ _ h => h)) (fun _ _ h => h) (fun _ h => h.elim) (fun _ _ => trivial) hB1A.out hB1A.out.size (by simp; omega) ?_; intro v2 w2 hR2 hB2 _ _; have hF := Aside0.mk (And.intro hR2 hB2); clear hR2 hB2)))
    go_ret
    exact ⟨_, rfl, hF.out.1, hF.out.2⟩
end Go.Proofs.Ytlgfekllkahfaaa.Pack
