/- (*state).take: one element. -/
import Derived.Test.YtfjkiiajbeaaoaaMMendW
import Derived.Test.YtfjkiiajbeaaoaaMOffW
set_option linter.unusedVariables false
set_option linter.unusedSimpArgs false
namespace Go.Proofs.Ytfjkiiajbeaaoaa.MW
open Go.RowKit Go.Proofs.Ytfjkiiajbeaaoaa.Q Go.Proofs.YtfjkiiajbeaaoaaW.PrintWords Go.Proofs.YtfjkiiajbeaaoaaW.PrintLast Go.Proofs.YtfjkiiajbeaaoaaW.PrintMore Go.Proofs.Ytfjkiiajbeaaoaa.Bits Go.Proofs.Ytfjkiiajbeaaoaa GF PolyT MV Massey
/-- the state's block -/
def S5 (W : World) (B : Nat) (n0 n1 : Nat) (A0 : Option Addr) (c0 : Nat) (A1 : Option Addr) (c1 len gap : Nat) (was : F) : Prop :=
  W.heap[B]? = some (.cells #[.slice A0 n0 c0, .slice A1 n1 c1, .int .i64 len, .int .i64 gap, .int .u32 (v was)] 42 (0, 0))
section
variable {W W1 : World} {B n0 n1 : Nat} {A0 A1 : Option Addr} {c0 c1 len gap : Nat} {was : F}
theorem S5.at (h : S5 W B n0 n1 A0 c0 A1 c1 len gap was) : At W B A0 n0 c0 A1 n1 c1 len gap was :=
  ⟨by rw [blk_cell h]; rfl, by rw [blk_cell h]; rfl, by rw [blk_cell h]; rfl, by rw [blk_cell h]; rfl, by rw [blk_cell h]; rfl⟩
theorem S5.fz (h : S5 W B n0 n1 A0 c0 A1 c1 len gap was) (i : Nat) : W.frozen? ⟨B, i, none⟩ = false := blk_frozen h i
theorem S5.lt (h : S5 W B n0 n1 A0 c0 A1 c1 len gap was) : B < W.heap.size := (Array.getElem?_eq_some_iff.1 h).1
theorem S5.below (h : S5 W B n0 n1 A0 c0 A1 c1 len gap was) (hb : Below W.heap.size W W1) : S5 W1 B n0 n1 A0 c0 A1 c1 len gap was := by unfold S5; rw [hb.block B h.lt]; exact h
theorem S5.p0 (h : S5 W B n0 n1 A0 c0 A1 c1 len gap was) (A : Option Addr) (n c : Nat) : S5 (W.setCell ⟨B, 0, none⟩ (.slice A n c)) B n n1 A c A1 c1 len gap was := blk_set h 0 _
theorem S5.p1 (h : S5 W B n0 n1 A0 c0 A1 c1 len gap was) (A : Option Addr) (n c : Nat) : S5 (W.setCell ⟨B, 1, none⟩ (.slice A n c)) B n0 n A0 c0 A c len gap was := blk_set h 1 _
theorem S5.p2 (h : S5 W B n0 n1 A0 c0 A1 c1 len gap was) (x : Nat) : S5 (W.setCell ⟨B, 2, none⟩ (.int .i64 x)) B n0 n1 A0 c0 A1 c1 x gap was := blk_set h 2 _
theorem S5.p3 (h : S5 W B n0 n1 A0 c0 A1 c1 len gap was) (x : Nat) : S5 (W.setCell ⟨B, 3, none⟩ (.int .i64 x)) B n0 n1 A0 c0 A1 c1 len x was := blk_set h 3 _
theorem S5.p4 (h : S5 W B n0 n1 A0 c0 A1 c1 len gap was) (x : F) : S5 (W.setCell ⟨B, 4, none⟩ (.int .u32 (v x))) B n0 n1 A0 c0 A1 c1 len gap x := blk_set h 4 _
end
/-- all but the block B is as it was -/
def Out (B : Nat) (W W1 : World) : Prop := W.grownBy W1 (some B)
theorem Out.refl (B : Nat) (W : World) : Out B W W := World.grownBy.refl _ _
theorem Out.trans {B : Nat} {W1 W2 W3 : World} (h : Out B W1 W2) (k : Out B W2 W3) : Out B W1 W3 := World.grownBy.trans h k
theorem Out.set (B i : Nat) (W : World) (u : Value) : Out B W (W.setCell ⟨B, i, none⟩ u) :=
  ⟨rfl, rfl, rfl, by simp [World.setCell], fun k hk hne => Below.heap_setCell W ⟨B, i, none⟩ u k (fun e => hne (by rw [e]))⟩
theorem C_out {W W1 : World} {B : Nat} {A : Option Addr} {l : List Int} (h : Kd.C (Kd.int .u32) W A l.length l) (hA : ∀ ad, A = some ad → ad.block ≠ B) (ho : Out B W W1) : Kd.C (Kd.int .u32) W1 A l.length l := by
  obtain ⟨h1, h2, h3⟩ := Kd.reads_of_C (enc := Value.int .u32) (d := (0 : Int)) (h1 := fun _ => rfl) h
  refine Kd.C_of_reads (d := (0 : Int)) (h1 := fun _ => rfl) ⟨h1, h2, fun hp => ?_⟩
  obtain ⟨ad, rfl, h4⟩ := h3 hp
  refine ⟨ad, rfl, fun j hj => ?_⟩
  have hb : (ad.add j).block = ad.block := by unfold Addr.add; split <;> rfl
  exact World.grownBy.cell ho (h4 j hj) (by rw [hb]; intro e; injection e with e; exact hA ad rfl e)
end Go.Proofs.Ytfjkiiajbeaaoaa.MW
/- (*state).take: the walk. -/
set_option linter.unusedVariables false
set_option linter.unusedSimpArgs false
namespace Go.Proofs.Ytfjkiiajbeaaoaa.MW
open Go.RowKit Go.Proofs.Ytfjkiiajbeaaoaa.Q Go.Proofs.YtfjkiiajbeaaoaaW.PrintWords Go.Proofs.YtfjkiiajbeaaoaaW.PrintLast Go.Proofs.YtfjkiiajbeaaoaaW.PrintMore Go.Proofs.Ytfjkiiajbeaaoaa.Bits Go.Proofs.Ytfjkiiajbeaaoaa GF PolyT MV Massey
/-- the state lies there -/
def Has (W : World) (B : Nat) (x : St) : Prop := ∃ A0 c0 A1 c1, S5 W B x.now.length x.old.length A0 c0 A1 c1 x.len x.gap x.was ∧ (Kd.C (Kd.int .u32) W A0 (V x.now).length (V x.now) ∧ x.now.length ≤ c0 ∧ ∀ ad, A0 = some ad → ad.block ≠ B) ∧
  (Kd.C (Kd.int .u32) W A1 (V x.old).length (V x.old) ∧ x.old.length ≤ c1 ∧ ∀ ad, A1 = some ad → ad.block ≠ B)
set_option maxRecDepth 100000 in
set_option maxHeartbeats 400000 in
theorem take_zero (x : St) (s : List F) (A : Option Addr) (c B at_ : Nat) (w : World) (hH : Has w B x) (hs : Kd.C (Kd.int .u32) w A (V s).length (V s)) (hc : s.length ≤ c) (hne : ∀ ad, A = some ad → ad.block ≠ B) (ha : at_ < s.length) (hsl : s.length < 50000)
    (b0 : x.now.length < 100000) (b1 : x.old.length < 100000) (b2 : x.gap < 99999) (hd : act x.now (co s) at_ = 0#32) :
    Calls Try.prog 25 #[.pointer (some ⟨B, 0, none⟩), .slice A s.length c, .int .i64 at_] w fun e w' => (∃ v, e = .returned v) ∧ Has w' B (x.nxt (co s) at_) ∧ Out B w w' := by
  have hx : x.nxt (co s) at_ = { x with gap := x.gap + 1 } := by unfold St.nxt; rw [if_pos hd]
  rw [hx]
  clear hx
  obtain ⟨A0, c0, A1, c1, h5, ⟨hC0, hc0, hn0⟩, hC1, hc1, hn1⟩ := hH
  obtain ⟨W1, hW1⟩ : ∃ W1, W1 = w.setCell ⟨B, 3, none⟩ (.int .i64 ((x.gap : Int) + 1)) := ⟨_, rfl⟩
  have ho : Out B w W1 := by rw [hW1]; exact Out.set B 3 w _
  have h51 : S5 W1 B x.now.length x.old.length A0 c0 A1 c1 x.len (x.gap + 1) x.was := by rw [hW1]; exact h5.p3 (x.gap + 1)
  have g0 := C_out hC0 hn0 ho; have g1 := C_out hC1 hn1 ho; have gs := C_out hs hne ho
  have hOff := off_calls x.now s A0 A c0 c at_ W1 g0 hc0 gs hc ha (by omega) (by omega)
  rw [hd, ← v_zero] at hOff
  have hfin : Has W1 B { x with gap := x.gap + 1 } := ⟨A0, c0, A1, c1, h51, ⟨g0, hc0, hn0⟩, g1, hc1, hn1⟩
  have z3 := h5.at.m3; have f3 := h5.fz 3
  have z0 := h5.at.m0
  have q1 : IntKind.i64.wrap ((x.gap : Int) + 1) = (x.gap : Int) + 1 := IntWalk.i64_in _ (by omega)
  have hu := Try.underlying42
  have hWA := Aside0.mk hW1
  have hF := Aside0.mk (And.intro hfin ho)
  have hO := Aside0.mk hOff
  clear hfin ho hOff h5 h51 hC0 hC1 hs g0 g1 gs hW1 hn0 hn1 hne hd
  go_enter Try.func25, Try.ntmps25
  go_wp2_with (go_at_call 22; rw [← hWA.out]; with_reducible refine hO.out.mono ?_; rintro e w2 ⟨rfl, rfl⟩)
  exact bodyPost_ret (results_none rfl _ _ _) rfl ⟨⟨_, rfl⟩, hF.out⟩
end Go.Proofs.Ytfjkiiajbeaaoaa.MW
/- (*state).take where something is off. -/
set_option linter.unusedVariables false
set_option linter.unusedSimpArgs false
namespace Go.Proofs.Ytfjkiiajbeaaoaa.MW
open Go.RowKit Go.Proofs.Ytfjkiiajbeaaoaa.Q Go.Proofs.YtfjkiiajbeaaoaaW.PrintWords Go.Proofs.YtfjkiiajbeaaoaaW.PrintLast Go.Proofs.YtfjkiiajbeaaoaaW.PrintMore Go.Proofs.Ytfjkiiajbeaaoaa.Bits Go.Proofs.Ytfjkiiajbeaaoaa GF PolyT MV Massey
set_option maxRecDepth 100000 in
set_option maxHeartbeats 400000 in
theorem take_more (x : St) (s : List F) (A : Option Addr) (c B at_ : Nat) (w : World) (hH : Has w B x) (hs : Kd.C (Kd.int .u32) w A (V s).length (V s)) (hc : s.length ≤ c) (hne : ∀ ad, A = some ad → ad.block ≠ B) (ha : at_ < s.length) (hsl : s.length < 50000)
    (b0 : x.now.length < 100000) (b1 : x.old.length < 100000) (b2 : x.gap < 99999) (b3 : 1 ≤ x.now.length) (b4 : x.len ≤ at_) (hd : act x.now (co s) at_ ≠ 0#32) (hl : ¬ 2 * x.len ≤ at_) :
    Calls Try.prog 25 #[.pointer (some ⟨B, 0, none⟩), .slice A s.length c, .int .i64 at_] w fun e w' => (∃ v, e = .returned v) ∧ Has w' B (x.nxt (co s) at_) ∧ Out B w w' := by
  have hx : x.nxt (co s) at_ = { x with now := mend x.now x.old (x.gap + 1) (mul (act x.now (co s) at_) (inv x.was)), gap := x.gap + 1 } := by unfold St.nxt; rw [if_neg hd, if_neg hl]
  rw [hx]
  clear hx
  obtain ⟨A0, c0, A1, c1, h5, ⟨hC0, hc0, hn0⟩, hC1, hc1, hn1⟩ := hH
  obtain ⟨W1, hW1⟩ : ∃ W1, W1 = w.setCell ⟨B, 3, none⟩ (.int .i64 ((x.gap : Int) + 1)) := ⟨_, rfl⟩
  have ho : Out B w W1 := by rw [hW1]; exact Out.set B 3 w _
  have h51 : S5 W1 B x.now.length x.old.length A0 c0 A1 c1 x.len (x.gap + 1) x.was := by rw [hW1]; exact h5.p3 (x.gap + 1)
  have g0 := C_out hC0 hn0 ho; have g1 := C_out hC1 hn1 ho; have gs := C_out hs hne ho
  have hOff := off_calls x.now s A0 A c0 c at_ W1 g0 hc0 gs hc ha (by omega) (by omega)
  have hMe := mended_calls x.now x.old B A0 A1 c0 c1 x.len (x.gap + 1) x.was (act x.now (co s) at_) W1 h51.at g0 hc0 g1 hc1 b0 b3 b1 (by omega)
  obtain ⟨d, hdd⟩ : ∃ d, d = act x.now (co s) at_ := ⟨_, rfl⟩
  rw [← hdd] at hOff hMe hd ⊢
  have hd1 : (v d == 0) = false := by simp; exact fun e => hd ((v_zero_iff d).1 e)
  have hd2 : decide (v d = 0) = false := decide_eq_false (fun e => hd ((v_zero_iff d).1 e))
  have hd3 : ¬ v d = 0 := fun e => hd ((v_zero_iff d).1 e)
  have z3 := h5.at.m3; have f3 := h5.fz 3
  have z0 := h5.at.m0
  have q1 : IntKind.i64.wrap ((x.gap : Int) + 1) = (x.gap : Int) + 1 := IntWalk.i64_in _ (by omega)
  have q2 : IntKind.i64.wrap (2 * (x.len : Int)) = 2 * (x.len : Int) := IntWalk.i64_in _ (by omega)
  have q3 : decide (2 * (x.len : Int) ≤ (at_ : Int)) = false := decide_eq_false (by omega)
  have hu := Try.underlying42
  have hWA := Aside0.mk hW1
  have hO := Aside0.mk hOff
  have hM := Aside0.mk hMe
  have h5A := Aside0.mk h51
  have hoA := Aside0.mk ho
  have gA := Aside0.mk (And.intro g1 hc1)
  have hnA := Aside0.mk hn1
  clear ho hOff hMe h5 h51 hC0 hC1 hs g0 g1 gs hW1 hn0 hn1 hne hd hdd
  go_enter Try.func25, Try.ntmps25
  go_wp2_with (first | (go_at_call 22; rw [← hWA.out]; with_reducible refine hO.out.mono ?_; rintro e w2 ⟨rfl, rfl⟩) | (go_at_call 29; with_reducible refine hM.out.mono ?_; rintro e W2 ⟨v0, rfl, hR, hb2⟩; obtain ⟨g, cap, hv, hgb, _⟩ := Kd.R_form hR (by rw [V_length, mend_length]; omega); rw [V_length] at hv; subst hv; have h52 := h5A.out.below hb2; have y2 := h52.at.m2; have y0 := h52.at.m0; have f0 := h52.fz 0; have hS := Aside0.mk h52; have hbA := Aside0.mk hb2; have hRA := Aside0.mk hR; clear z0 z3 f3 h52 hb2 hR))
  have hLl := V_length (mend x.now x.old (x.gap + 1) (mul d (inv x.was)))
  have hR2 := hRA.out
  have hBl := h5A.out.lt
  have r1 := Kd.R_reads' hR2
  have hb3 := hbA.out
  have o2 : Out B W1 W2 := ⟨hb3.os, hb3.tape, hb3.output, hb3.size, fun k hk _ => hb3.block k hk⟩
  have o3 := Out.set B 0 W2 (.slice (some ⟨g, 0, none⟩) (mend x.now x.old (x.gap + 1) (mul d (inv x.was))).length cap)
  have hgB : ∀ ad : Addr, (some ⟨g, 0, none⟩ : Option Addr) = some ad → ad.block ≠ B := fun ad e => by cases e; show g ≠ B; omega
  refine bodyPost_end (results_none rfl _ _ _) rfl ⟨⟨_, rfl⟩, ⟨_, _, _, _, hS.out.p0 _ _ cap, ⟨C_out r1.2.2 hgB o3, by have := r1.2.1; omega, hgB⟩, C_out (Kd.C_below gA.out.1 hbA.out) hnA.out o3, gA.out.2, hnA.out⟩, (hoA.out.trans o2).trans o3⟩
set_option maxRecDepth 100000 in
set_option maxHeartbeats 400000 in
theorem take_grow (x : St) (s : List F) (A : Option Addr) (c B at_ : Nat) (w : World) (hH : Has w B x) (hs : Kd.C (Kd.int .u32) w A (V s).length (V s)) (hc : s.length ≤ c) (hne : ∀ ad, A = some ad → ad.block ≠ B) (ha : at_ < s.length) (hsl : s.length < 50000)
    (b0 : x.now.length < 100000) (b1 : x.old.length < 100000) (b2 : x.gap < 99999) (b3 : 1 ≤ x.now.length) (b4 : x.len ≤ at_) (hd : act x.now (co s) at_ ≠ 0#32) (hl : 2 * x.len ≤ at_) :
    Calls Try.prog 25 #[.pointer (some ⟨B, 0, none⟩), .slice A s.length c, .int .i64 at_] w fun e w' => (∃ v, e = .returned v) ∧ Has w' B (x.nxt (co s) at_) ∧ Out B w w' := by
  have hx : x.nxt (co s) at_ = ⟨mend x.now x.old (x.gap + 1) (mul (act x.now (co s) at_) (inv x.was)), x.now, at_ + 1 - x.len, 0, act x.now (co s) at_⟩ := by unfold St.nxt; rw [if_neg hd, if_pos hl]
  rw [hx]
  clear hx
  obtain ⟨A0, c0, A1, c1, h5, ⟨hC0, hc0, hn0⟩, hC1, hc1, hn1⟩ := hH
  obtain ⟨W1, hW1⟩ : ∃ W1, W1 = w.setCell ⟨B, 3, none⟩ (.int .i64 ((x.gap : Int) + 1)) := ⟨_, rfl⟩
  have ho : Out B w W1 := by rw [hW1]; exact Out.set B 3 w _
  have h51 : S5 W1 B x.now.length x.old.length A0 c0 A1 c1 x.len (x.gap + 1) x.was := by rw [hW1]; exact h5.p3 (x.gap + 1)
  have g0 := C_out hC0 hn0 ho; have g1 := C_out hC1 hn1 ho; have gs := C_out hs hne ho
  have hOff := off_calls x.now s A0 A c0 c at_ W1 g0 hc0 gs hc ha (by omega) (by omega)
  have hMe := mended_calls x.now x.old B A0 A1 c0 c1 x.len (x.gap + 1) x.was (act x.now (co s) at_) W1 h51.at g0 hc0 g1 hc1 b0 b3 b1 (by omega)
  obtain ⟨d, hdd⟩ : ∃ d, d = act x.now (co s) at_ := ⟨_, rfl⟩
  rw [← hdd] at hOff hMe hd ⊢
  have hd1 : (v d == 0) = false := by simp; exact fun e => hd ((v_zero_iff d).1 e)
  have hd2 : decide (v d = 0) = false := decide_eq_false (fun e => hd ((v_zero_iff d).1 e))
  have hd3 : ¬ v d = 0 := fun e => hd ((v_zero_iff d).1 e)
  have z3 := h5.at.m3; have f3 := h5.fz 3
  have z0 := h5.at.m0
  have q1 : IntKind.i64.wrap ((x.gap : Int) + 1) = (x.gap : Int) + 1 := IntWalk.i64_in _ (by omega)
  have q2 : IntKind.i64.wrap (2 * (x.len : Int)) = 2 * (x.len : Int) := IntWalk.i64_in _ (by omega)
  have q3 : decide (2 * (x.len : Int) ≤ (at_ : Int)) = true := decide_eq_true (by omega)
  have q4 : IntKind.i64.wrap ((at_ : Int) + 1) = (at_ : Int) + 1 := IntWalk.i64_in _ (by omega)
  have q5 : IntKind.i64.wrap ((at_ : Int) + 1 - (x.len : Int)) = ((at_ + 1 - x.len : Nat) : Int) := by rw [IntWalk.i64_in _ (by omega)]; omega
  have hu := Try.underlying42
  have hWA := Aside0.mk hW1
  have hO := Aside0.mk hOff
  have hM := Aside0.mk hMe
  have h5A := Aside0.mk h51
  have hoA := Aside0.mk ho
  have gA := Aside0.mk (And.intro g0 hc0)
  have hnA := Aside0.mk hn0
  clear ho hOff hMe h5 h51 hC0 hC1 hs g0 g1 gs hW1 hn0 hn1 hne hd hdd
  go_enter Try.func25, Try.ntmps25
  go_wp2_with (first | (go_at_call 22; rw [← hWA.out]; with_reducible refine hO.out.mono ?_; rintro e w2 ⟨rfl, rfl⟩) | (go_at_call 29; with_reducible refine hM.out.mono ?_; rintro e W2 ⟨v0, rfl, hR, hb2⟩; obtain ⟨g, cap, hv, hgb, _⟩ := Kd.R_form hR (by rw [V_length, mend_length]; omega); rw [V_length] at hv; subst hv; have h52 := h5A.out.below hb2; have y2 := h52.at.m2; have y0 := h52.at.m0; have f0 := h52.fz 0; have y1 := h52.at.m1; have y3 := h52.at.m3; have y4 := h52.at.m4; have f1 := h52.fz 1; have f2 := h52.fz 2; have f3' := h52.fz 3; have f4 := h52.fz 4; have hS := Aside0.mk h52; have hbA := Aside0.mk hb2; have hRA := Aside0.mk hR; clear z0 z3 f3 h52 hb2 hR))
  have hLl := V_length (mend x.now x.old (x.gap + 1) (mul d (inv x.was)))
  have hR2 := hRA.out
  have hBl := h5A.out.lt
  have r1 := Kd.R_reads' hR2
  have hb3 := hbA.out
  have o2 : Out B W1 W2 := ⟨hb3.os, hb3.tape, hb3.output, hb3.size, fun k hk _ => hb3.block k hk⟩
  obtain ⟨m, hm⟩ : ∃ m, m = at_ + 1 - x.len := ⟨_, rfl⟩
  have h6 := ((((hS.out.p1 A0 x.now.length c0).p4 d).p3 0).p2 (at_ + 1 - x.len)).p0 (some ⟨g, 0, none⟩) (mend x.now x.old (x.gap + 1) (mul d (inv x.was))).length cap
  have o3 := ((((Out.set B 1 W2 (.slice A0 x.now.length c0)).trans (Out.set B 4 _ (.int .u32 (v d)))).trans (Out.set B 3 _ (.int .i64 ((0 : Nat) : Int)))).trans (Out.set B 2 _ (.int .i64 ((at_ + 1 - x.len : Nat) : Int)))).trans (Out.set B 0 _ (.slice (some ⟨g, 0, none⟩) (mend x.now x.old (x.gap + 1) (mul d (inv x.was))).length cap))
  have hgB : ∀ ad : Addr, (some ⟨g, 0, none⟩ : Option Addr) = some ad → ad.block ≠ B := fun ad e => by cases e; show g ≠ B; omega
  refine bodyPost_end (results_none rfl _ _ _) rfl ⟨⟨_, rfl⟩, ⟨_, _, _, _, h6, ⟨C_out r1.2.2 hgB o3, by have := r1.2.1; omega, hgB⟩, C_out (Kd.C_below gA.out.1 hbA.out) hnA.out o3, gA.out.2, hnA.out⟩, (hoA.out.trans o2).trans o3⟩
/-- one element, whatever it is -/
theorem take_calls (x : St) (s : List F) (A : Option Addr) (c B at_ : Nat) (w : World) (hH : Has w B x) (hs : Kd.C (Kd.int .u32) w A (V s).length (V s)) (hc : s.length ≤ c) (hne : ∀ ad, A = some ad → ad.block ≠ B) (ha : at_ < s.length) (hsl : s.length < 50000)
    (b0 : x.now.length < 100000) (b1 : x.old.length < 100000) (b2 : x.gap < 99999) (b3 : 1 ≤ x.now.length) (b4 : x.len ≤ at_) :
    Calls Try.prog 25 #[.pointer (some ⟨B, 0, none⟩), .slice A s.length c, .int .i64 at_] w fun e w' => (∃ v, e = .returned v) ∧ Has w' B (x.nxt (co s) at_) ∧ Out B w w' := by
  by_cases hd : act x.now (co s) at_ = 0#32
  · exact take_zero x s A c B at_ w hH hs hc hne ha hsl b0 b1 b2 hd
  · by_cases hl : 2 * x.len ≤ at_
    · exact take_grow x s A c B at_ w hH hs hc hne ha hsl b0 b1 b2 b3 b4 hd hl
    · exact take_more x s A c B at_ w hH hs hc hne ha hsl b0 b1 b2 b3 b4 hd hl
end Go.Proofs.Ytfjkiiajbeaaoaa.MW
/- massey.run: the bounds of what is under way. -/
set_option linter.unusedVariables false
set_option linter.unusedSimpArgs false
namespace Go.Proofs.Ytfjkiiajbeaaoaa.MW
open Go.RowKit Go.Proofs.Ytfjkiiajbeaaoaa.Q Go.Proofs.YtfjkiiajbeaaoaaW.PrintWords Go.Proofs.YtfjkiiajbeaaoaaW.PrintLast Go.Proofs.YtfjkiiajbeaaoaaW.PrintMore Go.Proofs.Ytfjkiiajbeaaoaa.Bits Go.Proofs.Ytfjkiiajbeaaoaa GF PolyT MV Massey
theorem run_bounds (f : S) (n : Nat) : (run f n).now.length ≤ n + 1 ∧ (run f n).old.length ≤ n + 1 ∧ (run f n).gap ≤ n ∧ 1 ≤ (run f n).now.length ∧ (run f n).len ≤ n := by
  have h := inv_run f n
  have h1 := h.rec_.1
  have h2 := h.len
  refine ⟨by omega, ?_, ?_, h.pos, h2⟩
  · rcases h.old with ⟨_, _, e⟩ | ⟨m, l, a, b, _, _, c, _⟩
    · rw [e]; simp
    · omega
  · rcases h.old with ⟨_, e, _⟩ | ⟨m, l, a, b, c, _⟩
    · omega
    · omega
end Go.Proofs.Ytfjkiiajbeaaoaa.MW
/- massey.run: the walk. -/
set_option linter.unusedVariables false
set_option linter.unusedSimpArgs false
namespace Go.Proofs.Ytfjkiiajbeaaoaa.MW
open Go.RowKit Go.Proofs.Ytfjkiiajbeaaoaa.Q Go.Proofs.YtfjkiiajbeaaoaaW.PrintWords Go.Proofs.YtfjkiiajbeaaoaaW.PrintLast Go.Proofs.YtfjkiiajbeaaoaaW.PrintMore Go.Proofs.Ytfjkiiajbeaaoaa.Bits Go.Proofs.Ytfjkiiajbeaaoaa GF PolyT MV Massey
theorem heap_new (w : World) (o : Obj) : (w.alloc o).heap[w.heap.size]? = some o := by
  show (w.heap.push o)[w.heap.size]? = some o
  simp
theorem below_out {n B : Nat} {w w0 w1 : World} (h : Below n w w0) (o : Out B w0 w1) (hn : n ≤ B) (hs : n ≤ w.heap.size) : Below n w w1 :=
  ⟨o.os.trans h.os, o.tape.trans h.tape, o.output.trans h.output, Nat.le_trans h.size o.size, fun k hk => by
    rw [o.block k (by have := h.size; omega) (by simp; omega)]; exact h.block k hk⟩
/-- a block of one word -/
theorem C_one (w : World) (g : Nat) (x : F) (ty : TypeId) (h : w.heap[g]? = some (.cells #[.int .u32 (v x)] ty (0, 0))) : Kd.C (Kd.int .u32) w (some ⟨g, 0, none⟩) (V [x]).length (V [x]) :=
  Kd.C_of_reads (d := 0) ⟨rfl, by show 1 ≤ _; decide, fun _ => ⟨_, rfl, fun j hj => by
    have : j = 0 := by simp [V] at hj; omega
    subst this
    show w.cell? ⟨g, 0, none⟩ = _
    rw [blk_cell h]; rfl⟩⟩
/-- the state at the beginning -/
theorem has_start (f : S) (w : World) : Has (((w.alloc (.cells #[.int .u32 1] 30)).alloc (.cells #[.int .u32 1] 30)).alloc (.cells #[.slice (some ⟨w.heap.size, 0, none⟩) 1 1, .slice (some ⟨w.heap.size + 1, 0, none⟩) 1 1, .int .i64 0, .int .i64 0, .int .u32 1] 42)) (w.heap.size + 1 + 1) (run f 0) := by
  have e0 : ((w.alloc (.cells #[.int .u32 1] 30)).alloc (.cells #[.int .u32 1] 30)).heap.size = w.heap.size + 1 + 1 := by simp
  have a := C_one (w.alloc (.cells #[.int .u32 1] 30)) w.heap.size 1#32 _ (heap_new _ _)
  have b := C_one ((w.alloc (.cells #[.int .u32 1] 30)).alloc (.cells #[.int .u32 1] 30)) (w.heap.size + 1) 1#32 _ (by
    have := heap_new (w.alloc (.cells #[.int .u32 1] 30)) (.cells #[.int .u32 1] 30)
    rwa [show (w.alloc (.cells #[.int .u32 1] 30)).heap.size = w.heap.size + 1 by simp] at this)
  refine ⟨some ⟨w.heap.size, 0, none⟩, 1, some ⟨w.heap.size + 1, 0, none⟩, 1, ?_, ⟨Kd.C_alloc (Kd.C_alloc a _) _, by simp [run], fun ad e => by cases e; show w.heap.size ≠ _; omega⟩, Kd.C_alloc b _, by simp [run], fun ad e => by cases e; show w.heap.size + 1 ≠ _; omega⟩
  unfold S5
  rw [← e0]
  exact heap_new _ _
theorem below_start (w : World) (o p q : Obj) : Below w.heap.size w (((w.alloc o).alloc p).alloc q) := below_alloc (below_alloc (below_alloc (Below.refl _ _) o) p) q
set_option maxRecDepth 100000 in
set_option maxHeartbeats 400000 in
theorem run_calls (s : List F) (A : Option Addr) (c : Nat) (w : World) (hs : Kd.C (Kd.int .u32) w A (V s).length (V s)) (hc : s.length ≤ c) (hsl : s.length < 50000) :
    Calls Try.prog 18 #[.slice A s.length c] w fun e w' => ∃ B, e = .returned (.pointer (some ⟨B, 0, none⟩)) ∧ Has w' B (run (co s) s.length) ∧ w.heap.size ≤ B ∧ Below w.heap.size w w' := by
  have h0 := Aside0.mk (has_start (co s) w)
  have hb0 := Aside0.mk (below_start w (.cells #[.int .u32 1] 30) (.cells #[.int .u32 1] 30) (.cells #[.slice (some ⟨w.heap.size, 0, none⟩) 1 1, .slice (some ⟨w.heap.size + 1, 0, none⟩) 1 1, .int .i64 0, .int .i64 0, .int .u32 1] 42))
  have hsA := Aside0.mk hs
  clear hs
  go_enter Try.func18, Try.ntmps18
  go_wp2_with fail
  go_loopw [11] (fun i wr => ∃ k : Nat, k ≤ s.length ∧ i = .int .i64 k ∧ Has wr (w.heap.size + 1 + 1) (run (co s) k) ∧ Below w.heap.size w wr) (fun i _ => s.length - (intOf i).toNat)
  case atStart => exact ⟨0, by omega, rfl, h0.out, hb0.out⟩
  case round =>
    obtain ⟨k, hk, rfl, hH, hB⟩ := hrel
    have hC := Kd.C_below hsA.out hB
    have hbd := run_bounds (co s) k
    by_cases hlt : k < s.length
    · have p0 : (k : Int) < (s.length : Int) := by omega
      have hw4 : IntKind.i64.wrap ((k : Int) + 1) = (k : Int) + 1 := IntWalk.i64_in _ (by omega)
      have hne : ∀ ad, A = some ad → ad.block ≠ w.heap.size + 1 + 1 := fun ad e => by
        obtain ⟨ae, e2, hx⟩ := Kd.at_int hsA.out 0 (by omega) (by rw [V_length]; omega)
        have := World.block_lt_of_cell? w _ hx
        rw [e] at e2; cases e2
        have hz : (ad.add (0 : Int).toNat).block = ad.block := rfl
        omega
      have hT := Aside0.mk (take_calls (run (co s) k) s A c (w.heap.size + 1 + 1) k wr hH hC hc hne hlt hsl (by omega) (by omega) (by omega) hbd.2.2.2.1 hbd.2.2.2.2)
      have hBA := Aside0.mk hB
      clear hH hC hbd hne hB
      go_wp2_with (go_at_call 25; with_reducible refine hT.out.mono ?_; rintro e w2 ⟨⟨v0, rfl⟩, hH2, hO2⟩; have hH3 := Aside0.mk hH2; have hB3 := Aside0.mk (below_out hBA.out hO2 (by omega) (Nat.le_refl _)); clear hH2 hO2)
      go_roundw
      case rel => exact ⟨k + 1, by omega, by go_num, hH3.out, hB3.out⟩
      case measure => simp [intOf]; omega
    · obtain rfl : k = s.length := by omega
      have hHA := Aside0.mk hH; have hBA := Aside0.mk hB
      clear hH hB hbd hC
      go_wp2
      go_ret
      exact ⟨_, rfl, hHA.out, by omega, hBA.out⟩
end Go.Proofs.Ytfjkiiajbeaaoaa.MW
/- massey.Length and massey.Shortest. -/
set_option linter.unusedVariables false
set_option linter.unusedSimpArgs false
namespace Go.Proofs.Ytfjkiiajbeaaoaa.MW
open Go.RowKit Go.Proofs.Ytfjkiiajbeaaoaa.Q Go.Proofs.YtfjkiiajbeaaoaaW.PrintWords Go.Proofs.YtfjkiiajbeaaoaaW.PrintLast Go.Proofs.YtfjkiiajbeaaoaaW.PrintMore Go.Proofs.Ytfjkiiajbeaaoaa.Bits Go.Proofs.Ytfjkiiajbeaaoaa GF PolyT MV Massey
/-- the recurrence found, as long as its length says -/
def short (f : S) (n : Nat) : List F := (run f n).now ++ List.replicate ((run f n).len + 1 - (run f n).now.length) 0#32
set_option maxRecDepth 100000 in
set_option maxHeartbeats 400000 in
theorem length_calls (s : List F) (A : Option Addr) (c : Nat) (w : World) (hs : Kd.C (Kd.int .u32) w A (V s).length (V s)) (hc : s.length ≤ c) (hsl : s.length < 50000) :
    Calls Try.prog 9 #[.slice A s.length c] w fun e w' => e = .returned (.int .i64 (run (co s) s.length).len) ∧ Below w.heap.size w w' := by
  have hR := Aside0.mk (run_calls s A c w hs hc hsl)
  have hu := Try.underlying42
  clear hs
  go_enter Try.func9, Try.ntmps9
  go_wp2_with (go_at_call 18; (with_reducible refine hR.out.mono ?_; rintro e w2 ⟨B, rfl, hH, hB1, hB2⟩; unfold Has at hH; obtain ⟨A0, c0, A1, c1, h5, -, -⟩ := hH; have z2 := h5.at.m2; have hBA := Aside0.mk hB2; clear h5 hB2))
  go_ret
  exact ⟨rfl, hBA.out⟩
set_option maxRecDepth 100000 in
set_option maxHeartbeats 400000 in
theorem shortest_calls (s : List F) (A : Option Addr) (c : Nat) (w : World) (hs : Kd.C (Kd.int .u32) w A (V s).length (V s)) (hc : s.length ≤ c) (hsl : s.length < 50000) :
    Calls Try.prog 10 #[.slice A s.length c] w fun e w' => ∃ v0, e = .returned v0 ∧ Kd.R (Kd.int .u32) 30 w' w.heap.size (fun _ => True) v0 (V (short (co s) s.length)) ∧ Below w.heap.size w w' := by
  have hR := Aside0.mk (run_calls s A c w hs hc hsl)
  have hu := Try.underlying42
  have hbd := run_bounds (co s) s.length
  have hrl : (run (co s) s.length).now.length ≤ (run (co s) s.length).len + 1 := (inv_run (co s) s.length).rec_.1
  have hsh : short (co s) s.length = (run (co s) s.length).now ++ List.replicate ((run (co s) s.length).len + 1 - (run (co s) s.length).now.length) 0#32 := rfl
  rw [hsh]
  generalize run (co s) s.length = x at *
  obtain ⟨n, hn⟩ : ∃ n, n = x.len := ⟨_, rfl⟩
  have q1 : IntKind.i64.wrap ((x.len : Int) + 1) = (x.len : Int) + 1 := IntWalk.i64_in _ (by omega)
  have hxl : x.len < 50000 := by omega
  have hBd := Aside0.mk hbd
  have hrA := Aside0.mk hrl
  clear hs hsh hbd hrl
  go_enter Try.func10, Try.ntmps10
  go_wp2_with (first | (go_at_call 18; with_reducible refine hR.out.mono ?_; rintro e w2 ⟨B, rfl, hH, hB1, hB2⟩; unfold Has at hH; obtain ⟨A0, c0, A1, c1, h5, hC0, hC1⟩ := hH; have z2 := h5.at.m2; have h5A := Aside0.mk h5; have hCA := Aside0.mk hC0; have hBA := Aside0.mk hB2; clear h5 hB2 hC0 hC1) | (at_make; (refine Kd.R_make (Kd.int .u32) (w0 := w) w.heap.size 30 rfl (N := 12) rfl 22 (.tmp 11) (.tmp 11) rfl ((x.len : Int) + 1) rfl rfl Try.underlying22 (.int .u32 0) 4 info_u32 rfl (by decide) (by decide) 0 (ok := fun _ => True) (okp := fun _ => False) rfl (fun _ _ => trivial) trivial (by omega) (by omega) hBA.out hBA.out.size ?_; intro v1 w3 hR3 hB3 hg3 hat3; have hb3 : Below w2.heap.size w2 w3 := ⟨hg3.os, hg3.tape, hg3.output, hg3.size, fun k hk => hg3.block k hk (by simp)⟩; have y0 := (h5A.out.below hb3).at.m0; have hRA := Aside0.mk hR3; have hBB := Aside0.mk hB3; have hCB := Aside0.mk (Kd.C_below hCA.out.1 hb3); clear hR3 hB3 hg3 hat3 hb3 z2)) | (refine Kd.R_copy (h1 := fun _ => rfl) 0 (w0 := w) w.heap.size rfl (.tmp 13) (.tmp 17) 22 22 30 rfl Try.underlying22 (by kernel_rfl) _ _ _ _ _ _ (fun _ => True) rfl rfl hRA.out (by rw [← V_length]; exact hCB.out) hBB.out hBB.out.size ?_; intro w4 hR4 hB4 hg4; have hRC := Aside0.mk hR4; have hBC := Aside0.mk hB4; clear hR4 hB4 hg4))
  go_ret
  refine ⟨_, rfl, ?_, hBC.out⟩
  have hrl := hrA.out
  have e1 : ((x.len : Int) + 1).toNat = x.len + 1 := by omega
  have e2 : min x.now.length (x.len + 1) = x.now.length := by omega
  have := hRC.out
  rw [e1, List.length_replicate, e2, List.take_of_length_le (by rw [V_length]; exact Nat.le_refl _), List.drop_replicate, V_replicate, ← V_append] at this
  exact this
/-- a list of words, not too long -/
def In (l : List Int) : Prop := (∀ x ∈ l, 0 ≤ x ∧ x < 4294967296) ∧ l.length < 50000
instance (l : List Int) : Decidable (In l) := by unfold In; exact inferInstance
end Go.Proofs.Ytfjkiiajbeaaoaa.MW
/- Recurrences that are kept, and sequences that go on by them. -/
set_option linter.unusedVariables false
set_option linter.unusedSimpArgs false
namespace Go.Proofs.Ytfjkiiajbeaaoaa.Massey
open Go.RowKit GF PolyT MV MW
/-- the recurrence is kept by the sequence -/
def Keep (c s : List F) : Prop := 1 ≤ c.length ∧ co c 0 = 1#32 ∧ ∀ i, c.length ≤ i + 1 → i < s.length → act c (co s) i = 0#32
theorem Keep.rec {c s : List F} (h : Keep c s) : Rec (co s) s.length c (c.length - 1) := ⟨by omega, h.2.1, fun i a b => h.2.2 i (by omega) b⟩
theorem act_append (f : S) : ∀ a b : List F, act (a ++ b) f = sadd (act a f) (shn a.length (act b f))
  | [], b => by funext i; simp [act, sadd, shn_zero]
  | x :: a, b => by
    show sadd (smul x f) (X (act (a ++ b) f)) = sadd (sadd (smul x f) (X (act a f))) _
    rw [act_append f a b, X_add, X_shn]
    funext i; simp only [sadd, List.length_cons]; ac_rfl
theorem act_noughts (f : S) : ∀ n, act (List.replicate n 0#32) f = fun _ => 0#32
  | 0 => rfl
  | n + 1 => by
    show sadd (smul 0#32 f) (X (act (List.replicate n 0#32) f)) = _
    rw [act_noughts f n, X_zero]
    funext i; simp [sadd, smul, GF.zero_mul]
theorem short_length (f : S) (n : Nat) : (short f n).length = (run f n).len + 1 := by
  have := (inv_run f n).rec_.1
  unfold short; rw [List.length_append, List.length_replicate]; omega
theorem act_short (f g : S) (n : Nat) : act (short f n) g = act (run f n).now g := by
  unfold short
  rw [act_append, act_noughts]
  funext i; simp [sadd, shn]
theorem co_short (f : S) (n : Nat) : co (short f n) 0 = 1#32 := by
  have h := inv_run f n
  unfold short
  rw [co_append, if_pos (by have := h.pos; omega)]; exact h.rec_.2.1
theorem short_rec (f : S) (n : Nat) : Rec f n (short f n) (run f n).len :=
  ⟨by rw [short_length]; exact Nat.le_refl _, co_short f n, fun i a b => by rw [act_short]; exact (inv_run f n).rec_.2.2 i a b⟩
theorem short_keep (s : List F) : Keep (short (co s) s.length) s :=
  ⟨by rw [short_length]; omega, co_short _ _, fun i a b => (short_rec (co s) s.length).2.2 i (by rw [short_length] at a; omega) b⟩
theorem act_set (f : S) (b : F) : ∀ (c : List F) (k : Nat), k < c.length → act (c.set k (co c k ^^^ b)) f = sadd (act c f) (smul b (shn k f))
  | [], k, h => absurd h (Nat.not_lt_zero _)
  | x :: l, 0, _ => by
    show sadd (smul (x ^^^ b) f) (X (act l f)) = sadd (sadd (smul x f) (X (act l f))) (smul b (shn 0 f))
    rw [shn_zero]
    funext i; simp only [sadd, smul, xor_mul]; ac_rfl
  | x :: l, k + 1, h => by
    have hk : k < l.length := by simp at h; omega
    show sadd (smul x f) (X (act (l.set k (co l k ^^^ b)) f)) = sadd (sadd (smul x f) (X (act l f))) (smul b (shn (k + 1) f))
    rw [act_set f b l k hk, X_add, X_smul, X_shn]
    funext i; simp only [sadd]; ac_rfl
/-- another one of the same length is not kept -/
theorem one_only (s : List F) (k : Nat) (b : F) (hb : b ≠ 0#32) (h1 : 1 ≤ k) (h2 : k ≤ (run (co s) s.length).len) (h3 : 2 * (run (co s) s.length).len ≤ s.length) :
    ¬ Keep ((short (co s) s.length).set k (co (short (co s) s.length) k ^^^ b)) s := by
  intro h
  have hl := short_length (co s) s.length
  have hr := h.rec
  rw [List.length_set, hl, Nat.add_sub_cancel] at hr
  refine just_one (co s) s.length k b hb _ _ h1 h2 h3 (short_rec _ _) hr (fun i hi => ?_)
  rw [act_set _ _ _ _ (by omega)]
  show _ ^^^ mul b (shn k (co s) i) = _
  unfold shn; rw [if_pos hi]
/-- no shorter one than the shortest -/
theorem short_least {c s : List F} (h : Keep c s) : (run (co s) s.length).len + 1 ≤ c.length := by
  have := (inv_run (co s) s.length).least c _ h.rec
  have := h.1
  omega
/-- the next element -/
def nextOf (c o : List F) : F := act c (co (o ++ [0#32])) o.length
/-- the sequence goes on by n elements -/
def goes (c o : List F) : Nat → List F
  | 0 => o
  | n + 1 => goes c (o ++ [nextOf c o]) n
theorem act_last (c o : List F) (x : F) (h : co c 0 = 1#32) : act c (co (o ++ [x])) o.length = x ^^^ nextOf c o := by
  have e : co (o ++ [x]) = sadd (co (o ++ [0#32])) (shn o.length (co [x])) := by
    funext i
    show _ = _ ^^^ shn o.length (co [x]) i
    rw [co_append, co_append]; unfold shn
    by_cases hi : i < o.length
    · rw [if_pos hi, if_pos hi, if_neg (by omega)]; simp
    · rw [if_neg hi, if_neg hi, if_pos (by omega)]
      have : co [0#32] (i - o.length) = 0#32 := co_replicate 1 _
      rw [this]; simp
  rw [e, act_add]
  show nextOf c o ^^^ act c (shn o.length (co [x])) o.length = _
  rw [act_shn]
  have : shn o.length (act c (co [x])) o.length = x := by
    unfold shn; rw [if_pos (Nat.le_refl _), Nat.sub_self]
    cases c with
    | nil => cases h
    | cons a l =>
      have ha : a = 1#32 := h
      show mul a (co [x] 0) ^^^ 0#32 = x
      rw [ha, GF.one_mul]; simp [co_cons_zero]
  rw [this]; exact BitVec.xor_comm _ _
theorem act_early (c o p : List F) (i : Nat) (h : i < o.length) : act c (co (o ++ p)) i = act c (co o) i :=
  act_local c _ _ i (fun j hj => by rw [co_append, if_pos (by omega)])
theorem Keep.next {c o : List F} (h : Keep c o) : Keep c (o ++ [nextOf c o]) :=
  ⟨h.1, h.2.1, fun i a b => by
    by_cases hi : i < o.length
    · rw [act_early _ _ _ _ hi]; exact h.2.2 i a hi
    · have : i = o.length := by simp at b; omega
      subst this
      rw [act_last _ _ _ h.2.1]; simp⟩
theorem goes_length (c : List F) : ∀ (n : Nat) (o : List F), (goes c o n).length = o.length + n
  | 0, o => rfl
  | n + 1, o => by simp only [goes]; rw [goes_length c n]; simp; omega
theorem Keep.goes {c : List F} : ∀ (n : Nat) {o : List F}, Keep c o → Keep c (goes c o n)
  | 0, _, h => h
  | n + 1, _, h => Keep.goes n h.next
/-- what is kept goes on so -/
theorem goes_again {c s : List F} (h : Keep c s) : ∀ (n m : Nat), m + n = s.length → c.length ≤ m + 1 → Massey.goes c (s.take m) n = s
  | 0, m, e, _ => by show s.take m = s; exact List.take_of_length_le (by omega)
  | n + 1, m, e, hm => by
    have ht : s.take (m + 1) = s.take m ++ [s[m]'(by omega)] := List.take_succ_eq_append_getElem (by omega)
    have hl : (s.take m).length = m := by rw [List.length_take]; omega
    have h0 : act c (co s) m = 0#32 := h.2.2 m hm (by omega)
    have h1 : act c (co (s.take (m + 1))) m = 0#32 := by
      rw [← h0]; exact act_local c _ _ m (fun j hj => by rw [PolyT.co_take, if_pos (by omega)])
    have hx : nextOf c (s.take m) = s[m]'(by omega) := by
      have := act_last c (s.take m) (s[m]'(by omega)) h.2.1
      rw [← ht, hl, h1] at this
      have h2 := congrArg (fun z => s[m]'(by omega) ^^^ z) this
      simp only [BitVec.xor_zero, ← BitVec.xor_assoc, BitVec.xor_self, BitVec.zero_xor] at h2
      exact h2.symm
    simp only [Massey.goes]
    rw [hx, ← ht]
    exact goes_again h n (m + 1) (by omega) (by omega)
/-- a beginning that is too short to be looked at -/
theorem keep_begin {c o : List F} (h : 1 ≤ c.length) (h0 : co c 0 = 1#32) (hl : o.length + 1 ≤ c.length) : Keep c o :=
  ⟨h, h0, fun i a b => by omega⟩
end Go.Proofs.Ytfjkiiajbeaaoaa.Massey
