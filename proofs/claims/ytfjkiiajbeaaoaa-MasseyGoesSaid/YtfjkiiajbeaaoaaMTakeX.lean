/- (*state).take where something is off. -/
import Derived.Test.YtfjkiiajbeaaoaaMTakeW
set_option linter.unusedVariables false
set_option linter.unusedSimpArgs false
namespace Go.Proofs.Ytfjkiiajbeaaoaa.MW
open Go.RowKit Go.Proofs.Ytfjkiiajbeaaoaa.Q Go.Proofs.YtfjkiiajbeaaoaaW.PrintWords Go.Proofs.YtfjkiiajbeaaoaaW.PrintLast Go.Proofs.YtfjkiiajbeaaoaaW.PrintMore Go.Proofs.Ytfjkiiajbeaaoaa.Bits Go.Proofs.Ytfjkiiajbeaaoaa GF PolyT MV Massey
set_option maxRecDepth 100000 in
set_option maxHeartbeats 400000 in
theorem take_more (x : St) (s : List F) (A : Option Addr) (c B at_ : Nat) (w : World) (hH : Has w B x) (hs : Kd.C (Kd.int .u32) w A (V s).length (V s)) (hc : s.length ≤ c) (hne : ∀ ad, A = some ad → ad.block ≠ B) (ha : at_ < s.length) (hsl : s.length < 50000)
    (b0 : x.now.length < 100000) (b1 : x.old.length < 100000) (b2 : x.gap < 99999) (b3 : 1 ≤ x.now.length) (b4 : x.len ≤ at_) (hd : act x.now (co s) at_ ≠ 0#32) (hl : ¬ 2 * x.len ≤ at_) :
    Calls Try.prog 25 #[.pointer (some ⟨B, 0, none⟩), .slice A s.length c, .int .i64 at_] w fun e w' => (∃ v, e = .returned v) ∧ Has w' B (x.nxt (co s) at_) ∧ Out B w w' := by
  have hx : x.nxt (co s) at_ = { x with now := mend x.now x.old (x.gap + 1) (mul (act x.now (co s) at_) (inv x.was)), gap := x.gap + 1 } := by unfold St.nxt; rw [if_neg hd, if_neg hl]
  rw [hx]
  clear hx
  obtain ⟨A0, c0, A1, c1, h5, ⟨hC0, hc0, hn0⟩, hC1, hc1, hn1⟩ := hH
  obtain ⟨W1, hW1⟩ : ∃ W1, W1 = w.setCell ⟨B, 3, none⟩ (.int .i64 ((x.gap : Int) + 1)) := ⟨_, rfl⟩
  have ho : Out B w W1 := by rw [hW1]; exact Out.set B 3 w _
  have h51 : S5 W1 B x.now.length x.old.length A0 c0 A1 c1 x.len (x.gap + 1) x.was := by rw [hW1]; exact h5.p3 (x.gap + 1)
  have g0 := C_out hC0 hn0 ho; have g1 := C_out hC1 hn1 ho; have gs := C_out hs hne ho
  have hOff := off_calls x.now s A0 A c0 c at_ W1 g0 hc0 gs hc ha (by omega) (by omega)
  have hMe := mended_calls x.now x.old B A0 A1 c0 c1 x.len (x.gap + 1) x.was (act x.now (co s) at_) W1 h51.at g0 hc0 g1 hc1 b0 b3 b1 (by omega)
  obtain ⟨d, hdd⟩ : ∃ d, d = act x.now (co s) at_ := ⟨_, rfl⟩
  rw [← hdd] at hOff hMe hd ⊢
  have hd1 : (v d == 0) = false := by simp; exact fun e => hd ((v_zero_iff d).1 e)
  have hd2 : decide (v d = 0) = false := decide_eq_false (fun e => hd ((v_zero_iff d).1 e))
  have hd3 : ¬ v d = 0 := fun e => hd ((v_zero_iff d).1 e)
  have z3 := h5.at.m3; have f3 := h5.fz 3
  have z0 := h5.at.m0
  have q1 : IntKind.i64.wrap ((x.gap : Int) + 1) = (x.gap : Int) + 1 := IntWalk.i64_in _ (by omega)
  have q2 : IntKind.i64.wrap (2 * (x.len : Int)) = 2 * (x.len : Int) := IntWalk.i64_in _ (by omega)
  have q3 : decide (2 * (x.len : Int) ≤ (at_ : Int)) = false := decide_eq_false (by omega)
  have hu := Try.underlying42
  have hWA := Aside0.mk hW1
  have hO := Aside0.mk hOff
  have hM := Aside0.mk hMe
  have h5A := Aside0.mk h51
  have hoA := Aside0.mk ho
  have gA := Aside0.mk (And.intro g1 hc1)
  have hnA := Aside0.mk hn1
  clear ho hOff hMe h5 h51 hC0 hC1 hs g0 g1 gs hW1 hn0 hn1 hne hd hdd
  go_enter Try.func25, Try.ntmps25
  go_wp2_with (first | (go_at_call 22; rw [← hWA.out]; with_reducible refine hO.out.mono ?_; rintro e w2 ⟨rfl, rfl⟩) | (go_at_call 29; with_reducible refine hM.out.mono ?_; rintro e W2 ⟨v0, rfl, hR, hb2⟩; obtain ⟨g, cap, hv, hgb, _⟩ := Kd.R_form hR (by rw [V_length, mend_length]; omega); rw [V_length] at hv; subst hv; have h52 := h5A.out.below hb2; have y2 := h52.at.m2; have y0 := h52.at.m0; have f0 := h52.fz 0; have hS := Aside0.mk h52; have hbA := Aside0.mk hb2; have hRA := Aside0.mk hR; clear z0 z3 f3 h52 hb2 hR))
  have hLl := V_length (mend x.now x.old (x.gap + 1) (mul d (inv x.was)))
  have hR2 := hRA.out
  have hBl := h5A.out.lt
  have r1 := Kd.R_reads' hR2
  have hb3 := hbA.out
  have o2 : Out B W1 W2 := ⟨hb3.os, hb3.tape, hb3.output, hb3.size, fun k hk _ => hb3.block k hk⟩
  have o3 := Out.set B 0 W2 (.slice (some ⟨g, 0, none⟩) (mend x.now x.old (x.gap + 1) (mul d (inv x.was))).length cap)
  have hgB : ∀ ad : Addr, (some ⟨g, 0, none⟩ : Option Addr) = some ad → ad.block ≠ B := fun ad e => by cases e; show g ≠ B; omega
  refine bodyPost_end (results_none rfl _ _ _) rfl ⟨⟨_, rfl⟩, ⟨_, _, _, _, hS.out.p0 _ _ cap, ⟨C_out r1.2.2 hgB o3, by have := r1.2.1; omega, hgB⟩, C_out (Kd.C_below gA.out.1 hbA.out) hnA.out o3, gA.out.2, hnA.out⟩, (hoA.out.trans o2).trans o3⟩
set_option maxRecDepth 100000 in
set_option maxHeartbeats 400000 in
theorem take_grow (x : St) (s : List F) (A : Option Addr) (c B at_ : Nat) (w : World) (hH : Has w B x) (hs : Kd.C (Kd.int .u32) w A (V s).length (V s)) (hc : s.length ≤ c) (hne : ∀ ad, A = some ad → ad.block ≠ B) (ha : at_ < s.length) (hsl : s.length < 50000)
    (b0 : x.now.length < 100000) (b1 : x.old.length < 100000) (b2 : x.gap < 99999) (b3 : 1 ≤ x.now.length) (b4 : x.len ≤ at_) (hd : act x.now (co s) at_ ≠ 0#32) (hl : 2 * x.len ≤ at_) :
    Calls Try.prog 25 #[.pointer (some ⟨B, 0, none⟩), .slice A s.length c, .int .i64 at_] w fun e w' => (∃ v, e = .returned v) ∧ Has w' B (x.nxt (co s) at_) ∧ Out B w w' := by
  have hx : x.nxt (co s) at_ = ⟨mend x.now x.old (x.gap + 1) (mul (act x.now (co s) at_) (inv x.was)), x.now, at_ + 1 - x.len, 0, act x.now (co s) at_⟩ := by unfold St.nxt; rw [if_neg hd, if_pos hl]
  rw [hx]
  clear hx
  obtain ⟨A0, c0, A1, c1, h5, ⟨hC0, hc0, hn0⟩, hC1, hc1, hn1⟩ := hH
  obtain ⟨W1, hW1⟩ : ∃ W1, W1 = w.setCell ⟨B, 3, none⟩ (.int .i64 ((x.gap : Int) + 1)) := ⟨_, rfl⟩
  have ho : Out B w W1 := by rw [hW1]; exact Out.set B 3 w _
  have h51 : S5 W1 B x.now.length x.old.length A0 c0 A1 c1 x.len (x.gap + 1) x.was := by rw [hW1]; exact h5.p3 (x.gap + 1)
  have g0 := C_out hC0 hn0 ho; have g1 := C_out hC1 hn1 ho; have gs := C_out hs hne ho
  have hOff := off_calls x.now s A0 A c0 c at_ W1 g0 hc0 gs hc ha (by omega) (by omega)
  have hMe := mended_calls x.now x.old B A0 A1 c0 c1 x.len (x.gap + 1) x.was (act x.now (co s) at_) W1 h51.at g0 hc0 g1 hc1 b0 b3 b1 (by omega)
  obtain ⟨d, hdd⟩ : ∃ d, d = act x.now (co s) at_ := ⟨_, rfl⟩
  rw [← hdd] at hOff hMe hd ⊢
  have hd1 : (v d == 0) = false := by simp; exact fun e => hd ((v_zero_iff d).1 e)
  have hd2 : decide (v d = 0) = false := decide_eq_false (fun e => hd ((v_zero_iff d).1 e))
  have hd3 : ¬ v d = 0 := fun e => hd ((v_zero_iff d).1 e)
  have z3 := h5.at.m3; have f3 := h5.fz 3
  have z0 := h5.at.m0
  have q1 : IntKind.i64.wrap ((x.gap : Int) + 1) = (x.gap : Int) + 1 := IntWalk.i64_in _ (by omega)
  have q2 : IntKind.i64.wrap (2 * (x.len : Int)) = 2 * (x.len : Int) := IntWalk.i64_in _ (by omega)
  have q3 : decide (2 * (x.len : Int) ≤ (at_ : Int)) = true := decide_eq_true (by omega)
  have q4 : IntKind.i64.wrap ((at_ : Int) + 1) = (at_ : Int) + 1 := IntWalk.i64_in _ (by omega)
  have q5 : IntKind.i64.wrap ((at_ : Int) + 1 - (x.len : Int)) = ((at_ + 1 - x.len : Nat) : Int) := by rw [IntWalk.i64_in _ (by omega)]; omega
  have hu := Try.underlying42
  have hWA := Aside0.mk hW1
  have hO := Aside0.mk hOff
  have hM := Aside0.mk hMe
  have h5A := Aside0.mk h51
  have hoA := Aside0.mk ho
  have gA := Aside0.mk (And.intro g0 hc0)
  have hnA := Aside0.mk hn0
  clear ho hOff hMe h5 h51 hC0 hC1 hs g0 g1 gs hW1 hn0 hn1 hne hd hdd
  go_enter Try.func25, Try.ntmps25
  go_wp2_with (first | (go_at_call 22; rw [← hWA.out]; with_reducible refine hO.out.mono ?_; rintro e w2 ⟨rfl, rfl⟩) | (go_at_call 29; with_reducible refine hM.out.mono ?_; rintro e W2 ⟨v0, rfl, hR, hb2⟩; obtain ⟨g, cap, hv, hgb, _⟩ := Kd.R_form hR (by rw [V_length, mend_length]; omega); rw [V_length] at hv; subst hv; have h52 := h5A.out.below hb2; have y2 := h52.at.m2; have y0 := h52.at.m0; have f0 := h52.fz 0; have y1 := h52.at.m1; have y3 := h52.at.m3; have y4 := h52.at.m4; have f1 := h52.fz 1; have f2 := h52.fz 2; have f3' := h52.fz 3; have f4 := h52.fz 4; have hS := Aside0.mk h52; have hbA := Aside0.mk hb2; have hRA := Aside0.mk hR; clear z0 z3 f3 h52 hb2 hR))
  have hLl := V_length (mend x.now x.old (x.gap + 1) (mul d (inv x.was)))
  have hR2 := hRA.out
  have hBl := h5A.out.lt
  have r1 := Kd.R_reads' hR2
  have hb3 := hbA.out
  have o2 : Out B W1 W2 := ⟨hb3.os, hb3.tape, hb3.output, hb3.size, fun k hk _ => hb3.block k hk⟩
  obtain ⟨m, hm⟩ : ∃ m, m = at_ + 1 - x.len := ⟨_, rfl⟩
  have h6 := ((((hS.out.p1 A0 x.now.length c0).p4 d).p3 0).p2 (at_ + 1 - x.len)).p0 (some ⟨g, 0, none⟩) (mend x.now x.old (x.gap + 1) (mul d (inv x.was))).length cap
  have o3 := ((((Out.set B 1 W2 (.slice A0 x.now.length c0)).trans (Out.set B 4 _ (.int .u32 (v d)))).trans (Out.set B 3 _ (.int .i64 ((0 : Nat) : Int)))).trans (Out.set B 2 _ (.int .i64 ((at_ + 1 - x.len : Nat) : Int)))).trans (Out.set B 0 _ (.slice (some ⟨g, 0, none⟩) (mend x.now x.old (x.gap + 1) (mul d (inv x.was))).length cap))
  have hgB : ∀ ad : Addr, (some ⟨g, 0, none⟩ : Option Addr) = some ad → ad.block ≠ B := fun ad e => by cases e; show g ≠ B; omega
  refine bodyPost_end (results_none rfl _ _ _) rfl ⟨⟨_, rfl⟩, ⟨_, _, _, _, h6, ⟨C_out r1.2.2 hgB o3, by have := r1.2.1; omega, hgB⟩, C_out (Kd.C_below gA.out.1 hbA.out) hnA.out o3, gA.out.2, hnA.out⟩, (hoA.out.trans o2).trans o3⟩
/-- one element, whatever it is -/
theorem take_calls (x : St) (s : List F) (A : Option Addr) (c B at_ : Nat) (w : World) (hH : Has w B x) (hs : Kd.C (Kd.int .u32) w A (V s).length (V s)) (hc : s.length ≤ c) (hne : ∀ ad, A = some ad → ad.block ≠ B) (ha : at_ < s.length) (hsl : s.length < 50000)
    (b0 : x.now.length < 100000) (b1 : x.old.length < 100000) (b2 : x.gap < 99999) (b3 : 1 ≤ x.now.length) (b4 : x.len ≤ at_) :
    Calls Try.prog 25 #[.pointer (some ⟨B, 0, none⟩), .slice A s.length c, .int .i64 at_] w fun e w' => (∃ v, e = .returned v) ∧ Has w' B (x.nxt (co s) at_) ∧ Out B w w' := by
  by_cases hd : act x.now (co s) at_ = 0#32
  · exact take_zero x s A c B at_ w hH hs hc hne ha hsl b0 b1 b2 hd
  · by_cases hl : 2 * x.len ≤ at_
    · exact take_grow x s A c B at_ w hH hs hc hne ha hsl b0 b1 b2 b3 b4 hd hl
    · exact take_more x s A c B at_ w hH hs hc hne ha hsl b0 b1 b2 b3 b4 hd hl
end Go.Proofs.Ytfjkiiajbeaaoaa.MW
