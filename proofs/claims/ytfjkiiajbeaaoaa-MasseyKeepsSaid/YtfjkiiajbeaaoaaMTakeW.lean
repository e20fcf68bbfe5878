/- (*state).take: the walk. -/
import Derived.Test.YtfjkiiajbeaaoaaMTake
set_option linter.unusedVariables false
set_option linter.unusedSimpArgs false
namespace Go.Proofs.Ytfjkiiajbeaaoaa.MW
open Go.RowKit Go.Proofs.Ytfjkiiajbeaaoaa.Q Go.Proofs.YtfjkiiajbeaaoaaW.PrintWords Go.Proofs.YtfjkiiajbeaaoaaW.PrintLast Go.Proofs.YtfjkiiajbeaaoaaW.PrintMore Go.Proofs.Ytfjkiiajbeaaoaa.Bits Go.Proofs.Ytfjkiiajbeaaoaa GF PolyT MV Massey
/-- the state lies there -/
def Has (W : World) (B : Nat) (x : St) : Prop := ∃ A0 c0 A1 c1, S5 W B x.now.length x.old.length A0 c0 A1 c1 x.len x.gap x.was ∧ (Kd.C (Kd.int .u32) W A0 (V x.now).length (V x.now) ∧ x.now.length ≤ c0 ∧ ∀ ad, A0 = some ad → ad.block ≠ B) ∧
  (Kd.C (Kd.int .u32) W A1 (V x.old).length (V x.old) ∧ x.old.length ≤ c1 ∧ ∀ ad, A1 = some ad → ad.block ≠ B)
set_option maxRecDepth 100000 in
set_option maxHeartbeats 400000 in
theorem take_zero (x : St) (s : List F) (A : Option Addr) (c B at_ : Nat) (w : World) (hH : Has w B x) (hs : Kd.C (Kd.int .u32) w A (V s).length (V s)) (hc : s.length ≤ c) (hne : ∀ ad, A = some ad → ad.block ≠ B) (ha : at_ < s.length) (hsl : s.length < 50000)
    (b0 : x.now.length < 100000) (b1 : x.old.length < 100000) (b2 : x.gap < 99999) (hd : act x.now (co s) at_ = 0#32) :
    Calls Try.prog 25 #[.pointer (some ⟨B, 0, none⟩), .slice A s.length c, .int .i64 at_] w fun e w' => (∃ v, e = .returned v) ∧ Has w' B (x.nxt (co s) at_) ∧ Out B w w' := by
  have hx : x.nxt (co s) at_ = { x with gap := x.gap + 1 } := by unfold St.nxt; rw [if_pos hd]
  rw [hx]
  clear hx
  obtain ⟨A0, c0, A1, c1, h5, ⟨hC0, hc0, hn0⟩, hC1, hc1, hn1⟩ := hH
  obtain ⟨W1, hW1⟩ : ∃ W1, W1 = w.setCell ⟨B, 3, none⟩ (.int .i64 ((x.gap : Int) + 1)) := ⟨_, rfl⟩
  have ho : Out B w W1 := by rw [hW1]; exact Out.set B 3 w _
  have h51 : S5 W1 B x.now.length x.old.length A0 c0 A1 c1 x.len (x.gap + 1) x.was := by rw [hW1]; exact h5.p3 (x.gap + 1)
  have g0 := C_out hC0 hn0 ho; have g1 := C_out hC1 hn1 ho; have gs := C_out hs hne ho
  have hOff := off_calls x.now s A0 A c0 c at_ W1 g0 hc0 gs hc ha (by omega) (by omega)
  rw [hd, ← v_zero] at hOff
  have hfin : Has W1 B { x with gap := x.gap + 1 } := ⟨A0, c0, A1, c1, h51, ⟨g0, hc0, hn0⟩, g1, hc1, hn1⟩
  have z3 := h5.at.m3; have f3 := h5.fz 3
  have z0 := h5.at.m0
  have q1 : IntKind.i64.wrap ((x.gap : Int) + 1) = (x.gap : Int) + 1 := IntWalk.i64_in _ (by omega)
  have hu := Try.underlying42
  have hWA := Aside0.mk hW1
  have hF := Aside0.mk (And.intro hfin ho)
  have hO := Aside0.mk hOff
  clear hfin ho hOff h5 h51 hC0 hC1 hs g0 g1 gs hW1 hn0 hn1 hne hd
  go_enter Try.func25, Try.ntmps25
  go_wp2_with (go_at_call 22; rw [← hWA.out]; with_reducible refine hO.out.mono ?_; rintro e w2 ⟨rfl, rfl⟩)
  exact bodyPost_ret (results_none rfl _ _ _) rfl ⟨⟨_, rfl⟩, hF.out⟩
end Go.Proofs.Ytfjkiiajbeaaoaa.MW
