-- Written by px.py, a program of this session (over the kit's print, with extensions of its own).
import Derived.Test.YtfjkiiajbeaaoaaRx0
import Derived.Test.YtfjkiiajbeaaoaaRx1
import Derived.Test.YtfjkiiajbeaaoaaRx3
import Derived.Test.YtfjkiiajbeaaoaaRx4
namespace Go.Proofs.Ytfjkiiajbeaaoaa.R
open Go.RowKit Go.Proofs.YtfjkiiajbeaaoaaW.PrintWords Go.Proofs.YtfjkiiajbeaaoaaW.PrintLast Go.Proofs.YtfjkiiajbeaaoaaW.PrintMore
attribute [local go_sem] max2_int min2_int max_two min_two max_three min_three max_four min_four   -- for this text's walks alone
set_option linter.unusedVariables false
set_option linter.unusedSimpArgs false

/-! ### gossamerlaw03_MasseyGoes: function 7 -/
mutual
def gossamerlaw03_MasseyGoes.j0 : Nat → List Int → List Int → Int → Bool → Option (Bool)
  | 0, _, _, _, _ => none
  | k + 1, x0, x1, x2, x28 => if x28 = true then (some true) else ((massey_Goes.f k x0 x1 x2).bind fun bt204 => (if (x0.length : Int) = 0 then (gossamerlaw03_MasseyGoes.j1 k x0 x1 x2 bt204.1 bt204.2 true) else (if 0 < (x0.length : Int) then (if (rd x0 0) = 1 then (if (x1.length : Int) = (wrap64 ((x0.length : Int) - 1)) then (if x2 < 0 then (gossamerlaw03_MasseyGoes.j1 k x0 x1 x2 bt204.1 bt204.2 true) else (gossamerlaw03_MasseyGoes.j1 k x0 x1 x2 bt204.1 bt204.2 (decide (x2 > 1000)))) else (gossamerlaw03_MasseyGoes.j1 k x0 x1 x2 bt204.1 bt204.2 true)) else (gossamerlaw03_MasseyGoes.j1 k x0 x1 x2 bt204.1 bt204.2 true)) else (none))))
def gossamerlaw03_MasseyGoes.j1 : Nat → List Int → List Int → Int → List Int → Option Int → Bool → Option (Bool)
  | 0, _, _, _, _, _, _ => none
  | k + 1, x0, x1, x2, x7, x8, x60 => if x60 = true then ((gossamernum_Is.f x8 1).bind fun t209 => (if t209 = true then (some ((x7.length : Int) == 0)) else (some false))) else (if x8.isNone = true then ((gossamerref03_Goes.f k x0 x1 x2).bind fun t211 => ((gossamernum_Words.f k x7 t211).bind fun t214 => (if t214 = true then ((massey_Keeps.f k x0 x7).bind fun t215 => (if t215 = true then ((massey_Length.f x7).bind fun t216 => (if t216 ≥ (x0.length : Int) then (gossamerlaw03_MasseyGoes.j2 k x7 (decide (x2 ≥ (x0.length : Int)))) else (gossamerlaw03_MasseyGoes.j2 k x7 false))) else (gossamerlaw03_MasseyGoes.j2 k x7 true))) else (gossamerlaw03_MasseyGoes.j2 k x7 true)))) else (gossamerlaw03_MasseyGoes.j2 k x7 true))
def gossamerlaw03_MasseyGoes.j2 : Nat → List Int → Bool → Option (Bool)
  | 0, _, _ => none
  | k + 1, x7, x97 => if x97 = true then (some false) else ((massey_Shortest.f x7).bind fun t217 => (if (wrap64 ((t217.length : Int) - 1)) > (x7.length : Int) then (gossamerlaw03_MasseyGoes.j3 k x7 t217 true) else (gossamerlaw03_MasseyGoes.j3 k x7 t217 (decide ((wrap64 (2 * (wrap64 ((t217.length : Int) - 1)))) > (x7.length : Int))))))
def gossamerlaw03_MasseyGoes.j3 : Nat → List Int → List Int → Bool → Option (Bool)
  | 0, _, _, _ => none
  | k + 1, x7, x9, x114 => if x114 = true then (some (decide ((wrap64 ((x9.length : Int) - 1)) ≤ (x7.length : Int)))) else (if 0 ≤ (wrap64 ((x9.length : Int) - 1)) then (if (wrap64 ((x9.length : Int) - 1)) ≤ (x7.length : Int) then ((massey_Goes.f k x9 (x7.take ((wrap64 ((x9.length : Int) - 1)) : Int).toNat) (x7.length : Int)).bind fun bt224 => (if bt224.2.isNone = true then ((gossamernum_Words.f k bt224.1 x7).bind fun t229 => (some t229)) else (some false))) else (none)) else (none))
end
def gossamerlaw03_MasseyGoes.f (k : Nat) (l0 : List Int) (l1 : List Int) (a2 : Int) : Option (Bool) := (gossamerlaw03_alive.f k).bind fun t203 => (if t203 = true then (if (l0.length : Int) > 12 then (gossamerlaw03_MasseyGoes.j0 k l0 l1 a2 true) else (if (l1.length : Int) > 12 then (gossamerlaw03_MasseyGoes.j0 k l0 l1 a2 true) else (if a2 > 60 then (gossamerlaw03_MasseyGoes.j0 k l0 l1 a2 (decide (a2 ≤ 1000))) else (gossamerlaw03_MasseyGoes.j0 k l0 l1 a2 false)))) else (some false))
theorem gossamerlaw03_MasseyGoes.mono_l : ∀ k, (∀ y0 y1 y2 y3, LeO (gossamerlaw03_MasseyGoes.j0 k y0 y1 y2 y3) (gossamerlaw03_MasseyGoes.j0 (k + 1) y0 y1 y2 y3)) ∧ (∀ y0 y1 y2 y3 y4 y5, LeO (gossamerlaw03_MasseyGoes.j1 k y0 y1 y2 y3 y4 y5) (gossamerlaw03_MasseyGoes.j1 (k + 1) y0 y1 y2 y3 y4 y5)) ∧ (∀ y0 y1, LeO (gossamerlaw03_MasseyGoes.j2 k y0 y1) (gossamerlaw03_MasseyGoes.j2 (k + 1) y0 y1)) ∧ (∀ y0 y1 y2, LeO (gossamerlaw03_MasseyGoes.j3 k y0 y1 y2) (gossamerlaw03_MasseyGoes.j3 (k + 1) y0 y1 y2))
  | 0 => ⟨fun _ _ _ _ r h => by simp [gossamerlaw03_MasseyGoes.j0] at h, fun _ _ _ _ _ _ r h => by simp [gossamerlaw03_MasseyGoes.j1] at h, fun _ _ r h => by simp [gossamerlaw03_MasseyGoes.j2] at h, fun _ _ _ r h => by simp [gossamerlaw03_MasseyGoes.j3] at h⟩
  | k + 1 => by
    obtain ⟨ih0, ih1, ih2, ih3⟩ := gossamerlaw03_MasseyGoes.mono_l k
    refine ⟨?_, ?_, ?_, ?_⟩
    · intro y0 y1 y2 y3
      unfold gossamerlaw03_MasseyGoes.j0
      repeat' first
      | (with_reducible exact ih0 _ _ _ _)
      | (with_reducible exact ih1 _ _ _ _ _ _)
      | (with_reducible exact ih2 _ _)
      | (with_reducible exact ih3 _ _ _)
      | (with_reducible exact gossamerlaw03_alive.mono _)
      | (with_reducible exact gossamernum_Words.mono _ _ _)
      | (with_reducible exact gossamerref03_Goes.mono _ _ _ _)
      | (with_reducible exact massey_Goes.mono _ _ _ _)
      | (with_reducible exact massey_Keeps.mono _ _ _)
      | (with_reducible exact LeO.refl _)
      | (with_reducible exact LeO.none _)
      | (with_reducible refine LeO.ite ?_ ?_)
      | (with_reducible refine LeO.bind ?_ (fun _ => ?_))
      | exact ih0 _ _ _ _
      | exact ih1 _ _ _ _ _ _
      | exact ih2 _ _
      | exact ih3 _ _ _
      | exact gossamerlaw03_alive.mono _
      | exact gossamernum_Words.mono _ _ _
      | exact gossamerref03_Goes.mono _ _ _ _
      | exact massey_Goes.mono _ _ _ _
      | exact massey_Keeps.mono _ _ _
      | exact LeO.none _
      | refine LeO.ite ?_ ?_
      | refine LeO.bind ?_ (fun _ => ?_)
    · intro y0 y1 y2 y3 y4 y5
      unfold gossamerlaw03_MasseyGoes.j1
      repeat' first
      | (with_reducible exact ih0 _ _ _ _)
      | (with_reducible exact ih1 _ _ _ _ _ _)
      | (with_reducible exact ih2 _ _)
      | (with_reducible exact ih3 _ _ _)
      | (with_reducible exact gossamerlaw03_alive.mono _)
      | (with_reducible exact gossamernum_Words.mono _ _ _)
      | (with_reducible exact gossamerref03_Goes.mono _ _ _ _)
      | (with_reducible exact massey_Goes.mono _ _ _ _)
      | (with_reducible exact massey_Keeps.mono _ _ _)
      | (with_reducible exact LeO.refl _)
      | (with_reducible exact LeO.none _)
      | (with_reducible refine LeO.ite ?_ ?_)
      | (with_reducible refine LeO.bind ?_ (fun _ => ?_))
      | exact ih0 _ _ _ _
      | exact ih1 _ _ _ _ _ _
      | exact ih2 _ _
      | exact ih3 _ _ _
      | exact gossamerlaw03_alive.mono _
      | exact gossamernum_Words.mono _ _ _
      | exact gossamerref03_Goes.mono _ _ _ _
      | exact massey_Goes.mono _ _ _ _
      | exact massey_Keeps.mono _ _ _
      | exact LeO.none _
      | refine LeO.ite ?_ ?_
      | refine LeO.bind ?_ (fun _ => ?_)
    · intro y0 y1
      unfold gossamerlaw03_MasseyGoes.j2
      repeat' first
      | (with_reducible exact ih0 _ _ _ _)
      | (with_reducible exact ih1 _ _ _ _ _ _)
      | (with_reducible exact ih2 _ _)
      | (with_reducible exact ih3 _ _ _)
      | (with_reducible exact gossamerlaw03_alive.mono _)
      | (with_reducible exact gossamernum_Words.mono _ _ _)
      | (with_reducible exact gossamerref03_Goes.mono _ _ _ _)
      | (with_reducible exact massey_Goes.mono _ _ _ _)
      | (with_reducible exact massey_Keeps.mono _ _ _)
      | (with_reducible exact LeO.refl _)
      | (with_reducible exact LeO.none _)
      | (with_reducible refine LeO.ite ?_ ?_)
      | (with_reducible refine LeO.bind ?_ (fun _ => ?_))
      | exact ih0 _ _ _ _
      | exact ih1 _ _ _ _ _ _
      | exact ih2 _ _
      | exact ih3 _ _ _
      | exact gossamerlaw03_alive.mono _
      | exact gossamernum_Words.mono _ _ _
      | exact gossamerref03_Goes.mono _ _ _ _
      | exact massey_Goes.mono _ _ _ _
      | exact massey_Keeps.mono _ _ _
      | exact LeO.none _
      | refine LeO.ite ?_ ?_
      | refine LeO.bind ?_ (fun _ => ?_)
    · intro y0 y1 y2
      unfold gossamerlaw03_MasseyGoes.j3
      repeat' first
      | (with_reducible exact ih0 _ _ _ _)
      | (with_reducible exact ih1 _ _ _ _ _ _)
      | (with_reducible exact ih2 _ _)
      | (with_reducible exact ih3 _ _ _)
      | (with_reducible exact gossamerlaw03_alive.mono _)
      | (with_reducible exact gossamernum_Words.mono _ _ _)
      | (with_reducible exact gossamerref03_Goes.mono _ _ _ _)
      | (with_reducible exact massey_Goes.mono _ _ _ _)
      | (with_reducible exact massey_Keeps.mono _ _ _)
      | (with_reducible exact LeO.refl _)
      | (with_reducible exact LeO.none _)
      | (with_reducible refine LeO.ite ?_ ?_)
      | (with_reducible refine LeO.bind ?_ (fun _ => ?_))
      | exact ih0 _ _ _ _
      | exact ih1 _ _ _ _ _ _
      | exact ih2 _ _
      | exact ih3 _ _ _
      | exact gossamerlaw03_alive.mono _
      | exact gossamernum_Words.mono _ _ _
      | exact gossamerref03_Goes.mono _ _ _ _
      | exact massey_Goes.mono _ _ _ _
      | exact massey_Keeps.mono _ _ _
      | exact LeO.none _
      | refine LeO.ite ?_ ?_
      | refine LeO.bind ?_ (fun _ => ?_)
theorem gossamerlaw03_MasseyGoes.mono : ∀ a0 a1 a2 k, LeO (gossamerlaw03_MasseyGoes.f k a0 a1 a2) (gossamerlaw03_MasseyGoes.f (k + 1) a0 a1 a2) := by
  intro a0 a1 a2 k
  obtain ⟨ih0, ih1, ih2, ih3⟩ := gossamerlaw03_MasseyGoes.mono_l k
  unfold gossamerlaw03_MasseyGoes.f
  repeat' first
      | (with_reducible exact ih0 _ _ _ _)
      | (with_reducible exact ih1 _ _ _ _ _ _)
      | (with_reducible exact ih2 _ _)
      | (with_reducible exact ih3 _ _ _)
      | (with_reducible exact gossamerlaw03_alive.mono _)
      | (with_reducible exact gossamernum_Words.mono _ _ _)
      | (with_reducible exact gossamerref03_Goes.mono _ _ _ _)
      | (with_reducible exact massey_Goes.mono _ _ _ _)
      | (with_reducible exact massey_Keeps.mono _ _ _)
      | (with_reducible exact LeO.refl _)
      | (with_reducible exact LeO.none _)
      | (with_reducible refine LeO.ite ?_ ?_)
      | (with_reducible refine LeO.bind ?_ (fun _ => ?_))
      | exact ih0 _ _ _ _
      | exact ih1 _ _ _ _ _ _
      | exact ih2 _ _
      | exact ih3 _ _ _
      | exact gossamerlaw03_alive.mono _
      | exact gossamernum_Words.mono _ _ _
      | exact gossamerref03_Goes.mono _ _ _ _
      | exact massey_Goes.mono _ _ _ _
      | exact massey_Keeps.mono _ _ _
      | exact LeO.none _
      | refine LeO.ite ?_ ?_
      | refine LeO.bind ?_ (fun _ => ?_)
set_option maxHeartbeats 8000000 in
set_option maxRecDepth 100000 in
theorem gossamerlaw03_MasseyGoes.calls (k : Nat) (A0 : Option Addr) (c0 : Nat) (l0 : List Int) (A1 : Option Addr) (c1 : Nat) (l1 : List Int) (a2 : Int) (r : Bool) (w : World) (hr0 : Kd.C (Kd.int .u32) w A0 l0.length l0) (hc0 : l0.length ≤ c0) (hr1 : Kd.C (Kd.int .u32) w A1 l1.length l1) (hc1 : l1.length ≤ c1) (h : gossamerlaw03_MasseyGoes.f k l0 l1 a2 = some r) :
    Calls Try.prog 7 #[.slice A0 l0.length c0, .slice A1 l1.length c1, .int .i64 a2] w fun e w' => e = .returned (.bool r) ∧ Below w.heap.size w w' := by
  have hu34 := Try.underlying34
  have hu38 := Try.underlying38
  have HR0 := Aside0.mk hr0
  have HC0 := Aside0.mk hc0
  clear hr0 hc0
  have HR1 := Aside0.mk hr1
  have HC1 := Aside0.mk hc1
  clear hr1 hc1
  have HB := Aside0.mk (Below.refl w.heap.size w)
  have H : ((gossamerlaw03_alive.f k).bind fun t203 => (if t203 = true then (if (l0.length : Int) > 12 then (gossamerlaw03_MasseyGoes.j0 k l0 l1 a2 true) else (if (l1.length : Int) > 12 then (gossamerlaw03_MasseyGoes.j0 k l0 l1 a2 true) else (if a2 > 60 then (gossamerlaw03_MasseyGoes.j0 k l0 l1 a2 (decide (a2 ≤ 1000))) else (gossamerlaw03_MasseyGoes.j0 k l0 l1 a2 false)))) else (some false))) = some r := h
  clear h
  replace H := Option.bind_eq_some_iff.mp H
  obtain ⟨t203, A40, H⟩ := H
  replace H : (if t203 = true then (if (l0.length : Int) > 12 then (gossamerlaw03_MasseyGoes.j0 k l0 l1 a2 true) else (if (l1.length : Int) > 12 then (gossamerlaw03_MasseyGoes.j0 k l0 l1 a2 true) else (if a2 > 60 then (gossamerlaw03_MasseyGoes.j0 k l0 l1 a2 (decide (a2 ≤ 1000))) else (gossamerlaw03_MasseyGoes.j0 k l0 l1 a2 false)))) else (some false)) = some r := H
  have A4 := Aside0.mk A40
  clear A40
  by_cases c5 : t203 = true
  · subst c5
    have H1 : (if (l0.length : Int) > 12 then (gossamerlaw03_MasseyGoes.j0 k l0 l1 a2 true) else (if (l1.length : Int) > 12 then (gossamerlaw03_MasseyGoes.j0 k l0 l1 a2 true) else (if a2 > 60 then (gossamerlaw03_MasseyGoes.j0 k l0 l1 a2 (decide (a2 ≤ 1000))) else (gossamerlaw03_MasseyGoes.j0 k l0 l1 a2 false)))) = some r := by rw [if_pos rfl] at H; exact H
    clear H
    have H := H1
    clear H1
    have HC6 := Aside0.mk H
    clear H
    go_enter Try.func7, Try.ntmps7
    go_upto_region 3 with (first | ((with_reducible refine gate_callee (f := 8) rfl ?_); refine goesL_ (some 11) rfl rfl Try.func8 (by kernel_rfl) rfl #[] rfl (by (try simp only [List.map_toArray, List.map_cons, List.map_nil]); first | done | rfl | (simp only [List.length_drop, List.length_take]; rfl)) ?_; (with_reducible refine (gossamerlaw03_alive.calls k  true _ A4.out).mono ?_); rintro e w7 ⟨rfl, hb⟩; refine ⟨_, rfl, ?_⟩; have n0_ := Aside0.mk (below_step (by repeat (first | (with_reducible first | exact HB.out | apply below_alloc | apply pw_below_drewN | apply below_drew1) | exact HB.out)) hb); clear HB; have HB := n0_; clear n0_; (try clear hb); (try clear hb2); (try clear hk); (try clear hi)))
    (try simp only [Act.put, List.setIfInBounds_toArray, List.set_cons_zero, List.set_cons_succ])
    go_cut [28] (fun v28 wc => ∃ (kq : Nat) (x28_5 : Bool), v28 = .bool x28_5 ∧ Aside0 (gossamerlaw03_MasseyGoes.j0 kq l0 l1 a2 x28_5 = some r) ∧ Aside0 (kq ≤ k) ∧ Aside0 (Below w.heap.size w wc))
    case first =>
      have H := HC6.out
      clear HC6
      by_cases c8 : (l0.length : Int) > 12
      · rw [if_pos c8] at H
        have c8b0 : decide (12 < (l0.length : Int)) = true := decide_eq_true c8
        have c8b1 : decide (12 < l0.length) = true := decide_eq_true (by omega)
        clear c8
        (first | rw [c8b0] | (simp only [i64_w, i32_w]; rw [c8b0]) | skip)
        have H' := Aside0.mk H
        clear H
        go_wp2
        go_meet
        case rel => exact ⟨_, (true), (by first | rfl | (simp; done) | (simp [*]; done)), H', ⟨by first | omega | exact Nat.le_refl _⟩, ⟨by repeat (first | (with_reducible first | exact HB.out | apply below_alloc | apply pw_below_drewN | apply below_drew1) | exact HB.out)⟩⟩
      · rw [if_neg c8] at H
        have c8b0 : decide (12 < (l0.length : Int)) = false := decide_eq_false c8
        have c8b1 : decide (12 < l0.length) = false := decide_eq_false (by omega)
        clear c8
        (first | rw [c8b0] | (simp only [i64_w, i32_w]; rw [c8b0]) | skip)
        by_cases c9 : (l1.length : Int) > 12
        · rw [if_pos c9] at H
          have c9b0 : decide (12 < (l1.length : Int)) = true := decide_eq_true c9
          have c9b1 : decide (12 < l1.length) = true := decide_eq_true (by omega)
          clear c9
          have H' := Aside0.mk H
          clear H
          go_wp2
          go_meet
          case rel => exact ⟨_, (true), (by first | rfl | (simp; done) | (simp [*]; done)), H', ⟨by first | omega | exact Nat.le_refl _⟩, ⟨by repeat (first | (with_reducible first | exact HB.out | apply below_alloc | apply pw_below_drewN | apply below_drew1) | exact HB.out)⟩⟩
        · rw [if_neg c9] at H
          have c9b0 : decide (12 < (l1.length : Int)) = false := decide_eq_false c9
          have c9b1 : decide (12 < l1.length) = false := decide_eq_false (by omega)
          clear c9
          by_cases c10 : a2 > 60
          · rw [if_pos c10] at H
            have c10b0 : decide (60 < a2) = true := decide_eq_true c10
            clear c10
            have H' := Aside0.mk H
            clear H
            go_wp2
            go_meet
            case rel => exact ⟨_, (decide (a2 ≤ 1000)), (by first | rfl | (simp; done) | (simp [*]; done)), H', ⟨by first | omega | exact Nat.le_refl _⟩, ⟨by repeat (first | (with_reducible first | exact HB.out | apply below_alloc | apply pw_below_drewN | apply below_drew1) | exact HB.out)⟩⟩
          · rw [if_neg c10] at H
            have c10b0 : decide (60 < a2) = false := decide_eq_false c10
            clear c10
            have H' := Aside0.mk H
            clear H
            go_wp2
            go_meet
            case rel => exact ⟨_, (false), (by first | rfl | (simp; done) | (simp [*]; done)), H', ⟨by first | omega | exact Nat.le_refl _⟩, ⟨by repeat (first | (with_reducible first | exact HB.out | apply below_alloc | apply pw_below_drewN | apply below_drew1) | exact HB.out)⟩⟩
    case rest =>
      clear HC6
      try clear c1
      try clear p2
      try clear c5
      try clear c7
      try clear c8
      try clear c8b0
      try clear c8b1
      try clear c9
      try clear c9b0
      try clear c9b1
      try clear c10
      try clear c10b0
      obtain ⟨kq, x28_5, rfl, HA, HJ5, HB⟩ := hcut
      cases kq with
      | zero => exact absurd HA.out (by simp [gossamerlaw03_MasseyGoes.j0])
      | succ kj5 =>
        have H := HA.out
        clear HA
        simp only [gossamerlaw03_MasseyGoes.j0] at H
        by_cases c11 : x28_5 = true
        · subst c11
          have H1 : (some true) = some r := by rw [if_pos rfl] at H; exact H
          clear H
          have H := H1
          clear H1
          obtain rfl := Option.some.inj H
          go_wp2
          go_ret
          exact ⟨by first | rfl | (simp [errW_none, errW_some] <;> rfl) | (simp [*, errW_none, errW_some] <;> rfl), by repeat (first | (with_reducible first | exact HB.out | apply below_alloc | apply pw_below_drewN | apply below_drew1) | exact HB.out)⟩
        · replace c11 := Bool.eq_false_iff.mpr c11
          subst c11
          have H1 : ((massey_Goes.f kj5 l0 l1 a2).bind fun bt204 => (if (l0.length : Int) = 0 then (gossamerlaw03_MasseyGoes.j1 kj5 l0 l1 a2 bt204.1 bt204.2 true) else (if 0 < (l0.length : Int) then (if (rd l0 0) = 1 then (if (l1.length : Int) = (wrap64 ((l0.length : Int) - 1)) then (if a2 < 0 then (gossamerlaw03_MasseyGoes.j1 kj5 l0 l1 a2 bt204.1 bt204.2 true) else (gossamerlaw03_MasseyGoes.j1 kj5 l0 l1 a2 bt204.1 bt204.2 (decide (a2 > 1000)))) else (gossamerlaw03_MasseyGoes.j1 kj5 l0 l1 a2 bt204.1 bt204.2 true)) else (gossamerlaw03_MasseyGoes.j1 kj5 l0 l1 a2 bt204.1 bt204.2 true)) else (none)))) = some r := by rw [if_neg (show ¬ (false = true) by decide)] at H; exact H
          clear H
          have H := H1
          clear H1
          replace H := Option.bind_eq_some_iff.mp H
          obtain ⟨⟨t204, t205⟩, A120, H⟩ := H
          replace H : (if (l0.length : Int) = 0 then (gossamerlaw03_MasseyGoes.j1 kj5 l0 l1 a2 t204 t205 true) else (if 0 < (l0.length : Int) then (if (rd l0 0) = 1 then (if (l1.length : Int) = (wrap64 ((l0.length : Int) - 1)) then (if a2 < 0 then (gossamerlaw03_MasseyGoes.j1 kj5 l0 l1 a2 t204 t205 true) else (gossamerlaw03_MasseyGoes.j1 kj5 l0 l1 a2 t204 t205 (decide (a2 > 1000)))) else (gossamerlaw03_MasseyGoes.j1 kj5 l0 l1 a2 t204 t205 true)) else (gossamerlaw03_MasseyGoes.j1 kj5 l0 l1 a2 t204 t205 true)) else (none))) = some r := H
          have A12 := Aside0.mk A120
          clear A120
          have HC13 := Aside0.mk H
          clear H
          go_upto_region 6 with (first | ((with_reducible refine gate_callee (f := 15) rfl ?_); refine goesL_ (some 33) rfl rfl Try.func15 (by kernel_rfl) rfl #[.slice A0 l0.length c0, .slice A1 l1.length c1, .int .i64 a2] rfl (by (try simp only [List.map_toArray, List.map_cons, List.map_nil]); first | done | rfl | (simp only [List.length_drop, List.length_take]; rfl)) ?_; (with_reducible refine (massey_Goes.calls kj5 _ _ l0 _ _ l1 a2 t204 t205 _ ?side1 ?side2 ?side3 ?side4 A12.out).mono ?_); (case side1 => repeat (first | exact (Kd.C_below HR0.out HB.out) | (with_reducible refine Kd.C_alloc ?_ _) | (with_reducible refine Kd.C_drewN ?_ _) | (with_reducible refine Kd.C_drew ?_))); (case side2 => exact HC0.out); (case side3 => repeat (first | exact (Kd.C_below HR1.out HB.out) | (with_reducible refine Kd.C_alloc ?_ _) | (with_reducible refine Kd.C_drewN ?_ _) | (with_reducible refine Kd.C_drew ?_))); (case side4 => exact HC1.out); rintro e w14 ⟨v206, rfl, ho0, hb⟩; refine ⟨_, rfl, ?_⟩; have n0_ := Aside0.mk (Kd.R_lower ho0 (below_size (by repeat (first | (with_reducible first | exact HB.out | apply below_alloc | apply pw_below_drewN | apply below_drew1) | exact HB.out)))); have n1_ := Aside0.mk (below_step (by repeat (first | (with_reducible first | exact HB.out | apply below_alloc | apply pw_below_drewN | apply below_drew1) | exact HB.out)) hb); clear HB; have HO207 := n0_; have HB := n1_; clear n0_ n1_; (try clear hb); (try clear hb2); (try clear hk); (try clear hi); (try clear ho0); (try simp only [errW_none, errW_some])))
          (try simp only [Act.put, List.setIfInBounds_toArray, List.set_cons_zero, List.set_cons_succ])
          go_cut [60] (fun v60 wc => ∃ (kq : Nat) (x60_12 : Bool), v60 = .bool x60_12 ∧ Aside0 (gossamerlaw03_MasseyGoes.j1 kq l0 l1 a2 t204 t205 x60_12 = some r) ∧ Aside0 (kq ≤ kj5) ∧ Aside0 (Kd.R (Kd.int .u32) 30 wc w.heap.size (fun _ => True) v206 t204) ∧ Aside0 (Below w.heap.size w wc))
          case first =>
            have H := HC13.out
            clear HC13
            by_cases c15 : (l0.length : Int) = 0
            · rw [if_pos c15] at H
              have c15b0 : ((l0.length : Int) == 0) = true := beq_iff_eq.mpr c15
              have c15b1 : ((l0.length : Int) != 0) = false := bne_eq_false_iff_eq.mpr c15
              clear c15
              (first | rw [c15b0] | (simp only [i64_w, i32_w]; rw [c15b0]) | skip)
              have H' := Aside0.mk H
              clear H
              go_wp2
              go_meet
              case rel => exact ⟨_, (true), (by first | rfl | (simp; done) | (simp [*]; done)), H', ⟨by have := HJ5.out; first | omega | exact Nat.le_refl _⟩, ⟨by (with_reducible repeat (first | apply Kd.R_alloc | apply Kd.R_drewN | apply Kd.R_drew)); exact HO207.out⟩, ⟨by repeat (first | (with_reducible first | exact HB.out | apply below_alloc | apply pw_below_drewN | apply below_drew1) | exact HB.out)⟩⟩
            · rw [if_neg c15] at H
              have c15b0 : ((l0.length : Int) == 0) = false := beq_eq_false_iff_ne.mpr c15
              have c15b1 : ((l0.length : Int) != 0) = true := bne_iff_ne.mpr c15
              have c15b2 : ¬ (l0 = []) := fun h_ => c15 (by rw [h_]; rfl)
              (first | rw [c15b0] | (simp only [i64_w, i32_w]; rw [c15b0]) | skip)
              by_cases c16 : 0 < (l0.length : Int)
              · rw [if_pos c16] at H
                have c16b0 : decide (0 < (l0.length : Int)) = true := decide_eq_true c16
                have c16b1 : decide (0 < l0.length) = true := decide_eq_true (by omega)
                clear c16
                by_cases c17 : (rd l0 0) = 1
                · rw [if_pos c17] at H
                  have c17b0 : ((rd l0 0) == 1) = true := beq_iff_eq.mpr c17
                  have c17b1 : ((rd l0 0) != 1) = false := bne_eq_false_iff_eq.mpr c17
                  clear c17
                  by_cases c18 : (l1.length : Int) = (wrap64 ((l0.length : Int) - 1))
                  · rw [if_pos c18] at H
                    have c18b0 : ((l1.length : Int) == (wrap64 ((l0.length : Int) - 1))) = true := beq_iff_eq.mpr c18
                    have c18b1 : ((l1.length : Int) != (wrap64 ((l0.length : Int) - 1))) = false := bne_eq_false_iff_eq.mpr c18
                    clear c18
                    by_cases c19 : a2 < 0
                    · rw [if_pos c19] at H
                      have c19b0 : decide (a2 < 0) = true := decide_eq_true c19
                      clear c19
                      have H' := Aside0.mk H
                      clear H
                      have p208 : 0 ≤ (0 : Int) := (by omega)
                      have q208 : 0 < (l0.length : Int) := of_decide_eq_true (by first | (with_reducible assumption) | assumption)
                      obtain ⟨ad208, e208, hx208_0⟩ := Kd.at_int HR0.out 0 p208 q208
                      cases e208
                      have qi208 : (0 < l0.length) = True := eq_true (by omega)
                      (try rw [show ((0 : Int)).toNat = 0 from rfl] at hx208_0)
                      (try rw [Addr.add_zero'] at hx208_0)
                      replace hx208_0 := (HB.out.cell (World.block_lt_of_cell? w _ hx208_0)).trans hx208_0
                      replace p208 := eq_true p208
                      replace q208 := eq_true q208
                      go_wp2
                      go_meet
                      case rel => exact ⟨_, (true), (by first | rfl | (simp; done) | (simp [*]; done)), H', ⟨by have := HJ5.out; first | omega | exact Nat.le_refl _⟩, ⟨by (with_reducible repeat (first | apply Kd.R_alloc | apply Kd.R_drewN | apply Kd.R_drew)); exact HO207.out⟩, ⟨by repeat (first | (with_reducible first | exact HB.out | apply below_alloc | apply pw_below_drewN | apply below_drew1) | exact HB.out)⟩⟩
                    · rw [if_neg c19] at H
                      have c19b0 : decide (a2 < 0) = false := decide_eq_false c19
                      clear c19
                      have H' := Aside0.mk H
                      clear H
                      have p208 : 0 ≤ (0 : Int) := (by omega)
                      have q208 : 0 < (l0.length : Int) := of_decide_eq_true (by first | (with_reducible assumption) | assumption)
                      obtain ⟨ad208, e208, hx208_0⟩ := Kd.at_int HR0.out 0 p208 q208
                      cases e208
                      have qi208 : (0 < l0.length) = True := eq_true (by omega)
                      (try rw [show ((0 : Int)).toNat = 0 from rfl] at hx208_0)
                      (try rw [Addr.add_zero'] at hx208_0)
                      replace hx208_0 := (HB.out.cell (World.block_lt_of_cell? w _ hx208_0)).trans hx208_0
                      replace p208 := eq_true p208
                      replace q208 := eq_true q208
                      go_wp2
                      go_meet
                      case rel => exact ⟨_, (decide (a2 > 1000)), (by first | rfl | (simp; done) | (simp [*]; done)), H', ⟨by have := HJ5.out; first | omega | exact Nat.le_refl _⟩, ⟨by (with_reducible repeat (first | apply Kd.R_alloc | apply Kd.R_drewN | apply Kd.R_drew)); exact HO207.out⟩, ⟨by repeat (first | (with_reducible first | exact HB.out | apply below_alloc | apply pw_below_drewN | apply below_drew1) | exact HB.out)⟩⟩
                  · rw [if_neg c18] at H
                    have c18b0 : ((l1.length : Int) == (wrap64 ((l0.length : Int) - 1))) = false := beq_eq_false_iff_ne.mpr c18
                    have c18b1 : ((l1.length : Int) != (wrap64 ((l0.length : Int) - 1))) = true := bne_iff_ne.mpr c18
                    have H' := Aside0.mk H
                    clear H
                    have p208 : 0 ≤ (0 : Int) := (by omega)
                    have q208 : 0 < (l0.length : Int) := of_decide_eq_true (by first | (with_reducible assumption) | assumption)
                    obtain ⟨ad208, e208, hx208_0⟩ := Kd.at_int HR0.out 0 p208 q208
                    cases e208
                    have qi208 : (0 < l0.length) = True := eq_true (by omega)
                    (try rw [show ((0 : Int)).toNat = 0 from rfl] at hx208_0)
                    (try rw [Addr.add_zero'] at hx208_0)
                    replace hx208_0 := (HB.out.cell (World.block_lt_of_cell? w _ hx208_0)).trans hx208_0
                    replace p208 := eq_true p208
                    replace q208 := eq_true q208
                    go_wp2
                    go_meet
                    case rel => exact ⟨_, (true), (by first | rfl | (simp; done) | (simp [*]; done)), H', ⟨by have := HJ5.out; first | omega | exact Nat.le_refl _⟩, ⟨by (with_reducible repeat (first | apply Kd.R_alloc | apply Kd.R_drewN | apply Kd.R_drew)); exact HO207.out⟩, ⟨by repeat (first | (with_reducible first | exact HB.out | apply below_alloc | apply pw_below_drewN | apply below_drew1) | exact HB.out)⟩⟩
                · rw [if_neg c17] at H
                  have c17b0 : ((rd l0 0) == 1) = false := beq_eq_false_iff_ne.mpr c17
                  have c17b1 : ((rd l0 0) != 1) = true := bne_iff_ne.mpr c17
                  have H' := Aside0.mk H
                  clear H
                  have p208 : 0 ≤ (0 : Int) := (by omega)
                  have q208 : 0 < (l0.length : Int) := of_decide_eq_true (by first | (with_reducible assumption) | assumption)
                  obtain ⟨ad208, e208, hx208_0⟩ := Kd.at_int HR0.out 0 p208 q208
                  cases e208
                  have qi208 : (0 < l0.length) = True := eq_true (by omega)
                  (try rw [show ((0 : Int)).toNat = 0 from rfl] at hx208_0)
                  (try rw [Addr.add_zero'] at hx208_0)
                  replace hx208_0 := (HB.out.cell (World.block_lt_of_cell? w _ hx208_0)).trans hx208_0
                  replace p208 := eq_true p208
                  replace q208 := eq_true q208
                  go_wp2
                  go_meet
                  case rel => exact ⟨_, (true), (by first | rfl | (simp; done) | (simp [*]; done)), H', ⟨by have := HJ5.out; first | omega | exact Nat.le_refl _⟩, ⟨by (with_reducible repeat (first | apply Kd.R_alloc | apply Kd.R_drewN | apply Kd.R_drew)); exact HO207.out⟩, ⟨by repeat (first | (with_reducible first | exact HB.out | apply below_alloc | apply pw_below_drewN | apply below_drew1) | exact HB.out)⟩⟩
              · rw [if_neg c16] at H
                exact absurd H (by simp)
          case rest =>
            clear HC13
            try clear c1
            try clear p2
            try clear q2
            try clear hx2
            try clear qi2
            try clear c5
            try clear p6
            try clear c7
            try clear c8
            try clear c8b0
            try clear c8b1
            try clear c9
            try clear c9b0
            try clear c9b1
            try clear c10
            try clear c10b0
            try clear c11
            try clear c15
            try clear c15b0
            try clear c15b1
            try clear c15b2
            try clear c16
            try clear c16b0
            try clear c16b1
            try clear c17
            try clear c17b0
            try clear c17b1
            try clear c18
            try clear c18b0
            try clear c18b1
            try clear c19
            try clear c19b0
            try clear hx208_0
            try clear p2
            try clear p208
            try clear q208
            obtain ⟨kq, x60_12, rfl, HA, HJ12, HO_7, HB⟩ := hcut
            cases kq with
            | zero => exact absurd HA.out (by simp [gossamerlaw03_MasseyGoes.j1])
            | succ kj12 =>
              have H := HA.out
              clear HA
              simp only [gossamerlaw03_MasseyGoes.j1] at H
              by_cases c20 : x60_12 = true
              · subst c20
                have H1 : ((gossamernum_Is.f t205 1).bind fun t209 => (if t209 = true then (some ((t204.length : Int) == 0)) else (some false))) = some r := by rw [if_pos rfl] at H; exact H
                clear H
                have H := H1
                clear H1
                replace H := Option.bind_eq_some_iff.mp H
                obtain ⟨t209, A210, H⟩ := H
                replace H : (if t209 = true then (some ((t204.length : Int) == 0)) else (some false)) = some r := H
                have A21 := Aside0.mk A210
                clear A210
                by_cases c22 : t209 = true
                · subst c22
                  have H1 : (some ((t204.length : Int) == 0)) = some r := by rw [if_pos rfl] at H; exact H
                  clear H
                  have H := H1
                  clear H1
                  obtain rfl := Option.some.inj H
                  have CA21 := fun W => gossamernum_Is.calls t205 1 true W A21.out
                  try simp only [errW_none, errW_some] at CA21
                  go_wp2_with (first | (go_at_call 16; (with_reducible refine (CA21 _).mono ?_); rintro e w' ⟨rfl, ⟨nd, rfl⟩⟩; obtain ⟨Ao23, co23, eo23⟩ := Kd.R_slice HO_7.out; subst eo23))
                  go_ret
                  exact ⟨by first | rfl | (simp [errW_none, errW_some] <;> rfl) | (simp [*, errW_none, errW_some] <;> rfl), by repeat (first | (with_reducible first | exact HB.out | apply below_alloc | apply pw_below_drewN | apply below_drew1) | exact HB.out)⟩
                · replace c22 := Bool.eq_false_iff.mpr c22
                  subst c22
                  have H1 : (some false) = some r := by rw [if_neg (show ¬ (false = true) by decide)] at H; exact H
                  clear H
                  have H := H1
                  clear H1
                  obtain rfl := Option.some.inj H
                  have CA21 := fun W => gossamernum_Is.calls t205 1 false W A21.out
                  try simp only [errW_none, errW_some] at CA21
                  go_wp2_with (first | (go_at_call 16; (with_reducible refine (CA21 _).mono ?_); rintro e w' ⟨rfl, ⟨nd, rfl⟩⟩))
                  go_ret
                  exact ⟨by first | rfl | (simp [errW_none, errW_some] <;> rfl) | (simp [*, errW_none, errW_some] <;> rfl), by repeat (first | (with_reducible first | exact HB.out | apply below_alloc | apply pw_below_drewN | apply below_drew1) | exact HB.out)⟩
              · replace c20 := Bool.eq_false_iff.mpr c20
                subst c20
                have H1 : (if t205.isNone = true then ((gossamerref03_Goes.f kj12 l0 l1 a2).bind fun t211 => ((gossamernum_Words.f kj12 t204 t211).bind fun t214 => (if t214 = true then ((massey_Keeps.f kj12 l0 t204).bind fun t215 => (if t215 = true then ((massey_Length.f t204).bind fun t216 => (if t216 ≥ (l0.length : Int) then (gossamerlaw03_MasseyGoes.j2 kj12 t204 (decide (a2 ≥ (l0.length : Int)))) else (gossamerlaw03_MasseyGoes.j2 kj12 t204 false))) else (gossamerlaw03_MasseyGoes.j2 kj12 t204 true))) else (gossamerlaw03_MasseyGoes.j2 kj12 t204 true)))) else (gossamerlaw03_MasseyGoes.j2 kj12 t204 true)) = some r := by rw [if_neg (show ¬ (false = true) by decide)] at H; exact H
                clear H
                have H := H1
                clear H1
                have HC24 := Aside0.mk H
                clear H
                go_upto_region 8 with (fail)
                go_cut [97] (fun v97 wc => ∃ (kq : Nat) (x97_23 : Bool), v97 = .bool x97_23 ∧ Aside0 (gossamerlaw03_MasseyGoes.j2 kq t204 x97_23 = some r) ∧ Aside0 (kq ≤ kj12) ∧ Aside0 (Kd.R (Kd.int .u32) 30 wc w.heap.size (fun _ => True) v206 t204) ∧ Aside0 (Below w.heap.size w wc))
                case first =>
                  have H := HC24.out
                  clear HC24
                  rcases t205 with _ | q210
                  · have H1 : ((gossamerref03_Goes.f kj12 l0 l1 a2).bind fun t211 => ((gossamernum_Words.f kj12 t204 t211).bind fun t214 => (if t214 = true then ((massey_Keeps.f kj12 l0 t204).bind fun t215 => (if t215 = true then ((massey_Length.f t204).bind fun t216 => (if t216 ≥ (l0.length : Int) then (gossamerlaw03_MasseyGoes.j2 kj12 t204 (decide (a2 ≥ (l0.length : Int)))) else (gossamerlaw03_MasseyGoes.j2 kj12 t204 false))) else (gossamerlaw03_MasseyGoes.j2 kj12 t204 true))) else (gossamerlaw03_MasseyGoes.j2 kj12 t204 true)))) = some r := by rw [if_pos (show (none : Option Int).isNone = true by rfl)] at H; exact H
                    clear H
                    have H := H1
                    clear H1
                    try simp only [errW_none, errW_some]
                    replace H := Option.bind_eq_some_iff.mp H
                    obtain ⟨t211, A250, H⟩ := H
                    replace H : ((gossamernum_Words.f kj12 t204 t211).bind fun t214 => (if t214 = true then ((massey_Keeps.f kj12 l0 t204).bind fun t215 => (if t215 = true then ((massey_Length.f t204).bind fun t216 => (if t216 ≥ (l0.length : Int) then (gossamerlaw03_MasseyGoes.j2 kj12 t204 (decide (a2 ≥ (l0.length : Int)))) else (gossamerlaw03_MasseyGoes.j2 kj12 t204 false))) else (gossamerlaw03_MasseyGoes.j2 kj12 t204 true))) else (gossamerlaw03_MasseyGoes.j2 kj12 t204 true))) = some r := H
                    have A25 := Aside0.mk A250
                    clear A250
                    replace H := Option.bind_eq_some_iff.mp H
                    obtain ⟨t214, A260, H⟩ := H
                    replace H : (if t214 = true then ((massey_Keeps.f kj12 l0 t204).bind fun t215 => (if t215 = true then ((massey_Length.f t204).bind fun t216 => (if t216 ≥ (l0.length : Int) then (gossamerlaw03_MasseyGoes.j2 kj12 t204 (decide (a2 ≥ (l0.length : Int)))) else (gossamerlaw03_MasseyGoes.j2 kj12 t204 false))) else (gossamerlaw03_MasseyGoes.j2 kj12 t204 true))) else (gossamerlaw03_MasseyGoes.j2 kj12 t204 true)) = some r := H
                    have A26 := Aside0.mk A260
                    clear A260
                    by_cases c27 : t214 = true
                    · subst c27
                      have H1 : ((massey_Keeps.f kj12 l0 t204).bind fun t215 => (if t215 = true then ((massey_Length.f t204).bind fun t216 => (if t216 ≥ (l0.length : Int) then (gossamerlaw03_MasseyGoes.j2 kj12 t204 (decide (a2 ≥ (l0.length : Int)))) else (gossamerlaw03_MasseyGoes.j2 kj12 t204 false))) else (gossamerlaw03_MasseyGoes.j2 kj12 t204 true))) = some r := by rw [if_pos rfl] at H; exact H
                      clear H
                      have H := H1
                      clear H1
                      replace H := Option.bind_eq_some_iff.mp H
                      obtain ⟨t215, A280, H⟩ := H
                      replace H : (if t215 = true then ((massey_Length.f t204).bind fun t216 => (if t216 ≥ (l0.length : Int) then (gossamerlaw03_MasseyGoes.j2 kj12 t204 (decide (a2 ≥ (l0.length : Int)))) else (gossamerlaw03_MasseyGoes.j2 kj12 t204 false))) else (gossamerlaw03_MasseyGoes.j2 kj12 t204 true)) = some r := H
                      have A28 := Aside0.mk A280
                      clear A280
                      by_cases c29 : t215 = true
                      · subst c29
                        have H1 : ((massey_Length.f t204).bind fun t216 => (if t216 ≥ (l0.length : Int) then (gossamerlaw03_MasseyGoes.j2 kj12 t204 (decide (a2 ≥ (l0.length : Int)))) else (gossamerlaw03_MasseyGoes.j2 kj12 t204 false))) = some r := by rw [if_pos rfl] at H; exact H
                        clear H
                        have H := H1
                        clear H1
                        replace H := Option.bind_eq_some_iff.mp H
                        obtain ⟨t216, A300, H⟩ := H
                        replace H : (if t216 ≥ (l0.length : Int) then (gossamerlaw03_MasseyGoes.j2 kj12 t204 (decide (a2 ≥ (l0.length : Int)))) else (gossamerlaw03_MasseyGoes.j2 kj12 t204 false)) = some r := H
                        have A30 := Aside0.mk A300
                        clear A300
                        by_cases c31 : t216 ≥ (l0.length : Int)
                        · rw [if_pos c31] at H
                          have c31b0 : decide ((l0.length : Int) ≤ t216) = true := decide_eq_true c31
                          clear c31
                          (first | rw [c31b0] | (simp only [i64_w, i32_w]; rw [c31b0]) | skip)
                          have H' := Aside0.mk H
                          clear H
                          go_wp2_with (first | (go_at_call 17; (with_reducible refine (gossamerref03_Goes.calls kj12 _ _ l0 _ _ l1 a2 t211 _ ?side1 ?side2 ?side3 ?side4 A25.out).mono ?_); (case side1 => repeat (first | exact (Kd.C_below HR0.out HB.out) | (with_reducible refine Kd.C_alloc ?_ _) | (with_reducible refine Kd.C_drewN ?_ _) | (with_reducible refine Kd.C_drew ?_))); (case side2 => exact HC0.out); (case side3 => repeat (first | exact (Kd.C_below HR1.out HB.out) | (with_reducible refine Kd.C_alloc ?_ _) | (with_reducible refine Kd.C_drewN ?_ _) | (with_reducible refine Kd.C_drew ?_))); (case side4 => exact HC1.out); rintro e w32 ⟨v212, rfl, ho0, hb⟩; have n0_ := Aside0.mk (Kd.R_elder' (by (with_reducible repeat (first | apply Kd.R_alloc | apply Kd.R_drewN | apply Kd.R_drew)); exact HO_7.out) (Kd.R_base ho0) hb); have n1_ := Aside0.mk (Kd.R_lower (Kd.R_new' ho0 (Kd.R_lt (by (with_reducible repeat (first | apply Kd.R_alloc | apply Kd.R_drewN | apply Kd.R_drew)); exact HO_7.out))) (below_size (by repeat (first | (with_reducible first | exact HB.out | apply below_alloc | apply pw_below_drewN | apply below_drew1) | exact HB.out)))); have n2_ := Aside0.mk (below_step (by repeat (first | (with_reducible first | exact HB.out | apply below_alloc | apply pw_below_drewN | apply below_drew1) | exact HB.out)) hb); clear HO_7; clear HB; have HO_7 := n0_; have HO213 := n1_; have HB := n2_; clear n0_ n1_ n2_; (try clear hb); (try clear hb2); (try clear hk); (try clear hi); (try clear ho0); obtain ⟨Ao33, co33, eo33⟩ := Kd.R_slice HO_7.out; subst eo33; obtain ⟨Ao34, co34, eo34⟩ := Kd.R_slice HO213.out; subst eo34) | (go_at_call 14; (with_reducible refine (gossamernum_Words.calls kj12 _ _ t204 _ _ t211 true _ ?side1 ?side2 ?side3 ?side4 A26.out).mono ?_); (case side1 => repeat (first | exact (Kd.R_reads' HO_7.out).2.2 | (with_reducible refine Kd.C_alloc ?_ _) | (with_reducible refine Kd.C_drewN ?_ _) | (with_reducible refine Kd.C_drew ?_))); (case side2 => exact (Kd.R_reads' HO_7.out).2.1); (case side3 => repeat (first | exact (Kd.R_reads' HO213.out).2.2 | (with_reducible refine Kd.C_alloc ?_ _) | (with_reducible refine Kd.C_drewN ?_ _) | (with_reducible refine Kd.C_drew ?_))); (case side4 => exact (Kd.R_reads' HO213.out).2.1); rintro e w' ⟨rfl, ⟨nd, rfl⟩⟩) | (go_at_call 13; (with_reducible refine (massey_Keeps.calls kj12 _ _ l0 _ _ t204 true _ ?side1 ?side2 ?side3 ?side4 A28.out).mono ?_); (case side1 => repeat (first | exact (Kd.C_below HR0.out (by repeat (first | (with_reducible first | exact HB.out | apply below_alloc | apply pw_below_drewN | apply below_drew1) | exact HB.out))) | (with_reducible refine Kd.C_alloc ?_ _) | (with_reducible refine Kd.C_drewN ?_ _) | (with_reducible refine Kd.C_drew ?_))); (case side2 => exact HC0.out); (case side3 => repeat (first | exact (Kd.R_reads' HO_7.out).2.2 | (with_reducible refine Kd.C_alloc ?_ _) | (with_reducible refine Kd.C_drewN ?_ _) | (with_reducible refine Kd.C_drew ?_))); (case side4 => exact (Kd.R_reads' HO_7.out).2.1); rintro e w35 ⟨rfl, hb⟩; have n0_ := Aside0.mk (Kd.R_below (by (with_reducible repeat (first | apply Kd.R_alloc | apply Kd.R_drewN | apply Kd.R_drew)); exact HO_7.out) hb); have n1_ := Aside0.mk (Kd.R_below (by (with_reducible repeat (first | apply Kd.R_alloc | apply Kd.R_drewN | apply Kd.R_drew)); exact HO213.out) hb); have n2_ := Aside0.mk (below_step (by repeat (first | (with_reducible first | exact HB.out | apply below_alloc | apply pw_below_drewN | apply below_drew1) | exact HB.out)) hb); clear HO_7; clear HO213; clear HB; have HO_7 := n0_; have HO213 := n1_; have HB := n2_; clear n0_ n1_ n2_; (try clear hb); (try clear hb2); (try clear hk); (try clear hi)) | (go_at_call 9; (with_reducible refine (massey_Length.calls _ _ t204 t216 _ ?side1 ?side2 A30.out).mono ?_); (case side1 => repeat (first | exact (Kd.R_reads' HO_7.out).2.2 | (with_reducible refine Kd.C_alloc ?_ _) | (with_reducible refine Kd.C_drewN ?_ _) | (with_reducible refine Kd.C_drew ?_))); (case side2 => exact (Kd.R_reads' HO_7.out).2.1); rintro e w36 ⟨rfl, hb⟩; have n0_ := Aside0.mk (Kd.R_below (by (with_reducible repeat (first | apply Kd.R_alloc | apply Kd.R_drewN | apply Kd.R_drew)); exact HO_7.out) hb); have n1_ := Aside0.mk (Kd.R_below (by (with_reducible repeat (first | apply Kd.R_alloc | apply Kd.R_drewN | apply Kd.R_drew)); exact HO213.out) hb); have n2_ := Aside0.mk (below_step (by repeat (first | (with_reducible first | exact HB.out | apply below_alloc | apply pw_below_drewN | apply below_drew1) | exact HB.out)) hb); clear HO_7; clear HO213; clear HB; have HO_7 := n0_; have HO213 := n1_; have HB := n2_; clear n0_ n1_ n2_; (try clear hb); (try clear hb2); (try clear hk); (try clear hi)))
                          go_meet
                          case rel => exact ⟨_, (decide (a2 ≥ (l0.length : Int))), (by first | rfl | (simp; done) | (simp [*]; done)), H', ⟨by have := HJ5.out; have := HJ12.out; first | omega | exact Nat.le_refl _⟩, ⟨by (with_reducible repeat (first | apply Kd.R_alloc | apply Kd.R_drewN | apply Kd.R_drew)); exact Kd.R_mono HO_7.out (fun _ hk => trivial)⟩, ⟨by repeat (first | (with_reducible first | exact HB.out | apply below_alloc | apply pw_below_drewN | apply below_drew1) | exact HB.out)⟩⟩
                        · rw [if_neg c31] at H
                          have c31b0 : decide ((l0.length : Int) ≤ t216) = false := decide_eq_false c31
                          clear c31
                          (first | rw [c31b0] | (simp only [i64_w, i32_w]; rw [c31b0]) | skip)
                          have H' := Aside0.mk H
                          clear H
                          go_wp2_with (first | (go_at_call 17; (with_reducible refine (gossamerref03_Goes.calls kj12 _ _ l0 _ _ l1 a2 t211 _ ?side1 ?side2 ?side3 ?side4 A25.out).mono ?_); (case side1 => repeat (first | exact (Kd.C_below HR0.out HB.out) | (with_reducible refine Kd.C_alloc ?_ _) | (with_reducible refine Kd.C_drewN ?_ _) | (with_reducible refine Kd.C_drew ?_))); (case side2 => exact HC0.out); (case side3 => repeat (first | exact (Kd.C_below HR1.out HB.out) | (with_reducible refine Kd.C_alloc ?_ _) | (with_reducible refine Kd.C_drewN ?_ _) | (with_reducible refine Kd.C_drew ?_))); (case side4 => exact HC1.out); rintro e w37 ⟨v212, rfl, ho0, hb⟩; have n0_ := Aside0.mk (Kd.R_elder' (by (with_reducible repeat (first | apply Kd.R_alloc | apply Kd.R_drewN | apply Kd.R_drew)); exact HO_7.out) (Kd.R_base ho0) hb); have n1_ := Aside0.mk (Kd.R_lower (Kd.R_new' ho0 (Kd.R_lt (by (with_reducible repeat (first | apply Kd.R_alloc | apply Kd.R_drewN | apply Kd.R_drew)); exact HO_7.out))) (below_size (by repeat (first | (with_reducible first | exact HB.out | apply below_alloc | apply pw_below_drewN | apply below_drew1) | exact HB.out)))); have n2_ := Aside0.mk (below_step (by repeat (first | (with_reducible first | exact HB.out | apply below_alloc | apply pw_below_drewN | apply below_drew1) | exact HB.out)) hb); clear HO_7; clear HB; have HO_7 := n0_; have HO213 := n1_; have HB := n2_; clear n0_ n1_ n2_; (try clear hb); (try clear hb2); (try clear hk); (try clear hi); (try clear ho0); obtain ⟨Ao38, co38, eo38⟩ := Kd.R_slice HO_7.out; subst eo38; obtain ⟨Ao39, co39, eo39⟩ := Kd.R_slice HO213.out; subst eo39) | (go_at_call 14; (with_reducible refine (gossamernum_Words.calls kj12 _ _ t204 _ _ t211 true _ ?side1 ?side2 ?side3 ?side4 A26.out).mono ?_); (case side1 => repeat (first | exact (Kd.R_reads' HO_7.out).2.2 | (with_reducible refine Kd.C_alloc ?_ _) | (with_reducible refine Kd.C_drewN ?_ _) | (with_reducible refine Kd.C_drew ?_))); (case side2 => exact (Kd.R_reads' HO_7.out).2.1); (case side3 => repeat (first | exact (Kd.R_reads' HO213.out).2.2 | (with_reducible refine Kd.C_alloc ?_ _) | (with_reducible refine Kd.C_drewN ?_ _) | (with_reducible refine Kd.C_drew ?_))); (case side4 => exact (Kd.R_reads' HO213.out).2.1); rintro e w' ⟨rfl, ⟨nd, rfl⟩⟩) | (go_at_call 13; (with_reducible refine (massey_Keeps.calls kj12 _ _ l0 _ _ t204 true _ ?side1 ?side2 ?side3 ?side4 A28.out).mono ?_); (case side1 => repeat (first | exact (Kd.C_below HR0.out (by repeat (first | (with_reducible first | exact HB.out | apply below_alloc | apply pw_below_drewN | apply below_drew1) | exact HB.out))) | (with_reducible refine Kd.C_alloc ?_ _) | (with_reducible refine Kd.C_drewN ?_ _) | (with_reducible refine Kd.C_drew ?_))); (case side2 => exact HC0.out); (case side3 => repeat (first | exact (Kd.R_reads' HO_7.out).2.2 | (with_reducible refine Kd.C_alloc ?_ _) | (with_reducible refine Kd.C_drewN ?_ _) | (with_reducible refine Kd.C_drew ?_))); (case side4 => exact (Kd.R_reads' HO_7.out).2.1); rintro e w40 ⟨rfl, hb⟩; have n0_ := Aside0.mk (Kd.R_below (by (with_reducible repeat (first | apply Kd.R_alloc | apply Kd.R_drewN | apply Kd.R_drew)); exact HO_7.out) hb); have n1_ := Aside0.mk (Kd.R_below (by (with_reducible repeat (first | apply Kd.R_alloc | apply Kd.R_drewN | apply Kd.R_drew)); exact HO213.out) hb); have n2_ := Aside0.mk (below_step (by repeat (first | (with_reducible first | exact HB.out | apply below_alloc | apply pw_below_drewN | apply below_drew1) | exact HB.out)) hb); clear HO_7; clear HO213; clear HB; have HO_7 := n0_; have HO213 := n1_; have HB := n2_; clear n0_ n1_ n2_; (try clear hb); (try clear hb2); (try clear hk); (try clear hi)) | (go_at_call 9; (with_reducible refine (massey_Length.calls _ _ t204 t216 _ ?side1 ?side2 A30.out).mono ?_); (case side1 => repeat (first | exact (Kd.R_reads' HO_7.out).2.2 | (with_reducible refine Kd.C_alloc ?_ _) | (with_reducible refine Kd.C_drewN ?_ _) | (with_reducible refine Kd.C_drew ?_))); (case side2 => exact (Kd.R_reads' HO_7.out).2.1); rintro e w41 ⟨rfl, hb⟩; have n0_ := Aside0.mk (Kd.R_below (by (with_reducible repeat (first | apply Kd.R_alloc | apply Kd.R_drewN | apply Kd.R_drew)); exact HO_7.out) hb); have n1_ := Aside0.mk (Kd.R_below (by (with_reducible repeat (first | apply Kd.R_alloc | apply Kd.R_drewN | apply Kd.R_drew)); exact HO213.out) hb); have n2_ := Aside0.mk (below_step (by repeat (first | (with_reducible first | exact HB.out | apply below_alloc | apply pw_below_drewN | apply below_drew1) | exact HB.out)) hb); clear HO_7; clear HO213; clear HB; have HO_7 := n0_; have HO213 := n1_; have HB := n2_; clear n0_ n1_ n2_; (try clear hb); (try clear hb2); (try clear hk); (try clear hi)))
                          go_meet
                          case rel => exact ⟨_, (false), (by first | rfl | (simp; done) | (simp [*]; done)), H', ⟨by have := HJ5.out; have := HJ12.out; first | omega | exact Nat.le_refl _⟩, ⟨by (with_reducible repeat (first | apply Kd.R_alloc | apply Kd.R_drewN | apply Kd.R_drew)); exact Kd.R_mono HO_7.out (fun _ hk => trivial)⟩, ⟨by repeat (first | (with_reducible first | exact HB.out | apply below_alloc | apply pw_below_drewN | apply below_drew1) | exact HB.out)⟩⟩
                      · replace c29 := Bool.eq_false_iff.mpr c29
                        subst c29
                        have H1 : (gossamerlaw03_MasseyGoes.j2 kj12 t204 true) = some r := by rw [if_neg (show ¬ (false = true) by decide)] at H; exact H
                        clear H
                        have H := H1
                        clear H1
                        have H' := Aside0.mk H
                        clear H
                        go_wp2_with (first | (go_at_call 17; (with_reducible refine (gossamerref03_Goes.calls kj12 _ _ l0 _ _ l1 a2 t211 _ ?side1 ?side2 ?side3 ?side4 A25.out).mono ?_); (case side1 => repeat (first | exact (Kd.C_below HR0.out HB.out) | (with_reducible refine Kd.C_alloc ?_ _) | (with_reducible refine Kd.C_drewN ?_ _) | (with_reducible refine Kd.C_drew ?_))); (case side2 => exact HC0.out); (case side3 => repeat (first | exact (Kd.C_below HR1.out HB.out) | (with_reducible refine Kd.C_alloc ?_ _) | (with_reducible refine Kd.C_drewN ?_ _) | (with_reducible refine Kd.C_drew ?_))); (case side4 => exact HC1.out); rintro e w42 ⟨v212, rfl, ho0, hb⟩; have n0_ := Aside0.mk (Kd.R_elder' (by (with_reducible repeat (first | apply Kd.R_alloc | apply Kd.R_drewN | apply Kd.R_drew)); exact HO_7.out) (Kd.R_base ho0) hb); have n1_ := Aside0.mk (Kd.R_lower (Kd.R_new' ho0 (Kd.R_lt (by (with_reducible repeat (first | apply Kd.R_alloc | apply Kd.R_drewN | apply Kd.R_drew)); exact HO_7.out))) (below_size (by repeat (first | (with_reducible first | exact HB.out | apply below_alloc | apply pw_below_drewN | apply below_drew1) | exact HB.out)))); have n2_ := Aside0.mk (below_step (by repeat (first | (with_reducible first | exact HB.out | apply below_alloc | apply pw_below_drewN | apply below_drew1) | exact HB.out)) hb); clear HO_7; clear HB; have HO_7 := n0_; have HO213 := n1_; have HB := n2_; clear n0_ n1_ n2_; (try clear hb); (try clear hb2); (try clear hk); (try clear hi); (try clear ho0); obtain ⟨Ao43, co43, eo43⟩ := Kd.R_slice HO_7.out; subst eo43; obtain ⟨Ao44, co44, eo44⟩ := Kd.R_slice HO213.out; subst eo44) | (go_at_call 14; (with_reducible refine (gossamernum_Words.calls kj12 _ _ t204 _ _ t211 true _ ?side1 ?side2 ?side3 ?side4 A26.out).mono ?_); (case side1 => repeat (first | exact (Kd.R_reads' HO_7.out).2.2 | (with_reducible refine Kd.C_alloc ?_ _) | (with_reducible refine Kd.C_drewN ?_ _) | (with_reducible refine Kd.C_drew ?_))); (case side2 => exact (Kd.R_reads' HO_7.out).2.1); (case side3 => repeat (first | exact (Kd.R_reads' HO213.out).2.2 | (with_reducible refine Kd.C_alloc ?_ _) | (with_reducible refine Kd.C_drewN ?_ _) | (with_reducible refine Kd.C_drew ?_))); (case side4 => exact (Kd.R_reads' HO213.out).2.1); rintro e w' ⟨rfl, ⟨nd, rfl⟩⟩) | (go_at_call 13; (with_reducible refine (massey_Keeps.calls kj12 _ _ l0 _ _ t204 false _ ?side1 ?side2 ?side3 ?side4 A28.out).mono ?_); (case side1 => repeat (first | exact (Kd.C_below HR0.out (by repeat (first | (with_reducible first | exact HB.out | apply below_alloc | apply pw_below_drewN | apply below_drew1) | exact HB.out))) | (with_reducible refine Kd.C_alloc ?_ _) | (with_reducible refine Kd.C_drewN ?_ _) | (with_reducible refine Kd.C_drew ?_))); (case side2 => exact HC0.out); (case side3 => repeat (first | exact (Kd.R_reads' HO_7.out).2.2 | (with_reducible refine Kd.C_alloc ?_ _) | (with_reducible refine Kd.C_drewN ?_ _) | (with_reducible refine Kd.C_drew ?_))); (case side4 => exact (Kd.R_reads' HO_7.out).2.1); rintro e w45 ⟨rfl, hb⟩; have n0_ := Aside0.mk (Kd.R_below (by (with_reducible repeat (first | apply Kd.R_alloc | apply Kd.R_drewN | apply Kd.R_drew)); exact HO_7.out) hb); have n1_ := Aside0.mk (Kd.R_below (by (with_reducible repeat (first | apply Kd.R_alloc | apply Kd.R_drewN | apply Kd.R_drew)); exact HO213.out) hb); have n2_ := Aside0.mk (below_step (by repeat (first | (with_reducible first | exact HB.out | apply below_alloc | apply pw_below_drewN | apply below_drew1) | exact HB.out)) hb); clear HO_7; clear HO213; clear HB; have HO_7 := n0_; have HO213 := n1_; have HB := n2_; clear n0_ n1_ n2_; (try clear hb); (try clear hb2); (try clear hk); (try clear hi)))
                        go_meet
                        case rel => exact ⟨_, (true), (by first | rfl | (simp; done) | (simp [*]; done)), H', ⟨by have := HJ5.out; have := HJ12.out; first | omega | exact Nat.le_refl _⟩, ⟨by (with_reducible repeat (first | apply Kd.R_alloc | apply Kd.R_drewN | apply Kd.R_drew)); exact Kd.R_mono HO_7.out (fun _ hk => trivial)⟩, ⟨by repeat (first | (with_reducible first | exact HB.out | apply below_alloc | apply pw_below_drewN | apply below_drew1) | exact HB.out)⟩⟩
                    · replace c27 := Bool.eq_false_iff.mpr c27
                      subst c27
                      have H1 : (gossamerlaw03_MasseyGoes.j2 kj12 t204 true) = some r := by rw [if_neg (show ¬ (false = true) by decide)] at H; exact H
                      clear H
                      have H := H1
                      clear H1
                      have H' := Aside0.mk H
                      clear H
                      go_wp2_with (first | (go_at_call 17; (with_reducible refine (gossamerref03_Goes.calls kj12 _ _ l0 _ _ l1 a2 t211 _ ?side1 ?side2 ?side3 ?side4 A25.out).mono ?_); (case side1 => repeat (first | exact (Kd.C_below HR0.out HB.out) | (with_reducible refine Kd.C_alloc ?_ _) | (with_reducible refine Kd.C_drewN ?_ _) | (with_reducible refine Kd.C_drew ?_))); (case side2 => exact HC0.out); (case side3 => repeat (first | exact (Kd.C_below HR1.out HB.out) | (with_reducible refine Kd.C_alloc ?_ _) | (with_reducible refine Kd.C_drewN ?_ _) | (with_reducible refine Kd.C_drew ?_))); (case side4 => exact HC1.out); rintro e w46 ⟨v212, rfl, ho0, hb⟩; have n0_ := Aside0.mk (Kd.R_elder' (by (with_reducible repeat (first | apply Kd.R_alloc | apply Kd.R_drewN | apply Kd.R_drew)); exact HO_7.out) (Kd.R_base ho0) hb); have n1_ := Aside0.mk (Kd.R_lower (Kd.R_new' ho0 (Kd.R_lt (by (with_reducible repeat (first | apply Kd.R_alloc | apply Kd.R_drewN | apply Kd.R_drew)); exact HO_7.out))) (below_size (by repeat (first | (with_reducible first | exact HB.out | apply below_alloc | apply pw_below_drewN | apply below_drew1) | exact HB.out)))); have n2_ := Aside0.mk (below_step (by repeat (first | (with_reducible first | exact HB.out | apply below_alloc | apply pw_below_drewN | apply below_drew1) | exact HB.out)) hb); clear HO_7; clear HB; have HO_7 := n0_; have HO213 := n1_; have HB := n2_; clear n0_ n1_ n2_; (try clear hb); (try clear hb2); (try clear hk); (try clear hi); (try clear ho0); obtain ⟨Ao47, co47, eo47⟩ := Kd.R_slice HO_7.out; subst eo47; obtain ⟨Ao48, co48, eo48⟩ := Kd.R_slice HO213.out; subst eo48) | (go_at_call 14; (with_reducible refine (gossamernum_Words.calls kj12 _ _ t204 _ _ t211 false _ ?side1 ?side2 ?side3 ?side4 A26.out).mono ?_); (case side1 => repeat (first | exact (Kd.R_reads' HO_7.out).2.2 | (with_reducible refine Kd.C_alloc ?_ _) | (with_reducible refine Kd.C_drewN ?_ _) | (with_reducible refine Kd.C_drew ?_))); (case side2 => exact (Kd.R_reads' HO_7.out).2.1); (case side3 => repeat (first | exact (Kd.R_reads' HO213.out).2.2 | (with_reducible refine Kd.C_alloc ?_ _) | (with_reducible refine Kd.C_drewN ?_ _) | (with_reducible refine Kd.C_drew ?_))); (case side4 => exact (Kd.R_reads' HO213.out).2.1); rintro e w' ⟨rfl, ⟨nd, rfl⟩⟩))
                      go_meet
                      case rel => exact ⟨_, (true), (by first | rfl | (simp; done) | (simp [*]; done)), H', ⟨by have := HJ5.out; have := HJ12.out; first | omega | exact Nat.le_refl _⟩, ⟨by (with_reducible repeat (first | apply Kd.R_alloc | apply Kd.R_drewN | apply Kd.R_drew)); exact Kd.R_mono HO_7.out (fun _ hk => trivial)⟩, ⟨by repeat (first | (with_reducible first | exact HB.out | apply below_alloc | apply pw_below_drewN | apply below_drew1) | exact HB.out)⟩⟩
                  · have H1 : (gossamerlaw03_MasseyGoes.j2 kj12 t204 true) = some r := by rw [if_neg (show ¬ (some q210).isNone = true by simp)] at H; exact H
                    clear H
                    have H := H1
                    clear H1
                    try simp only [errW_none, errW_some]
                    have H' := Aside0.mk H
                    clear H
                    go_wp2
                    go_meet
                    case rel => exact ⟨_, (true), (by first | rfl | (simp; done) | (simp [*]; done)), H', ⟨by have := HJ5.out; have := HJ12.out; first | omega | exact Nat.le_refl _⟩, ⟨by (with_reducible repeat (first | apply Kd.R_alloc | apply Kd.R_drewN | apply Kd.R_drew)); exact HO_7.out⟩, ⟨by repeat (first | (with_reducible first | exact HB.out | apply below_alloc | apply pw_below_drewN | apply below_drew1) | exact HB.out)⟩⟩
                case rest =>
                  clear HC24
                  try clear c1
                  try clear c2
                  try clear p2
                  try clear q2
                  try clear hx2
                  try clear qi2
                  try clear c3
                  try clear c5
                  try clear p6
                  try clear c7
                  try clear c8
                  try clear c8b0
                  try clear c8b1
                  try clear c9
                  try clear c9b0
                  try clear c9b1
                  try clear c10
                  try clear c10b0
                  try clear c11
                  try clear c15
                  try clear c15b0
                  try clear c15b1
                  try clear c15b2
                  try clear c16
                  try clear c16b0
                  try clear c16b1
                  try clear c17
                  try clear c17b0
                  try clear c17b1
                  try clear c18
                  try clear c18b0
                  try clear c18b1
                  try clear c19
                  try clear c19b0
                  try clear c20
                  try clear p20
                  try clear q20
                  try clear hx20
                  try clear qi20
                  try clear q21
                  try clear c22
                  try clear c27
                  try clear c29
                  try clear c31
                  try clear c31b0
                  try clear hx208_0
                  try clear p2
                  try clear p208
                  try clear p6
                  try clear q2
                  try clear q208
                  try clear q210
                  obtain ⟨kq, x97_23, rfl, HA, HJ23, HO_7, HB⟩ := hcut
                  cases kq with
                  | zero => exact absurd HA.out (by simp [gossamerlaw03_MasseyGoes.j2])
                  | succ kj23 =>
                    have H := HA.out
                    clear HA
                    simp only [gossamerlaw03_MasseyGoes.j2] at H
                    by_cases c49 : x97_23 = true
                    · subst c49
                      have H1 : (some false) = some r := by rw [if_pos rfl] at H; exact H
                      clear H
                      have H := H1
                      clear H1
                      obtain rfl := Option.some.inj H
                      go_wp2
                      go_ret
                      exact ⟨by first | rfl | (simp [errW_none, errW_some] <;> rfl) | (simp [*, errW_none, errW_some] <;> rfl), by repeat (first | (with_reducible first | exact HB.out | apply below_alloc | apply pw_below_drewN | apply below_drew1) | exact HB.out)⟩
                    · replace c49 := Bool.eq_false_iff.mpr c49
                      subst c49
                      have H1 : ((massey_Shortest.f t204).bind fun t217 => (if (wrap64 ((t217.length : Int) - 1)) > (t204.length : Int) then (gossamerlaw03_MasseyGoes.j3 kj23 t204 t217 true) else (gossamerlaw03_MasseyGoes.j3 kj23 t204 t217 (decide ((wrap64 (2 * (wrap64 ((t217.length : Int) - 1)))) > (t204.length : Int)))))) = some r := by rw [if_neg (show ¬ (false = true) by decide)] at H; exact H
                      clear H
                      have H := H1
                      clear H1
                      replace H := Option.bind_eq_some_iff.mp H
                      obtain ⟨t217, A500, H⟩ := H
                      replace H : (if (wrap64 ((t217.length : Int) - 1)) > (t204.length : Int) then (gossamerlaw03_MasseyGoes.j3 kj23 t204 t217 true) else (gossamerlaw03_MasseyGoes.j3 kj23 t204 t217 (decide ((wrap64 (2 * (wrap64 ((t217.length : Int) - 1)))) > (t204.length : Int))))) = some r := H
                      have A50 := Aside0.mk A500
                      clear A500
                      have HC51 := Aside0.mk H
                      clear H
                      obtain ⟨Ao52, co52, eo52⟩ := Kd.R_slice HO_7.out
                      subst eo52
                      go_upto_region 11 with (first | ((with_reducible refine gate_callee (f := 10) rfl ?_); refine goesL_ (some 99) rfl rfl Try.func10 (by kernel_rfl) rfl #[.slice Ao52 t204.length co52] rfl (by (try simp only [List.map_toArray, List.map_cons, List.map_nil]); first | done | rfl | (simp only [List.length_drop, List.length_take]; rfl)) ?_; (with_reducible refine (massey_Shortest.calls _ _ t204 t217 _ ?side1 ?side2 A50.out).mono ?_); (case side1 => repeat (first | exact (Kd.R_reads' HO_7.out).2.2 | (with_reducible refine Kd.C_alloc ?_ _) | (with_reducible refine Kd.C_drewN ?_ _) | (with_reducible refine Kd.C_drew ?_))); (case side2 => exact (Kd.R_reads' HO_7.out).2.1); rintro e w53 ⟨v218, rfl, ho0, hb⟩; refine ⟨_, rfl, ?_⟩; have n0_ := Aside0.mk (Kd.R_elder' (by (with_reducible repeat (first | apply Kd.R_alloc | apply Kd.R_drewN | apply Kd.R_drew)); exact HO_7.out) (Kd.R_base ho0) hb); have n1_ := Aside0.mk (Kd.R_lower (Kd.R_new' ho0 (Kd.R_lt (by (with_reducible repeat (first | apply Kd.R_alloc | apply Kd.R_drewN | apply Kd.R_drew)); exact HO_7.out))) (below_size (by repeat (first | (with_reducible first | exact HB.out | apply below_alloc | apply pw_below_drewN | apply below_drew1) | exact HB.out)))); have n2_ := Aside0.mk (below_step (by repeat (first | (with_reducible first | exact HB.out | apply below_alloc | apply pw_below_drewN | apply below_drew1) | exact HB.out)) hb); clear HO_7; clear HB; have HO_7 := n0_; have HO219 := n1_; have HB := n2_; clear n0_ n1_ n2_; (try clear hb); (try clear hb2); (try clear hk); (try clear hi); (try clear ho0)))
                      (try simp only [Act.put, List.setIfInBounds_toArray, List.set_cons_zero, List.set_cons_succ])
                      go_cut [114] (fun v114 wc => ∃ (kq : Nat) (x114_50 : Bool), v114 = .bool x114_50 ∧ Aside0 (gossamerlaw03_MasseyGoes.j3 kq t204 t217 x114_50 = some r) ∧ Aside0 (kq ≤ kj23) ∧ Aside0 (Kd.R (Kd.int .u32) 30 wc w.heap.size (fun k_ => some k_ ≠ (v218 : Value).ownBlock) (.slice Ao52 t204.length co52) t204) ∧ Aside0 (Kd.R (Kd.int .u32) 30 wc w.heap.size (fun k_ => some k_ ≠ ((.slice Ao52 t204.length co52) : Value).ownBlock) v218 t217) ∧ Aside0 (Below w.heap.size w wc))
                      case first =>
                        have H := HC51.out
                        clear HC51
                        by_cases c54 : (wrap64 ((t217.length : Int) - 1)) > (t204.length : Int)
                        · rw [if_pos c54] at H
                          have c54b0 : decide ((t204.length : Int) < (wrap64 ((t217.length : Int) - 1))) = true := decide_eq_true c54
                          clear c54
                          (first | rw [c54b0] | (simp only [i64_w, i32_w]; rw [c54b0]) | skip)
                          have H' := Aside0.mk H
                          clear H
                          obtain ⟨Ao55, co55, eo55⟩ := Kd.R_slice HO219.out
                          subst eo55
                          go_wp2
                          go_meet
                          case rel => exact ⟨_, (true), (by first | rfl | (simp; done) | (simp [*]; done)), H', ⟨by have := HJ5.out; have := HJ12.out; have := HJ23.out; first | omega | exact Nat.le_refl _⟩, ⟨by (with_reducible repeat (first | apply Kd.R_alloc | apply Kd.R_drewN | apply Kd.R_drew)); exact Kd.R_mono HO_7.out (fun _ hk => hk.2)⟩, ⟨by (with_reducible repeat (first | apply Kd.R_alloc | apply Kd.R_drewN | apply Kd.R_drew)); exact Kd.R_mono HO219.out (fun _ hk => hk.2)⟩, ⟨by repeat (first | (with_reducible first | exact HB.out | apply below_alloc | apply pw_below_drewN | apply below_drew1) | exact HB.out)⟩⟩
                        · rw [if_neg c54] at H
                          have c54b0 : decide ((t204.length : Int) < (wrap64 ((t217.length : Int) - 1))) = false := decide_eq_false c54
                          clear c54
                          (first | rw [c54b0] | (simp only [i64_w, i32_w]; rw [c54b0]) | skip)
                          have H' := Aside0.mk H
                          clear H
                          obtain ⟨Ao56, co56, eo56⟩ := Kd.R_slice HO219.out
                          subst eo56
                          go_wp2
                          go_meet
                          case rel => exact ⟨_, (decide ((wrap64 (2 * (wrap64 ((t217.length : Int) - 1)))) > (t204.length : Int))), (by first | rfl | (simp; done) | (simp [*]; done)), H', ⟨by have := HJ5.out; have := HJ12.out; have := HJ23.out; first | omega | exact Nat.le_refl _⟩, ⟨by (with_reducible repeat (first | apply Kd.R_alloc | apply Kd.R_drewN | apply Kd.R_drew)); exact Kd.R_mono HO_7.out (fun _ hk => hk.2)⟩, ⟨by (with_reducible repeat (first | apply Kd.R_alloc | apply Kd.R_drewN | apply Kd.R_drew)); exact Kd.R_mono HO219.out (fun _ hk => hk.2)⟩, ⟨by repeat (first | (with_reducible first | exact HB.out | apply below_alloc | apply pw_below_drewN | apply below_drew1) | exact HB.out)⟩⟩
                      case rest =>
                        clear HC51
                        try clear c1
                        try clear c2
                        try clear p2
                        try clear q2
                        try clear hx2
                        try clear qi2
                        try clear c3
                        try clear c4
                        try clear c5
                        try clear p6
                        try clear c7
                        try clear c8
                        try clear c8b0
                        try clear c8b1
                        try clear c9
                        try clear c9b0
                        try clear c9b1
                        try clear c10
                        try clear c10b0
                        try clear c11
                        try clear c15
                        try clear c15b0
                        try clear c15b1
                        try clear c15b2
                        try clear c16
                        try clear c16b0
                        try clear c16b1
                        try clear c17
                        try clear c17b0
                        try clear c17b1
                        try clear c18
                        try clear c18b0
                        try clear c18b1
                        try clear c19
                        try clear c19b0
                        try clear c20
                        try clear p20
                        try clear q20
                        try clear hx20
                        try clear qi20
                        try clear q21
                        try clear c22
                        try clear c27
                        try clear c29
                        try clear c31
                        try clear c31b0
                        try clear c49
                        try clear c54
                        try clear c54b0
                        try clear hx208_0
                        try clear p2
                        try clear p20
                        try clear p208
                        try clear p6
                        try clear q2
                        try clear q20
                        try clear q208
                        try clear q21
                        try clear q210
                        obtain ⟨kq, x114_50, rfl, HA, HJ50, HO_7, HO_9, HB⟩ := hcut
                        cases kq with
                        | zero => exact absurd HA.out (by simp [gossamerlaw03_MasseyGoes.j3])
                        | succ kj50 =>
                          have H := HA.out
                          clear HA
                          simp only [gossamerlaw03_MasseyGoes.j3] at H
                          by_cases c57 : x114_50 = true
                          · subst c57
                            have H1 : (some (decide ((wrap64 ((t217.length : Int) - 1)) ≤ (t204.length : Int)))) = some r := by rw [if_pos rfl] at H; exact H
                            clear H
                            have H := H1
                            clear H1
                            obtain rfl := Option.some.inj H
                            obtain ⟨Ao58, co58, eo58⟩ := Kd.R_slice HO_9.out
                            subst eo58
                            go_wp2
                            go_ret
                            exact ⟨by first | rfl | (simp [errW_none, errW_some] <;> rfl) | (simp [*, errW_none, errW_some] <;> rfl), by repeat (first | (with_reducible first | exact HB.out | apply below_alloc | apply pw_below_drewN | apply below_drew1) | exact HB.out)⟩
                          · replace c57 := Bool.eq_false_iff.mpr c57
                            subst c57
                            have H1 : (if 0 ≤ (wrap64 ((t217.length : Int) - 1)) then (if (wrap64 ((t217.length : Int) - 1)) ≤ (t204.length : Int) then ((massey_Goes.f kj50 t217 (t204.take ((wrap64 ((t217.length : Int) - 1)) : Int).toNat) (t204.length : Int)).bind fun bt224 => (if bt224.2.isNone = true then ((gossamernum_Words.f kj50 bt224.1 t204).bind fun t229 => (some t229)) else (some false))) else (none)) else (none)) = some r := by rw [if_neg (show ¬ (false = true) by decide)] at H; exact H
                            clear H
                            have H := H1
                            clear H1
                            obtain ⟨ji59, hji59⟩ : ∃ j_ : Int, (wrap64 ((t217.length : Int) - 1)) = j_ := ⟨_, rfl⟩
                            replace H : (if 0 ≤ (ji59) then (if (ji59) ≤ (t204.length : Int) then ((massey_Goes.f kj50 t217 (t204.take ((ji59) : Int).toNat) (t204.length : Int)).bind fun bt224 => (if bt224.2.isNone = true then ((gossamernum_Words.f kj50 bt224.1 t204).bind fun t229 => (some t229)) else (some false))) else (none)) else (none)) = some r := by first | (rw [hji59] at H; exact H) | (simp only [hji59] at H ⊢; exact H)
                            have hji59w : (IntKind.i64.wrap ((t217.length : Int) - 1)) = ji59 := (i64_w _).trans hji59
                            by_cases c60 : 0 ≤ (ji59)
                            · rw [if_pos c60] at H
                              have c60b0 := eq_true c60
                              have c60b1 : decide (0 ≤ (ji59)) = true := decide_eq_true c60
                              clear c60
                              by_cases c61 : (ji59) ≤ (t204.length : Int)
                              · rw [if_pos c61] at H
                                have c61b0 := eq_true c61
                                have c61b1 : decide ((ji59) ≤ (t204.length : Int)) = true := decide_eq_true c61
                                clear c61
                                obtain ⟨y220, hy220⟩ : ∃ y_ : List Int, y_ = (t204.take ((ji59) : Int).toNat) := ⟨_, rfl⟩
                                replace H : ((massey_Goes.f kj50 t217 y220 (t204.length : Int)).bind fun bt224 => (if bt224.2.isNone = true then ((gossamernum_Words.f kj50 bt224.1 t204).bind fun t229 => (some t229)) else (some false))) = some r := by first | (rw [hy220]; with_reducible exact H) | (have H2_ := (Option.bind_some _ _).symm.trans H; rw [hy220]; with_reducible exact H2_) | (have H2_ := (Option.bind_some _ _).symm.trans H; with_reducible exact H2_) | with_reducible exact H | (rw [hy220]; exact H) | exact H
                                have Ny220 := Aside0.mk hy220
                                clear hy220
                                replace H := Option.bind_eq_some_iff.mp H
                                obtain ⟨⟨t224, t225⟩, A620, H⟩ := H
                                replace H : (if t225.isNone = true then ((gossamernum_Words.f kj50 t224 t204).bind fun t229 => (some t229)) else (some false)) = some r := H
                                have A62 := Aside0.mk A620
                                clear A620
                                rcases t225 with _ | q228
                                · have H1 : ((gossamernum_Words.f kj50 t224 t204).bind fun t229 => (some t229)) = some r := by rw [if_pos (show (none : Option Int).isNone = true by rfl)] at H; exact H
                                  clear H
                                  have H := H1
                                  clear H1
                                  try simp only [errW_none, errW_some]
                                  replace H := Option.bind_eq_some_iff.mp H
                                  obtain ⟨t229, A630, H⟩ := H
                                  replace H : (some t229) = some r := H
                                  have A63 := Aside0.mk A630
                                  clear A630
                                  obtain rfl := Option.some.inj H
                                  obtain ⟨Ao64, co64, eo64⟩ := Kd.R_slice HO_9.out
                                  subst eo64
                                  have q65 : ((ji59) : Int) ≤ ((t204.length : Int) : Int) := of_decide_eq_true (by first | (with_reducible assumption) | assumption)
                                  obtain ⟨i065, hi065, _, hsz65, _⟩ := info_parts info30
                                  have hroom65 : t204.length ≤ co52 := (Kd.R_reads' HO_7.out).2.1
                                  have hC65 : Kd.C (Kd.int .u32) _ Ao52 t204.length t204 := (Kd.R_reads' HO_7.out).2.2
                                  have hcut65 := cut_to (P := Try.prog) 22 30 .i64 Try.underlying22 hi065 Ao52 t204.length co52 (ji59) (of_decide_eq_true (by first | (with_reducible assumption) | assumption)) q65 hroom65
                                  have hr65 := Kd.C_take (m := ((ji59) : Int).toNat) hC65 (by omega)
                                  have hy65 : y220.length = ((ji59) : Int).toNat := (by rw [Ny220.out, List.length_take]; omega)
                                  rw [← Ny220.out] at hr65
                                  rw [← hy65] at hcut65
                                  have HR223 := Aside0.mk hr65
                                  have HC223 := Aside0.mk (show y220.length ≤ co52 from by omega)
                                  clear hr65 hC65 hroom65 hi065 hsz65
                                  have KY65 := Aside0.mk hy65
                                  clear hy65
                                  have KL65 := Aside0.mk (show ((ji59) : Int).toNat ≤ t204.length from by omega)
                                  replace q65 := eq_true q65
                                  go_wp2_with (first | ((with_reducible refine gate_callee (f := 15) rfl ?_); refine goesL_ (some 130) rfl rfl Try.func15 (by kernel_rfl) rfl #[.slice Ao64 t217.length co64, .slice Ao52 y220.length co52, .int .i64 (t204.length : Int)] rfl (by (try simp only [List.map_toArray, List.map_cons, List.map_nil]); first | done | rfl | (simp only [List.length_drop, List.length_take]; rfl)) ?_; (with_reducible refine (massey_Goes.calls kj50 _ _ t217 _ _ y220 (t204.length : Int) t224 none _ ?side1 ?side2 ?side3 ?side4 A62.out).mono ?_); (case side1 => repeat (first | exact (Kd.R_reads' HO_9.out).2.2 | (with_reducible refine Kd.C_alloc ?_ _) | (with_reducible refine Kd.C_drewN ?_ _) | (with_reducible refine Kd.C_drew ?_))); (case side2 => exact (Kd.R_reads' HO_9.out).2.1); (case side3 => repeat (first | exact (by repeat (first | (with_reducible exact HR223.out) | (with_reducible refine Kd.C_alloc ?_ _) | (with_reducible refine Kd.C_drewN ?_ _) | (with_reducible refine Kd.C_drew ?_) | exact HR223.out)) | (with_reducible refine Kd.C_alloc ?_ _) | (with_reducible refine Kd.C_drewN ?_ _) | (with_reducible refine Kd.C_drew ?_))); (case side4 => exact HC223.out); rintro e w66 ⟨v226, rfl, ho0, hb⟩; refine ⟨_, rfl, ?_⟩; have n0_ := Aside0.mk (Kd.R_elder' (by (with_reducible repeat (first | apply Kd.R_alloc | apply Kd.R_drewN | apply Kd.R_drew)); exact HO_7.out) (Kd.R_base ho0) hb); have n1_ := Aside0.mk (Kd.R_elder' (by (with_reducible repeat (first | apply Kd.R_alloc | apply Kd.R_drewN | apply Kd.R_drew)); exact HO_9.out) (Kd.R_base ho0) hb); have n2_ := Aside0.mk (Kd.R_lower (Kd.R_new' (Kd.R_new' ho0 (Kd.R_lt (by (with_reducible repeat (first | apply Kd.R_alloc | apply Kd.R_drewN | apply Kd.R_drew)); exact HO_7.out))) (Kd.R_lt (by (with_reducible repeat (first | apply Kd.R_alloc | apply Kd.R_drewN | apply Kd.R_drew)); exact HO_9.out))) (below_size (by repeat (first | (with_reducible first | exact HB.out | apply below_alloc | apply pw_below_drewN | apply below_drew1) | exact HB.out)))); have n3_ := Aside0.mk (Kd.C_below (by repeat (first | (with_reducible exact HR223.out) | (with_reducible refine Kd.C_alloc ?_ _) | (with_reducible refine Kd.C_drewN ?_ _) | (with_reducible refine Kd.C_drew ?_) | exact HR223.out)) hb); have n4_ := Aside0.mk (below_step (by repeat (first | (with_reducible first | exact HB.out | apply below_alloc | apply pw_below_drewN | apply below_drew1) | exact HB.out)) hb); clear HO_7; clear HO_9; clear HR223; clear HB; have HO_7 := n0_; have HO_9 := n1_; have HO227 := n2_; have HR223 := n3_; have HB := n4_; clear n0_ n1_ n2_ n3_ n4_; (try clear hb); (try clear hb2); (try clear hk); (try clear hi); (try clear ho0); (try simp only [errW_none, errW_some]); obtain ⟨Ao67, co67, eo67⟩ := Kd.R_slice HO227.out; subst eo67) | (go_at_call 14; (with_reducible refine (gossamernum_Words.calls kj50 _ _ t224 _ _ t204 t229 _ ?side1 ?side2 ?side3 ?side4 A63.out).mono ?_); (case side1 => repeat (first | exact (Kd.R_reads' HO227.out).2.2 | (with_reducible refine Kd.C_alloc ?_ _) | (with_reducible refine Kd.C_drewN ?_ _) | (with_reducible refine Kd.C_drew ?_))); (case side2 => exact (Kd.R_reads' HO227.out).2.1); (case side3 => repeat (first | exact (Kd.R_reads' HO_7.out).2.2 | (with_reducible refine Kd.C_alloc ?_ _) | (with_reducible refine Kd.C_drewN ?_ _) | (with_reducible refine Kd.C_drew ?_))); (case side4 => exact (Kd.R_reads' HO_7.out).2.1); rintro e w' ⟨rfl, ⟨nd, rfl⟩⟩))
                                  go_ret
                                  exact ⟨by first | rfl | (simp [errW_none, errW_some] <;> rfl) | (simp only [← hji59]; first | rfl | (simp [errW_none, errW_some] <;> rfl)) | (simp [*, errW_none, errW_some] <;> rfl), by repeat (first | (with_reducible first | exact HB.out | apply below_alloc | apply pw_below_drewN | apply below_drew1) | exact HB.out)⟩
                                · have H1 : (some false) = some r := by rw [if_neg (show ¬ (some q228).isNone = true by simp)] at H; exact H
                                  clear H
                                  have H := H1
                                  clear H1
                                  try simp only [errW_none, errW_some]
                                  obtain rfl := Option.some.inj H
                                  obtain ⟨Ao68, co68, eo68⟩ := Kd.R_slice HO_9.out
                                  subst eo68
                                  have q69 : ((ji59) : Int) ≤ ((t204.length : Int) : Int) := of_decide_eq_true (by first | (with_reducible assumption) | assumption)
                                  obtain ⟨i069, hi069, _, hsz69, _⟩ := info_parts info30
                                  have hroom69 : t204.length ≤ co52 := (Kd.R_reads' HO_7.out).2.1
                                  have hC69 : Kd.C (Kd.int .u32) _ Ao52 t204.length t204 := (Kd.R_reads' HO_7.out).2.2
                                  have hcut69 := cut_to (P := Try.prog) 22 30 .i64 Try.underlying22 hi069 Ao52 t204.length co52 (ji59) (of_decide_eq_true (by first | (with_reducible assumption) | assumption)) q69 hroom69
                                  have hr69 := Kd.C_take (m := ((ji59) : Int).toNat) hC69 (by omega)
                                  have hy69 : y220.length = ((ji59) : Int).toNat := (by rw [Ny220.out, List.length_take]; omega)
                                  rw [← Ny220.out] at hr69
                                  rw [← hy69] at hcut69
                                  have HR223 := Aside0.mk hr69
                                  have HC223 := Aside0.mk (show y220.length ≤ co52 from by omega)
                                  clear hr69 hC69 hroom69 hi069 hsz69
                                  have KY69 := Aside0.mk hy69
                                  clear hy69
                                  have KL69 := Aside0.mk (show ((ji59) : Int).toNat ≤ t204.length from by omega)
                                  replace q69 := eq_true q69
                                  go_wp2_with (first | ((with_reducible refine gate_callee (f := 15) rfl ?_); refine goesL_ (some 130) rfl rfl Try.func15 (by kernel_rfl) rfl #[.slice Ao68 t217.length co68, .slice Ao52 y220.length co52, .int .i64 (t204.length : Int)] rfl (by (try simp only [List.map_toArray, List.map_cons, List.map_nil]); first | done | rfl | (simp only [List.length_drop, List.length_take]; rfl)) ?_; (with_reducible refine (massey_Goes.calls kj50 _ _ t217 _ _ y220 (t204.length : Int) t224 (some q228) _ ?side1 ?side2 ?side3 ?side4 A62.out).mono ?_); (case side1 => repeat (first | exact (Kd.R_reads' HO_9.out).2.2 | (with_reducible refine Kd.C_alloc ?_ _) | (with_reducible refine Kd.C_drewN ?_ _) | (with_reducible refine Kd.C_drew ?_))); (case side2 => exact (Kd.R_reads' HO_9.out).2.1); (case side3 => repeat (first | exact (by repeat (first | (with_reducible exact HR223.out) | (with_reducible refine Kd.C_alloc ?_ _) | (with_reducible refine Kd.C_drewN ?_ _) | (with_reducible refine Kd.C_drew ?_) | exact HR223.out)) | (with_reducible refine Kd.C_alloc ?_ _) | (with_reducible refine Kd.C_drewN ?_ _) | (with_reducible refine Kd.C_drew ?_))); (case side4 => exact HC223.out); rintro e w70 ⟨v226, rfl, ho0, hb⟩; refine ⟨_, rfl, ?_⟩; have n0_ := Aside0.mk (Kd.R_elder' (by (with_reducible repeat (first | apply Kd.R_alloc | apply Kd.R_drewN | apply Kd.R_drew)); exact HO_7.out) (Kd.R_base ho0) hb); have n1_ := Aside0.mk (Kd.R_elder' (by (with_reducible repeat (first | apply Kd.R_alloc | apply Kd.R_drewN | apply Kd.R_drew)); exact HO_9.out) (Kd.R_base ho0) hb); have n2_ := Aside0.mk (Kd.R_lower (Kd.R_new' (Kd.R_new' ho0 (Kd.R_lt (by (with_reducible repeat (first | apply Kd.R_alloc | apply Kd.R_drewN | apply Kd.R_drew)); exact HO_7.out))) (Kd.R_lt (by (with_reducible repeat (first | apply Kd.R_alloc | apply Kd.R_drewN | apply Kd.R_drew)); exact HO_9.out))) (below_size (by repeat (first | (with_reducible first | exact HB.out | apply below_alloc | apply pw_below_drewN | apply below_drew1) | exact HB.out)))); have n3_ := Aside0.mk (Kd.C_below (by repeat (first | (with_reducible exact HR223.out) | (with_reducible refine Kd.C_alloc ?_ _) | (with_reducible refine Kd.C_drewN ?_ _) | (with_reducible refine Kd.C_drew ?_) | exact HR223.out)) hb); have n4_ := Aside0.mk (below_step (by repeat (first | (with_reducible first | exact HB.out | apply below_alloc | apply pw_below_drewN | apply below_drew1) | exact HB.out)) hb); clear HO_7; clear HO_9; clear HR223; clear HB; have HO_7 := n0_; have HO_9 := n1_; have HO227 := n2_; have HR223 := n3_; have HB := n4_; clear n0_ n1_ n2_ n3_ n4_; (try clear hb); (try clear hb2); (try clear hk); (try clear hi); (try clear ho0); (try simp only [errW_none, errW_some])))
                                  go_ret
                                  exact ⟨by first | rfl | (simp [errW_none, errW_some] <;> rfl) | (simp only [← hji59]; first | rfl | (simp [errW_none, errW_some] <;> rfl)) | (simp [*, errW_none, errW_some] <;> rfl), by repeat (first | (with_reducible first | exact HB.out | apply below_alloc | apply pw_below_drewN | apply below_drew1) | exact HB.out)⟩
                              · rw [if_neg c61] at H
                                exact absurd H (by simp)
                            · rw [if_neg c60] at H
                              exact absurd H (by simp)
  · replace c5 := Bool.eq_false_iff.mpr c5
    subst c5
    have H1 : (some false) = some r := by rw [if_neg (show ¬ (false = true) by decide)] at H; exact H
    clear H
    have H := H1
    clear H1
    obtain rfl := Option.some.inj H
    go_enter Try.func7, Try.ntmps7
    go_wp2_with (first | ((with_reducible refine gate_callee (f := 8) rfl ?_); refine goesL_ (some 11) rfl rfl Try.func8 (by kernel_rfl) rfl #[] rfl (by (try simp only [List.map_toArray, List.map_cons, List.map_nil]); first | done | rfl | (simp only [List.length_drop, List.length_take]; rfl)) ?_; (with_reducible refine (gossamerlaw03_alive.calls k  false _ A4.out).mono ?_); rintro e w71 ⟨rfl, hb⟩; refine ⟨_, rfl, ?_⟩; have n0_ := Aside0.mk (below_step (by repeat (first | (with_reducible first | exact HB.out | apply below_alloc | apply pw_below_drewN | apply below_drew1) | exact HB.out)) hb); clear HB; have HB := n0_; clear n0_; (try clear hb); (try clear hb2); (try clear hk); (try clear hi)))
    go_ret
    exact ⟨by first | rfl | (simp [errW_none, errW_some] <;> rfl) | (simp [*, errW_none, errW_some] <;> rfl), by repeat (first | (with_reducible first | exact HB.out | apply below_alloc | apply pw_below_drewN | apply below_drew1) | exact HB.out)⟩

/-- THE ONE PURE STATEMENT of gossamerlaw03_MasseyGoes: yours. -/
def gossamerlaw03_MasseyGoes.Pure : Prop := ∀ (l0 : List Int) (l1 : List Int) (a2 : Int), l0.length ≤ maxLen → l0.length * 4 ≤ 140737488351232 → (∀ x ∈ l0, (Lit.int .u32 x).wf = true) → l1.length ≤ maxLen → l1.length * 4 ≤ 140737488351232 → (∀ x ∈ l1, (Lit.int .u32 x).wf = true) → (Lit.int .i64 a2).wf = true → ∃ k, gossamerlaw03_MasseyGoes.f k l0 l1 a2 = some true
theorem gossamerlaw03_MasseyGoes.walk (P : gossamerlaw03_MasseyGoes.Pure) (a0 : Option Addr) (len0 cap0 : Nat) (z0 : List Int) (a1 : Option Addr) (len1 cap1 : Nat) (z1 : List Int) (a2 : Int) (w : World) (w0 : (a0 = none ∧ len0 = 0 ∧ cap0 = 0 ∧ z0 = []) ∨ ∃ x, a0 = some x ∧ len0 ≤ cap0 ∧ cap0 ≤ maxLen ∧ z0.length = cap0 ∧ (∀ i, i < z0.length → w.cell? (x.add i) = some (.int .u32 (z0.getD i 0))) ∧ ∀ n ∈ z0, (Lit.int .u32 n).wf = true) (y0 : len0 * 4 ≤ 140737488351232) (w1 : (a1 = none ∧ len1 = 0 ∧ cap1 = 0 ∧ z1 = []) ∨ ∃ x, a1 = some x ∧ len1 ≤ cap1 ∧ cap1 ≤ maxLen ∧ z1.length = cap1 ∧ (∀ i, i < z1.length → w.cell? (x.add i) = some (.int .u32 (z1.getD i 0))) ∧ ∀ n ∈ z1, (Lit.int .u32 n).wf = true) (y1 : len1 * 4 ≤ 140737488351232) (w2 : (Lit.int .i64 a2).wf = true) :
    Calls Try.prog 7 #[.slice a0 len0 cap0, .slice a1 len1 cap1, .int .i64 a2] w fun e w' => e = .returned (.bool true) ∧ Below w.heap.size w w' := by
  obtain ⟨l0, rfl, hr0, hm0, hw0, hc0⟩ := ReadsInt.ofRowC w0
  obtain ⟨l1, rfl, hr1, hm1, hw1, hc1⟩ := ReadsInt.ofRowC w1
  obtain ⟨k, h⟩ := P l0 l1 a2 hm0 y0 hw0 hm1 y1 hw1 w2
  refine (gossamerlaw03_MasseyGoes.calls k _ _ l0 _ _ l1 a2 true w (Kd.C_of_reads (d := (0 : Int)) (h1 := fun _ => rfl) hr0) hc0 (Kd.C_of_reads (d := (0 : Int)) (h1 := fun _ => rfl) hr1) hc1 h).mono ?_
  rintro e w' ⟨rfl, hd⟩
  exact ⟨rfl, hd⟩

end Go.Proofs.Ytfjkiiajbeaaoaa.R
