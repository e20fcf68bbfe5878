-- Written by px.py, a program of this session (over the kit's print, with extensions of its own).
import Derived.Test.YtfjkiiajbeaaoaaRx0
import Derived.Test.YtfjkiiajbeaaoaaRx1
namespace Go.Proofs.Ytfjkiiajbeaaoaa.R
open Go.RowKit Go.Proofs.YtfjkiiajbeaaoaaW.PrintWords Go.Proofs.YtfjkiiajbeaaoaaW.PrintLast Go.Proofs.YtfjkiiajbeaaoaaW.PrintMore
attribute [local go_sem] max2_int min2_int max_two min_two max_three min_three max_four min_four   -- for this text's walks alone
set_option linter.unusedVariables false
set_option linter.unusedSimpArgs false

/-! ### gossamerref01_degree: function 30 -/
def gossamerref01_degree.l0 : Nat → Int → Int → Option (Int)
  | 0, _, _ => none
  | k + 1, x0, x3 => if x0 > 0 then (gossamerref01_degree.l0 k (IntKind.u64.wrap (Int.tdiv x0 2)) (wrap64 (x3 + 1))) else (some x3)
def gossamerref01_degree.f (k : Nat) (a0 : Int) : Option (Int) := gossamerref01_degree.l0 k a0 (-1)
theorem gossamerref01_degree.mono_l : ∀ k, (∀ y0 y1, LeO (gossamerref01_degree.l0 k y0 y1) (gossamerref01_degree.l0 (k + 1) y0 y1))
  | 0 => fun _ _ r h => by simp [gossamerref01_degree.l0] at h
  | k + 1 => by
    have ih0 := gossamerref01_degree.mono_l k
    · intro y0 y1
      unfold gossamerref01_degree.l0
      repeat' first
      | (with_reducible exact ih0 _ _)
      | (with_reducible exact LeO.refl _)
      | (with_reducible exact LeO.none _)
      | (with_reducible refine LeO.ite ?_ ?_)
      | (with_reducible refine LeO.bind ?_ (fun _ => ?_))
      | exact ih0 _ _
      | exact LeO.none _
      | refine LeO.ite ?_ ?_
      | refine LeO.bind ?_ (fun _ => ?_)
theorem gossamerref01_degree.mono : ∀ a0 k, LeO (gossamerref01_degree.f k a0) (gossamerref01_degree.f (k + 1) a0) := by
  intro a0 k
  have ih0 := gossamerref01_degree.mono_l k
  unfold gossamerref01_degree.f
  repeat' first
      | (with_reducible exact ih0 _ _)
      | (with_reducible exact LeO.refl _)
      | (with_reducible exact LeO.none _)
      | (with_reducible refine LeO.ite ?_ ?_)
      | (with_reducible refine LeO.bind ?_ (fun _ => ?_))
      | exact ih0 _ _
      | exact LeO.none _
      | refine LeO.ite ?_ ?_
      | refine LeO.bind ?_ (fun _ => ?_)
set_option maxHeartbeats 8000000 in
set_option maxRecDepth 100000 in
theorem gossamerref01_degree.calls (k : Nat) (a0 : Int) (r : Int) (w : World) (h : gossamerref01_degree.f k a0 = some r) :
    Calls Try.prog 30 #[.int .u64 a0] w fun e w' => e = .returned (.int .i64 r) ∧ Drawn0 w w' := by
  have H : (gossamerref01_degree.l0 k a0 (-1)) = some r := h
  clear h
  have H' := Aside0.mk H
  clear H
  go_enter Try.func30, Try.ntmps30
  go_wp2
  go_loopg [0, 3] k (fun kq v0 v3 w' => ∃ (x0_1 : Int) (x3_1 : Int), v0 = .int .u64 x0_1 ∧ v3 = .int .i64 x3_1 ∧ Aside0 (gossamerref01_degree.l0 kq x0_1 x3_1 = some r) ∧ Aside0 (kq ≤ k) ∧ Drawn0 w w')
  case atStart => exact ⟨(a0), ((-1)), (by first | rfl | (simp; done) | (simp [*]; done)), (by first | rfl | (simp; done) | (simp [*]; done)), H', ⟨Nat.le_refl _⟩, by repeat (first | exact Drawn0.refl _ | apply Drawn0.step)⟩
  case round =>
    clear H'
    obtain ⟨x0_1, x3_1, rfl, rfl, HA, HK1, ⟨m1, rfl⟩⟩ := hrel
    cases gk with
    | zero => exact absurd HA.out (by simp [gossamerref01_degree.l0])
    | succ k1 =>
      have H := HA.out
      clear HA
      simp only [gossamerref01_degree.l0] at H
      by_cases c2 : x0_1 > 0
      · rw [if_pos c2] at H
        have c2b0 : decide (0 < x0_1) = true := decide_eq_true c2
        clear c2
        have H' := Aside0.mk H
        clear H
        go_wp2
        go_roundg k1
        case measure => have := HK1.out; omega
        case rel => exact ⟨(IntKind.u64.wrap (Int.tdiv x0_1 2)), (wrap64 (x3_1 + 1)), (by first | rfl | (simp; done) | (simp [*]; done)), (by first | rfl | (simp; done) | (simp [*]; done)), H', ⟨by have := HK1.out; omega⟩, by repeat (first | exact Drawn0.refl _ | apply Drawn0.step)⟩
      · rw [if_neg c2] at H
        have c2b0 : decide (0 < x0_1) = false := decide_eq_false c2
        clear c2
        obtain rfl := Option.some.inj H
        go_wp2
        go_ret
        exact ⟨by first | rfl | (simp; done) | (simp [*]; done), by repeat (first | exact Drawn0.refl _ | apply Drawn0.step)⟩

/-! ### gossamerref01_Inverse: function 26 -/
def gossamerref01_Inverse.l0 : Nat → Int → Int → Int → Int → Option (Int)
  | 0, _, _, _, _ => none
  | k + 1, x3, x4, x5, x6 => (gossamerref01_degree.f k x3).bind fun t154 => (if t154 > 0 then ((gossamerref01_degree.f k x3).bind fun t156 => ((gossamerref01_degree.f k x4).bind fun t157 => (if t154 < t157 then ((gossamerref01_degree.f k x4).bind fun t158 => ((gossamerref01_degree.f k x3).bind fun t159 => (if 0 ≤ (IntKind.u64.wrap (wrap64 (t157 - t154))) then (gossamerref01_Inverse.l0 k (Go.bits .xor .u64 x4 (shl .u64 x3 (IntKind.u64.wrap (wrap64 (t157 - t154))))) x3 (Go.bits .xor .u64 x6 (shl .u64 x5 (IntKind.u64.wrap (wrap64 (t157 - t154))))) x5) else (none)))) else ((gossamerref01_degree.f k x3).bind fun t160 => ((gossamerref01_degree.f k x4).bind fun t161 => (if 0 ≤ (IntKind.u64.wrap (wrap64 (t154 - t157))) then (gossamerref01_Inverse.l0 k (Go.bits .xor .u64 x3 (shl .u64 x4 (IntKind.u64.wrap (wrap64 (t154 - t157))))) x4 (Go.bits .xor .u64 x5 (shl .u64 x6 (IntKind.u64.wrap (wrap64 (t154 - t157))))) x6) else (none))))))) else ((gossamerref01_rest.f k x5).bind fun t155 => (some t155)))
def gossamerref01_Inverse.f (k : Nat) (a0 : Int) : Option (Int) := if a0 = 0 then (some 0) else (gossamerref01_Inverse.l0 k (IntKind.u64.wrap (a0)) 4294967437 1 0)
theorem gossamerref01_Inverse.mono_l : ∀ k, (∀ y0 y1 y2 y3, LeO (gossamerref01_Inverse.l0 k y0 y1 y2 y3) (gossamerref01_Inverse.l0 (k + 1) y0 y1 y2 y3))
  | 0 => fun _ _ _ _ r h => by simp [gossamerref01_Inverse.l0] at h
  | k + 1 => by
    have ih0 := gossamerref01_Inverse.mono_l k
    · intro y0 y1 y2 y3
      unfold gossamerref01_Inverse.l0
      repeat' first
      | (with_reducible exact ih0 _ _ _ _)
      | (with_reducible exact gossamerref01_degree.mono _ _)
      | (with_reducible exact gossamerref01_rest.mono _ _)
      | (with_reducible exact LeO.refl _)
      | (with_reducible exact LeO.none _)
      | (with_reducible refine LeO.ite ?_ ?_)
      | (with_reducible refine LeO.bind ?_ (fun _ => ?_))
      | exact ih0 _ _ _ _
      | exact gossamerref01_degree.mono _ _
      | exact gossamerref01_rest.mono _ _
      | exact LeO.none _
      | refine LeO.ite ?_ ?_
      | refine LeO.bind ?_ (fun _ => ?_)
theorem gossamerref01_Inverse.mono : ∀ a0 k, LeO (gossamerref01_Inverse.f k a0) (gossamerref01_Inverse.f (k + 1) a0) := by
  intro a0 k
  have ih0 := gossamerref01_Inverse.mono_l k
  unfold gossamerref01_Inverse.f
  repeat' first
      | (with_reducible exact ih0 _ _ _ _)
      | (with_reducible exact gossamerref01_degree.mono _ _)
      | (with_reducible exact gossamerref01_rest.mono _ _)
      | (with_reducible exact LeO.refl _)
      | (with_reducible exact LeO.none _)
      | (with_reducible refine LeO.ite ?_ ?_)
      | (with_reducible refine LeO.bind ?_ (fun _ => ?_))
      | exact ih0 _ _ _ _
      | exact gossamerref01_degree.mono _ _
      | exact gossamerref01_rest.mono _ _
      | exact LeO.none _
      | refine LeO.ite ?_ ?_
      | refine LeO.bind ?_ (fun _ => ?_)
set_option maxHeartbeats 8000000 in
set_option maxRecDepth 100000 in
theorem gossamerref01_Inverse.calls (k : Nat) (a0 : Int) (r : Int) (w : World) (h : gossamerref01_Inverse.f k a0 = some r) :
    Calls Try.prog 26 #[.int .u32 a0] w fun e w' => e = .returned (.int .u32 r) ∧ Drawn0 w w' := by
  have H : (if a0 = 0 then (some 0) else (gossamerref01_Inverse.l0 k (IntKind.u64.wrap (a0)) 4294967437 1 0)) = some r := h
  clear h
  by_cases c2 : a0 = 0
  · rw [if_pos c2] at H
    have c2b0 : (a0 == 0) = true := beq_iff_eq.mpr c2
    have c2b1 : (a0 != 0) = false := bne_eq_false_iff_eq.mpr c2
    clear c2
    obtain rfl := Option.some.inj H
    go_enter Try.func26, Try.ntmps26
    go_wp2
    go_ret
    exact ⟨by first | rfl | (simp; done) | (simp [*]; done), by repeat (first | exact Drawn0.refl _ | apply Drawn0.step)⟩
  · rw [if_neg c2] at H
    have c2b0 : (a0 == 0) = false := beq_eq_false_iff_ne.mpr c2
    have c2b1 : (a0 != 0) = true := bne_iff_ne.mpr c2
    have H' := Aside0.mk H
    clear H
    go_enter Try.func26, Try.ntmps26
    go_wp2
    go_loopg [3, 4, 5, 6] k (fun kq v3 v4 v5 v6 w' => ∃ (x3_1 : Int) (x4_1 : Int) (x5_1 : Int) (x6_1 : Int), v3 = .int .u64 x3_1 ∧ v4 = .int .u64 x4_1 ∧ v5 = .int .u64 x5_1 ∧ v6 = .int .u64 x6_1 ∧ Aside0 (gossamerref01_Inverse.l0 kq x3_1 x4_1 x5_1 x6_1 = some r) ∧ Aside0 (kq ≤ k) ∧ Drawn0 w w')
    case atStart => exact ⟨(IntKind.u64.wrap (a0)), (4294967437), (1), (0), (by first | rfl | (simp; done) | (simp [*]; done)), (by first | rfl | (simp; done) | (simp [*]; done)), (by first | rfl | (simp; done) | (simp [*]; done)), (by first | rfl | (simp; done) | (simp [*]; done)), H', ⟨Nat.le_refl _⟩, by repeat (first | exact Drawn0.refl _ | apply Drawn0.step)⟩
    case round =>
      clear H'
      try clear c2
      try clear c2b0
      try clear c2b1
      try clear p2
      obtain ⟨x3_1, x4_1, x5_1, x6_1, rfl, rfl, rfl, rfl, HA, HK1, ⟨m1, rfl⟩⟩ := hrel
      cases gk with
      | zero => exact absurd HA.out (by simp [gossamerref01_Inverse.l0])
      | succ k1 =>
        have H := HA.out
        clear HA
        simp only [gossamerref01_Inverse.l0] at H
        replace H := Option.bind_eq_some_iff.mp H
        obtain ⟨t154, A30, H⟩ := H
        replace H : (if t154 > 0 then ((gossamerref01_degree.f k1 x3_1).bind fun t156 => ((gossamerref01_degree.f k1 x4_1).bind fun t157 => (if t154 < t157 then ((gossamerref01_degree.f k1 x4_1).bind fun t158 => ((gossamerref01_degree.f k1 x3_1).bind fun t159 => (if 0 ≤ (IntKind.u64.wrap (wrap64 (t157 - t154))) then (gossamerref01_Inverse.l0 k1 (Go.bits .xor .u64 x4_1 (shl .u64 x3_1 (IntKind.u64.wrap (wrap64 (t157 - t154))))) x3_1 (Go.bits .xor .u64 x6_1 (shl .u64 x5_1 (IntKind.u64.wrap (wrap64 (t157 - t154))))) x5_1) else (none)))) else ((gossamerref01_degree.f k1 x3_1).bind fun t160 => ((gossamerref01_degree.f k1 x4_1).bind fun t161 => (if 0 ≤ (IntKind.u64.wrap (wrap64 (t154 - t157))) then (gossamerref01_Inverse.l0 k1 (Go.bits .xor .u64 x3_1 (shl .u64 x4_1 (IntKind.u64.wrap (wrap64 (t154 - t157))))) x4_1 (Go.bits .xor .u64 x5_1 (shl .u64 x6_1 (IntKind.u64.wrap (wrap64 (t154 - t157))))) x6_1) else (none))))))) else ((gossamerref01_rest.f k1 x5_1).bind fun t155 => (some t155))) = some r := H
        have A3 := Aside0.mk A30
        clear A30
        by_cases c4 : t154 > 0
        · rw [if_pos c4] at H
          have c4b0 : decide (0 < t154) = true := decide_eq_true c4
          clear c4
          replace H := Option.bind_eq_some_iff.mp H
          obtain ⟨t156, A50, H⟩ := H
          replace H : ((gossamerref01_degree.f k1 x4_1).bind fun t157 => (if t154 < t157 then ((gossamerref01_degree.f k1 x4_1).bind fun t158 => ((gossamerref01_degree.f k1 x3_1).bind fun t159 => (if 0 ≤ (IntKind.u64.wrap (wrap64 (t157 - t154))) then (gossamerref01_Inverse.l0 k1 (Go.bits .xor .u64 x4_1 (shl .u64 x3_1 (IntKind.u64.wrap (wrap64 (t157 - t154))))) x3_1 (Go.bits .xor .u64 x6_1 (shl .u64 x5_1 (IntKind.u64.wrap (wrap64 (t157 - t154))))) x5_1) else (none)))) else ((gossamerref01_degree.f k1 x3_1).bind fun t160 => ((gossamerref01_degree.f k1 x4_1).bind fun t161 => (if 0 ≤ (IntKind.u64.wrap (wrap64 (t154 - t157))) then (gossamerref01_Inverse.l0 k1 (Go.bits .xor .u64 x3_1 (shl .u64 x4_1 (IntKind.u64.wrap (wrap64 (t154 - t157))))) x4_1 (Go.bits .xor .u64 x5_1 (shl .u64 x6_1 (IntKind.u64.wrap (wrap64 (t154 - t157))))) x6_1) else (none)))))) = some r := H
          have A5 := Aside0.mk A50
          clear A50
          replace H := Option.bind_eq_some_iff.mp H
          obtain ⟨t157, A60, H⟩ := H
          replace H : (if t154 < t157 then ((gossamerref01_degree.f k1 x4_1).bind fun t158 => ((gossamerref01_degree.f k1 x3_1).bind fun t159 => (if 0 ≤ (IntKind.u64.wrap (wrap64 (t157 - t154))) then (gossamerref01_Inverse.l0 k1 (Go.bits .xor .u64 x4_1 (shl .u64 x3_1 (IntKind.u64.wrap (wrap64 (t157 - t154))))) x3_1 (Go.bits .xor .u64 x6_1 (shl .u64 x5_1 (IntKind.u64.wrap (wrap64 (t157 - t154))))) x5_1) else (none)))) else ((gossamerref01_degree.f k1 x3_1).bind fun t160 => ((gossamerref01_degree.f k1 x4_1).bind fun t161 => (if 0 ≤ (IntKind.u64.wrap (wrap64 (t154 - t157))) then (gossamerref01_Inverse.l0 k1 (Go.bits .xor .u64 x3_1 (shl .u64 x4_1 (IntKind.u64.wrap (wrap64 (t154 - t157))))) x4_1 (Go.bits .xor .u64 x5_1 (shl .u64 x6_1 (IntKind.u64.wrap (wrap64 (t154 - t157))))) x6_1) else (none))))) = some r := H
          have A6 := Aside0.mk A60
          clear A60
          by_cases c7 : t154 < t157
          · rw [if_pos c7] at H
            have c7b0 : decide (t154 < t157) = true := decide_eq_true c7
            clear c7
            replace H := Option.bind_eq_some_iff.mp H
            obtain ⟨t158, A80, H⟩ := H
            replace H : ((gossamerref01_degree.f k1 x3_1).bind fun t159 => (if 0 ≤ (IntKind.u64.wrap (wrap64 (t157 - t154))) then (gossamerref01_Inverse.l0 k1 (Go.bits .xor .u64 x4_1 (shl .u64 x3_1 (IntKind.u64.wrap (wrap64 (t157 - t154))))) x3_1 (Go.bits .xor .u64 x6_1 (shl .u64 x5_1 (IntKind.u64.wrap (wrap64 (t157 - t154))))) x5_1) else (none))) = some r := H
            have A8 := Aside0.mk A80
            clear A80
            replace H := Option.bind_eq_some_iff.mp H
            obtain ⟨t159, A90, H⟩ := H
            replace H : (if 0 ≤ (IntKind.u64.wrap (wrap64 (t157 - t154))) then (gossamerref01_Inverse.l0 k1 (Go.bits .xor .u64 x4_1 (shl .u64 x3_1 (IntKind.u64.wrap (wrap64 (t157 - t154))))) x3_1 (Go.bits .xor .u64 x6_1 (shl .u64 x5_1 (IntKind.u64.wrap (wrap64 (t157 - t154))))) x5_1) else (none)) = some r := H
            have A9 := Aside0.mk A90
            clear A90
            obtain ⟨ji10, hji10⟩ : ∃ j_ : Int, (IntKind.u64.wrap (wrap64 (t157 - t154))) = j_ := ⟨_, rfl⟩
            replace H : (if 0 ≤ (ji10) then (gossamerref01_Inverse.l0 k1 (Go.bits .xor .u64 x4_1 (shl .u64 x3_1 (ji10))) x3_1 (Go.bits .xor .u64 x6_1 (shl .u64 x5_1 (ji10))) x5_1) else (none)) = some r := by first | (rw [hji10] at H; exact H) | (simp only [hji10] at H ⊢; exact H)
            (try rw [hji10] at A3)
            (try rw [hji10] at A3)
            (try rw [hji10] at A6)
            (try rw [hji10] at A6)
            (try rw [hji10] at A3)
            by_cases c11 : 0 ≤ (ji10)
            · rw [if_pos c11] at H
              have c11b0 := eq_true c11
              have c11b1 : decide (0 ≤ (ji10)) = true := decide_eq_true c11
              clear c11
              obtain ⟨ji12, hji12⟩ : ∃ j_ : Int, (shl .u64 x3_1 (ji10)) = j_ := ⟨_, rfl⟩
              replace H : (gossamerref01_Inverse.l0 k1 (Go.bits .xor .u64 x4_1 (ji12)) x3_1 (Go.bits .xor .u64 x6_1 (shl .u64 x5_1 (ji10))) x5_1) = some r := by first | (rw [hji12] at H; exact H) | (simp only [hji12] at H ⊢; exact H)
              (try rw [hji12] at A3)
              (try rw [hji12] at A3)
              (try rw [hji12] at A6)
              (try rw [hji12] at A6)
              (try rw [hji12] at A3)
              have hji12_ : (IntKind.u64.wrap (x3_1 * 2 ^ min (ji10).toNat 64)) = ji12 := hji12
              have hji12z : (ji10) ≤ 64 → (IntKind.u64.wrap (x3_1 * 2 ^ (ji10).toNat)) = ji12 := shl_small hji12
              have c13b0 := eq_true (of_decide_eq_true (by first | (with_reducible assumption) | assumption) : 0 ≤ (ji10))
              obtain ⟨ji14, hji14⟩ : ∃ j_ : Int, (shl .u64 x5_1 (ji10)) = j_ := ⟨_, rfl⟩
              replace H : (gossamerref01_Inverse.l0 k1 (Go.bits .xor .u64 x4_1 (ji12)) x3_1 (Go.bits .xor .u64 x6_1 (ji14)) x5_1) = some r := by first | (rw [hji14] at H; exact H) | (simp only [hji14] at H ⊢; exact H)
              (try rw [hji14] at A3)
              (try rw [hji14] at A3)
              (try rw [hji14] at A6)
              (try rw [hji14] at A6)
              (try rw [hji14] at A3)
              have hji14_ : (IntKind.u64.wrap (x5_1 * 2 ^ min (ji10).toNat 64)) = ji14 := hji14
              have hji14z : (ji10) ≤ 64 → (IntKind.u64.wrap (x5_1 * 2 ^ (ji10).toNat)) = ji14 := shl_small hji14
              have H' := Aside0.mk H
              clear H
              go_wp2_with (first | ((with_reducible refine gate_callee (f := 30) rfl ?_); refine goesL_ (some 13) rfl rfl Try.func30 (by kernel_rfl) rfl #[.int .u64 x3_1] rfl (by (try simp only [List.map_toArray, List.map_cons, List.map_nil]); first | done | rfl | (simp only [List.length_drop, List.length_take]; rfl)) ?_; (with_reducible refine (gossamerref01_degree.calls k1 x3_1 t154 _ A3.out).mono ?_); rintro e w' ⟨rfl, ⟨nd, rfl⟩⟩; refine ⟨_, rfl, ?_⟩) | ((with_reducible refine gate_callee (f := 30) rfl ?_); refine goesL_ (some 16) rfl rfl Try.func30 (by kernel_rfl) rfl #[.int .u64 x3_1] rfl (by (try simp only [List.map_toArray, List.map_cons, List.map_nil]); first | done | rfl | (simp only [List.length_drop, List.length_take]; rfl)) ?_; (with_reducible refine (gossamerref01_degree.calls k1 x3_1 t154 _ A3.out).mono ?_); rintro e w' ⟨rfl, ⟨nd, rfl⟩⟩; refine ⟨_, rfl, ?_⟩) | ((with_reducible refine gate_callee (f := 30) rfl ?_); refine goesL_ (some 18) rfl rfl Try.func30 (by kernel_rfl) rfl #[.int .u64 x4_1] rfl (by (try simp only [List.map_toArray, List.map_cons, List.map_nil]); first | done | rfl | (simp only [List.length_drop, List.length_take]; rfl)) ?_; (with_reducible refine (gossamerref01_degree.calls k1 x4_1 t157 _ A6.out).mono ?_); rintro e w' ⟨rfl, ⟨nd, rfl⟩⟩; refine ⟨_, rfl, ?_⟩) | ((with_reducible refine gate_callee (f := 30) rfl ?_); refine goesL_ (some 25) rfl rfl Try.func30 (by kernel_rfl) rfl #[.int .u64 x4_1] rfl (by (try simp only [List.map_toArray, List.map_cons, List.map_nil]); first | done | rfl | (simp only [List.length_drop, List.length_take]; rfl)) ?_; (with_reducible refine (gossamerref01_degree.calls k1 x4_1 t157 _ A6.out).mono ?_); rintro e w' ⟨rfl, ⟨nd, rfl⟩⟩; refine ⟨_, rfl, ?_⟩) | ((with_reducible refine gate_callee (f := 30) rfl ?_); refine goesL_ (some 27) rfl rfl Try.func30 (by kernel_rfl) rfl #[.int .u64 x3_1] rfl (by (try simp only [List.map_toArray, List.map_cons, List.map_nil]); first | done | rfl | (simp only [List.length_drop, List.length_take]; rfl)) ?_; (with_reducible refine (gossamerref01_degree.calls k1 x3_1 t154 _ A3.out).mono ?_); rintro e w' ⟨rfl, ⟨nd, rfl⟩⟩; refine ⟨_, rfl, ?_⟩))
              go_roundg k1
              case measure => have := HK1.out; omega
              case rel => exact ⟨(Go.bits .xor .u64 x4_1 (ji12)), (x3_1), (Go.bits .xor .u64 x6_1 (ji14)), (x5_1), (by first | rfl | (simp; done) | (simp only [← hji12] <;> (first | rfl | simp)) | (simp [*]; done)), (by first | rfl | (simp; done) | (simp [*]; done)), (by first | rfl | (simp; done) | (simp only [← hji14] <;> (first | rfl | simp)) | (simp [*]; done)), (by first | rfl | (simp; done) | (simp [*]; done)), H', ⟨by have := HK1.out; omega⟩, by repeat (first | exact Drawn0.refl _ | apply Drawn0.step)⟩
            · rw [if_neg c11] at H
              exact absurd H (by simp)
          · rw [if_neg c7] at H
            have c7b0 : decide (t154 < t157) = false := decide_eq_false c7
            clear c7
            replace H := Option.bind_eq_some_iff.mp H
            obtain ⟨t160, A150, H⟩ := H
            replace H : ((gossamerref01_degree.f k1 x4_1).bind fun t161 => (if 0 ≤ (IntKind.u64.wrap (wrap64 (t154 - t157))) then (gossamerref01_Inverse.l0 k1 (Go.bits .xor .u64 x3_1 (shl .u64 x4_1 (IntKind.u64.wrap (wrap64 (t154 - t157))))) x4_1 (Go.bits .xor .u64 x5_1 (shl .u64 x6_1 (IntKind.u64.wrap (wrap64 (t154 - t157))))) x6_1) else (none))) = some r := H
            have A15 := Aside0.mk A150
            clear A150
            replace H := Option.bind_eq_some_iff.mp H
            obtain ⟨t161, A160, H⟩ := H
            replace H : (if 0 ≤ (IntKind.u64.wrap (wrap64 (t154 - t157))) then (gossamerref01_Inverse.l0 k1 (Go.bits .xor .u64 x3_1 (shl .u64 x4_1 (IntKind.u64.wrap (wrap64 (t154 - t157))))) x4_1 (Go.bits .xor .u64 x5_1 (shl .u64 x6_1 (IntKind.u64.wrap (wrap64 (t154 - t157))))) x6_1) else (none)) = some r := H
            have A16 := Aside0.mk A160
            clear A160
            obtain ⟨ji17, hji17⟩ : ∃ j_ : Int, (IntKind.u64.wrap (wrap64 (t154 - t157))) = j_ := ⟨_, rfl⟩
            replace H : (if 0 ≤ (ji17) then (gossamerref01_Inverse.l0 k1 (Go.bits .xor .u64 x3_1 (shl .u64 x4_1 (ji17))) x4_1 (Go.bits .xor .u64 x5_1 (shl .u64 x6_1 (ji17))) x6_1) else (none)) = some r := by first | (rw [hji17] at H; exact H) | (simp only [hji17] at H ⊢; exact H)
            (try rw [hji17] at A3)
            (try rw [hji17] at A3)
            (try rw [hji17] at A6)
            (try rw [hji17] at A3)
            (try rw [hji17] at A6)
            by_cases c18 : 0 ≤ (ji17)
            · rw [if_pos c18] at H
              have c18b0 := eq_true c18
              have c18b1 : decide (0 ≤ (ji17)) = true := decide_eq_true c18
              clear c18
              obtain ⟨ji19, hji19⟩ : ∃ j_ : Int, (shl .u64 x4_1 (ji17)) = j_ := ⟨_, rfl⟩
              replace H : (gossamerref01_Inverse.l0 k1 (Go.bits .xor .u64 x3_1 (ji19)) x4_1 (Go.bits .xor .u64 x5_1 (shl .u64 x6_1 (ji17))) x6_1) = some r := by first | (rw [hji19] at H; exact H) | (simp only [hji19] at H ⊢; exact H)
              (try rw [hji19] at A3)
              (try rw [hji19] at A3)
              (try rw [hji19] at A6)
              (try rw [hji19] at A3)
              (try rw [hji19] at A6)
              have hji19_ : (IntKind.u64.wrap (x4_1 * 2 ^ min (ji17).toNat 64)) = ji19 := hji19
              have hji19z : (ji17) ≤ 64 → (IntKind.u64.wrap (x4_1 * 2 ^ (ji17).toNat)) = ji19 := shl_small hji19
              have c20b0 := eq_true (of_decide_eq_true (by first | (with_reducible assumption) | assumption) : 0 ≤ (ji17))
              obtain ⟨ji21, hji21⟩ : ∃ j_ : Int, (shl .u64 x6_1 (ji17)) = j_ := ⟨_, rfl⟩
              replace H : (gossamerref01_Inverse.l0 k1 (Go.bits .xor .u64 x3_1 (ji19)) x4_1 (Go.bits .xor .u64 x5_1 (ji21)) x6_1) = some r := by first | (rw [hji21] at H; exact H) | (simp only [hji21] at H ⊢; exact H)
              (try rw [hji21] at A3)
              (try rw [hji21] at A3)
              (try rw [hji21] at A6)
              (try rw [hji21] at A3)
              (try rw [hji21] at A6)
              have hji21_ : (IntKind.u64.wrap (x6_1 * 2 ^ min (ji17).toNat 64)) = ji21 := hji21
              have hji21z : (ji17) ≤ 64 → (IntKind.u64.wrap (x6_1 * 2 ^ (ji17).toNat)) = ji21 := shl_small hji21
              have H' := Aside0.mk H
              clear H
              go_wp2_with (first | ((with_reducible refine gate_callee (f := 30) rfl ?_); refine goesL_ (some 13) rfl rfl Try.func30 (by kernel_rfl) rfl #[.int .u64 x3_1] rfl (by (try simp only [List.map_toArray, List.map_cons, List.map_nil]); first | done | rfl | (simp only [List.length_drop, List.length_take]; rfl)) ?_; (with_reducible refine (gossamerref01_degree.calls k1 x3_1 t154 _ A3.out).mono ?_); rintro e w' ⟨rfl, ⟨nd, rfl⟩⟩; refine ⟨_, rfl, ?_⟩) | ((with_reducible refine gate_callee (f := 30) rfl ?_); refine goesL_ (some 16) rfl rfl Try.func30 (by kernel_rfl) rfl #[.int .u64 x3_1] rfl (by (try simp only [List.map_toArray, List.map_cons, List.map_nil]); first | done | rfl | (simp only [List.length_drop, List.length_take]; rfl)) ?_; (with_reducible refine (gossamerref01_degree.calls k1 x3_1 t154 _ A3.out).mono ?_); rintro e w' ⟨rfl, ⟨nd, rfl⟩⟩; refine ⟨_, rfl, ?_⟩) | ((with_reducible refine gate_callee (f := 30) rfl ?_); refine goesL_ (some 18) rfl rfl Try.func30 (by kernel_rfl) rfl #[.int .u64 x4_1] rfl (by (try simp only [List.map_toArray, List.map_cons, List.map_nil]); first | done | rfl | (simp only [List.length_drop, List.length_take]; rfl)) ?_; (with_reducible refine (gossamerref01_degree.calls k1 x4_1 t157 _ A6.out).mono ?_); rintro e w' ⟨rfl, ⟨nd, rfl⟩⟩; refine ⟨_, rfl, ?_⟩) | ((with_reducible refine gate_callee (f := 30) rfl ?_); refine goesL_ (some 25) rfl rfl Try.func30 (by kernel_rfl) rfl #[.int .u64 x3_1] rfl (by (try simp only [List.map_toArray, List.map_cons, List.map_nil]); first | done | rfl | (simp only [List.length_drop, List.length_take]; rfl)) ?_; (with_reducible refine (gossamerref01_degree.calls k1 x3_1 t154 _ A3.out).mono ?_); rintro e w' ⟨rfl, ⟨nd, rfl⟩⟩; refine ⟨_, rfl, ?_⟩) | ((with_reducible refine gate_callee (f := 30) rfl ?_); refine goesL_ (some 27) rfl rfl Try.func30 (by kernel_rfl) rfl #[.int .u64 x4_1] rfl (by (try simp only [List.map_toArray, List.map_cons, List.map_nil]); first | done | rfl | (simp only [List.length_drop, List.length_take]; rfl)) ?_; (with_reducible refine (gossamerref01_degree.calls k1 x4_1 t157 _ A6.out).mono ?_); rintro e w' ⟨rfl, ⟨nd, rfl⟩⟩; refine ⟨_, rfl, ?_⟩))
              go_roundg k1
              case measure => have := HK1.out; omega
              case rel => exact ⟨(Go.bits .xor .u64 x3_1 (ji19)), (x4_1), (Go.bits .xor .u64 x5_1 (ji21)), (x6_1), (by first | rfl | (simp; done) | (simp only [← hji19] <;> (first | rfl | simp)) | (simp [*]; done)), (by first | rfl | (simp; done) | (simp [*]; done)), (by first | rfl | (simp; done) | (simp only [← hji21] <;> (first | rfl | simp)) | (simp [*]; done)), (by first | rfl | (simp; done) | (simp [*]; done)), H', ⟨by have := HK1.out; omega⟩, by repeat (first | exact Drawn0.refl _ | apply Drawn0.step)⟩
            · rw [if_neg c18] at H
              exact absurd H (by simp)
        · rw [if_neg c4] at H
          have c4b0 : decide (0 < t154) = false := decide_eq_false c4
          clear c4
          replace H := Option.bind_eq_some_iff.mp H
          obtain ⟨t155, A220, H⟩ := H
          replace H : (some t155) = some r := H
          have A22 := Aside0.mk A220
          clear A220
          obtain rfl := Option.some.inj H
          go_wp2_with (first | ((with_reducible refine gate_callee (f := 30) rfl ?_); refine goesL_ (some 13) rfl rfl Try.func30 (by kernel_rfl) rfl #[.int .u64 x3_1] rfl (by (try simp only [List.map_toArray, List.map_cons, List.map_nil]); first | done | rfl | (simp only [List.length_drop, List.length_take]; rfl)) ?_; (with_reducible refine (gossamerref01_degree.calls k1 x3_1 t154 _ A3.out).mono ?_); rintro e w' ⟨rfl, ⟨nd, rfl⟩⟩; refine ⟨_, rfl, ?_⟩) | ((with_reducible refine gate_callee (f := 27) rfl ?_); refine goesL_ (some 41) rfl rfl Try.func27 (by kernel_rfl) rfl #[.int .u64 x5_1] rfl (by (try simp only [List.map_toArray, List.map_cons, List.map_nil]); first | done | rfl | (simp only [List.length_drop, List.length_take]; rfl)) ?_; (with_reducible refine (gossamerref01_rest.calls k1 x5_1 t155 _ A22.out).mono ?_); rintro e w' ⟨rfl, ⟨nd, rfl⟩⟩; refine ⟨_, rfl, ?_⟩))
          go_ret
          exact ⟨by first | rfl | (simp; done) | (simp [*]; done), by repeat (first | exact Drawn0.refl _ | apply Drawn0.step)⟩

-- NOT PRINTED: function 19 (gossamerref03_solvable)

/-! ### gossamerref03_Length: function 11 -/
def gossamerref03_Length.f (l0 : List Int) : Option (Int) :=
  if (∀ x ∈ l0, 0 ≤ x ∧ x < 4294967296) ∧ l0.length ≤ 1000 then (some ((Massey.run (PolyT.co (MV.ofInts l0)) l0.length).len : Int)) else (none)
theorem gossamerref03_Length.calls (A0 : Option Addr) (c0 : Nat) (l0 : List Int) (r : Int) (w : World) (hr0 : Kd.C (Kd.int .u32) w A0 l0.length l0) (hc0 : l0.length ≤ c0) (h : gossamerref03_Length.f l0 = some r) :
    Calls Try.prog 11 #[.slice A0 l0.length c0] w fun e w' => e = .returned (.int .i64 r) ∧ Below w.heap.size w w' := by
  unfold gossamerref03_Length.f at h
  split at h
  · rename_i hc
    obtain ⟨h0, h1⟩ := hc
    obtain rfl := Option.some.inj h
    have e0 := MV.V_ofInts l0 h0
    have k0 : (MV.ofInts l0).length = l0.length := List.length_map _
    have := MRws.rlength_calls (MV.ofInts l0) A0 c0 w (by rw [e0]; exact hr0) (by omega) (by omega)
    rw [k0] at this
    exact this
  · cases h

/-! ### gossamerref03_Keeps: function 12 -/
mutual
def gossamerref03_Keeps.j0 : Nat → List Int → List Int → Bool → Option (Bool)
  | 0, _, _, _ => none
  | k + 1, x0, x1, x16 => if x16 = true then (some false) else (gossamerref03_Keeps.l0 k x0 x1 (wrap64 ((x0.length : Int) - 1)))
def gossamerref03_Keeps.l0 : Nat → List Int → List Int → Int → Option (Bool)
  | 0, _, _, _ => none
  | k + 1, x0, x1, x5 => if x5 < (x1.length : Int) then (gossamerref03_Keeps.l1 k x0 x1 x5 0 0) else (some true)
def gossamerref03_Keeps.l1 : Nat → List Int → List Int → Int → Int → Int → Option (Bool)
  | 0, _, _, _, _, _ => none
  | k + 1, x0, x1, x5, x6, x7 => if x7 < (x0.length : Int) then (if 0 ≤ x7 then (if 0 ≤ (wrap64 (x5 - x7)) then (if (wrap64 (x5 - x7)) < (x1.length : Int) then ((gossamerref01_Mul.f k (rd x0 x7) (rd x1 (wrap64 (x5 - x7)))).bind fun t194 => (gossamerref03_Keeps.l1 k x0 x1 x5 (Go.bits .xor .u32 x6 t194) (wrap64 (x7 + 1)))) else (none)) else (none)) else (none)) else (if x6 = 0 then (gossamerref03_Keeps.l0 k x0 x1 (wrap64 (x5 + 1))) else (some false))
end
def gossamerref03_Keeps.f (k : Nat) (l0 : List Int) (l1 : List Int) : Option (Bool) := if (l0.length : Int) = 0 then (gossamerref03_Keeps.j0 k l0 l1 true) else (if 0 < (l0.length : Int) then (gossamerref03_Keeps.j0 k l0 l1 ((rd l0 0) != 1)) else (none))
theorem gossamerref03_Keeps.mono_l : ∀ k, (∀ y0 y1 y2, LeO (gossamerref03_Keeps.j0 k y0 y1 y2) (gossamerref03_Keeps.j0 (k + 1) y0 y1 y2)) ∧ (∀ y0 y1 y2, LeO (gossamerref03_Keeps.l0 k y0 y1 y2) (gossamerref03_Keeps.l0 (k + 1) y0 y1 y2)) ∧ (∀ y0 y1 y2 y3 y4, LeO (gossamerref03_Keeps.l1 k y0 y1 y2 y3 y4) (gossamerref03_Keeps.l1 (k + 1) y0 y1 y2 y3 y4))
  | 0 => ⟨fun _ _ _ r h => by simp [gossamerref03_Keeps.j0] at h, fun _ _ _ r h => by simp [gossamerref03_Keeps.l0] at h, fun _ _ _ _ _ r h => by simp [gossamerref03_Keeps.l1] at h⟩
  | k + 1 => by
    obtain ⟨ih0, ih1, ih2⟩ := gossamerref03_Keeps.mono_l k
    refine ⟨?_, ?_, ?_⟩
    · intro y0 y1 y2
      unfold gossamerref03_Keeps.j0
      repeat' first
      | (with_reducible exact ih0 _ _ _)
      | (with_reducible exact ih1 _ _ _)
      | (with_reducible exact ih2 _ _ _ _ _)
      | (with_reducible exact gossamerref01_Mul.mono _ _ _)
      | (with_reducible exact LeO.refl _)
      | (with_reducible exact LeO.none _)
      | (with_reducible refine LeO.ite ?_ ?_)
      | (with_reducible refine LeO.bind ?_ (fun _ => ?_))
      | exact ih0 _ _ _
      | exact ih1 _ _ _
      | exact ih2 _ _ _ _ _
      | exact gossamerref01_Mul.mono _ _ _
      | exact LeO.none _
      | refine LeO.ite ?_ ?_
      | refine LeO.bind ?_ (fun _ => ?_)
    · intro y0 y1 y2
      unfold gossamerref03_Keeps.l0
      repeat' first
      | (with_reducible exact ih0 _ _ _)
      | (with_reducible exact ih1 _ _ _)
      | (with_reducible exact ih2 _ _ _ _ _)
      | (with_reducible exact gossamerref01_Mul.mono _ _ _)
      | (with_reducible exact LeO.refl _)
      | (with_reducible exact LeO.none _)
      | (with_reducible refine LeO.ite ?_ ?_)
      | (with_reducible refine LeO.bind ?_ (fun _ => ?_))
      | exact ih0 _ _ _
      | exact ih1 _ _ _
      | exact ih2 _ _ _ _ _
      | exact gossamerref01_Mul.mono _ _ _
      | exact LeO.none _
      | refine LeO.ite ?_ ?_
      | refine LeO.bind ?_ (fun _ => ?_)
    · intro y0 y1 y2 y3 y4
      unfold gossamerref03_Keeps.l1
      repeat' first
      | (with_reducible exact ih0 _ _ _)
      | (with_reducible exact ih1 _ _ _)
      | (with_reducible exact ih2 _ _ _ _ _)
      | (with_reducible exact gossamerref01_Mul.mono _ _ _)
      | (with_reducible exact LeO.refl _)
      | (with_reducible exact LeO.none _)
      | (with_reducible refine LeO.ite ?_ ?_)
      | (with_reducible refine LeO.bind ?_ (fun _ => ?_))
      | exact ih0 _ _ _
      | exact ih1 _ _ _
      | exact ih2 _ _ _ _ _
      | exact gossamerref01_Mul.mono _ _ _
      | exact LeO.none _
      | refine LeO.ite ?_ ?_
      | refine LeO.bind ?_ (fun _ => ?_)
theorem gossamerref03_Keeps.mono : ∀ a0 a1 k, LeO (gossamerref03_Keeps.f k a0 a1) (gossamerref03_Keeps.f (k + 1) a0 a1) := by
  intro a0 a1 k
  obtain ⟨ih0, ih1, ih2⟩ := gossamerref03_Keeps.mono_l k
  unfold gossamerref03_Keeps.f
  repeat' first
      | (with_reducible exact ih0 _ _ _)
      | (with_reducible exact ih1 _ _ _)
      | (with_reducible exact ih2 _ _ _ _ _)
      | (with_reducible exact gossamerref01_Mul.mono _ _ _)
      | (with_reducible exact LeO.refl _)
      | (with_reducible exact LeO.none _)
      | (with_reducible refine LeO.ite ?_ ?_)
      | (with_reducible refine LeO.bind ?_ (fun _ => ?_))
      | exact ih0 _ _ _
      | exact ih1 _ _ _
      | exact ih2 _ _ _ _ _
      | exact gossamerref01_Mul.mono _ _ _
      | exact LeO.none _
      | refine LeO.ite ?_ ?_
      | refine LeO.bind ?_ (fun _ => ?_)
set_option maxHeartbeats 8000000 in
set_option maxRecDepth 100000 in
theorem gossamerref03_Keeps.calls (k : Nat) (A0 : Option Addr) (c0 : Nat) (l0 : List Int) (A1 : Option Addr) (c1 : Nat) (l1 : List Int) (r : Bool) (w : World) (hr0 : Kd.C (Kd.int .u32) w A0 l0.length l0) (hc0 : l0.length ≤ c0) (hr1 : Kd.C (Kd.int .u32) w A1 l1.length l1) (hc1 : l1.length ≤ c1) (h : gossamerref03_Keeps.f k l0 l1 = some r) :
    Calls Try.prog 12 #[.slice A0 l0.length c0, .slice A1 l1.length c1] w fun e w' => e = .returned (.bool r) ∧ Drawn0 w w' := by
  have HR0 := Aside0.mk hr0
  have HC0 := Aside0.mk hc0
  clear hr0 hc0
  have HR1 := Aside0.mk hr1
  have HC1 := Aside0.mk hc1
  clear hr1 hc1
  have H : (if (l0.length : Int) = 0 then (gossamerref03_Keeps.j0 k l0 l1 true) else (if 0 < (l0.length : Int) then (gossamerref03_Keeps.j0 k l0 l1 ((rd l0 0) != 1)) else (none))) = some r := h
  clear h
  have HC3 := Aside0.mk H
  clear H
  go_enter Try.func12, Try.ntmps12
  go_upto_region 1 with (fail)
  repeat (go_quiet (fail); go_upto_region 1 with (fail))
  go_cut [16] (fun v16 wc => ∃ (kq : Nat) (x16_2 : Bool), v16 = .bool x16_2 ∧ Aside0 (gossamerref03_Keeps.j0 kq l0 l1 x16_2 = some r) ∧ Aside0 (kq ≤ k) ∧ Drawn0 w wc)
  case first =>
    have H := HC3.out
    clear HC3
    by_cases c4 : (l0.length : Int) = 0
    · rw [if_pos c4] at H
      have c4b0 : ((l0.length : Int) == 0) = true := beq_iff_eq.mpr c4
      have c4b1 : ((l0.length : Int) != 0) = false := bne_eq_false_iff_eq.mpr c4
      clear c4
      (first | rw [c4b0] | (simp only [i64_w, i32_w]; rw [c4b0]) | skip)
      have H' := Aside0.mk H
      clear H
      go_wp2
      repeat (go_quiet (fail); try go_wp2)
      go_meet
      case rel => exact ⟨_, (true), (by first | rfl | (simp; done) | (simp [*]; done)), H', ⟨by first | omega | exact Nat.le_refl _⟩, by repeat (first | exact Drawn0.refl _ | apply Drawn0.step)⟩
    · rw [if_neg c4] at H
      have c4b0 : ((l0.length : Int) == 0) = false := beq_eq_false_iff_ne.mpr c4
      have c4b1 : ((l0.length : Int) != 0) = true := bne_iff_ne.mpr c4
      have c4b2 : ¬ (l0 = []) := fun h_ => c4 (by rw [h_]; rfl)
      (first | rw [c4b0] | (simp only [i64_w, i32_w]; rw [c4b0]) | skip)
      by_cases c5 : 0 < (l0.length : Int)
      · rw [if_pos c5] at H
        have c5b0 : decide (0 < (l0.length : Int)) = true := decide_eq_true c5
        have c5b1 : decide (0 < l0.length) = true := decide_eq_true (by omega)
        clear c5
        have H' := Aside0.mk H
        clear H
        have p191 : 0 ≤ (0 : Int) := (by omega)
        have q191 : 0 < (l0.length : Int) := of_decide_eq_true (by first | (with_reducible assumption) | assumption)
        obtain ⟨ad191, e191, hx191_0⟩ := Kd.at_int HR0.out 0 p191 q191
        cases e191
        have qi191 : (0 < l0.length) = True := eq_true (by omega)
        (try rw [show ((0 : Int)).toNat = 0 from rfl] at hx191_0)
        (try rw [Addr.add_zero'] at hx191_0)
        replace p191 := eq_true p191
        replace q191 := eq_true q191
        go_wp2
        repeat (go_quiet (fail); try go_wp2)
        go_meet
        case rel => exact ⟨_, (((rd l0 0) != 1)), (by first | rfl | (simp; done) | (simp [*]; done)), H', ⟨by first | omega | exact Nat.le_refl _⟩, by repeat (first | exact Drawn0.refl _ | apply Drawn0.step)⟩
      · rw [if_neg c5] at H
        exact absurd H (by simp)
  case rest =>
    clear HC3
    try clear c1
    try clear p1
    try clear q1
    try clear hx1
    try clear qi1
    try clear p2
    try clear c4
    try clear c4b0
    try clear c4b1
    try clear c4b2
    try clear c5
    try clear c5b0
    try clear c5b1
    try clear hx191_0
    try clear p191
    try clear q191
    obtain ⟨kq, x16_2, rfl, HA, HJ2, ⟨mc2, rfl⟩⟩ := hcut
    cases kq with
    | zero => exact absurd HA.out (by simp [gossamerref03_Keeps.j0])
    | succ kj2 =>
      have H := HA.out
      clear HA
      simp only [gossamerref03_Keeps.j0] at H
      by_cases c6 : x16_2 = true
      · subst c6
        have H1 : (some false) = some r := by rw [if_pos rfl] at H; exact H
        clear H
        have H := H1
        clear H1
        obtain rfl := Option.some.inj H
        go_wp2
        repeat (go_quiet (fail); try go_wp2)
        go_ret
        exact ⟨by first | rfl | (simp; done) | (simp [*]; done), by repeat (first | exact Drawn0.refl _ | apply Drawn0.step)⟩
      · replace c6 := Bool.eq_false_iff.mpr c6
        subst c6
        have H1 : (gossamerref03_Keeps.l0 kj2 l0 l1 (wrap64 ((l0.length : Int) - 1))) = some r := by rw [if_neg (show ¬ (false = true) by decide)] at H; exact H
        clear H
        have H := H1
        clear H1
        have H' := Aside0.mk H
        clear H
        go_wp2
        repeat (go_quiet (fail); try go_wp2)
        go_loopg [5] kj2 (fun kq v5 w' => ∃ (x5_2 : Int), v5 = .int .i64 x5_2 ∧ Aside0 (gossamerref03_Keeps.l0 kq l0 l1 x5_2 = some r) ∧ Aside0 (kq ≤ kj2) ∧ Drawn0 w w')
        case atStart => exact ⟨(wrap64 ((l0.length : Int) - 1)), (by first | rfl | (simp; done) | (simp [*]; done)), H', ⟨Nat.le_refl _⟩, by repeat (first | exact Drawn0.refl _ | apply Drawn0.step)⟩
        case round =>
          clear H'
          try clear c1
          try clear p1
          try clear q1
          try clear hx1
          try clear qi1
          try clear c2
          try clear p2
          try clear c4
          try clear c4b0
          try clear c4b1
          try clear c4b2
          try clear c5
          try clear c5b0
          try clear c5b1
          try clear c6
          try clear p6
          try clear hx191_0
          try clear p1
          try clear p191
          try clear p2
          try clear q1
          try clear q191
          obtain ⟨x5_2, rfl, HA, HK2, ⟨m2, rfl⟩⟩ := hrel
          cases gk with
          | zero => exact absurd HA.out (by simp [gossamerref03_Keeps.l0])
          | succ k2 =>
            have H := HA.out
            clear HA
            simp only [gossamerref03_Keeps.l0] at H
            by_cases c7 : x5_2 < (l1.length : Int)
            · rw [if_pos c7] at H
              have c7b0 : decide (x5_2 < (l1.length : Int)) = true := decide_eq_true c7
              clear c7
              have H' := Aside0.mk H
              clear H
              go_wp2
              repeat (go_quiet (fail); try go_wp2)
              go_loopg [6, 7] k2 (fun kq v6 v7 w' => ∃ (x6_3 : Int) (x7_3 : Int), v6 = .int .u32 x6_3 ∧ v7 = .int .i64 x7_3 ∧ Aside0 (gossamerref03_Keeps.l1 kq l0 l1 x5_2 x6_3 x7_3 = some r) ∧ Aside0 (kq ≤ k2) ∧ Drawn0 w w')
              case atStart => exact ⟨(0), (0), (by first | rfl | (simp; done) | (simp [*]; done)), (by first | rfl | (simp; done) | (simp [*]; done)), H', ⟨Nat.le_refl _⟩, by repeat (first | exact Drawn0.refl _ | apply Drawn0.step)⟩
              case round =>
                clear H'
                try clear c1
                try clear p1
                try clear q1
                try clear hx1
                try clear qi1
                try clear c2
                try clear p2
                try clear c4
                try clear c4b0
                try clear c4b1
                try clear c4b2
                try clear c5
                try clear c5b0
                try clear c5b1
                try clear c6
                try clear p6
                try clear c7
                try clear c7b0
                try clear hx191_0
                try clear p1
                try clear p191
                try clear p2
                try clear p6
                try clear q1
                try clear q191
                obtain ⟨x6_3, x7_3, rfl, rfl, HA, HK3, ⟨m3, rfl⟩⟩ := hrel
                cases gk with
                | zero => exact absurd HA.out (by simp [gossamerref03_Keeps.l1])
                | succ k3 =>
                  have H := HA.out
                  clear HA
                  simp only [gossamerref03_Keeps.l1] at H
                  by_cases c8 : x7_3 < (l0.length : Int)
                  · rw [if_pos c8] at H
                    have c8b0 : decide (x7_3 < (l0.length : Int)) = true := decide_eq_true c8
                    clear c8
                    by_cases c9 : 0 ≤ x7_3
                    · rw [if_pos c9] at H
                      have c9b0 : decide (0 ≤ x7_3) = true := decide_eq_true c9
                      clear c9
                      obtain ⟨ji10, hji10⟩ : ∃ j_ : Int, (wrap64 (x5_2 - x7_3)) = j_ := ⟨_, rfl⟩
                      replace H : (if 0 ≤ (ji10) then (if (ji10) < (l1.length : Int) then ((gossamerref01_Mul.f k3 (rd l0 x7_3) (rd l1 (ji10))).bind fun t194 => (gossamerref03_Keeps.l1 k3 l0 l1 x5_2 (Go.bits .xor .u32 x6_3 t194) (wrap64 (x7_3 + 1)))) else (none)) else (none)) = some r := by first | (rw [hji10] at H; exact H) | (simp only [hji10] at H ⊢; exact H)
                      have hji10w : (IntKind.i64.wrap (x5_2 - x7_3)) = ji10 := (i64_w _).trans hji10
                      by_cases c11 : 0 ≤ (ji10)
                      · rw [if_pos c11] at H
                        have c11b0 : decide (0 ≤ (ji10)) = true := decide_eq_true c11
                        clear c11
                        by_cases c12 : (ji10) < (l1.length : Int)
                        · rw [if_pos c12] at H
                          have c12b0 : decide ((ji10) < (l1.length : Int)) = true := decide_eq_true c12
                          clear c12
                          replace H := Option.bind_eq_some_iff.mp H
                          obtain ⟨t194, A130, H⟩ := H
                          replace H : (gossamerref03_Keeps.l1 k3 l0 l1 x5_2 (Go.bits .xor .u32 x6_3 t194) (wrap64 (x7_3 + 1))) = some r := H
                          have A13 := Aside0.mk A130
                          clear A130
                          have H' := Aside0.mk H
                          clear H
                          have p192 : 0 ≤ (x7_3 : Int) := of_decide_eq_true (by first | (with_reducible assumption) | assumption)
                          have q192 : x7_3 < (l0.length : Int) := of_decide_eq_true (by first | (with_reducible assumption) | assumption)
                          obtain ⟨ad192, e192, hx192_0⟩ := Kd.at_int HR0.out x7_3 p192 q192
                          cases e192
                          replace p192 := eq_true p192
                          replace q192 := eq_true q192
                          have p193 : 0 ≤ ((ji10) : Int) := of_decide_eq_true (by first | (with_reducible assumption) | assumption)
                          have q193 : (ji10) < (l1.length : Int) := of_decide_eq_true (by first | (with_reducible assumption) | assumption)
                          obtain ⟨ad193, e193, hx193_0⟩ := Kd.at_int HR1.out (ji10) p193 q193
                          cases e193
                          replace p193 := eq_true p193
                          replace q193 := eq_true q193
                          go_wp2_with (first | (go_at_call 20; (with_reducible refine (gossamerref01_Mul.calls k3 (rd l0 x7_3) (rd l1 (ji10)) t194 _ A13.out).mono ?_); rintro e w' ⟨rfl, ⟨nd, rfl⟩⟩; (try first | exact ⟨rfl, _, World.drewN_drewN _ _ _⟩ | exact ⟨rfl, _, Eq.trans (World.drewN_drewN _ _ _) (congrArg (World.drewN _) (Nat.add_assoc _ _ _))⟩)))
                          repeat (go_quiet (first | (go_at_call 20; (with_reducible refine (gossamerref01_Mul.calls k3 (rd l0 x7_3) (rd l1 (ji10)) t194 _ A13.out).mono ?_); rintro e w' ⟨rfl, ⟨nd, rfl⟩⟩; (try first | exact ⟨rfl, _, World.drewN_drewN _ _ _⟩ | exact ⟨rfl, _, Eq.trans (World.drewN_drewN _ _ _) (congrArg (World.drewN _) (Nat.add_assoc _ _ _))⟩))); try go_wp2_with (first | (go_at_call 20; (with_reducible refine (gossamerref01_Mul.calls k3 (rd l0 x7_3) (rd l1 (ji10)) t194 _ A13.out).mono ?_); rintro e w' ⟨rfl, ⟨nd, rfl⟩⟩; (try first | exact ⟨rfl, _, World.drewN_drewN _ _ _⟩ | exact ⟨rfl, _, Eq.trans (World.drewN_drewN _ _ _) (congrArg (World.drewN _) (Nat.add_assoc _ _ _))⟩))))
                          go_roundg k3
                          case measure => have := HJ2.out; have := HK2.out; have := HK3.out; omega
                          case rel => exact ⟨(Go.bits .xor .u32 x6_3 t194), (wrap64 (x7_3 + 1)), (by first | rfl | (simp; done) | (simp [*]; done)), (by first | rfl | (simp; done) | (simp [*]; done)), H', ⟨by have := HJ2.out; have := HK2.out; have := HK3.out; omega⟩, by repeat (first | exact Drawn0.refl _ | apply Drawn0.step)⟩
                        · rw [if_neg c12] at H
                          exact absurd H (by simp)
                      · rw [if_neg c11] at H
                        exact absurd H (by simp)
                    · rw [if_neg c9] at H
                      exact absurd H (by simp)
                  · rw [if_neg c8] at H
                    have c8b0 : decide (x7_3 < (l0.length : Int)) = false := decide_eq_false c8
                    clear c8
                    by_cases c14 : x6_3 = 0
                    · rw [if_pos c14] at H
                      have c14b0 : (x6_3 == 0) = true := beq_iff_eq.mpr c14
                      have c14b1 : (x6_3 != 0) = false := bne_eq_false_iff_eq.mpr c14
                      clear c14
                      have H' := Aside0.mk H
                      clear H
                      go_wp2
                      repeat (go_quiet (fail); try go_wp2)
                      go_roundg k3
                      case measure => have := HJ2.out; have := HK2.out; have := HK3.out; omega
                      case rel => exact ⟨(wrap64 (x5_2 + 1)), (by first | rfl | (simp; done) | (simp [*]; done)), H', ⟨by have := HJ2.out; have := HK2.out; have := HK3.out; omega⟩, by repeat (first | exact Drawn0.refl _ | apply Drawn0.step)⟩
                    · rw [if_neg c14] at H
                      have c14b0 : (x6_3 == 0) = false := beq_eq_false_iff_ne.mpr c14
                      have c14b1 : (x6_3 != 0) = true := bne_iff_ne.mpr c14
                      obtain rfl := Option.some.inj H
                      go_wp2
                      repeat (go_quiet (fail); try go_wp2)
                      go_ret
                      exact ⟨by first | rfl | (simp; done) | (simp [*]; done), by repeat (first | exact Drawn0.refl _ | apply Drawn0.step)⟩
            · rw [if_neg c7] at H
              have c7b0 : decide (x5_2 < (l1.length : Int)) = false := decide_eq_false c7
              clear c7
              obtain rfl := Option.some.inj H
              go_wp2
              repeat (go_quiet (fail); try go_wp2)
              go_ret
              exact ⟨by first | rfl | (simp; done) | (simp [*]; done), by repeat (first | exact Drawn0.refl _ | apply Drawn0.step)⟩

/-! ### massey_good: function 21 -/
def massey_good.f (l0 : List Int) : Option (Bool) := if (l0.length : Int) > 0 then (if 0 < (l0.length : Int) then (some ((rd l0 0) == 1)) else (none)) else (some false)
set_option maxHeartbeats 8000000 in
set_option maxRecDepth 100000 in
theorem massey_good.calls (A0 : Option Addr) (c0 : Nat) (l0 : List Int) (r : Bool) (w : World) (hr0 : Kd.C (Kd.int .u32) w A0 l0.length l0) (hc0 : l0.length ≤ c0) (h : massey_good.f l0 = some r) :
    Calls Try.prog 21 #[.slice A0 l0.length c0] w fun e w' => e = .returned (.bool r) ∧ Drawn0 w w' := by
  have HR0 := Aside0.mk hr0
  have HC0 := Aside0.mk hc0
  clear hr0 hc0
  have H : (if (l0.length : Int) > 0 then (if 0 < (l0.length : Int) then (some ((rd l0 0) == 1)) else (none)) else (some false)) = some r := h
  clear h
  by_cases c2 : (l0.length : Int) > 0
  · rw [if_pos c2] at H
    have c2b0 : decide (0 < (l0.length : Int)) = true := decide_eq_true c2
    have c2b1 : decide (0 < l0.length) = true := decide_eq_true (by omega)
    clear c2
    by_cases c3 : 0 < (l0.length : Int)
    · rw [if_pos c3] at H
      have c3b0 : decide (0 < (l0.length : Int)) = true := decide_eq_true c3
      have c3b1 : decide (0 < l0.length) = true := decide_eq_true (by omega)
      clear c3
      obtain rfl := Option.some.inj H
      have p195 : 0 ≤ (0 : Int) := (by omega)
      have q195 : 0 < (l0.length : Int) := of_decide_eq_true (by first | (with_reducible assumption) | assumption)
      obtain ⟨ad195, e195, hx195_0⟩ := Kd.at_int HR0.out 0 p195 q195
      cases e195
      have qi195 : (0 < l0.length) = True := eq_true (by omega)
      (try rw [show ((0 : Int)).toNat = 0 from rfl] at hx195_0)
      (try rw [Addr.add_zero'] at hx195_0)
      replace p195 := eq_true p195
      replace q195 := eq_true q195
      go_enter Try.func21, Try.ntmps21
      go_wp2
      go_ret
      exact ⟨by first | rfl | (simp; done) | (simp [*]; done), by repeat (first | exact Drawn0.refl _ | apply Drawn0.step)⟩
    · rw [if_neg c3] at H
      exact absurd H (by simp)
  · rw [if_neg c2] at H
    have c2b0 : decide (0 < (l0.length : Int)) = false := decide_eq_false c2
    have c2b1 : decide (0 < l0.length) = false := decide_eq_false (by omega)
    clear c2
    obtain rfl := Option.some.inj H
    go_enter Try.func21, Try.ntmps21
    go_wp2
    go_ret
    exact ⟨by first | rfl | (simp; done) | (simp [*]; done), by repeat (first | exact Drawn0.refl _ | apply Drawn0.step)⟩

/-! ### massey_Keeps: function 13 -/
def massey_Keeps.l0 : Nat → List Int → List Int → Int → Option (Bool)
  | 0, _, _, _ => none
  | k + 1, x0, x1, x5 => if x5 < (x1.length : Int) then ((massey_off.f x0 x1 x5).bind fun t197 => (if t197 = 0 then (massey_Keeps.l0 k x0 x1 (wrap64 (x5 + 1))) else (some false))) else (some true)
def massey_Keeps.f (k : Nat) (l0 : List Int) (l1 : List Int) : Option (Bool) := (massey_good.f l0).bind fun t196 => (if t196 = true then (massey_Keeps.l0 k l0 l1 (wrap64 ((l0.length : Int) - 1))) else (some false))
theorem massey_Keeps.mono_l : ∀ k, (∀ y0 y1 y2, LeO (massey_Keeps.l0 k y0 y1 y2) (massey_Keeps.l0 (k + 1) y0 y1 y2))
  | 0 => fun _ _ _ r h => by simp [massey_Keeps.l0] at h
  | k + 1 => by
    have ih0 := massey_Keeps.mono_l k
    · intro y0 y1 y2
      unfold massey_Keeps.l0
      repeat' first
      | (with_reducible exact ih0 _ _ _)
      | (with_reducible exact LeO.refl _)
      | (with_reducible exact LeO.none _)
      | (with_reducible refine LeO.ite ?_ ?_)
      | (with_reducible refine LeO.bind ?_ (fun _ => ?_))
      | exact ih0 _ _ _
      | exact LeO.none _
      | refine LeO.ite ?_ ?_
      | refine LeO.bind ?_ (fun _ => ?_)
theorem massey_Keeps.mono : ∀ a0 a1 k, LeO (massey_Keeps.f k a0 a1) (massey_Keeps.f (k + 1) a0 a1) := by
  intro a0 a1 k
  have ih0 := massey_Keeps.mono_l k
  unfold massey_Keeps.f
  repeat' first
      | (with_reducible exact ih0 _ _ _)
      | (with_reducible exact LeO.refl _)
      | (with_reducible exact LeO.none _)
      | (with_reducible refine LeO.ite ?_ ?_)
      | (with_reducible refine LeO.bind ?_ (fun _ => ?_))
      | exact ih0 _ _ _
      | exact LeO.none _
      | refine LeO.ite ?_ ?_
      | refine LeO.bind ?_ (fun _ => ?_)
set_option maxHeartbeats 8000000 in
set_option maxRecDepth 100000 in
theorem massey_Keeps.calls (k : Nat) (A0 : Option Addr) (c0 : Nat) (l0 : List Int) (A1 : Option Addr) (c1 : Nat) (l1 : List Int) (r : Bool) (w : World) (hr0 : Kd.C (Kd.int .u32) w A0 l0.length l0) (hc0 : l0.length ≤ c0) (hr1 : Kd.C (Kd.int .u32) w A1 l1.length l1) (hc1 : l1.length ≤ c1) (h : massey_Keeps.f k l0 l1 = some r) :
    Calls Try.prog 13 #[.slice A0 l0.length c0, .slice A1 l1.length c1] w fun e w' => e = .returned (.bool r) ∧ Below w.heap.size w w' := by
  have HR0 := Aside0.mk hr0
  have HC0 := Aside0.mk hc0
  clear hr0 hc0
  have HR1 := Aside0.mk hr1
  have HC1 := Aside0.mk hc1
  clear hr1 hc1
  have HB := Aside0.mk (Below.refl w.heap.size w)
  have H : ((massey_good.f l0).bind fun t196 => (if t196 = true then (massey_Keeps.l0 k l0 l1 (wrap64 ((l0.length : Int) - 1))) else (some false))) = some r := h
  clear h
  replace H := Option.bind_eq_some_iff.mp H
  obtain ⟨t196, A30, H⟩ := H
  replace H : (if t196 = true then (massey_Keeps.l0 k l0 l1 (wrap64 ((l0.length : Int) - 1))) else (some false)) = some r := H
  have A3 := Aside0.mk A30
  clear A30
  by_cases c4 : t196 = true
  · subst c4
    have H1 : (massey_Keeps.l0 k l0 l1 (wrap64 ((l0.length : Int) - 1))) = some r := by rw [if_pos rfl] at H; exact H
    clear H
    have H := H1
    clear H1
    have H' := Aside0.mk H
    clear H
    go_enter Try.func13, Try.ntmps13
    go_wp2_with (first | ((with_reducible refine gate_callee (f := 21) rfl ?_); refine goesL_ (some 7) rfl rfl Try.func21 (by kernel_rfl) rfl #[.slice A0 l0.length c0] rfl (by (try simp only [List.map_toArray, List.map_cons, List.map_nil]); first | done | rfl | (simp only [List.length_drop, List.length_take]; rfl)) ?_; (with_reducible refine (massey_good.calls _ _ l0 true _ ?side1 ?side2 A3.out).mono ?_); (case side1 => repeat (first | exact HR0.out | (with_reducible refine Kd.C_alloc ?_ _) | (with_reducible refine Kd.C_drewN ?_ _) | (with_reducible refine Kd.C_drew ?_))); (case side2 => exact HC0.out); rintro e w' ⟨rfl, ⟨nd, rfl⟩⟩; refine ⟨_, rfl, ?_⟩))
    go_loopg [5] k (fun kq v5 w' => ∃ (x5_1 : Int), v5 = .int .i64 x5_1 ∧ Aside0 (massey_Keeps.l0 kq l0 l1 x5_1 = some r) ∧ Aside0 (kq ≤ k) ∧ Aside0 (Below w.heap.size w w'))
    case atStart => exact ⟨(wrap64 ((l0.length : Int) - 1)), (by first | rfl | (simp; done) | (simp [*]; done)), H', ⟨Nat.le_refl _⟩, ⟨by repeat (first | (with_reducible first | exact HB.out | apply below_alloc | apply pw_below_drewN | apply below_drew1) | exact HB.out)⟩⟩
    case round =>
      clear H'
      try clear c1
      try clear c2
      try clear p2
      try clear c4
      obtain ⟨x5_1, rfl, HA, HK1, HB⟩ := hrel
      cases gk with
      | zero => exact absurd HA.out (by simp [massey_Keeps.l0])
      | succ k1 =>
        have H := HA.out
        clear HA
        simp only [massey_Keeps.l0] at H
        by_cases c5 : x5_1 < (l1.length : Int)
        · rw [if_pos c5] at H
          have c5b0 : decide (x5_1 < (l1.length : Int)) = true := decide_eq_true c5
          clear c5
          replace H := Option.bind_eq_some_iff.mp H
          obtain ⟨t197, A60, H⟩ := H
          replace H : (if t197 = 0 then (massey_Keeps.l0 k1 l0 l1 (wrap64 (x5_1 + 1))) else (some false)) = some r := H
          have A6 := Aside0.mk A60
          clear A60
          by_cases c7 : t197 = 0
          · rw [if_pos c7] at H
            have c7b0 : (t197 == 0) = true := beq_iff_eq.mpr c7
            have c7b1 : (t197 != 0) = false := bne_eq_false_iff_eq.mpr c7
            clear c7
            have H' := Aside0.mk H
            clear H
            go_wp2_with (first | ((with_reducible refine gate_callee (f := 22) rfl ?_); refine goesL_ (some 21) rfl rfl Try.func22 (by kernel_rfl) rfl #[.slice A0 l0.length c0, .slice A1 l1.length c1, .int .i64 x5_1] rfl (by (try simp only [List.map_toArray, List.map_cons, List.map_nil]); first | done | rfl | (simp only [List.length_drop, List.length_take]; rfl)) ?_; (with_reducible refine (massey_off.calls _ _ l0 _ _ l1 x5_1 t197 _ ?side1 ?side2 ?side3 ?side4 A6.out).mono ?_); (case side1 => repeat (first | exact (Kd.C_below HR0.out HB.out) | (with_reducible refine Kd.C_alloc ?_ _) | (with_reducible refine Kd.C_drewN ?_ _) | (with_reducible refine Kd.C_drew ?_))); (case side2 => exact HC0.out); (case side3 => repeat (first | exact (Kd.C_below HR1.out HB.out) | (with_reducible refine Kd.C_alloc ?_ _) | (with_reducible refine Kd.C_drewN ?_ _) | (with_reducible refine Kd.C_drew ?_))); (case side4 => exact HC1.out); rintro e w8 ⟨rfl, hb⟩; refine ⟨_, rfl, ?_⟩; have n0_ := Aside0.mk (below_step (by repeat (first | (with_reducible first | exact HB.out | apply below_alloc | apply pw_below_drewN | apply below_drew1) | exact HB.out)) hb); clear HB; have HB := n0_; clear n0_; (try clear hb); (try clear hb2); (try clear hk); (try clear hi)))
            go_roundg k1
            case measure => have := HK1.out; omega
            case rel => exact ⟨(wrap64 (x5_1 + 1)), (by first | rfl | (simp; done) | (simp [*]; done)), H', ⟨by have := HK1.out; omega⟩, ⟨by repeat (first | (with_reducible first | exact HB.out | apply below_alloc | apply pw_below_drewN | apply below_drew1) | exact HB.out)⟩⟩
          · rw [if_neg c7] at H
            have c7b0 : (t197 == 0) = false := beq_eq_false_iff_ne.mpr c7
            have c7b1 : (t197 != 0) = true := bne_iff_ne.mpr c7
            obtain rfl := Option.some.inj H
            go_wp2_with (first | ((with_reducible refine gate_callee (f := 22) rfl ?_); refine goesL_ (some 21) rfl rfl Try.func22 (by kernel_rfl) rfl #[.slice A0 l0.length c0, .slice A1 l1.length c1, .int .i64 x5_1] rfl (by (try simp only [List.map_toArray, List.map_cons, List.map_nil]); first | done | rfl | (simp only [List.length_drop, List.length_take]; rfl)) ?_; (with_reducible refine (massey_off.calls _ _ l0 _ _ l1 x5_1 t197 _ ?side1 ?side2 ?side3 ?side4 A6.out).mono ?_); (case side1 => repeat (first | exact (Kd.C_below HR0.out HB.out) | (with_reducible refine Kd.C_alloc ?_ _) | (with_reducible refine Kd.C_drewN ?_ _) | (with_reducible refine Kd.C_drew ?_))); (case side2 => exact HC0.out); (case side3 => repeat (first | exact (Kd.C_below HR1.out HB.out) | (with_reducible refine Kd.C_alloc ?_ _) | (with_reducible refine Kd.C_drewN ?_ _) | (with_reducible refine Kd.C_drew ?_))); (case side4 => exact HC1.out); rintro e w9 ⟨rfl, hb⟩; refine ⟨_, rfl, ?_⟩; have n0_ := Aside0.mk (below_step (by repeat (first | (with_reducible first | exact HB.out | apply below_alloc | apply pw_below_drewN | apply below_drew1) | exact HB.out)) hb); clear HB; have HB := n0_; clear n0_; (try clear hb); (try clear hb2); (try clear hk); (try clear hi)))
            go_ret
            exact ⟨by first | rfl | (simp [errW_none, errW_some] <;> rfl) | (simp [*, errW_none, errW_some] <;> rfl), by repeat (first | (with_reducible first | exact HB.out | apply below_alloc | apply pw_below_drewN | apply below_drew1) | exact HB.out)⟩
        · rw [if_neg c5] at H
          have c5b0 : decide (x5_1 < (l1.length : Int)) = false := decide_eq_false c5
          clear c5
          obtain rfl := Option.some.inj H
          go_wp2
          go_ret
          exact ⟨by first | rfl | (simp [errW_none, errW_some] <;> rfl) | (simp [*, errW_none, errW_some] <;> rfl), by repeat (first | (with_reducible first | exact HB.out | apply below_alloc | apply pw_below_drewN | apply below_drew1) | exact HB.out)⟩
  · replace c4 := Bool.eq_false_iff.mpr c4
    subst c4
    have H1 : (some false) = some r := by rw [if_neg (show ¬ (false = true) by decide)] at H; exact H
    clear H
    have H := H1
    clear H1
    obtain rfl := Option.some.inj H
    go_enter Try.func13, Try.ntmps13
    go_wp2_with (first | ((with_reducible refine gate_callee (f := 21) rfl ?_); refine goesL_ (some 7) rfl rfl Try.func21 (by kernel_rfl) rfl #[.slice A0 l0.length c0] rfl (by (try simp only [List.map_toArray, List.map_cons, List.map_nil]); first | done | rfl | (simp only [List.length_drop, List.length_take]; rfl)) ?_; (with_reducible refine (massey_good.calls _ _ l0 false _ ?side1 ?side2 A3.out).mono ?_); (case side1 => repeat (first | exact HR0.out | (with_reducible refine Kd.C_alloc ?_ _) | (with_reducible refine Kd.C_drewN ?_ _) | (with_reducible refine Kd.C_drew ?_))); (case side2 => exact HC0.out); rintro e w' ⟨rfl, ⟨nd, rfl⟩⟩; refine ⟨_, rfl, ?_⟩))
    go_ret
    exact ⟨by first | rfl | (simp [errW_none, errW_some] <;> rfl) | (simp [*, errW_none, errW_some] <;> rfl), by repeat (first | (with_reducible first | exact HB.out | apply below_alloc | apply pw_below_drewN | apply below_drew1) | exact HB.out)⟩

end Go.Proofs.Ytfjkiiajbeaaoaa.R
