/- The sums, products, values and derivatives of any polynomials are the document's; what is stored into them turns no other.
   Conditions: none. -/
import Derived.Test.YtcamaleanlblfaaQx1
import Derived.Test.YtcamaleanlblfaaQx2
import Derived.Test.YtcamaleanlblfaaQx3
import Derived.Test.YtcamaleanlblfaaQx4
import Derived.Test.YtcamaleanlblfaaHandKit
import Derived.Test.YtcamaleanlblfaaAddOwn
import Derived.Test.YtcamaleanlblfaaMSums
import Derived.Test.YtcamaleanlblfaaMScale
import Derived.Test.YtcamaleanlblfaaMAdd
import Derived.Test.YtcamaleanlblfaaMLaw
set_option linter.unusedVariables false
set_option linter.unusedSimpArgs false
namespace Go.Proofs.Ytcamaleanlblfaa.Walk
open Go.RowKit Go.Proofs.Ytcamaleanlblfaa.Q Go.Proofs.YtcamaleanlblfaaW.PrintWords Go.Proofs.YtcamaleanlblfaaW.PrintLast Go.Proofs.YtcamaleanlblfaaW.PrintMore Go.Proofs.Ytcamaleanlblfaa.Bits Go.Proofs.Ytcamaleanlblfaa Go.Proofs.Ytcamaleanlblfaa.Hand GF PolyT
structure Facts (K : Nat) (l0 l1 : List Int) (x : Int) (S M C D T : List Int) (y : Int) : Prop where
  alive : gossamerlaw02_alive.f K = some true
  long : gossamerlaw02_long.f K [l0, l1] = some false
  own0 : gossamerlaw02_own.f l0 = some l0
  own1 : gossamerlaw02_own.f l1 = some l1
  add : poly_Add.f K [l0, l1] = some S
  mul : poly_Mul.f K l0 l1 = some M
  radd : gossamerref02_Add.f K l0 l1 = some S
  rmul : gossamerref02_Mul.f K l0 l1 = some M
  scale : poly_Scale.f K l0 x = some C
  rscale : gossamerref02_Scale.f K l0 x 0 = some C
  at_ : poly_At.f l0 x = some y
  rat : gossamerref02_At.f K l0 x = some y
  der : poly_Derived.f K l0 = some D
  rder : gossamerref02_Derived.f K l0 = some D
  trim : poly_Trim.f K l0 = some T
  rtrim : gossamerref02_Trim.f K l0 = some T
  deg : poly_Degree.f K l0 = some ((T.length : Int) - 1)
  wS : gossamernum_Words.f K S S = some true
  wM : gossamernum_Words.f K M M = some true
  wC : gossamernum_Words.f K C C = some true
  wD : gossamernum_Words.f K D D = some true
  wT : gossamernum_Words.f K T T = some true
  w0 : gossamernum_Words.f K l0 l0 = some true
  w1 : gossamernum_Words.f K l1 l1 = some true
  tl : T.length ≤ 1000
  sl : S.length ≤ 1000
theorem facts (a b : List F) (x : F) (la : a.length ≤ 24) (lb : b.length ≤ 24) : ∃ K S M C D T y, Facts K (V a) (V b) (v x) S M C D T y := by
  have sa : Small a := by unfold Small; omega
  have sb : Small b := by unfold Small; omega
  obtain ⟨s, ⟨k1, s1⟩, s2, s3, s4⟩ := add_V a b sa sb
  obtain ⟨s', ⟨k2, s1'⟩, s2', s3', s4'⟩ := radd_V a b sa sb
  obtain rfl : s' = s := tr_ext s2' s2 (fun i => by rw [s3, s3'])
  obtain ⟨m, ⟨k3, m1⟩, m2, m3, m4⟩ := mul_V a b sa sb
  obtain ⟨m', ⟨k4, m1'⟩, m2', m3', m4'⟩ := rmul_V a b (by omega) (by omega)
  obtain rfl : m' = m := tr_ext m2' m2 (fun i => by rw [m3, m3'])
  obtain ⟨k5, c1⟩ := scale_V x a sa
  obtain ⟨c', ⟨k6, c1'⟩, c2', c3', c4'⟩ := rscale_V a x 0 sa (by omega)
  obtain rfl : c' = trim (sc x a) := tr_ext c2' (tr_trim _) (fun i => by rw [c3', co_trim, co_sc, shn_zero])
  obtain ⟨d, ⟨k7, d1⟩, d2, d3, d4⟩ := derived_V a sa
  obtain ⟨d', ⟨k8, d1'⟩, d2', d3', d4'⟩ := rderived_V a sa
  obtain rfl : d' = d := tr_ext d2' d2 (fun i => by rw [d3, d3'])
  obtain ⟨k9, t1⟩ := trim_V a sa
  obtain ⟨k10, t1'⟩ := rtrim_V a (by omega)
  obtain ⟨k11, g1⟩ := degree_V a sa
  obtain ⟨k12, r1⟩ := rat_V a x sa
  obtain ⟨k13, e1⟩ := alive_E
  obtain ⟨k14, f1⟩ := long_E [V a, V b] (by simp)
  have hl : ([V a, V b].any fun x => decide (24 < x.length)) = false := by
    simp only [List.any_cons, List.any_nil, V_length, Bool.or_false, Bool.or_eq_false_iff, decide_eq_false_iff_not]; omega
  rw [hl] at f1
  have lt := trim_length a
  have l2 := len_le a
  obtain ⟨k15, x1⟩ := words_V (rfl : s' = s') (by unfold Small; omega)
  obtain ⟨k16, x2⟩ := words_V (rfl : m' = m') (by unfold Small; omega)
  obtain ⟨k17, x3⟩ := words_V (rfl : trim (sc x a) = trim (sc x a)) (by unfold Small; omega)
  obtain ⟨k18, x4⟩ := words_V (rfl : d' = d') (by unfold Small; omega)
  obtain ⟨k19, x5⟩ := words_V (rfl : trim a = trim a) (by unfold Small; omega)
  obtain ⟨k20, x6⟩ := words_V (rfl : a = a) sa
  obtain ⟨k21, x7⟩ := words_V (rfl : b = b) sb
  obtain ⟨K, hK⟩ : ∃ K, K = k1 + k2 + k3 + k4 + k5 + k6 + k7 + k8 + k9 + k10 + k11 + k12 + k13 + k14 + k15 + k16 + k17 + k18 + k19 + k20 + k21 := ⟨_, rfl⟩
  exact ⟨K, V s', V m', V (trim (sc x a)), V d', V (trim a), v (ev a x), ⟨e1 K (by omega), f1 K (by omega), own_V a sa, own_V b sb, s1 K (by omega), m1 K (by omega), s1' K (by omega), m1' K (by omega),
    c1 K (by omega), c1' K (by omega), at_V a x sa, r1 K (by omega), d1 K (by omega), d1' K (by omega), t1 K (by omega), t1' K (by omega), by rw [V_length, lt]; exact g1 K (by omega),
    x1 K (by omega), x2 K (by omega), x3 K (by omega), x4 K (by omega), x5 K (by omega), x6 K (by omega), x7 K (by omega), by rw [V_length]; omega, by rw [V_length]; omega⟩⟩
theorem own_of_R_u32 {e : Nat} {w : World} {base : Nat} {ok : Nat → Prop} {v : Value} {xs : List Int} (h : Kd.R (Kd.int .u32) e w base ok v xs) : w.ownsRow base e 1 v xs.length (nums .u32 xs) := Kd.own_of_R h
set_option maxRecDepth 100000 in
set_option maxHeartbeats 1000000 in
theorem sums_long (K : Nat) (l0 l1 : List Int) (x : Int) (A0 A1 : Option Addr) (c0 c1 : Nat) (w : World) (h0 : Kd.C (Kd.int .u32) w A0 l0.length l0) (hc0 : l0.length ≤ c0) (h1 : Kd.C (Kd.int .u32) w A1 l1.length l1) (hc1 : l1.length ≤ c1)
    (hal : gossamerlaw02_alive.f K = some true) (hlo : gossamerlaw02_long.f K [l0, l1] = some true) : Calls Try.prog 5 #[.slice A0 l0.length c0, .slice A1 l1.length c1, .int .u32 x] w fun e w' => e = .returned (.bool true) ∧ Below w.heap.size w w' := by
  go_enter Try.func5, Try.ntmps5
  have hB := Below.refl w.heap.size w
  have hB_s : w.heap.size ≤ w.heap.size := Nat.le_refl _
  go_wp2_with fail
  refine (gossamerlaw02_alive.calls K true _ hal).mono ?_
  rintro e w1_ ⟨rfl, hb⟩
  replace h0 := Kd.C_below h0 hb
  replace h1 := Kd.C_below h1 hb
  replace hB := below_to hB hB_s hb
  replace hB_s := size_to hB_s hb
  clear hb
  have hb := below_alloc (Below.refl w1_.heap.size w1_) (.cells #[.slice A0 l0.length c0, .slice A1 l1.length c1] 22)
  have hL := C_lit2 (Kd.int .u32) 22 22 w1_ h0 hc0 h1 hc1
  replace h0 := Kd.C_below h0 hb
  replace h1 := Kd.C_below h1 hb
  replace hB := below_to hB hB_s hb
  replace hB_s := size_to hB_s hb
  clear hb
  go_wp2_with fail
  refine (gossamerlaw02_long.calls K _ 2 [l0, l1] true _ hL (Nat.le_refl _) hlo).mono ?_
  rintro e w2_ ⟨rfl, hb⟩
  replace hb := Drawn0.below hb
  replace h0 := Kd.C_below h0 hb
  replace h1 := Kd.C_below h1 hb
  replace hB := below_to hB hB_s hb
  replace hB_s := size_to hB_s hb
  clear hb
  go_wp2
  go_ret
  exact ⟨rfl, hB⟩
set_option maxRecDepth 100000 in
set_option maxHeartbeats 8000000 in
theorem sums_in (K : Nat) (l0 l1 : List Int) (x : Int) (A0 A1 : Option Addr) (c0 c1 : Nat) (w : World) (h0 : Kd.C (Kd.int .u32) w A0 l0.length l0) (hc0 : l0.length ≤ c0) (h1 : Kd.C (Kd.int .u32) w A1 l1.length l1) (hc1 : l1.length ≤ c1)
    (S M C D T : List Int) (y : Int) (f : Facts K l0 l1 x S M C D T y) : Calls Try.prog 5 #[.slice A0 l0.length c0, .slice A1 l1.length c1, .int .u32 x] w fun e w' => e = .returned (.bool true) ∧ Below w.heap.size w w' := by
  have htl := f.tl
  have hwt : IntKind.i64.wrap ((T.length : Int) - 1) = (T.length : Int) - 1 := by simp [IntKind.wrap, IntKind.bits, IntKind.signed]; omega
  replace htl := Aside0.mk htl
  go_enter Try.func5, Try.ntmps5
  have hB := Below.refl w.heap.size w
  have hB_s : w.heap.size ≤ w.heap.size := Nat.le_refl _
  go_wp2_with fail
  refine (gossamerlaw02_alive.calls K true _ f.alive).mono ?_
  rintro e w1_ ⟨rfl, hb⟩
  replace h0 := Kd.C_below h0 hb
  replace h1 := Kd.C_below h1 hb
  replace hB := below_to hB hB_s hb
  replace hB_s := size_to hB_s hb
  clear hb
  have hb := below_alloc (Below.refl w1_.heap.size w1_) (.cells #[.slice A0 l0.length c0, .slice A1 l1.length c1] 22)
  have hL := C_lit2 (Kd.int .u32) 22 22 w1_ h0 hc0 h1 hc1
  replace h0 := Kd.C_below h0 hb
  replace h1 := Kd.C_below h1 hb
  replace hB := below_to hB hB_s hb
  replace hB_s := size_to hB_s hb
  clear hb
  go_wp2_with fail
  refine (gossamerlaw02_long.calls K _ 2 [l0, l1] false _ hL (Nat.le_refl _) f.long).mono ?_
  rintro e w2_ ⟨rfl, hb⟩
  replace hb := Drawn0.below hb
  clear hL
  replace h0 := Kd.C_below h0 hb
  replace h1 := Kd.C_below h1 hb
  replace hB := below_to hB hB_s hb
  replace hB_s := size_to hB_s hb
  clear hb
  go_wp2_with fail
  refine (gossamerlaw02_own.calls _ _ l0 l0 _ h0 hc0 f.own0).mono ?_
  rintro e w3_ ⟨vp, rfl, rp, hb⟩
  replace h0 := Kd.C_below h0 hb
  replace h1 := Kd.C_below h1 hb
  replace hB := below_to hB hB_s hb
  replace hB_s := size_to hB_s hb
  clear hb
  obtain ⟨Ap, Ap_c, rfl⟩ := Kd.R_slice rp
  have hp := (Kd.R_reads' rp).2.2
  have hcp := (Kd.R_reads' rp).2.1
  clear rp
  go_wp2_with fail
  refine (gossamerlaw02_own.calls _ _ l1 l1 _ h1 hc1 f.own1).mono ?_
  rintro e w4_ ⟨vq, rfl, rq, hb⟩
  replace h0 := Kd.C_below h0 hb
  replace h1 := Kd.C_below h1 hb
  replace hp := Kd.C_below hp hb
  replace hB := below_to hB hB_s hb
  replace hB_s := size_to hB_s hb
  clear hb
  obtain ⟨Aq, Aq_c, rfl⟩ := Kd.R_slice rq
  have hq := (Kd.R_reads' rq).2.2
  have hcq := (Kd.R_reads' rq).2.1
  clear rq
  have hL := C_lit2 (Kd.int .u32) 22 22 w4_ hp hcp hq hcq
  have hb := below_alloc (Below.refl w4_.heap.size w4_) (.cells #[.slice Ap l0.length Ap_c, .slice Aq l1.length Aq_c] 22)
  replace h0 := Kd.C_below h0 hb
  replace h1 := Kd.C_below h1 hb
  replace hp := Kd.C_below hp hb
  replace hq := Kd.C_below hq hb
  replace hB := below_to hB hB_s hb
  replace hB_s := size_to hB_s hb
  clear hb
  obtain ⟨wS, hwS⟩ : ∃ wS, wS = w4_.alloc (.cells #[.slice Ap l0.length Ap_c, .slice Aq l1.length Aq_c] 22) := ⟨_, rfl⟩
  go_wp2_with fail
  rw [← hwS] at h0 h1 hp hq hL hB hB_s ⊢
  clear hwS
  have b0 := Aside0.mk h0
  have b1 := Aside0.mk h1
  have bp := Aside0.mk hp
  have bq := Aside0.mk hq
  have bB := Aside0.mk hB
  have bs := Aside0.mk hB_s
  have hS := Below.refl wS.heap.size wS
  have hS_s : wS.heap.size ≤ wS.heap.size := Nat.le_refl _
  skip
  refine (poly_Add.callsR K _ 2 [l0, l1] S _ hL (Nat.le_refl _) f.add).mono ?_
  rintro e w5_ ⟨vs, rfl, rs, hb⟩
  clear hL
  replace h0 := Kd.C_below h0 hb
  replace h1 := Kd.C_below h1 hb
  replace hp := Kd.C_below hp hb
  replace hq := Kd.C_below hq hb
  replace hB := below_to hB hB_s hb
  replace hB_s := size_to hB_s hb
  replace hS := below_to hS hS_s hb
  replace hS_s := size_to hS_s hb
  clear hb
  obtain ⟨As, As_c, rfl⟩ := Kd.R_slice rs
  have hs := (Kd.R_reads' rs).2.2
  have hcs := (Kd.R_reads' rs).2.1
  go_wp2_with fail
  refine (poly_Mul.calls K _ _ l0 _ _ l1 M _ hp hcp hq hcq f.mul).mono ?_
  rintro e w6_ ⟨vm, rfl, rm, hb⟩
  replace h0 := Kd.C_below h0 hb
  replace h1 := Kd.C_below h1 hb
  replace hp := Kd.C_below hp hb
  replace hq := Kd.C_below hq hb
  replace hs := Kd.C_below hs hb
  replace rs := Kd.R_below rs hb
  replace hB := below_to hB hB_s hb
  replace hB_s := size_to hB_s hb
  replace hS := below_to hS hS_s hb
  replace hS_s := size_to hS_s hb
  clear hb
  obtain ⟨Am, Am_c, rfl⟩ := Kd.R_slice rm
  have hm := (Kd.R_reads' rm).2.2
  have hcm := (Kd.R_reads' rm).2.1
  clear rm
  go_wp2_with fail
  refine (gossamerref02_Add.calls K _ _ l0 _ _ l1 S _ h0 hc0 h1 hc1 f.radd).mono ?_
  rintro e w7_ ⟨vt, rfl, rt, hb⟩
  replace h0 := Kd.C_below h0 hb
  replace h1 := Kd.C_below h1 hb
  replace hp := Kd.C_below hp hb
  replace hq := Kd.C_below hq hb
  replace hs := Kd.C_below hs hb
  replace hm := Kd.C_below hm hb
  replace rs := Kd.R_below rs hb
  replace hB := below_to hB hB_s hb
  replace hB_s := size_to hB_s hb
  replace hS := below_to hS hS_s hb
  replace hS_s := size_to hS_s hb
  clear hb
  obtain ⟨At, At_c, rfl⟩ := Kd.R_slice rt
  have ht := (Kd.R_reads' rt).2.2
  have hct := (Kd.R_reads' rt).2.1
  clear rt
  go_wp2_with fail
  refine (gossamernum_Words.calls K _ _ S _ _ S true _ hs hcs ht hct f.wS).mono ?_
  rintro e w8_ ⟨rfl, hb⟩
  replace hb := Drawn0.below hb
  clear ht hct
  replace h0 := Kd.C_below h0 hb
  replace h1 := Kd.C_below h1 hb
  replace hp := Kd.C_below hp hb
  replace hq := Kd.C_below hq hb
  replace hs := Kd.C_below hs hb
  replace hm := Kd.C_below hm hb
  replace rs := Kd.R_below rs hb
  replace hB := below_to hB hB_s hb
  replace hB_s := size_to hB_s hb
  replace hS := below_to hS hS_s hb
  replace hS_s := size_to hS_s hb
  clear hb
  go_wp2_with fail
  refine (gossamerref02_Mul.calls K _ _ l0 _ _ l1 M _ h0 hc0 h1 hc1 f.rmul).mono ?_
  rintro e w9_ ⟨vt, rfl, rt, hb⟩
  replace h0 := Kd.C_below h0 hb
  replace h1 := Kd.C_below h1 hb
  replace hp := Kd.C_below hp hb
  replace hq := Kd.C_below hq hb
  replace hs := Kd.C_below hs hb
  replace hm := Kd.C_below hm hb
  replace rs := Kd.R_below rs hb
  replace hB := below_to hB hB_s hb
  replace hB_s := size_to hB_s hb
  replace hS := below_to hS hS_s hb
  replace hS_s := size_to hS_s hb
  clear hb
  obtain ⟨At, At_c, rfl⟩ := Kd.R_slice rt
  have ht := (Kd.R_reads' rt).2.2
  have hct := (Kd.R_reads' rt).2.1
  clear rt
  go_wp2_with fail
  refine (gossamernum_Words.calls K _ _ M _ _ M true _ hm hcm ht hct f.wM).mono ?_
  rintro e w10_ ⟨rfl, hb⟩
  replace hb := Drawn0.below hb
  clear ht hct hm hcm
  replace h0 := Kd.C_below h0 hb
  replace h1 := Kd.C_below h1 hb
  replace hp := Kd.C_below hp hb
  replace hq := Kd.C_below hq hb
  replace hs := Kd.C_below hs hb
  replace rs := Kd.R_below rs hb
  replace hB := below_to hB hB_s hb
  replace hB_s := size_to hB_s hb
  replace hS := below_to hS hS_s hb
  replace hS_s := size_to hS_s hb
  clear hb
  go_wp2_with fail
  refine (poly_Scale.calls K _ _ l0 x C _ hp hcp f.scale).mono ?_
  rintro e w11_ ⟨vu, rfl, ru, hb⟩
  replace h0 := Kd.C_below h0 hb
  replace h1 := Kd.C_below h1 hb
  replace hp := Kd.C_below hp hb
  replace hq := Kd.C_below hq hb
  replace hs := Kd.C_below hs hb
  replace rs := Kd.R_below rs hb
  replace hB := below_to hB hB_s hb
  replace hB_s := size_to hB_s hb
  replace hS := below_to hS hS_s hb
  replace hS_s := size_to hS_s hb
  clear hb
  obtain ⟨Au, Au_c, rfl⟩ := Kd.V_slice ru
  have hu := (Kd.V_reads' ru).2.2
  have hcu := (Kd.V_reads' ru).2.1
  clear ru
  go_wp2_with fail
  refine (gossamerref02_Scale.calls K _ _ l0 x 0 C _ h0 hc0 f.rscale).mono ?_
  rintro e w12_ ⟨vt, rfl, rt, hb⟩
  replace h0 := Kd.C_below h0 hb
  replace h1 := Kd.C_below h1 hb
  replace hp := Kd.C_below hp hb
  replace hq := Kd.C_below hq hb
  replace hs := Kd.C_below hs hb
  replace hu := Kd.C_below hu hb
  replace rs := Kd.R_below rs hb
  replace hB := below_to hB hB_s hb
  replace hB_s := size_to hB_s hb
  replace hS := below_to hS hS_s hb
  replace hS_s := size_to hS_s hb
  clear hb
  obtain ⟨At, At_c, rfl⟩ := Kd.R_slice rt
  have ht := (Kd.R_reads' rt).2.2
  have hct := (Kd.R_reads' rt).2.1
  clear rt
  go_wp2_with fail
  refine (gossamernum_Words.calls K _ _ C _ _ C true _ hu hcu ht hct f.wC).mono ?_
  rintro e w13_ ⟨rfl, hb⟩
  replace hb := Drawn0.below hb
  clear ht hct hu hcu
  replace h0 := Kd.C_below h0 hb
  replace h1 := Kd.C_below h1 hb
  replace hp := Kd.C_below hp hb
  replace hq := Kd.C_below hq hb
  replace hs := Kd.C_below hs hb
  replace rs := Kd.R_below rs hb
  replace hB := below_to hB hB_s hb
  replace hB_s := size_to hB_s hb
  replace hS := below_to hS hS_s hb
  replace hS_s := size_to hS_s hb
  clear hb
  go_wp2_with fail
  refine (poly_At.calls _ _ l0 x y _ hp hcp f.at_).mono ?_
  rintro e w14_ ⟨rfl, hb⟩
  replace h0 := Kd.C_below h0 hb
  replace h1 := Kd.C_below h1 hb
  replace hp := Kd.C_below hp hb
  replace hq := Kd.C_below hq hb
  replace hs := Kd.C_below hs hb
  replace rs := Kd.R_below rs hb
  replace hB := below_to hB hB_s hb
  replace hB_s := size_to hB_s hb
  replace hS := below_to hS hS_s hb
  replace hS_s := size_to hS_s hb
  clear hb
  go_wp2_with fail
  refine (gossamerref02_At.calls K _ _ l0 x y _ h0 hc0 f.rat).mono ?_
  rintro e w15_ ⟨rfl, hb⟩
  replace hb := Drawn0.below hb
  replace h0 := Kd.C_below h0 hb
  replace h1 := Kd.C_below h1 hb
  replace hp := Kd.C_below hp hb
  replace hq := Kd.C_below hq hb
  replace hs := Kd.C_below hs hb
  replace rs := Kd.R_below rs hb
  replace hB := below_to hB hB_s hb
  replace hB_s := size_to hB_s hb
  replace hS := below_to hS hS_s hb
  replace hS_s := size_to hS_s hb
  clear hb
  go_wp2_with fail
  refine (poly_Derived.calls K _ _ l0 D _ hp hcp f.der).mono ?_
  rintro e w16_ ⟨vu, rfl, ru, hb⟩
  replace h0 := Kd.C_below h0 hb
  replace h1 := Kd.C_below h1 hb
  replace hp := Kd.C_below hp hb
  replace hq := Kd.C_below hq hb
  replace hs := Kd.C_below hs hb
  replace rs := Kd.R_below rs hb
  replace hB := below_to hB hB_s hb
  replace hB_s := size_to hB_s hb
  replace hS := below_to hS hS_s hb
  replace hS_s := size_to hS_s hb
  clear hb
  obtain ⟨Ad, Ad_c, rfl⟩ := Kd.V_slice ru
  have hu := (Kd.V_reads' ru).2.2
  have hcu := (Kd.V_reads' ru).2.1
  clear ru
  go_wp2_with fail
  refine (gossamerref02_Derived.calls K _ _ l0 D _ h0 hc0 f.rder).mono ?_
  rintro e w17_ ⟨vt, rfl, rt, hb⟩
  replace h0 := Kd.C_below h0 hb
  replace h1 := Kd.C_below h1 hb
  replace hp := Kd.C_below hp hb
  replace hq := Kd.C_below hq hb
  replace hs := Kd.C_below hs hb
  replace hu := Kd.C_below hu hb
  replace rs := Kd.R_below rs hb
  replace hB := below_to hB hB_s hb
  replace hB_s := size_to hB_s hb
  replace hS := below_to hS hS_s hb
  replace hS_s := size_to hS_s hb
  clear hb
  obtain ⟨At, At_c, rfl⟩ := Kd.R_slice rt
  have ht := (Kd.R_reads' rt).2.2
  have hct := (Kd.R_reads' rt).2.1
  clear rt
  go_wp2_with fail
  refine (gossamernum_Words.calls K _ _ D _ _ D true _ hu hcu ht hct f.wD).mono ?_
  rintro e w18_ ⟨rfl, hb⟩
  replace hb := Drawn0.below hb
  clear ht hct hu hcu
  replace h0 := Kd.C_below h0 hb
  replace h1 := Kd.C_below h1 hb
  replace hp := Kd.C_below hp hb
  replace hq := Kd.C_below hq hb
  replace hs := Kd.C_below hs hb
  replace rs := Kd.R_below rs hb
  replace hB := below_to hB hB_s hb
  replace hB_s := size_to hB_s hb
  replace hS := below_to hS hS_s hb
  replace hS_s := size_to hS_s hb
  clear hb
  go_wp2_with fail
  refine (poly_Trim.calls K _ _ l0 T _ hp hcp f.trim).mono ?_
  rintro e w19_ ⟨vu, rfl, ru, hb⟩
  replace h0 := Kd.C_below h0 hb
  replace h1 := Kd.C_below h1 hb
  replace hp := Kd.C_below hp hb
  replace hq := Kd.C_below hq hb
  replace hs := Kd.C_below hs hb
  replace rs := Kd.R_below rs hb
  replace hB := below_to hB hB_s hb
  replace hB_s := size_to hB_s hb
  replace hS := below_to hS hS_s hb
  replace hS_s := size_to hS_s hb
  clear hb
  obtain ⟨Atr, Atr_c, rfl⟩ := Kd.R_slice ru
  have hu := (Kd.R_reads' ru).2.2
  have hcu := (Kd.R_reads' ru).2.1
  clear ru
  go_wp2_with fail
  refine (gossamerref02_Trim.calls K _ _ l0 T _ h0 hc0 f.rtrim).mono ?_
  rintro e w20_ ⟨vt, rfl, rt, hb⟩
  replace h0 := Kd.C_below h0 hb
  replace h1 := Kd.C_below h1 hb
  replace hp := Kd.C_below hp hb
  replace hq := Kd.C_below hq hb
  replace hs := Kd.C_below hs hb
  replace hu := Kd.C_below hu hb
  replace rs := Kd.R_below rs hb
  replace hB := below_to hB hB_s hb
  replace hB_s := size_to hB_s hb
  replace hS := below_to hS hS_s hb
  replace hS_s := size_to hS_s hb
  clear hb
  obtain ⟨At, At_c, rfl⟩ := Kd.R_slice rt
  have ht := (Kd.R_reads' rt).2.2
  have hct := (Kd.R_reads' rt).2.1
  clear rt
  go_wp2_with fail
  refine (gossamernum_Words.calls K _ _ T _ _ T true _ hu hcu ht hct f.wT).mono ?_
  rintro e w21_ ⟨rfl, hb⟩
  replace hb := Drawn0.below hb
  clear ht hct hu hcu
  replace h0 := Kd.C_below h0 hb
  replace h1 := Kd.C_below h1 hb
  replace hp := Kd.C_below hp hb
  replace hq := Kd.C_below hq hb
  replace hs := Kd.C_below hs hb
  replace rs := Kd.R_below rs hb
  replace hB := below_to hB hB_s hb
  replace hB_s := size_to hB_s hb
  replace hS := below_to hS hS_s hb
  replace hS_s := size_to hS_s hb
  clear hb
  go_wp2_with fail
  refine (poly_Degree.calls K _ _ l0 _ _ hp hcp f.deg).mono ?_
  rintro e w22_ ⟨rfl, hb⟩
  replace hb := Drawn0.below hb
  replace h0 := Kd.C_below h0 hb
  replace h1 := Kd.C_below h1 hb
  replace hp := Kd.C_below hp hb
  replace hq := Kd.C_below hq hb
  replace hs := Kd.C_below hs hb
  replace rs := Kd.R_below rs hb
  replace hB := below_to hB hB_s hb
  replace hB_s := size_to hB_s hb
  replace hS := below_to hS hS_s hb
  replace hS_s := size_to hS_s hb
  clear hb
  go_wp2_with fail
  refine (gossamerref02_Trim.calls K _ _ l0 T _ h0 hc0 f.rtrim).mono ?_
  rintro e w23_ ⟨vt, rfl, rt, hb⟩
  replace h0 := Kd.C_below h0 hb
  replace h1 := Kd.C_below h1 hb
  replace hp := Kd.C_below hp hb
  replace hq := Kd.C_below hq hb
  replace hs := Kd.C_below hs hb
  replace rs := Kd.R_below rs hb
  replace hB := below_to hB hB_s hb
  replace hB_s := size_to hB_s hb
  replace hS := below_to hS hS_s hb
  replace hS_s := size_to hS_s hb
  clear hb
  obtain ⟨At, At_c, rfl⟩ := Kd.R_slice rt
  clear rt
  go_wp2_with fail
  refine (poly_Trim.calls K _ _ l0 T _ hp hcp f.trim).mono ?_
  rintro e w24_ ⟨vu, rfl, ru, hb⟩
  have hT := hb
  have hT_s := hb.size
  have uS := Aside0.mk rs
  have uB := Aside0.mk hS
  have uz := Aside0.mk hS_s
  replace h0 := Kd.C_below h0 hb
  replace h1 := Kd.C_below h1 hb
  replace hp := Kd.C_below hp hb
  replace hq := Kd.C_below hq hb
  replace hs := Kd.C_below hs hb
  replace rs := Kd.R_below rs hb
  replace hB := below_to hB hB_s hb
  replace hB_s := size_to hB_s hb
  replace hS := below_to hS hS_s hb
  replace hS_s := size_to hS_s hb
  clear hb
  clear h0 h1 hp hq hs hcs hB hB_s hS hS_s rs
  obtain ⟨Atr, Atr_c, rfl⟩ := Kd.R_slice ru
  go_wp2
  obtain ⟨g_u, hg_u⟩ : ∃ g, ∀ i : Int, 0 ≤ i → i < (T.length : Int) → Atr = some ⟨g, 0, none⟩ := by
    rcases (own_of_R_u32 ru).2 with ⟨e, hn⟩ | ⟨g, cap, cur, e, _⟩
    · refine ⟨0, fun i a b => ?_⟩
      omega
    · refine ⟨g, fun i a b => ?_⟩
      injection e
  go_loopw [89, 13] (fun i z wr => ∃ (j : Nat) (xs : List Int), j ≤ T.length ∧ i = .int .i64 j ∧ xs.length = T.length ∧ Kd.R (Kd.int .u32) 23 wr w23_.heap.size (fun _ => True) (.slice Atr T.length Atr_c) xs ∧ Below w23_.heap.size w23_ wr) (fun i _ _ => T.length - (intOf i).toNat)
  case atStart => exact ⟨0, T, Nat.zero_le _, by simp, rfl, ru, hT⟩
  case round =>
    obtain ⟨j, xs, hj, rfl, hx, hR, hBr⟩ := hrel
    clear ru
    by_cases hlt : j < T.length
    · have hA := hg_u (j : Int) (by omega) (by omega)
      clear hg_u
      subst hA
      have g1 : (j : Int) < (T.length : Int) := by omega
      have hO := own_of_R_u32 hR
      rw [hx] at hO
      obtain ⟨hcell, hfz⟩ := own_at hO (j : Int) (by omega) (by omega)
      rw [Int.toNat_natCast] at hcell hfz
      have hput := Kd.R_putn hR (j : Int) 99
      rw [Int.toNat_natCast] at hput
      have hgb := own_base hO g_u (by simp [Value.ownBlock])
      have hbel := hBr.setCell (p := ⟨g_u, j, none⟩) hgb (.int .u32 99)
      have hjb : (j : Int) < 8796093022208 := by have := htl.out; omega
      clear hO hR hBr
      replace hput := Aside0.mk hput
      replace hx := Aside0.mk hx
      go_wp2
      go_roundw
      case rel => exact ⟨j + 1, _, by omega, by go_num, by rw [List.length_set]; exact hx.out, hput.out, hbel⟩
      case measure => simp [intOf]; omega
    · obtain rfl : j = T.length := by omega
      have hBS : Below wS.heap.size wS wr := below_to uB.out uz.out hBr
      have rs : Kd.R (Kd.int .u32) 23 wr wS.heap.size (fun k_ => (wS.heap.size ≤ k_)) (.slice As S.length As_c) S := Kd.R_below uS.out hBr
      have hSl := f.sl
      clear uB uz uS hBr hR hT hT_s hg_u hlt
      obtain ⟨wq, hwq⟩ : ∃ wq : World, wq = wr := ⟨_, rfl⟩
      subst hwq
      go_wp2
      obtain ⟨g_s, hg_s⟩ : ∃ g, ∀ i : Int, 0 ≤ i → i < (S.length : Int) → As = some ⟨g, 0, none⟩ := by
        rcases (own_of_R_u32 rs).2 with ⟨e, hn⟩ | ⟨g, cap, cur, e, _⟩
        · refine ⟨0, fun i a b => ?_⟩
          omega
        · refine ⟨g, fun i a b => ?_⟩
          injection e
      go_loopw [98, 14] (fun i z wr => ∃ (j : Nat) (xs : List Int), j ≤ S.length ∧ i = .int .i64 j ∧ xs.length = S.length ∧ Kd.R (Kd.int .u32) 23 wr wS.heap.size (fun k_ => (wS.heap.size ≤ k_)) (.slice As S.length As_c) xs ∧ Below wS.heap.size wS wr) (fun i _ _ => S.length - (intOf i).toNat)
      case atStart => exact ⟨0, S, Nat.zero_le _, by simp, rfl, rs, hBS⟩
      case round =>
        obtain ⟨j, xs, hj, rfl, hx, hR, hBr⟩ := hrel
        clear rs
        by_cases hlt : j < S.length
        · have hA := hg_s (j : Int) (by omega) (by omega)
          clear hg_s
          subst hA
          have g1 : (j : Int) < (S.length : Int) := by omega
          have hO := own_of_R_u32 hR
          rw [hx] at hO
          obtain ⟨hcell, hfz⟩ := own_at hO (j : Int) (by omega) (by omega)
          rw [Int.toNat_natCast] at hcell hfz
          have hput := Kd.R_putn hR (j : Int) 99
          rw [Int.toNat_natCast] at hput
          have hgb := own_base hO g_s (by simp [Value.ownBlock])
          have hbel := hBr.setCell (p := ⟨g_s, j, none⟩) hgb (.int .u32 99)
          have hjb : (j : Int) < 8796093022208 := by have := hSl; omega
          clear hO hR hBr
          replace hput := Aside0.mk hput
          replace hx := Aside0.mk hx
          go_wp2
          go_roundw
          case rel => exact ⟨j + 1, _, by omega, by go_num, by rw [List.length_set]; exact hx.out, hput.out, hbel⟩
          case measure => simp [intOf]; omega
        · obtain rfl : j = S.length := by omega
          have h0 := Kd.C_below b0.out hBr
          have h1 := Kd.C_below b1.out hBr
          have hp := Kd.C_below bp.out hBr
          have hq := Kd.C_below bq.out hBr
          have hB := below_to bB.out bs.out hBr
          have hB_s := size_to bs.out hBr
          clear hR hBr b0 b1 bp bq bB bs hg_s hlt
          go_wp2_with fail
          refine (gossamernum_Words.calls K _ _ l0 _ _ l0 true _ hp hcp h0 hc0 f.w0).mono ?_
          rintro e w25_ ⟨rfl, hb⟩
          replace hb := Drawn0.below hb
          replace h0 := Kd.C_below h0 hb
          replace h1 := Kd.C_below h1 hb
          replace hp := Kd.C_below hp hb
          replace hq := Kd.C_below hq hb
          replace hB := below_to hB hB_s hb
          replace hB_s := size_to hB_s hb
          clear hb
          go_wp2_with fail
          refine (gossamernum_Words.calls K _ _ l1 _ _ l1 true _ hq hcq h1 hc1 f.w1).mono ?_
          rintro e w26_ ⟨rfl, hb⟩
          replace hb := Drawn0.below hb
          replace h0 := Kd.C_below h0 hb
          replace h1 := Kd.C_below h1 hb
          replace hp := Kd.C_below hp hb
          replace hq := Kd.C_below hq hb
          replace hB := below_to hB hB_s hb
          replace hB_s := size_to hB_s hb
          clear hb
          go_wp2
          go_ret
          exact ⟨rfl, hB⟩
theorem PolySums (a0 : Option Addr) (len0 cap0 : Nat) (z0 : List Int) (a1 : Option Addr) (len1 cap1 : Nat) (z1 : List Int) (a2 : Int) (w : World)
    (w0 : (a0 = none ∧ len0 = 0 ∧ cap0 = 0 ∧ z0 = []) ∨ ∃ x, a0 = some x ∧ len0 ≤ cap0 ∧ cap0 ≤ maxLen ∧ z0.length = cap0 ∧ (∀ i, i < z0.length → w.cell? (x.add i) = some (.int .u32 (z0.getD i 0))) ∧ ∀ n ∈ z0, (Lit.int .u32 n).wf = true) (y0 : len0 * 4 ≤ 140737488351232) (w1 : (a1 = none ∧ len1 = 0 ∧ cap1 = 0 ∧ z1 = []) ∨ ∃ x, a1 = some x ∧ len1 ≤ cap1 ∧ cap1 ≤ maxLen ∧ z1.length = cap1 ∧ (∀ i, i < z1.length → w.cell? (x.add i) = some (.int .u32 (z1.getD i 0))) ∧ ∀ n ∈ z1, (Lit.int .u32 n).wf = true) (y1 : len1 * 4 ≤ 140737488351232) (w2 : (Lit.int .u32 a2).wf = true) :
    Calls Try.prog 5 #[.slice a0 len0 cap0, .slice a1 len1 cap1, .int .u32 a2] w fun e w' => e = .returned (.bool true) ∧ Below w.heap.size w w' := by
  obtain ⟨x, rfl⟩ := v_of (wf_u32 w2).1 (wf_u32 w2).2
  obtain ⟨l0, rfl, hr0, hm0, hw0, hc0⟩ := ReadsInt.ofRowC w0
  obtain ⟨l1, rfl, hr1, hm1, hw1, hc1⟩ := ReadsInt.ofRowC w1
  have k0 := Kd.C_of_reads (d := (0 : Int)) (h1 := fun _ => rfl) hr0
  have k1 := Kd.C_of_reads (d := (0 : Int)) (h1 := fun _ => rfl) hr1
  obtain ⟨a, rfl⟩ := V_of l0 hw0
  obtain ⟨b, rfl⟩ := V_of l1 hw1
  by_cases hl : a.length ≤ 24 ∧ b.length ≤ 24
  · obtain ⟨K, S, M, C, D, T, y, hf⟩ := facts a b x hl.1 hl.2
    exact sums_in K (V a) (V b) (v x) a0 a1 cap0 cap1 w k0 hc0 k1 hc1 S M C D T y hf
  · obtain ⟨k13, e1⟩ := alive_E
    obtain ⟨k14, f1⟩ := long_E [V a, V b] (by simp)
    have hl2 : ([V a, V b].any fun x => decide (24 < x.length)) = true := by
      simp only [List.any_cons, List.any_nil, V_length, Bool.or_false, Bool.or_eq_true, decide_eq_true_eq]; omega
    rw [hl2] at f1
    exact sums_long (k13 + k14) (V a) (V b) (v x) a0 a1 cap0 cap1 w k0 hc0 k1 hc1 (e1 _ (by omega)) (f1 _ (by omega))
end Go.Proofs.Ytcamaleanlblfaa.Walk
