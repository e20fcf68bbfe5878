/- The polynomial of roots is 0 at just these, and its derivative is 0 at a root just if the root is there twice.
   Conditions: none. -/
import Derived.Test.YtcamaleanlblfaaQx1
import Derived.Test.YtcamaleanlblfaaQx2
import Derived.Test.YtcamaleanlblfaaHandKit
import Derived.Test.YtcamaleanlblfaaManyRoots
import Derived.Test.YtcamaleanlblfaaCDer
import Derived.Test.YtcamaleanlblfaaCFrom
import Derived.Test.YtcamaleanlblfaaCAtV
import Derived.Test.YtcamaleanlblfaaCOwn
set_option linter.unusedVariables false
set_option linter.unusedSimpArgs false
namespace Go.Proofs.Ytcamaleanlblfaa.Walk
open Go.RowKit Go.Proofs.Ytcamaleanlblfaa.Q Go.Proofs.YtcamaleanlblfaaW.PrintWords Go.Proofs.YtcamaleanlblfaaW.PrintLast Go.Proofs.YtcamaleanlblfaaW.PrintMore Go.Proofs.Ytcamaleanlblfaa.Bits Go.Proofs.Ytcamaleanlblfaa Go.Proofs.Ytcamaleanlblfaa.Hand GF PolyT
structure RFacts (K : Nat) (l p D : List Int) (x : Int) : Prop where
  alive : gossamerlaw02_alive.f K = some true
  long : gossamerlaw02_long.f K [l] = some false
  from_ : poly_From.f K l = some p
  deg : poly_Degree.f K p = some (l.length : Int)
  plen : p.length = l.length + 1
  top : rd p (l.length : Int) = 1
  own : gossamerlaw02_own.f l = some l
  der : poly_Derived.f K p = some D
  ll : l.length ≤ 24
  at_ : ∀ y, y ∈ l ++ [x] → ∃ a d, poly_At.f p y = some a ∧ poly_At.f D y = some d ∧ (a = 0 ↔ 0 < cntN l y l.length) ∧ (0 < cntN l y l.length → (d = 0 ↔ 1 < cntN l y l.length))
theorem cnt_V (l : List F) (y : F) : ∀ i, i ≤ l.length → cntN (V l) (v y) i = (many (l.take i) y : Nat) := by
  intro i
  induction i with
  | zero => intro _; rfl
  | succ i ih =>
    intro hi
    simp only [cntN]
    rw [ih (by omega), List.take_succ_eq_append_getElem (by omega), many_snoc, rd_Vn, co_lt (show i < l.length by omega)]
    by_cases h : l[i] = y
    · rw [if_pos h, if_pos (by rw [h])]; rfl
    · rw [if_neg h, if_neg (fun e => h (v_inj.mp e))]; rfl
theorem rfacts (l : List F) (x : F) (hl : l.length ≤ 24) : ∃ K p D, RFacts K (V l) p D (v x) := by
  obtain ⟨p, ⟨k1, p1⟩, hp⟩ := from_V l (by omega)
  obtain ⟨h1, h2, h3⟩ := hp.facts
  have sp : Small p := by unfold Small; omega
  obtain ⟨d, ⟨k2, d1⟩, d2, d3, d4⟩ := derived_V p sp
  obtain ⟨k3, g1⟩ := degree_V p sp
  obtain ⟨k4, e1⟩ := alive_E
  obtain ⟨k5, f1⟩ := long_E [V l] (by simp)
  have hlo : ([V l].any fun x => decide (24 < x.length)) = false := by
    simp only [List.any_cons, List.any_nil, V_length, Bool.or_false, decide_eq_false_iff_not]; omega
  rw [hlo] at f1
  obtain ⟨K, hK⟩ : ∃ K, K = k1 + k2 + k3 + k4 + k5 := ⟨_, rfl⟩
  refine ⟨K, V p, V d, ⟨e1 K (by omega), f1 K (by omega), p1 K (by omega), ?_, by rw [V_length, V_length]; exact h2, by rw [V_length, rd_Vn, h3]; rfl, own_V l (by unfold Small; omega), d1 K (by omega), by rw [V_length]; exact hl, ?_⟩⟩
  · have hlen : len p = p.length := h1
    rw [g1 K (by omega), V_length]; congr 1; omega
  · intro y hy
    have hyv : ∃ z : F, y = v z := by
      have e : V l ++ [v x] = V (l ++ [x]) := by simp [V]
      rw [e] at hy
      simp only [V, List.mem_map] at hy
      obtain ⟨z, _, hz⟩ := hy
      exact ⟨z, hz.symm⟩
    obtain ⟨z, rfl⟩ := hyv
    have hc := cnt_V l z l.length (Nat.le_refl _)
    rw [List.take_of_length_le (Nat.le_refl _)] at hc
    rw [V_length, hc]
    obtain ⟨r1, r2, r3⟩ := hp.at z
    have hd : ev d z = ev (dl p) z := ev_congr (fun i => by rw [d3, co_dl]) z
    refine ⟨v (ev p z), v (ev d z), at_V p z sp, at_V d z (by unfold Small; omega), ?_, ?_⟩
    · rw [v_zero_iff, r1]; omega
    · intro hm
      rw [v_zero_iff, hd]
      constructor
      · intro h
        by_cases e : many l z = 1
        · exact absurd h (r2 e)
        · omega
      · intro h; exact r3 (by omega)
theorem rd_mem (l : List Int) (i : Nat) (h : i < l.length) : rd l (i : Int) ∈ l := by unfold rd; simp [h]
set_option maxRecDepth 100000 in
set_option maxHeartbeats 1000000 in
theorem roots_long (K : Nat) (l : List Int) (x : Int) (A0 : Option Addr) (c0 : Nat) (w : World) (h0 : Kd.C (Kd.int .u32) w A0 l.length l) (hc0 : l.length ≤ c0)
    (hal : gossamerlaw02_alive.f K = some true) (hlo : gossamerlaw02_long.f K [l] = some true) : Calls Try.prog 3 #[.slice A0 l.length c0, .int .u32 x] w fun e w' => e = .returned (.bool true) ∧ Below w.heap.size w w' := by
  have hB := Below.refl w.heap.size w
  have hB_s : w.heap.size ≤ w.heap.size := Nat.le_refl _
  have hb := below_alloc (Below.refl w.heap.size w) (.cells #[.slice A0 l.length c0] 22)
  replace h0 := Kd.C_below h0 hb
  replace hB := below_to hB hB_s hb
  replace hB_s := size_to hB_s hb
  clear hb
  have hbox : (w.alloc (.cells #[.slice A0 l.length c0] 22)).cell? ⟨w.heap.size, 0, none⟩ = some (.slice A0 l.length c0) := by simp
  have hbl : w.heap.size < (w.alloc (.cells #[.slice A0 l.length c0] 22)).heap.size := by simp
  replace hbl := Aside0.mk hbl
  go_enter Try.func3, Try.ntmps3
  go_wp2_with fail
  refine (gossamerlaw02_alive.calls K true _ hal).mono ?_
  rintro e w1_ ⟨rfl, hb⟩
  replace hbox := (hb.cell (p := ⟨w.heap.size, 0, none⟩) hbl.out).trans hbox
  replace hbl := Aside0.mk (Nat.lt_of_lt_of_le hbl.out hb.size)
  replace h0 := Kd.C_below h0 hb
  replace hB := below_to hB hB_s hb
  replace hB_s := size_to hB_s hb
  clear hb
  go_wp2_with fail
  have hL := C_lit1 (Kd.int .u32) 22 22 w1_ h0 hc0
  have hb := below_alloc (Below.refl w1_.heap.size w1_) (.cells #[.slice A0 l.length c0] 22)
  replace hbox := (hb.cell (p := ⟨w.heap.size, 0, none⟩) hbl.out).trans hbox
  replace hbl := Aside0.mk (Nat.lt_of_lt_of_le hbl.out hb.size)
  replace h0 := Kd.C_below h0 hb
  replace hB := below_to hB hB_s hb
  replace hB_s := size_to hB_s hb
  clear hb
  skip
  refine (gossamerlaw02_long.calls K _ 1 [l] true _ hL (Nat.le_refl _) hlo).mono ?_
  rintro e w2_ ⟨rfl, hb⟩
  replace hb := Drawn0.below hb
  replace hbox := (hb.cell (p := ⟨w.heap.size, 0, none⟩) hbl.out).trans hbox
  replace hbl := Aside0.mk (Nat.lt_of_lt_of_le hbl.out hb.size)
  replace h0 := Kd.C_below h0 hb
  replace hB := below_to hB hB_s hb
  replace hB_s := size_to hB_s hb
  clear hb
  go_wp2
  go_ret
  exact ⟨rfl, hB⟩
set_option maxRecDepth 100000 in
set_option maxHeartbeats 8000000 in
theorem roots_in (K : Nat) (l : List Int) (x : Int) (A0 : Option Addr) (c0 : Nat) (w : World) (h0 : Kd.C (Kd.int .u32) w A0 l.length l) (hc0 : l.length ≤ c0)
    (p D : List Int) (f : RFacts K l p D x) : Calls Try.prog 3 #[.slice A0 l.length c0, .int .u32 x] w fun e w' => e = .returned (.bool true) ∧ Below w.heap.size w w' := by
  have hll := Aside0.mk f.ll
  have hpl := f.plen
  have hB := Below.refl w.heap.size w
  have hB_s : w.heap.size ≤ w.heap.size := Nat.le_refl _
  have hb := below_alloc (Below.refl w.heap.size w) (.cells #[.slice A0 l.length c0] 22)
  replace h0 := Kd.C_below h0 hb
  replace hB := below_to hB hB_s hb
  replace hB_s := size_to hB_s hb
  clear hb
  have hbox : (w.alloc (.cells #[.slice A0 l.length c0] 22)).cell? ⟨w.heap.size, 0, none⟩ = some (.slice A0 l.length c0) := by simp
  have hbl : w.heap.size < (w.alloc (.cells #[.slice A0 l.length c0] 22)).heap.size := by simp
  replace hbl := Aside0.mk hbl
  go_enter Try.func3, Try.ntmps3
  go_wp2_with fail
  refine (gossamerlaw02_alive.calls K true _ f.alive).mono ?_
  rintro e w1_ ⟨rfl, hb⟩
  replace hbox := (hb.cell (p := ⟨w.heap.size, 0, none⟩) hbl.out).trans hbox
  replace hbl := Aside0.mk (Nat.lt_of_lt_of_le hbl.out hb.size)
  replace h0 := Kd.C_below h0 hb
  replace hB := below_to hB hB_s hb
  replace hB_s := size_to hB_s hb
  clear hb
  go_wp2_with fail
  have hL := C_lit1 (Kd.int .u32) 22 22 w1_ h0 hc0
  have hb := below_alloc (Below.refl w1_.heap.size w1_) (.cells #[.slice A0 l.length c0] 22)
  replace hbox := (hb.cell (p := ⟨w.heap.size, 0, none⟩) hbl.out).trans hbox
  replace hbl := Aside0.mk (Nat.lt_of_lt_of_le hbl.out hb.size)
  replace h0 := Kd.C_below h0 hb
  replace hB := below_to hB hB_s hb
  replace hB_s := size_to hB_s hb
  clear hb
  skip
  refine (gossamerlaw02_long.calls K _ 1 [l] false _ hL (Nat.le_refl _) f.long).mono ?_
  rintro e w2_ ⟨rfl, hb⟩
  replace hb := Drawn0.below hb
  clear hL
  replace hbox := (hb.cell (p := ⟨w.heap.size, 0, none⟩) hbl.out).trans hbox
  replace hbl := Aside0.mk (Nat.lt_of_lt_of_le hbl.out hb.size)
  replace h0 := Kd.C_below h0 hb
  replace hB := below_to hB hB_s hb
  replace hB_s := size_to hB_s hb
  clear hb
  go_wp2_with fail
  refine (poly_From.calls K _ _ l p _ h0 hc0 f.from_).mono ?_
  rintro e w3_ ⟨vp, rfl, rp, hb⟩
  replace hbox := (hb.cell (p := ⟨w.heap.size, 0, none⟩) hbl.out).trans hbox
  replace hbl := Aside0.mk (Nat.lt_of_lt_of_le hbl.out hb.size)
  replace h0 := Kd.C_below h0 hb
  replace hB := below_to hB hB_s hb
  replace hB_s := size_to hB_s hb
  clear hb
  obtain ⟨Ap, Ap_c, rfl⟩ := Kd.R_slice rp
  have hp := (Kd.R_reads' rp).2.2
  have hcp := (Kd.R_reads' rp).2.1
  clear rp
  obtain ⟨ad, hA, hcell⟩ := Kd.at_int hp (l.length : Int) (by omega) (by omega)
  rw [f.top, Int.toNat_natCast] at hcell
  subst hA
  have g1 : (l.length : Int) < (p.length : Int) := by omega
  have g0 : (0 : Int) ≤ (l.length : Int) := by omega
  have g2 : (l.length : Int) ≤ 24 := by have := hll.out; omega
  have g3 : ((p.length : Int) != (l.length : Int) + 1) = false := by simp; omega
  have g4 : IntKind.i64.wrap ((l.length : Int) + 1) = (l.length : Int) + 1 := IntWalk.i64_in _ (by omega)
  have g5 : ((l.length : Int) != (l.length : Int)) = false := by simp
  have g6 : ((1 : Int) != 1) = false := by decide
  replace hpl := Aside0.mk hpl
  have hmf : ∀ (fn : Fn) (first cap : Array Value) (w : World), (Instr.makeFunc fn first cap).run Try.prog w = .ok (.func fn first cap) w := fun _ _ _ _ => rfl
  have sp := Aside0.mk hp
  have s0 := Aside0.mk h0
  clear hp h0
  go_wp2_with fail
  go_quiet ((go_at_call 11; (with_reducible refine (poly_Degree.calls K _ _ p _ _ (Kd.C_drewN sp.out _) hcp f.deg).mono ?_); rintro e w' ⟨rfl, ⟨nd, rfl⟩⟩; (first | exact ⟨rfl, _, World.drewN_drewN _ _ _⟩)))
  clear hcell g3 g5 g6
  rename_i nq
  obtain ⟨wq, hwq⟩ : ∃ wq, wq = w3_.drewN nq := ⟨_, rfl⟩
  rw [← hwq]
  have hb : Below w3_.heap.size w3_ wq := by rw [hwq]; exact pw_below_drewN (Below.refl _ _) _
  clear hwq
  have hp := sp.out
  have h0 := s0.out
  clear sp s0
  replace hbox := (hb.cell (p := ⟨w.heap.size, 0, none⟩) hbl.out).trans hbox
  replace hbl := Aside0.mk (Nat.lt_of_lt_of_le hbl.out hb.size)
  replace h0 := Kd.C_below h0 hb
  replace hp := Kd.C_below hp hb
  replace hB := below_to hB hB_s hb
  replace hB_s := size_to hB_s hb
  clear hb
  go_wp2_with fail
  refine (gossamerlaw02_own.calls _ _ l l _ h0 hc0 f.own).mono ?_
  rintro e w9_ ⟨vq, rfl, rq, hbq⟩
  obtain ⟨Aq, cq, rfl⟩ := Kd.R_slice rq
  have hqs := hbq.size
  go_wp2_with (first | (at_builtin; refine Kd.R_append (Kd.int .u32) (w0 := wq) wq.heap.size rfl (.tmp 39) (.tmp 41) 22 23 (.int .u32 0) 4 rfl Try.underlying22 info23 rfl (by decide) (by omega) (.slice Aq l.length cq) l x [.int .u32 x] (fun _ => True) (fun _ => False) rfl rfl rfl (fun _ hk => hk.elim) (fun _ _ => trivial) rq hbq hqs (by have := hll.out; omega) ?_; intro v1 w10 hR hb hg7 hat7; clear rq hbq hqs hg7 hat7; obtain ⟨L, hL⟩ : ∃ L, L = l ++ [x] := ⟨_, rfl⟩; rw [← hL] at hR; obtain ⟨Ar, cr, rfl⟩ := Kd.R_slice hR; replace hL := Aside0.mk hL))
  replace hL := hL.out
  have hLl : L.length = l.length + 1 := by rw [hL]; simp
  have hLm : ∀ k : Nat, k < L.length → rd L (k : Int) ∈ l ++ [x] := fun k hk => by rw [← hL]; exact rd_mem L k hk
  have hLlH := Aside0.mk hLl
  have hLmH := Aside0.mk hLm
  have hLc := (Kd.R_reads' hR).2.2
  clear hR hL hLl hLm
  replace hbox := (hb.cell (p := ⟨w.heap.size, 0, none⟩) hbl.out).trans hbox
  replace hbl := Aside0.mk (Nat.lt_of_lt_of_le hbl.out hb.size)
  replace h0 := Kd.C_below h0 hb
  replace hp := Kd.C_below hp hb
  replace hB := below_to hB hB_s hb
  replace hB_s := size_to hB_s hb
  clear hb
  have hLn : (L.length : Int) ≤ 25 := by have := hLlH.out; have := hll.out; omega
  go_loopw [44, 8] (fun i z wr => ∃ (k : Nat), k ≤ L.length ∧ i = .int .i64 k ∧ Below w10.heap.size w10 wr) (fun i _ _ => L.length - (intOf i).toNat)
  case atStart => exact ⟨0, Nat.zero_le _, by simp, Below.refl _ _⟩
  case round =>
    obtain ⟨j, hj, rfl, hBr⟩ := hrel
    by_cases hlt : j < L.length
    · obtain ⟨a, d, ha, hd, e1, e2⟩ := f.at_ _ (hLmH.out j hlt)
      obtain ⟨ad2, hA2, hcell⟩ := Kd.at_int hLc (j : Int) (by omega) (by omega)
      subst hA2
      rw [Int.toNat_natCast] at hcell
      replace hcell := (hBr.cell (World.block_lt_of_cell? w10 _ hcell)).trans hcell
      obtain ⟨y, hy⟩ : ∃ y, y = rd L (j : Int) := ⟨_, rfl⟩
      rw [← hy] at ha hd e1 e2 hcell
      clear hy
      have g7 : (j : Int) < (L.length : Int) := by omega
      have hq := Aside0.mk (show ∃ n, n = 0 from ⟨0, rfl⟩)
      have hp2 := Kd.C_below hp hBr
      have h02 := Kd.C_below h0 hBr
      have hbox2 := (hBr.cell (p := ⟨w.heap.size, 0, none⟩) hbl.out).trans hbox
      obtain ⟨n, hn⟩ : ∃ n, n = cntN l y l.length := ⟨_, rfl⟩
      have hn2 := cntN_le l y l.length
      have e1' := Aside0.mk e1
      have e2' := Aside0.mk e2
      have hdA := Aside0.mk hd
      have haA := Aside0.mk ha
      clear e1 e2 hd ha
      rw [← hn] at hn2
      have hnA := Aside0.mk hn
      clear hn
      go_wp2_with fail
      refine (poly_At.calls _ _ p y a _ hp2 hcp haA.out).mono ?_
      rintro e w11 ⟨rfl, hb⟩
      replace hBr := below_to hBr hBr.size hb
      clear hp2 h02 hbox2
      have hp2 := Kd.C_below hp hBr
      have h02 := Kd.C_below h0 hBr
      have hbox2 := (hBr.cell (p := ⟨w.heap.size, 0, none⟩) hbl.out).trans hbox
      clear hb hcell
      go_wp2_with fail
      refine (many_calls l A0 c0 y w.heap.size w11 hll.out hbox2 h02).mono ?_
      rintro e w12 ⟨rfl, rfl⟩
      rw [← hnA.out]
      by_cases hm : 0 < n
      · have ha0 : a = 0 := by rw [e1'.out, ← hnA.out]; exact hm
        subst ha0
        have d1 : decide (n > 0) = true := decide_eq_true hm
        have d2 : decide (0 < n) = true := decide_eq_true hm
        go_wp2_with fail
        refine (many_calls l A0 c0 y w.heap.size w11 hll.out hbox2 h02).mono ?_
        rintro e w12 ⟨rfl, rfl⟩
        rw [← hnA.out]
        go_wp2_with fail
        refine (poly_Derived.calls K _ _ p D _ hp2 hcp f.der).mono ?_
        rintro e w13 ⟨vd, rfl, rd_, hb⟩
        obtain ⟨Ad, Ad_c, rfl⟩ := Kd.V_slice rd_
        have hd2 := (Kd.V_reads' rd_).2.2
        have hcd2 := (Kd.V_reads' rd_).2.1
        replace hBr := below_to hBr hBr.size hb
        clear hb rd_ hp2 h02 hbox2
        go_wp2_with fail
        refine (poly_At.calls _ _ D y d _ hd2 hcd2 hdA.out).mono ?_
        rintro e w14 ⟨rfl, hb⟩
        replace hBr := below_to hBr hBr.size hb
        clear hb hd2 hcd2
        have h02 := Kd.C_below h0 hBr
        have hbox2 := (hBr.cell (p := ⟨w.heap.size, 0, none⟩) hbl.out).trans hbox
        go_wp2_with fail
        refine (many_calls l A0 c0 y w.heap.size w14 hll.out hbox2 h02).mono ?_
        rintro e w15 ⟨rfl, rfl⟩
        rw [← hnA.out]
        have hdd : d = 0 ↔ 1 < n := by have := e2'.out; rw [← hnA.out] at this; exact this hm
        by_cases hm2 : 1 < n
        · obtain rfl : d = 0 := hdd.2 hm2
          have d3 : decide (n > 1) = true := decide_eq_true hm2
          have d4 : decide (1 < n) = true := decide_eq_true hm2
          clear hdd
          go_wp2
          go_roundw
          case rel => exact ⟨j + 1, by omega, by go_num, hBr⟩
          case measure => simp [intOf]; omega
        · have hd0 : (d == 0) = false := by simpa using fun e => hm2 (hdd.1 e)
          have d3 : decide (n > 1) = false := decide_eq_false hm2
          have d4 : decide (1 < n) = false := decide_eq_false hm2
          clear hdd
          go_wp2
          go_roundw
          case rel => exact ⟨j + 1, by omega, by go_num, hBr⟩
          case measure => simp [intOf]; omega
      · have ha0 : (a == 0) = false := by
          have : ¬ a = 0 := by rw [e1'.out, ← hnA.out]; exact hm
          simpa using this
        have d1 : decide (n > 0) = false := decide_eq_false hm
        have d2 : decide (0 < n) = false := decide_eq_false hm
        go_wp2_with fail
        refine (many_calls l A0 c0 y w.heap.size w11 hll.out hbox2 h02).mono ?_
        rintro e w12 ⟨rfl, rfl⟩
        rw [← hnA.out]
        go_wp2
        go_roundw
        case rel => exact ⟨j + 1, by omega, by go_num, hBr⟩
        case measure => simp [intOf]; omega
    · obtain rfl : j = L.length := by omega
      replace hB := below_to hB hB_s hBr
      go_wp2
      go_ret
      exact ⟨rfl, hB⟩
theorem PolyRoots (a0 : Option Addr) (len0 cap0 : Nat) (z0 : List Int) (a1 : Int) (w : World)
    (w0 : (a0 = none ∧ len0 = 0 ∧ cap0 = 0 ∧ z0 = []) ∨ ∃ x, a0 = some x ∧ len0 ≤ cap0 ∧ cap0 ≤ maxLen ∧ z0.length = cap0 ∧ (∀ i, i < z0.length → w.cell? (x.add i) = some (.int .u32 (z0.getD i 0))) ∧ ∀ n ∈ z0, (Lit.int .u32 n).wf = true) (y0 : len0 * 4 ≤ 140737488351232) (w1 : (Lit.int .u32 a1).wf = true) :
    Calls Try.prog 3 #[.slice a0 len0 cap0, .int .u32 a1] w fun e w' => e = .returned (.bool true) ∧ Below w.heap.size w w' := by
  obtain ⟨x, rfl⟩ := v_of (wf_u32 w1).1 (wf_u32 w1).2
  obtain ⟨l0, rfl, hr0, hm0, hw0, hc0⟩ := ReadsInt.ofRowC w0
  have k0 := Kd.C_of_reads (d := (0 : Int)) (h1 := fun _ => rfl) hr0
  obtain ⟨l, rfl⟩ := V_of l0 hw0
  by_cases hl : l.length ≤ 24
  · obtain ⟨K, p, D, hf⟩ := rfacts l x hl
    exact roots_in K (V l) (v x) a0 cap0 w k0 hc0 p D hf
  · obtain ⟨k13, e1⟩ := alive_E
    obtain ⟨k14, f1⟩ := long_E [V l] (by simp)
    have hl2 : ([V l].any fun x => decide (24 < x.length)) = true := by
      simp only [List.any_cons, List.any_nil, V_length, Bool.or_false, decide_eq_true_eq]; omega
    rw [hl2] at f1
    exact roots_long (k13 + k14) (V l) (v x) a0 cap0 w k0 hc0 (e1 _ (by omega)) (f1 _ (by omega))
end Go.Proofs.Ytcamaleanlblfaa.Walk
