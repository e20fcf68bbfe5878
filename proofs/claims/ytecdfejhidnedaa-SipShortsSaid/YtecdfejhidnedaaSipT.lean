/- A word that is taken, the words of bytes, the words of the beginning: what the calls come to. -/
import Derived.Test.YtecdfejhidnedaaSipR
import Derived.Lib.ConvBytes
import Derived.Deep.Draws
set_option linter.unusedVariables false
set_option linter.unusedSimpArgs false
namespace Go.Proofs.Ytecdfejhidnedaa.Sip
open Go.RowKit Go.Proofs.YtecdfejhidnedaaW.PrintWords Go.Proofs.YtecdfejhidnedaaW.PrintLast Go.Proofs.YtecdfejhidnedaaW.PrintMore Go.Proofs.Ytecdfejhidnedaa Go.Proofs.Ytecdfejhidnedaa.Bits
set_option maxRecDepth 100000 in
set_option maxHeartbeats 2000000 in
theorem take_calls (B : Nat) (s : St) (m : W) (W0 : World) (h : S51 W0 B s) : Calls Try.prog 19 #[.pointer (some ⟨B, 0, none⟩), .int .u64 (q m)] W0 fun e w' => (∃ v, e = .returned v) ∧ S51 w' B (s.take m) ∧ Step B W0 w' := by
  have c3 := h.c3; have fz := h.fz 3
  have ev := xor_q s.v3 m
  go_enter Try.func19, Try.ntmps19
  go_wp2
  have h1 : S51 (W0.setCell ⟨B, 3, none⟩ (.int .u64 (q (s.v3 ^^^ m)))) B (s.x3 m) := h.p3 _
  have hS : Step B W0 (W0.setCell ⟨B, 3, none⟩ (.int .u64 (q (s.v3 ^^^ m)))) := Step.set B 3 _ _
  clear c3 fz ev
  go_loopw [12] (fun i wr => ∃ k : Nat, k ≤ 2 ∧ i = .int .i64 k ∧ S51 wr B ((s.x3 m).rounds k) ∧ Step B W0 wr) (fun i _ => 2 - (intOf i).toNat)
  case atStart => exact ⟨0, by omega, by simp, h1, hS⟩
  case round =>
    obtain ⟨k, hk, rfl, hr, hs⟩ := hrel
    by_cases hlt : k < 2
    · have hd : decide ((k : Int) < 2) = true := decide_eq_true (by omega)
      have hk3 : (k : Int) < 2 := by omega
      go_wp2_with fail
      refine (round_calls B _ _ hr).mono ?_
      rintro e w2 ⟨⟨v, rfl⟩, hr2, hs2⟩
      have hs3 := hs.trans hs2
      clear hr hs hs2
      go_wp2
      go_roundw
      case rel => exact ⟨k + 1, by omega, by go_num, hr2, hs3⟩
      case measure => simp [intOf]; omega
    · obtain rfl : k = 2 := by omega
      have c0 := hr.c0; have fz := hr.fz 0
      have ev := xor_q ((s.x3 m).rounds 2).v0 m
      obtain ⟨t, ht⟩ : ∃ t, t = (s.x3 m).rounds 2 := ⟨_, rfl⟩
      rw [← ht] at hr c0 ev
      replace ht := Aside0.mk ht
      go_wp2
      go_end0
      have e : s.take m = t.x0 m := by rw [ht.out]; rfl
      rw [e]
      exact ⟨⟨_, rfl⟩, hr.p0 _, hs.trans (Step.set B 0 _ _)⟩
/-! ### words -/
theorem or_add (a : Int) (c : Int) (n : Nat) (h0 : 0 ≤ a) (h1 : a < 256 ^ n) (hc : 0 ≤ c ∧ c < 256) (hn : n < 8) : Go.bits .or .u64 a (shl .u64 (IntKind.u64.wrap c) (wrap64 (8 * (n : Int)))) = a + 256 ^ n * c := by
  have hw : wrap64 (8 * (n : Int)) = ((8 * n : Nat) : Int) := by rw [wrap64_small] <;> omega
  have hp : (256 : Int) ^ n = ((2 ^ (8 * n) : Nat) : Int) := by
    rw [Nat.pow_mul]; simp
  have hpn : (2 : Nat) ^ (8 * n) * 256 ≤ 2 ^ 64 := by
    have : 2 ^ (8 * n) * 2 ^ 8 = 2 ^ (8 * n + 8) := by rw [Nat.pow_add]
    have h3 : (2 : Nat) ^ (8 * n + 8) ≤ 2 ^ 64 := Nat.pow_le_pow_right (by decide) (by omega)
    omega
  obtain ⟨m, rfl⟩ := Int.eq_ofNat_of_zero_le h0
  obtain ⟨d, rfl⟩ := Int.eq_ofNat_of_zero_le hc.1
  rw [hp] at h1 ⊢
  have hm : m < 2 ^ (8 * n) := by exact_mod_cast h1
  have hd : d < 256 := by omega
  have hdm : 2 ^ (8 * n) * d < 2 ^ 64 := Nat.lt_of_lt_of_le (Nat.mul_lt_mul_of_pos_left hd (Nat.two_pow_pos _)) hpn
  have hmw : m < 2 ^ 64 := by have := Nat.two_pow_pos (8 * n); omega
  have e1 : ((m : Nat) : Int) = q (BitVec.ofNat 64 m) := by unfold q; rw [BitVec.toNat_ofNat, Nat.mod_eq_of_lt hmw]
  have e2 : shl .u64 (IntKind.u64.wrap ((d : Nat) : Int)) (wrap64 (8 * (n : Int))) = q (BitVec.ofNat 64 (2 ^ (8 * n) * d)) := by
    rw [hw]
    have ed : IntKind.u64.wrap ((d : Nat) : Int) = q (BitVec.ofNat 64 d) := by rw [wrap_u64]; unfold q; rw [BitVec.toNat_ofNat]; omega
    rw [ed, shl_q _ (8 * n) (by omega)]
    congr 1
    apply BitVec.eq_of_toNat_eq
    rw [BitVec.toNat_shiftLeft, BitVec.toNat_ofNat, BitVec.toNat_ofNat, Nat.shiftLeft_eq, Nat.mod_eq_of_lt (show d < 2 ^ 64 by omega), Nat.mul_comm]
  rw [e2]
  show Go.bits .or .u64 ((m : Nat) : Int) _ = _
  rw [e1, or_q, ← e1]
  unfold q
  rw [BitVec.toNat_or, BitVec.toNat_ofNat, BitVec.toNat_ofNat, Nat.mod_eq_of_lt hmw, Nat.mod_eq_of_lt hdm, Nat.or_comm, ← Nat.two_pow_add_eq_or_of_lt hm, Nat.add_comm]
  simp
theorem bytes_at {l : List Int} (hb : Bytes l) (i : Nat) (h : i < l.length) : 0 ≤ rd l (i : Int) ∧ rd l (i : Int) < 256 := by
  have hx : rd l (i : Int) = l[i] := by unfold rd; simp [h]
  rw [hx]; exact hb _ (List.getElem_mem _)
theorem le_succ (l : List Int) (i : Nat) (h : i < l.length) : le (l.take (i + 1)) = le (l.take i) + 256 ^ i * rd l (i : Int) := by
  have hx : rd l (i : Int) = l[i] := by unfold rd; simp [h]
  rw [hx, List.take_succ_eq_append_getElem h, le_append, List.length_take, Nat.min_eq_left (by omega)]
  simp [le]
set_option maxRecDepth 100000 in
set_option maxHeartbeats 2000000 in
theorem word_calls (A : Option Addr) (c : Nat) (l : List Int) (hb : Bytes l) (hl : l.length ≤ 8) (w : World) (hr : Kd.C (Kd.int .u8) w A l.length l) :
    Calls Try.prog 20 #[.slice A l.length c] w fun e w' => e = .returned (.int .u64 (le l)) ∧ w = w' := by
  go_enter Try.func20, Try.ntmps20
  go_wp2
  go_loop [3, 8] (fun o i => ∃ k : Nat, k ≤ l.length ∧ i = .int .i64 k ∧ o = .int .u64 (le (l.take k))) (fun _ i => l.length - (intOf i).toNat)
  case atStart => exact ⟨0, Nat.zero_le _, by simp, rfl⟩
  case round =>
    obtain ⟨k, hk, rfl, rfl⟩ := hrel
    by_cases hlt : k < l.length
    · obtain ⟨ad, hA, hcell⟩ := Kd.at_int hr (k : Int) (by omega) (by omega)
      subst hA
      rw [Int.toNat_natCast] at hcell
      have hx := bytes_at hb k hlt
      have hle := le_bd (l.take k) (hb.take k)
      rw [List.length_take, Nat.min_eq_left (by omega)] at hle
      have hs := le_succ l k hlt
      obtain ⟨x, hxx⟩ : ∃ x, x = rd l (k : Int) := ⟨_, rfl⟩
      obtain ⟨y, hy⟩ : ∃ y, y = le (l.take k) := ⟨_, rfl⟩
      rw [← hxx] at hx hs hcell
      rw [← hy] at hs hle ⊢
      have ho := or_add y x k hle.1 hle.2 hx (by omega)
      rw [← hs] at ho
      have e1 : IntKind.u64.wrap x = x := by rw [wrap_u64]; omega
      have e2 : wrap64 (8 * (k : Int)) = 8 * (k : Int) := by rw [wrap64_small] <;> omega
      have e3 : shl .u64 x (8 * (k : Int)) = IntKind.u64.wrap (x * 2 ^ (8 * k)) := by
        unfold shl
        have : (8 * (k : Int)).toNat = 8 * k := by omega
        rw [this, Nat.min_eq_left (by show 8 * k ≤ 64; omega)]
      rw [e1, e2, e3] at ho
      have g1 : (k : Int) < (l.length : Int) := by omega
      have g2 : (k : Int) < 8 := by omega
      have g3 : (8 * (k : Int)).toNat = 8 * k := by omega
      have g4 : IntKind.i64.wrap (8 * (k : Int)) = 8 * (k : Int) := by rw [IntKind.wrap_i64]; omega
      clear hs hy hxx e2 e3 hle
      go_wp2
      go_round
      case rel => exact ⟨k + 1, by omega, by go_num, by first | rw [← ho] | rfl | (simp [← ho])⟩
      case measure => simp [intOf]; omega
    · obtain rfl : k = l.length := by omega
      rw [List.take_of_length_le (Nat.le_refl _)]
      go_wp2
      go_ret
      exact ⟨rfl, rfl⟩
/-- the bytes of a word, the other way round, as Go says it -/
def rev1 (a0 : Int) : Int := Go.bits .or .u64 (Go.bits .and .u64 (a0 / 256) 71777214294589695) (IntKind.u64.wrap ((Go.bits .and .u64 a0 71777214294589695) * 256))
def rev2 (a0 : Int) : Int := Go.bits .or .u64 (Go.bits .and .u64 (a0 / 65536) 281470681808895) (IntKind.u64.wrap ((Go.bits .and .u64 a0 281470681808895) * 65536))
def rev3 (a0 : Int) : Int := Go.bits .or .u64 (a0 / 4294967296) (IntKind.u64.wrap (a0 * 4294967296))
set_option maxRecDepth 100000 in
theorem rev_calls (a : Int) (h : 0 ≤ a) (w : World) : Calls Try.prog 23 #[.int .u64 a] w fun e w' => e = .returned (.int .u64 (rev3 (rev2 (rev1 a)))) ∧ w = w' := by
  go_enter Try.func23, Try.ntmps23
  go_wp2
  go_ret
  exact ⟨rfl, rfl⟩
/-- the beginning's words -/
def fw : Nat → W
  | 0 => 0x736f6d6570736575#64
  | 1 => 0x646f72616e646f6d#64
  | 2 => 0x6c7967656e657261#64
  | _ => 0x7465646279746573#64
theorem bytes_ok (s : ByteArray) : Bytes (bytesOf s) := by
  intro x hx
  simp only [bytesOf, List.mem_map] at hx
  obtain ⟨b, _, rfl⟩ := hx
  have := b.toNat_lt
  omega
theorem wordS (s : ByteArray) (c : Nat) (w : World) (hs : s.size = 8) : Calls Try.prog 20 #[.slice (some ⟨w.heap.size, 0, none⟩) 8 c] (Lib.bytesWorld w 5 s) fun e w' => ∃ y, e = .returned (.int .u64 y) ∧ Aside0 (y = le (bytesOf s)) ∧ Below w.heap.size w w' ∧ w'.heap.size = w.heap.size + 1 := by
  have hr := Kd.C_of_reads (d := (0 : Int)) (h1 := fun _ => rfl) (bytes_reads w 5 s (by omega))
  have hl := bytesOf_length s
  have := word_calls (some ⟨w.heap.size, 0, none⟩) c (bytesOf s) (bytes_ok s) (by omega) (Lib.bytesWorld w 5 s) (by rw [hl]; exact hr)
  rw [hl, hs] at this
  refine this.mono fun e w' ⟨he, hw⟩ => ⟨_, he, ⟨rfl⟩, ?_, ?_⟩
  · rw [← hw]; exact bytes_below (Below.refl _ _) (Nat.le_refl _) _ _
  · rw [← hw]; exact Lib.bytesWorld_size _ _ _
set_option maxRecDepth 100000 in
theorem first0 (w : World) : Calls Try.prog 17 #[.int .i64 0] w fun e w' => e = .returned (.int .u64 (q (fw 0))) ∧ Below w.heap.size w w' ∧ Aside0 (w'.heap.size = w.heap.size + 1) := by
  have kc := fun (w : World) (s : ByteArray) => Lib.run_convert_string_bytes (P := Try.prog) w 9 23 5 s Try.underlying9 Try.underlying23 Try.underlying5
  obtain ⟨z, hz⟩ : ∃ z, z = q (fw 0) := ⟨_, rfl⟩
  rw [← hz]
  replace hz := Aside0.mk hz
  go_enter Try.func17, Try.ntmps17
  go_wp2_with fail
  clear kc
  refine (wordS _ _ _ (by decide +kernel)).mono ?_
  rintro e w1 ⟨y, rfl, hy, hb, hsz⟩
  replace hsz := Aside0.mk hsz
  have h0 : 0 ≤ y := by rw [hy.out]; exact (le_bd _ (bytes_ok _)).1
  have hv : rev3 (rev2 (rev1 y)) = z := by rw [hy.out, hz.out]; decide +kernel
  clear hy hz
  go_wp2_with fail
  refine (rev_calls y h0 _).mono ?_
  rw [hv]
  rintro e w2 ⟨rfl, rfl⟩
  clear hv
  go_wp2
  go_ret
  exact ⟨rfl, hb, hsz⟩
set_option maxRecDepth 100000 in
theorem first1 (w : World) : Calls Try.prog 17 #[.int .i64 1] w fun e w' => e = .returned (.int .u64 (q (fw 1))) ∧ Below w.heap.size w w' ∧ Aside0 (w'.heap.size = w.heap.size + 1) := by
  have kc := fun (w : World) (s : ByteArray) => Lib.run_convert_string_bytes (P := Try.prog) w 9 23 5 s Try.underlying9 Try.underlying23 Try.underlying5
  obtain ⟨z, hz⟩ : ∃ z, z = q (fw 1) := ⟨_, rfl⟩
  rw [← hz]
  replace hz := Aside0.mk hz
  go_enter Try.func17, Try.ntmps17
  go_wp2_with fail
  clear kc
  refine (wordS _ _ _ (by decide +kernel)).mono ?_
  rintro e w1 ⟨y, rfl, hy, hb, hsz⟩
  replace hsz := Aside0.mk hsz
  have h0 : 0 ≤ y := by rw [hy.out]; exact (le_bd _ (bytes_ok _)).1
  have hv : rev3 (rev2 (rev1 y)) = z := by rw [hy.out, hz.out]; decide +kernel
  clear hy hz
  go_wp2_with fail
  refine (rev_calls y h0 _).mono ?_
  rw [hv]
  rintro e w2 ⟨rfl, rfl⟩
  clear hv
  go_wp2
  go_ret
  exact ⟨rfl, hb, hsz⟩
set_option maxRecDepth 100000 in
theorem first2 (w : World) : Calls Try.prog 17 #[.int .i64 2] w fun e w' => e = .returned (.int .u64 (q (fw 2))) ∧ Below w.heap.size w w' ∧ Aside0 (w'.heap.size = w.heap.size + 1) := by
  have kc := fun (w : World) (s : ByteArray) => Lib.run_convert_string_bytes (P := Try.prog) w 9 23 5 s Try.underlying9 Try.underlying23 Try.underlying5
  obtain ⟨z, hz⟩ : ∃ z, z = q (fw 2) := ⟨_, rfl⟩
  rw [← hz]
  replace hz := Aside0.mk hz
  go_enter Try.func17, Try.ntmps17
  go_wp2_with fail
  clear kc
  refine (wordS _ _ _ (by decide +kernel)).mono ?_
  rintro e w1 ⟨y, rfl, hy, hb, hsz⟩
  replace hsz := Aside0.mk hsz
  have h0 : 0 ≤ y := by rw [hy.out]; exact (le_bd _ (bytes_ok _)).1
  have hv : rev3 (rev2 (rev1 y)) = z := by rw [hy.out, hz.out]; decide +kernel
  clear hy hz
  go_wp2_with fail
  refine (rev_calls y h0 _).mono ?_
  rw [hv]
  rintro e w2 ⟨rfl, rfl⟩
  clear hv
  go_wp2
  go_ret
  exact ⟨rfl, hb, hsz⟩
set_option maxRecDepth 100000 in
theorem first3 (w : World) : Calls Try.prog 17 #[.int .i64 3] w fun e w' => e = .returned (.int .u64 (q (fw 3))) ∧ Below w.heap.size w w' ∧ Aside0 (w'.heap.size = w.heap.size + 1) := by
  have kc := fun (w : World) (s : ByteArray) => Lib.run_convert_string_bytes (P := Try.prog) w 9 23 5 s Try.underlying9 Try.underlying23 Try.underlying5
  obtain ⟨z, hz⟩ : ∃ z, z = q (fw 3) := ⟨_, rfl⟩
  rw [← hz]
  replace hz := Aside0.mk hz
  go_enter Try.func17, Try.ntmps17
  go_wp2_with fail
  clear kc
  refine (wordS _ _ _ (by decide +kernel)).mono ?_
  rintro e w1 ⟨y, rfl, hy, hb, hsz⟩
  replace hsz := Aside0.mk hsz
  have h0 : 0 ≤ y := by rw [hy.out]; exact (le_bd _ (bytes_ok _)).1
  have hv : rev3 (rev2 (rev1 y)) = z := by rw [hy.out, hz.out]; decide +kernel
  clear hy hz
  go_wp2_with fail
  refine (rev_calls y h0 _).mono ?_
  rw [hv]
  rintro e w2 ⟨rfl, rfl⟩
  clear hv
  go_wp2
  go_ret
  exact ⟨rfl, hb, hsz⟩
theorem first_any (i : Int) (h0 : 0 ≤ i) (h1 : i < 4) (w : World) : Calls Try.prog 17 #[.int .i64 i] w fun e w' => e = .returned (.int .u64 (q (fw i.toNat))) ∧ Below w.heap.size w w' ∧ Aside0 (w'.heap.size = w.heap.size + 1) := by
  have : i = 0 ∨ i = 1 ∨ i = 2 ∨ i = 3 := by omega
  rcases this with rfl | rfl | rfl | rfl
  · exact first0 w
  · exact first1 w
  · exact first2 w
  · exact first3 w
end Go.Proofs.Ytecdfejhidnedaa.Sip
