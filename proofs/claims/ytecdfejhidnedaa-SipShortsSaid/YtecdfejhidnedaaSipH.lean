/- The hash of a text, as the program does it: what the call comes to. -/
import Derived.Test.YtecdfejhidnedaaSipC
import Derived.Test.YtecdfejhidnedaaSipT
import Derived.Deep.RegionHeld3
import Derived.RegionIn
set_option linter.unusedVariables false
set_option linter.unusedSimpArgs false
namespace Go.Proofs.Ytecdfejhidnedaa.Sip
open Go.RowKit Go.Shelf Go.Proofs.YtecdfejhidnedaaW.PrintWords Go.Proofs.Ytecdfejhidnedaa Go.Proofs.Ytecdfejhidnedaa.Bits Go.Proofs.Ytecdfejhidnedaa.Chunk
attribute [local go_sem] Oper.semAt_some
theorem below_to {B : Nat} {w w1 w2 : World} (h : Below B w w1) (hB : B ≤ w1.heap.size) (k : Below w1.heap.size w1 w2) : Below B w w2 := below_then h hB k
/-- what is held of a world while the beginning's words are reckoned -/
theorem held_of {w W w' : World} {u v : Value} (hb : Below W.heap.size W w') (h : W.cell? ⟨w.heap.size, 0, none⟩ = some u ∧ W.cell? ⟨w.heap.size, 1, none⟩ = some v ∧ Below w.heap.size w W ∧ w.heap.size + 1 ≤ W.heap.size) :
    w'.cell? ⟨w.heap.size, 0, none⟩ = some u ∧ w'.cell? ⟨w.heap.size, 1, none⟩ = some v ∧ Below w.heap.size w w' ∧ w.heap.size + 1 ≤ w'.heap.size :=
  ⟨(hb.cell (p := ⟨w.heap.size, 0, none⟩) h.2.2.2).trans h.1, (hb.cell (p := ⟨w.heap.size, 1, none⟩) h.2.2.2).trans h.2.1, below_to h.2.2.1 (Nat.le_of_succ_le h.2.2.2) hb, Nat.le_trans h.2.2.2 hb.size⟩
theorem held_alloc {w W : World} {u v : Value} (o : Obj) (h : W.cell? ⟨w.heap.size, 0, none⟩ = some u ∧ W.cell? ⟨w.heap.size, 1, none⟩ = some v ∧ Below w.heap.size w W ∧ w.heap.size + 1 ≤ W.heap.size) :
    (W.alloc o).cell? ⟨w.heap.size, 0, none⟩ = some u ∧ (W.alloc o).cell? ⟨w.heap.size, 1, none⟩ = some v ∧ Below w.heap.size w (W.alloc o) ∧ w.heap.size + 1 ≤ (W.alloc o).heap.size :=
  held_of (below_alloc (Below.refl _ _) o) h
theorem held_set {w W : World} {u v : Value} {b : Nat} (x : Value) (hb : w.heap.size + 1 ≤ b) (h : W.cell? ⟨w.heap.size, 0, none⟩ = some u ∧ W.cell? ⟨w.heap.size, 1, none⟩ = some v ∧ Below w.heap.size w W ∧ w.heap.size + 1 ≤ W.heap.size) :
    (W.setCell ⟨b, 0, none⟩ x).cell? ⟨w.heap.size, 0, none⟩ = some u ∧ (W.setCell ⟨b, 0, none⟩ x).cell? ⟨w.heap.size, 1, none⟩ = some v ∧ Below w.heap.size w (W.setCell ⟨b, 0, none⟩ x) ∧ w.heap.size + 1 ≤ (W.setCell ⟨b, 0, none⟩ x).heap.size := by
  have ne : ∀ o : Nat, (⟨b, 0, none⟩ : Addr) ≠ ⟨w.heap.size, o, none⟩ := fun o e => by injection e with e; omega
  refine ⟨?_, ?_, h.2.2.1.setCell (p := ⟨b, 0, none⟩) (by simp; omega) x, by simpa [World.setCell] using h.2.2.2⟩
  · rw [World.cell?_setCell_far _ _ _ _ (by simp; omega)]; exact h.1
  · rw [World.cell?_setCell_far _ _ _ _ (by simp; omega)]; exact h.2.1
theorem bcell' {W w1 : World} (hb : Below W.heap.size W w1) : (∀ b o, b < W.heap.size → w1.cell? ⟨b, o, none⟩ = W.cell? ⟨b, o, none⟩) ∧ (∀ b o, b < W.heap.size → w1.frozen? ⟨b, o, none⟩ = W.frozen? ⟨b, o, none⟩) :=
  ⟨fun b o h => hb.cell (p := ⟨b, o, none⟩) h, fun b o h => hb.frozen (p := ⟨b, o, none⟩) h⟩
theorem lt_rule {m n : Nat} (h : m ≤ n) : ∀ b, b < m → b < n := fun _ hb => Nat.lt_of_lt_of_le hb h
/-- what stands when the state is made -/
def Made (w : World) (k0 k1 : Sip.W) (Bp Bs : Nat) (W : World) : Prop := W.cell? ⟨Bp, 0, none⟩ = some (.pointer (some ⟨Bs, 0, none⟩)) ∧ S51 W Bs ⟨k0 ^^^ fw 0, k1 ^^^ fw 1, k0 ^^^ fw 2, k1 ^^^ fw 3⟩ ∧ Below w.heap.size w W ∧ w.heap.size + 1 ≤ Bp ∧ w.heap.size + 1 ≤ Bs ∧ Bp ≠ Bs ∧ Bp < W.heap.size ∧ Bs < W.heap.size
abbrev stO (k0 k1 : Sip.W) : Obj := .cells #[.int .u64 (q (k0 ^^^ fw 0)), .int .u64 (q (k1 ^^^ fw 1)), .int .u64 (q (k0 ^^^ fw 2)), .int .u64 (q (k1 ^^^ fw 3))] 51
section
variable {w W : World} {u v : Value} {k0 k1 : Sip.W}
theorem fin1 {Bp Bs : Nat} (h : W.cell? ⟨w.heap.size, 0, none⟩ = some u ∧ W.cell? ⟨w.heap.size, 1, none⟩ = some v ∧ Below w.heap.size w W ∧ w.heap.size + 1 ≤ W.heap.size) (hs : Bs = W.heap.size) (h0 : w.heap.size + 1 ≤ Bp) (h1 : Bp < Bs) (hc : (W.cell? ⟨Bp, 0, none⟩).isSome = true) :
    Made w k0 k1 Bp Bs ((W.setCell ⟨Bp, 0, none⟩ (.pointer (some ⟨Bs, 0, none⟩))).alloc (stO k0 k1)) := by
  obtain ⟨x, hx⟩ := Option.isSome_iff_exists.1 hc
  have hsz : (W.setCell ⟨Bp, 0, none⟩ (.pointer (some ⟨Bs, 0, none⟩))).heap.size = W.heap.size := by simp [World.setCell]
  refine ⟨?_, ?_, ?_, h0, by omega, by omega, by rw [World.size_alloc]; omega, by rw [World.size_alloc]; omega⟩
  · exact ((below_alloc (Below.refl _ (W.setCell ⟨Bp, 0, none⟩ (.pointer (some ⟨Bs, 0, none⟩)))) (stO k0 k1)).cell (p := ⟨Bp, 0, none⟩) (by rw [hsz]; show Bp < _; omega)).trans (World.cell?_setCell_same' _ _ _ (by rw [hx]; rfl))
  · have := World.alloc_heap_new (W.setCell ⟨Bp, 0, none⟩ (.pointer (some ⟨Bs, 0, none⟩))) (stO k0 k1)
    rw [hsz, ← hs] at this
    exact this
  · exact (h.2.2.1.setCell (p := ⟨Bp, 0, none⟩) (by simp only; omega) _).alloc (by rw [hsz]; omega) _
theorem fin2 {Bp Bs : Nat} (h : W.cell? ⟨w.heap.size, 0, none⟩ = some u ∧ W.cell? ⟨w.heap.size, 1, none⟩ = some v ∧ Below w.heap.size w W ∧ w.heap.size + 1 ≤ W.heap.size) (hp : Bp = W.heap.size) (hs : Bs = W.heap.size + 1) :
    Made w k0 k1 Bp Bs ((W.alloc (.cells #[.pointer (some ⟨Bs, 0, none⟩)] 48)).alloc (stO k0 k1)) := by
  subst hp
  refine ⟨?_, ?_, ((h.2.2.1.alloc (by omega) _).alloc (by simp; omega) _), by omega, by omega, by omega, by rw [World.size_alloc, World.size_alloc]; omega, by rw [World.size_alloc, World.size_alloc]; omega⟩
  · exact ((below_alloc (Below.refl _ (W.alloc (.cells #[.pointer (some ⟨Bs, 0, none⟩)] 48))) (stO k0 k1)).cell (p := ⟨W.heap.size, 0, none⟩) (by rw [World.size_alloc]; show W.heap.size < _; omega)).trans (by rw [World.cell?_alloc_new]; rfl)
  · unfold S51
    have := World.alloc_heap_new (W.alloc (.cells #[.pointer (some ⟨Bs, 0, none⟩)] 48)) (stO k0 k1)
    rw [World.size_alloc, ← hs] at this
    exact this
theorem fin3 {Bp Bs : Nat} (h : W.cell? ⟨w.heap.size, 0, none⟩ = some u ∧ W.cell? ⟨w.heap.size, 1, none⟩ = some v ∧ Below w.heap.size w W ∧ w.heap.size + 1 ≤ W.heap.size) (hp : Bp = W.heap.size + 1) (hs : Bs = W.heap.size) :
    Made w k0 k1 Bp Bs ((W.alloc (stO k0 k1)).alloc (.cells #[.pointer (some ⟨Bs, 0, none⟩)] 48)) := by
  subst hs
  refine ⟨?_, ?_, ((h.2.2.1.alloc (by omega) _).alloc (by simp; omega) _), by omega, by omega, by omega, by rw [World.size_alloc, World.size_alloc]; omega, by rw [World.size_alloc, World.size_alloc]; omega⟩
  · have e : Bp = (W.alloc (stO k0 k1)).heap.size := by rw [World.size_alloc]; exact hp
    rw [e, World.cell?_alloc_new]; rfl
  · unfold S51
    rw [(below_alloc (Below.refl (W.alloc (stO k0 k1)).heap.size (W.alloc (stO k0 k1))) _).block _ (by simp)]
    exact World.alloc_heap_new W _
end
/-- the frame then -/
def frm (k0 k1 : Sip.W) (A : Option Addr) (c : Nat) (l : List Int) (n : Nat) (Bp Bs : Nat) : Act :=
  { tmps := #[.agg #[.int .u64 (q k0), .int .u64 (q k1)], .slice A l.length c, .pointer (some ⟨n, 0, none⟩), undef, .int .u64 0, .pointer (some ⟨Bp, 0, none⟩), undef, undef,
      .pointer (some ⟨n, 0, none⟩), .int .u64 (q k0), .int .u64 (q (fw 0)), .int .u64 (q (k0 ^^^ fw 0)), .pointer (some ⟨n, 1, none⟩), .int .u64 (q k1), .int .u64 (q (fw 1)), .int .u64 (q (k1 ^^^ fw 1)),
      .pointer (some ⟨n, 0, none⟩), .int .u64 (q k0), .int .u64 (q (fw 2)), .int .u64 (q (k0 ^^^ fw 2)), .pointer (some ⟨n, 1, none⟩), .int .u64 (q k1), .int .u64 (q (fw 3)), .int .u64 (q (k1 ^^^ fw 3)),
      .agg #[.int .u64 (q (k0 ^^^ fw 0)), .int .u64 (q (k1 ^^^ fw 1)), .int .u64 (q (k0 ^^^ fw 2)), .int .u64 (q (k1 ^^^ fw 3))], .pointer (some ⟨Bs, 0, none⟩),
      undef, undef, undef, undef, undef, undef, undef, undef, undef, undef, undef, undef, undef, undef, undef, undef, undef, undef, undef, undef, undef, undef, undef, undef, undef, undef, undef, undef, undef, undef, undef, undef, undef, undef, undef, undef, undef, undef, undef, undef, undef, undef, undef, undef, undef, undef, undef, undef, undef, undef, undef, undef, undef, undef, undef, undef, undef], defers := [] }
def Cut (w : World) (k0 k1 : Sip.W) (A : Option Addr) (c : Nat) (l : List Int) (e : Exit) (a : Act) (W : World) : Prop := e = .normal ∧ ∃ Bp Bs, a = frm k0 k1 A c l w.heap.size Bp Bs ∧ Made w k0 k1 Bp Bs W
theorem C_part {A : Option Addr} {c x : Nat} {l : List Int} {W : World} (h : Kd.C (Kd.int .u8) W A l.length l) (hx : 8 * x + 8 ≤ l.length) (hc : l.length ≤ c) :
    Kd.C (Kd.int .u8) W (A.map fun ad => ad.add (8 * x)) ((l.drop (8 * x)).take 8).length ((l.drop (8 * x)).take 8) := by
  have h1 := Kd.C_drop (m := 8 * x) (c := c) h (by omega) hc
  rw [if_neg (by omega)] at h1
  have h2 := Kd.C_take (m := 8) h1 (by rw [List.length_drop]; omega)
  have e : (Kd.int .u8).sz = 1 := rfl
  rw [e, Nat.mul_one] at h2
  exact h2
/-- the state behind some words -/
def foldS (l : List Int) (s : St) {N : Nat} (pre : List (Fin N)) : St := pre.foldl (fun s x => s.take (lw l x.val)) s
theorem foldS_snoc (l : List Int) (s : St) {N : Nat} (pre : List (Fin N)) (x : Fin N) : foldS l s (pre ++ [x]) = (foldS l s pre).take (lw l x.val) := by simp [foldS]
theorem foldS_upto (l : List Int) (s : St) {N : Nat} : ∀ k, k ≤ N → foldS l s (upto N k) = steps l s k
  | 0, _ => rfl
  | k + 1, h => by rw [upto_succ (show k < N by omega), foldS_snoc, foldS_upto l s k (by omega)]; rfl
theorem last_or (l : List Int) (hb : Bytes l) : Go.bits .or .u64 (le (l.drop (8 * (l.length / 8)))) (IntKind.u64.wrap ((l.length : Int) * 72057594037927936)) = q (lastw l) := by
  have hle := le7 (hb.drop (8 * (l.length / 8))) (by rw [List.length_drop]; omega)
  have ho := or_add (le (l.drop (8 * (l.length / 8)))) ((l.length % 256 : Nat) : Int) 7 hle.1 (by have : (256 : Int) ^ 7 = 72057594037927936 := by decide
                                                                                                  omega) (by omega) (by omega)
  have e1 : wrap64 (8 * ((7 : Nat) : Int)) = 56 := by rw [wrap64_small (by omega) (by omega)]; rfl
  have e2 : shl .u64 (IntKind.u64.wrap ((l.length % 256 : Nat) : Int)) 56 = IntKind.u64.wrap ((l.length : Int) * 72057594037927936) := by
    have : shl .u64 (IntKind.u64.wrap ((l.length % 256 : Nat) : Int)) 56 = IntKind.u64.wrap (IntKind.u64.wrap ((l.length % 256 : Nat) : Int) * 72057594037927936) := rfl
    rw [this, wrap_u64, wrap_u64, wrap_u64]; omega
  rw [e1, e2] at ho
  rw [ho, lastw_q hb]
  have : (256 : Int) ^ 7 = 72057594037927936 := by decide
  rw [this]; omega
theorem word_rest (A : Option Addr) (c : Nat) (l : List Int) (hb : Bytes l) (hc : l.length ≤ c) (V : World) (hC : Kd.C (Kd.int .u8) V A l.length l) (A' : Option Addr) (c' : Nat) (hA : A' = if c = 8 * (l.length / 8) then A else A.map (·.add (8 * (l.length / 8)))) :
    Calls Try.prog 20 #[.slice A' (l.length - 8 * (l.length / 8)) c'] V fun e w' => e = .returned (.int .u64 (le (l.drop (8 * (l.length / 8))))) ∧ w' = V := by
  have h1 := Kd.C_drop (m := 8 * (l.length / 8)) (c := c) hC (by omega) hc
  have e : (Kd.int .u8).sz = 1 := rfl
  rw [e, Nat.mul_one, ← hA] at h1
  have := word_calls A' c' (l.drop (8 * (l.length / 8))) (hb.drop _) (by rw [List.length_drop]; omega) V h1
  rw [List.length_drop] at this
  exact this.mono fun _ _ ⟨a, b⟩ => ⟨a, b.symm⟩
theorem keeps_step {B : Nat} {W W' : World} (h : Step B W W') (hb : ∃ o : Obj, W.heap[B]? = some o ∧ o.isCells = true) : KeepsOthers W W' := by
  obtain ⟨o, ho, hc⟩ := hb
  exact KeepsOthers.of_grownBy h.1 (fun j o' e ho' => by cases e; rw [ho] at ho'; cases ho'; exact hc)
theorem step_cell {B : Nat} {W W' : World} (h : Step B W W') {b o : Nat} (hne : b ≠ B) {u : Value} (hu : W.cell? ⟨b, o, none⟩ = some u) : W'.cell? ⟨b, o, none⟩ = some u := h.1.cell hu (by simpa using hne)
theorem step_below {B n : Nat} {w W W' : World} (hb : Below n w W) (h : Step B W W') (hn : n ≤ B) (hW : n ≤ W.heap.size) : Below n w W' := hb.grown h.1 hW (fun k e => by cases e; exact hn)
theorem zvp (w : World) : (zeroValue 48).run Try.prog w = .ok (.pointer none) w := by kernel_rfl
set_option maxRecDepth 100000 in
set_option maxHeartbeats 4000000 in
theorem hash_calls (k0 k1 : W) (A : Option Addr) (c : Nat) (l : List Int) (hb : Bytes l) (w : World) (hr : Kd.C (Kd.int .u8) w A l.length l) (hc : l.length ≤ c) (hcap : l.length ≤ 140737488351232) :
    Calls Try.prog 8 #[.agg #[.int .u64 (q k0), .int .u64 (q k1)], .slice A l.length c] w fun e w' => e = .returned (.int .u64 (q (hash k0 k1 l))) ∧ Below w.heap.size w w' := by
  have hz := zvp
  refine (callsIn_wide (n := 5)).1 ?_
  refine callsIn_of_wp_marks Try.func8 rfl trivial ?_ rfl
  simp only [Try.ntmps8, List.size_toArray, List.length_cons, List.length_nil, Nat.reduceAdd, Nat.reduceSub, Array.replicate_succ, Array.replicate_zero, List.push_toArray, List.append_toArray, List.nil_append, List.cons_append]
  gi_wp2
  refine wpIn_wide.2 ?_
  have b0 : (w.alloc (.cells #[.int .u64 (q k0), .int .u64 (q k1)] 27)).cell? ⟨w.heap.size, 0, none⟩ = some (.int .u64 (q k0)) := by simp
  have b1 : (w.alloc (.cells #[.int .u64 (q k0), .int .u64 (q k1)] 27)).cell? ⟨w.heap.size, 1, none⟩ = some (.int .u64 (q k1)) := by simp
  have x0 := xor_q k0 (fw 0); have x1 := xor_q k1 (fw 1); have x2 := xor_q k0 (fw 2); have x3 := xor_q k1 (fw 3)
  have hB0 : Below w.heap.size w (w.alloc (.cells #[.int .u64 (q k0), .int .u64 (q k1)] 27)).drew := pw_below_drewN (below_alloc (Below.refl _ _) _) 1
  have hs0 : w.heap.size + 1 ≤ (w.alloc (.cells #[.int .u64 (q k0), .int .u64 (q k1)] 27)).drew.heap.size := by simp
  refine Code.wp_mono (Q := Cut w k0 k1 A c l) ?rest ?_
  case rest =>
    rintro e a W ⟨rfl, Bp, Bs, rfl, hF⟩
    have hwhole : (l.length : Int) - (l.length : Int) % 8 = ((8 * (l.length / 8) : Nat) : Int) := by omega
    have hcp : ((8 * (l.length / 8) : Nat) : Int) ≤ (c : Int) := by omega
    have hln : (l.length : Int) ≤ 140737488351232 := by omega
    have hF1 := hF.1
    clear b0 b1 x0 x1 x2 x3 hB0 hs0
    unfold frm
    gi_wp2_with (refine ⟨trivial, ?_⟩; gi_at_call 18; refine (chunk_in 4 _ _ _ _).mono ?_; rintro e w' ⟨rfl, rfl⟩)
    have hFb := hF.2.2.1
    obtain ⟨hF1, hF2, _, hF4, hF5, hF6, hF7, hF8⟩ := hF
    have hB1 : Below w.heap.size w ((W.alloc (.cells #[.slice A (8 * (l.length / 8)) c] 23)).alloc (.cells #[.int .i64 8] 3)) := (hFb.alloc (by omega) _).alloc (by simp; omega) _
    have bx0 := Boxed.new W 23 (.slice A (8 * (l.length / 8)) c)
    have bx1 := Boxed.new (W.alloc (.cells #[.slice A (8 * (l.length / 8)) c] 23)) 3 (.int .i64 8)
    rw [World.size_alloc] at bx1
    have hA : 0 < l.length / 8 → ∃ ad, A = some ad := fun h => by
      obtain ⟨ad, e, _⟩ := Kd.at_int hr 0 (by omega) (by omega)
      exact ⟨ad, e⟩
    refine wpIn_rangeFunc_ownG rfl (by decide) (gf := 24) (lb := #[.pointer (some ⟨W.heap.size, 0, none⟩), .pointer (some ⟨W.heap.size + 1, 0, none⟩)]) rfl trivial (enters_of Try.func24 (by kernel_rfl) rfl)
      (chunk_stops 4 (by decide) W.heap.size (W.heap.size + 1) w.heap.size c (l.length / 8) A (by omega) (by omega) hA _ (by simp; omega) (by simp) (by simp; omega) (bx0.alloc _).cell bx1.cell) Kp.trans (Kp.b (by simp; omega)) (Below.refl _ _) (fun _ => rfl)
      (fun pre V => (V.cell? ⟨Bp, 0, none⟩ = some (.pointer (some ⟨Bs, 0, none⟩)) ∧ S51 V Bs (foldS l ⟨k0 ^^^ fw 0, k1 ^^^ fw 1, k0 ^^^ fw 2, k1 ^^^ fw 3⟩ pre)) ∧ Below w.heap.size w V)
      (fun _ _ _ => False)
      (OwnFrom.and (Own.from (fun s A B row hs hg hr => ⟨cell_kept hs.1 hg hr, (hg.block Bs (blk_lt hs.2) (fun e => by obtain ⟨o, ho, hc⟩ := hr Bs e.symm; have := hs.2; unfold S51 at this; rw [ho] at this; cases this; cases hc)).trans hs.2⟩) _) (ownFrom_below (Nat.le_refl _) (by simp; omega)))
      (fun _ _ _ _ _ hs _ _ => hs)
      ⟨⟨((World.cell?_alloc_past _ _ _ (by simp; omega)).trans ((World.cell?_alloc_past _ _ _ (by omega)).trans hF1)), ((below_alloc (Below.refl _ _) _).block _ (by simp; omega)).trans (((below_alloc (Below.refl _ _) _).block _ hF8).trans hF2)⟩, hB1⟩
      (fun y => { tmps := #[.agg #[.int .u64 (q k0), .int .u64 (q k1)], .slice A l.length c, .pointer (some ⟨w.heap.size, 0, none⟩), undef, .int .u64 0, .pointer (some ⟨Bp, 0, none⟩), .int .i64 (8 * ((l.length : Int) / 8)), Chunk.part A y.val, .pointer (some ⟨w.heap.size, 0, none⟩), .int .u64 (q k0), .int .u64 (q (fw 0)), .int .u64 (q (k0 ^^^ fw 0)), .pointer (some ⟨w.heap.size, 1, none⟩), .int .u64 (q k1), .int .u64 (q (fw 1)), .int .u64 (q (k1 ^^^ fw 1)), .pointer (some ⟨w.heap.size, 0, none⟩), .int .u64 (q k0), .int .u64 (q (fw 2)), .int .u64 (q (k0 ^^^ fw 2)), .pointer (some ⟨w.heap.size, 1, none⟩), .int .u64 (q k1), .int .u64 (q (fw 3)), .int .u64 (q (k1 ^^^ fw 3)), .agg #[.int .u64 (q (k0 ^^^ fw 0)), .int .u64 (q (k1 ^^^ fw 1)), .int .u64 (q (k0 ^^^ fw 2)), .int .u64 (q (k1 ^^^ fw 3))], .pointer (some ⟨Bs, 0, none⟩), .slice A l.length c, .int .i64 l.length, .slice A l.length c, .int .i64 l.length, .int .i64 ((l.length : Int) % 8), .int .i64 (8 * ((l.length : Int) / 8)), .slice A l.length c, .int .i64 (8 * ((l.length : Int) / 8)), .slice A (8 * (l.length / 8)) c, .func (.func 24) #[] #[.pointer (some ⟨W.heap.size, 0, none⟩), .pointer (some ⟨W.heap.size + 1, 0, none⟩)], Chunk.part A y.val, undef, undef, undef, undef, undef, undef, undef, undef, undef, undef, undef, undef, undef, undef, undef, undef, undef, undef, undef, undef, undef, undef, undef, undef, undef, undef, undef, undef, undef, undef, undef, undef, undef, undef, undef, undef, undef, undef, undef, undef, undef, undef, undef, undef, undef, undef], defers := [] }) ?assign ?body ?done ?stop
    case assign =>
      intro l_ y W_ K hK
      gi_wp2
      exact hK
    case body =>
      rintro l_ pre y V ⟨⟨hx, hs⟩, hB⟩ _
      have hy := y.2
      have hCv := Kd.C_below hr hB
      have hlen : ((l.drop (8 * y.val)).take 8).length = 8 := by rw [List.length_take, List.length_drop]; omega
      have hw : ∀ V' : World, Kd.C (Kd.int .u8) V' A l.length l → Calls Try.prog 20 #[.slice (A.map fun ad => ad.add (8 * y.val)) 8 8] V' fun e w' => e = .returned (.int .u64 (q (lw l y.val))) ∧ V' = w' := by
        intro V' hC
        have := word_calls (A.map fun ad => ad.add (8 * y.val)) 8 ((l.drop (8 * y.val)).take 8) ((hb.drop _).take _) (by omega) V' (C_part hC (by omega) hc)
        rw [hlen, ← lw_q hb] at this
        exact this
      have hs1 : S51 V.drew Bs (foldS l ⟨k0 ^^^ fw 0, k1 ^^^ fw 1, k0 ^^^ fw 2, k1 ^^^ fw 3⟩ pre) := hs
      have hx1 : V.drew.cell? ⟨Bp, 0, none⟩ = some (.pointer (some ⟨Bs, 0, none⟩)) := hx
      have hC1 := Kd.C_drew hCv
      have hB2 : Below w.heap.size w V.drew := pw_below_drewN hB 1
      dsimp only [Chunk.part]
      gi_wp2
      gi_region_with (first | (refine ⟨trivial, ?_⟩; gi_at_call 20; refine (CallsIn.inRound l_ (callsIn_wide.2 (hw _ hC1))).mono ?_; rintro e w' ⟨rfl, rfl⟩) | (refine ⟨trivial, ?_⟩; gi_at_call 19; refine (CallsIn.inRound l_ (callsIn_wide.2 (take_calls Bs _ (lw l y.val) _ hs1))).mono ?_; rintro e w' ⟨⟨v, rfl⟩, hs2, hst⟩))
      all_goals
        gi_wp2
        have kk0 : KeepsOthers V V.drew := ⟨Nat.le_refl _, fun _ _ h _ => h⟩
        refine ⟨(kk0.trans (keeps_step hst ⟨_, hs1, rfl⟩)).from _, ⟨step_below (pw_below_drewN (Below.refl _ V) 1) hst (by omega) (Nat.le_trans hB.size (Nat.le_refl _)), fun u hu => step_cell hst (by omega) hu, fun u hu => step_cell hst (by omega) hu⟩, ⟨step_cell hst (by omega) hx1, by rw [foldS_snoc]; exact hs2⟩, step_below hB2 hst (by omega) hB2.size⟩
    case done =>
      rintro D ys V hD rfl ⟨⟨hx, hs⟩, hB⟩ hK
      rw [foldS_upto _ _ _ (Nat.le_refl _)] at hs
      have hCv := Kd.C_below hr hB
      have hDs : D ≠ Bs := by simp at hD; omega
      have hDlt := blk_lt hK
      obtain ⟨s1, hs1⟩ : ∃ s1, s1 = steps l ⟨k0 ^^^ fw 0, k1 ^^^ fw 1, k0 ^^^ fw 2, k1 ^^^ fw 3⟩ (l.length / 8) := ⟨_, rfl⟩
      rw [← hs1] at hs
      have hle := le7 (hb.drop (8 * (l.length / 8))) (by rw [List.length_drop]; omega)
      have hor := last_or l hb
      have hw2 := word_rest A c l hb hc
      obtain ⟨y, hy⟩ : ∃ y, y = le (l.drop (8 * (l.length / 8))) := ⟨_, rfl⟩
      rw [← hy] at hle hor hw2
      have hfin : hash k0 k1 l = (((s1.take (lastw l)).x2).rounds 4).out := by rw [hs1]; rfl
      clear hs1 hy
      have hx2 : V.drew.cell? ⟨Bp, 0, none⟩ = some (.pointer (some ⟨Bs, 0, none⟩)) := hx
      have hC1 := Kd.C_drew hCv
      have g1 : (0 : Int) ≤ 8 * ((l.length : Int) / 8) := by omega
      have g2 : 8 * ((l.length : Int) / 8) ≤ (l.length : Int) := by omega
      have g3 : (l.length : Int) ≤ (c : Int) := by omega
      have g4 : (8 * ((l.length : Int) / 8)).toNat = 8 * (l.length / 8) := by omega
      have g5 : IntKind.u64.wrap (l.length : Int) = (l.length : Int) := by rw [wrap_u64]; omega
      dsimp only
      gi_wp2
      refine wpIn_wide.2 ?_
      have hsV : S51 V.drew Bs s1 := hs
      have hKd : V.drew.heap[D]? = some (.deferred (some [])) := hK
      have hBd : Below w.heap.size w V.drew := pw_below_drewN hB 1
      go_still_tail 10, (by kernel_rfl)
      still_call (hw2 _ hC1 _ _ rfl)
      repeat still_step
      refine wpStill_nil ?_
      change wpList _ _ _ _ _ V.drew
      generalize (if c = 8 * (l.length / 8) then A else Option.map (fun x => x.add (8 * (l.length / 8))) A) = A9
      clear hx hs hB hK hCv hC1 hw2 hor hle hF1 hF2 hFb hB1 bx0 bx1 hr
      generalize V.drew = V1 at *
      go_wp2_with fail
      refine (take_calls Bs s1 (lastw l) V1 hsV).mono ?_
      rintro e V2 ⟨⟨v, rfl⟩, hs2, hst⟩
      have hx3 := step_cell hst (b := Bp) (o := 0) (by omega) hx2
      have hK3 : V2.heap[D]? = some (.deferred (some [])) := (hst.1.block D (blk_lt hKd) (by simpa using hDs)).trans hKd
      have hB3 := step_below hBd hst (by omega) hBd.size
      clear hst hsV hx2 hKd hBd
      obtain ⟨s2, hs2'⟩ : ∃ s2, s2 = s1.take (lastw l) := ⟨_, rfl⟩
      rw [← hs2'] at hs2 hfin
      replace hs2' := Aside0.mk hs2'
      replace hfin := Aside0.mk hfin
      have c2 := hs2.c2
      have f2 := hs2.fz 2
      have ev : Go.bits .xor .u64 (q s2.v2) 255 = q (s2.v2 ^^^ 255#64) := xor_q s2.v2 255#64
      go_wp2
      gi_wp2
      have hs4 : S51 (V2.setCell ⟨Bs, 2, none⟩ (.int .u64 (q (s2.v2 ^^^ 255#64)))) Bs s2.x2 := hs2.p2 _
      have hS4 := Step.set Bs 2 V2 (.int .u64 (q (s2.v2 ^^^ 255#64)))
      have hx4 := step_cell hS4 (b := Bp) (o := 0) (by omega) hx3
      have hK4 : (V2.setCell ⟨Bs, 2, none⟩ (.int .u64 (q (s2.v2 ^^^ 255#64)))).heap[D]? = some (.deferred (some [])) := (hS4.1.block D (blk_lt hK3) (by simpa using hDs)).trans hK3
      have hB4 := step_below hB3 hS4 (by omega) hB3.size
      clear c2 f2 ev hS4 hx3 hK3 hB3
      gi_loopw [59] (fun i wr => ∃ k : Nat, k ≤ 4 ∧ i = .int .i64 k ∧ S51 wr Bs (s2.x2.rounds k) ∧ wr.cell? ⟨Bp, 0, none⟩ = some (.pointer (some ⟨Bs, 0, none⟩)) ∧ wr.heap[D]? = some (.deferred (some [])) ∧ Below w.heap.size w wr) (fun i _ => 4 - (intOf i).toNat)
      case atStart => exact ⟨0, by omega, by simp, hs4, hx4, hK4, hB4⟩
      case round =>
        obtain ⟨k, hk, rfl, h1, h2, h3, h4⟩ := hrel
        clear hs4 hx4 hK4 hB4 hs2
        by_cases hlt : k < 4
        · have hd : decide ((k : Int) < 4) = true := decide_eq_true (by omega)
          have hk3 : (k : Int) < 4 := by omega
          gi_wp2_with (refine ⟨trivial, ?_⟩; gi_at_call 21; refine (callsIn_wide.2 (round_calls Bs _ _ h1)).mono ?_; rintro e w' ⟨⟨v, rfl⟩, g1', g2'⟩)
          go_roundw
          case rel => exact ⟨k + 1, by omega, by go_num, g1', step_cell g2' (by omega) h2, (g2'.1.block D (blk_lt h3) (by simpa using hDs)).trans h3, step_below h4 g2' (by omega) h4.size⟩
          case measure => simp [intOf]; omega
        · obtain rfl : k = 4 := by omega
          obtain ⟨t, ht⟩ : ∃ t, t = s2.x2.rounds 4 := ⟨_, rfl⟩
          replace hfin := hfin.out
          rw [← ht] at h1 hfin
          clear ht hs2'
          have hfinA := Aside0.mk hfin
          clear hfin
          have c0 := h1.c0; have c1 := h1.c1; have c2 := h1.c2; have c3 := h1.c3
          have e1 := xor_q t.v0 t.v1
          have e2 := xor_q (t.v0 ^^^ t.v1) t.v2
          have e3 := xor_q (t.v0 ^^^ t.v1 ^^^ t.v2) t.v3
          gi_wp2
          refine wpIn_wide.2 ?_
          go_quiet (fail)
          rename_i nq
          have hK5 : (wr.drewN nq).heap[D]? = some (.deferred (some [])) := h3
          have hB5 : Below w.heap.size w (wr.drewN nq) := pw_below_drewN h4 _
          clear c0 c1 c2 c3 e1 e2 e3 h1 h2 h3 h4
          generalize wr.drewN nq = V5 at *
          gi_wp2
          refine ⟨by simp, .inl ⟨_, _, rfl, run_takeDeferred hK5, ?_⟩⟩
          exact ⟨_, results_tmp rfl _ _ _, by rw [hfinA.out]; rfl, hB5.trans (belowK_b (w := w) (Nat.le_refl _) V5 D _ _ (by simp at hD; omega) hK5 rfl rfl)⟩
    case stop =>
      rintro D c_ pre V _ _ h _
      exact h.elim
  go_region_held3 (fun w' => w'.cell? ⟨w.heap.size, 0, none⟩ = some (.int .u64 (q k0)) ∧ w'.cell? ⟨w.heap.size, 1, none⟩ = some (.int .u64 (q k1)) ∧ Below w.heap.size w w' ∧ w.heap.size + 1 ≤ w'.heap.size)
    (first | exact ⟨b0, b1, hB0, hs0⟩ | exact held_of hb (by assumption) | exact held_alloc _ (by assumption) | exact held_alloc _ (held_alloc _ hk.out) | exact held_set _ (by omega) (held_alloc _ hk.out) | exact held_alloc _ (held_set _ (by omega) hk.out) | exact held_set _ (by omega) (held_alloc _ (held_alloc _ hk.out)) | exact held_set _ (by omega) (by assumption))
    (first | (go_at_call 17; refine (first_any _ (by decide) (by decide) _).mono ?_; rintro e w' ⟨rfl, hb, hsz⟩; have hz0 := hsz.out; simp only [World.size_alloc, World.size_drew, *] at hz0; have hc1 := (bcell' hb).1; have hc2 := (bcell' hb).2; have hz2 := (held_of hb (by assumption)).2.2.2; have hk := Aside0.mk (held_of hb (by assumption))))
  all_goals
    first
    | exact ⟨rfl, _, _, rfl, fin1 hk.out (by omega) (by omega) (by omega) (by first | (simp [*]; done) | (simp [*]; rw [World.cell?_alloc_at _ _ _ _ (by omega)]; rfl))⟩
    | exact ⟨rfl, _, _, rfl, fin2 hk.out (by omega) (by omega)⟩
    | exact ⟨rfl, _, _, rfl, fin3 hk.out (by omega) (by omega)⟩
end Go.Proofs.Ytecdfejhidnedaa.Sip
