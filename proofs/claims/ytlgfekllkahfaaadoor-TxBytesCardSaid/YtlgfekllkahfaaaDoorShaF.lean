/- SHA-256: digest.Sum. -/
import Derived.Test.YtlgfekllkahfaaaDoorShaD
import Derived.Test.YtlgfekllkahfaaaDoorShaE
import Derived.Test.YtlgfekllkahfaaaDoorShaP
set_option linter.unusedVariables false
set_option linter.unusedSimpArgs false
namespace Go.Proofs.YtlgfekllkahfaaaDoor.ShaW
open Go.RowKit Go.Shelf Go.Proofs.YtlgfekllkahfaaaDoorW.PrintWords Go.Proofs.YtlgfekllkahfaaaDoorW.PrintMore Go.Proofs.YtlgfekllkahfaaaDoor Go.Proofs.YtlgfekllkahfaaaDoor.Bits Sha ArrK Go.Proofs.YtlgfekllkahfaaaDoor.Chunk
attribute [local go_sem] Oper.semAt_some
/-- the letters at the beginning lie where the program's text lays them -/
def Bst (w : World) : Prop := ∀ i : Nat, i < 8 → w.cell? ⟨0, i, none⟩ = some (.int .u32 (v (at_ beg.l i)))
theorem Bst.below {w w1 : World} (h : Bst w) (hb : Below w.heap.size w w1) : Bst w1 := fun i hi => pw_cell_below hb (h i hi)
/-- a digest's value -/
abbrev hv (h : List Int) : Value := .agg (nums .u8 h).toArray
abbrev zero32 : List Int := List.replicate 32 0
theorem pad_bytes {t : List Int} (h : Bytes t) : Bytes (pad t) := by
  intro x hx
  simp only [pad, len8, List.mem_append, List.mem_map, List.mem_replicate, List.mem_singleton] at hx
  rcases hx with ((h1 | rfl) | ⟨_, rfl⟩) | ⟨i, _, rfl⟩
  · exact h x h1
  · omega
  · omega
  · omega
theorem C_kept {A : Option Addr} {n : Nat} {l : List Int} {W W' : World} (h : Kd.C (Kd.int .u8) W A n l) (hk : ∀ (ad : Addr), A = some ad → ∀ (p : Addr) u, p.block = ad.block → W.cell? p = some u → W'.cell? p = some u) : Kd.C (Kd.int .u8) W' A n l := by
  have h0 := Kd.reads_of_C (enc := Value.int .u8) (d := (0 : Int)) (h1 := fun _ => rfl) h
  refine Kd.C_of_reads (d := (0 : Int)) ⟨h0.1, h0.2.1, fun hp => ?_⟩
  obtain ⟨ad, e, hc⟩ := h0.2.2 hp
  exact ⟨ad, e, fun j hj => hk ad e _ _ (by unfold Addr.add; split <;> rfl) (hc j hj)⟩
theorem Blk.kept {W W' : World} {B t : Nat} {cs : List Value} (h : Blk W B t cs) {row : Option Nat} (hg : W.grownBy W' row) (hr : ∀ r, row = some r → ∃ o, W.heap[r]? = some o ∧ o.isCells = false) : Blk W' B t cs :=
  h.grown hg (fun e => by obtain ⟨o, ho, hc⟩ := hr B e.symm; unfold Blk at h; rw [ho] at h; cases h; cases hc)
theorem C_part {A : Option Addr} {c x : Nat} {l : List Int} {W : World} (h : Kd.C (Kd.int .u8) W A l.length l) (hx : 64 * x + 64 ≤ l.length) (hc : l.length ≤ c) :
    Kd.C (Kd.int .u8) W (A.map fun ad => ad.add (64 * x)) ((l.drop (64 * x)).take 64).length ((l.drop (64 * x)).take 64) := by
  have h1 := Kd.C_drop (m := 64 * x) (c := c) h (by omega) hc
  rw [if_neg (by omega)] at h1
  have h2 := Kd.C_take (m := 64) h1 (by rw [List.length_drop]; omega)
  have e : (Kd.int .u8).sz = 1 := rfl
  rw [e, Nat.mul_one] at h2
  exact h2
/-- the bytes written so far -/
def ob (z : S) (k : Nat) : List Int := (outb z).take k ++ List.replicate (32 - k) 0
theorem outb_length (z : S) : (outb z).length = 32 := by simp [outb]
theorem ob_at (z : S) (k : Nat) (hk : k < 32) : (nums .u8 (ob z k))[k]? = some (.int .u8 (rd (ob z k) (k : Int))) := by
  have h : k < (ob z k).length := by unfold ob; rw [List.length_append, List.length_take, List.length_replicate, outb_length]; omega
  unfold rd
  simp [nums, List.getD_eq_getElem?_getD, List.getElem?_eq_getElem h]
theorem ob_step (z : S) (k : Nat) (hk : k < 32) : (nums .u8 (ob z k)).set k (.int .u8 (byte_ z k)) = nums .u8 (ob z (k + 1)) := by
  have hs := outb_length z
  have ha : (outb z)[k]? = some (byte_ z k) := by unfold outb; rw [List.getElem?_map, List.getElem?_range hk]; rfl
  have hset : (ob z k).set k (byte_ z k) = ob z (k + 1) := by
    unfold ob
    generalize outb z = s at *
    have hlt : (s.take k).length = k := by rw [List.length_take]; omega
    obtain ⟨m, hm⟩ : ∃ m, 32 - k = m + 1 := ⟨31 - k, by omega⟩
    have hm2 : 32 - (k + 1) = m := by omega
    have hg : s[k]'(by omega) = byte_ z k := by rw [List.getElem?_eq_getElem (by omega)] at ha; exact Option.some.inj ha
    rw [List.set_append_right _ _ (by omega), hlt, Nat.sub_self, List.take_succ_eq_append_getElem (show k < s.length by omega), List.append_assoc, hm, hm2, List.replicate_succ, List.set_cons_zero, hg]
    rfl
  rw [← hset]; simp [nums, List.map_set]
theorem byte_eq (z : S) (k : Nat) : v (at_ z.l (k / 4)) / 2 ^ (8 * (3 - k % 4)) % 256 = byte_ z k := by
  unfold byte_ v
  rw [pow_cast, ediv_cast]
  exact emod_cast _ 256
/-- the letters behind some parts -/
def foldB (P : List Int) {N : Nat} (pre : List (Fin N)) : S := pre.foldl (fun s x => comp s ((P.drop (64 * x.val)).take 64)) beg
theorem foldB_snoc (P : List Int) {N : Nat} (pre : List (Fin N)) (x : Fin N) : foldB P (pre ++ [x]) = comp (foldB P pre) ((P.drop (64 * x.val)).take 64) := by simp [foldB]
theorem foldB_upto (P : List Int) {N : Nat} : ∀ k, k ≤ N → foldB P (upto N k) = blocks P k
  | 0, _ => rfl
  | k + 1, h => by rw [upto_succ (show k < N by omega), foldB_snoc, foldB_upto P k (by omega)]; rfl
/-- the letters stored over the letters -/
theorem sets8 {W : World} {H : Nat} {T : TypeId} (y z : S) (h : Blk W H T (cells y.l)) : Blk ((((((((W.setCell ⟨H, 0, none⟩ (.int .u32 (v z.a))).setCell ⟨H, 1, none⟩ (.int .u32 (v z.b))).setCell ⟨H, 2, none⟩ (.int .u32 (v z.c))).setCell ⟨H, 3, none⟩ (.int .u32 (v z.d))).setCell ⟨H, 4, none⟩ (.int .u32 (v z.e))).setCell ⟨H, 5, none⟩ (.int .u32 (v z.f))).setCell ⟨H, 6, none⟩ (.int .u32 (v z.g))).setCell ⟨H, 7, none⟩ (.int .u32 (v z.h))) H T (cells z.l) ∧ W.grownBy ((((((((W.setCell ⟨H, 0, none⟩ (.int .u32 (v z.a))).setCell ⟨H, 1, none⟩ (.int .u32 (v z.b))).setCell ⟨H, 2, none⟩ (.int .u32 (v z.c))).setCell ⟨H, 3, none⟩ (.int .u32 (v z.d))).setCell ⟨H, 4, none⟩ (.int .u32 (v z.e))).setCell ⟨H, 5, none⟩ (.int .u32 (v z.f))).setCell ⟨H, 6, none⟩ (.int .u32 (v z.g))).setCell ⟨H, 7, none⟩ (.int .u32 (v z.h))) (some H) ∧ ((((((((W.setCell ⟨H, 0, none⟩ (.int .u32 (v z.a))).setCell ⟨H, 1, none⟩ (.int .u32 (v z.b))).setCell ⟨H, 2, none⟩ (.int .u32 (v z.c))).setCell ⟨H, 3, none⟩ (.int .u32 (v z.d))).setCell ⟨H, 4, none⟩ (.int .u32 (v z.e))).setCell ⟨H, 5, none⟩ (.int .u32 (v z.f))).setCell ⟨H, 6, none⟩ (.int .u32 (v z.g))).setCell ⟨H, 7, none⟩ (.int .u32 (v z.h))).heap.size = W.heap.size := by
  refine ⟨(((((((h.set 0 (.int .u32 (v z.a))).set 1 (.int .u32 (v z.b))).set 2 (.int .u32 (v z.c))).set 3 (.int .u32 (v z.d))).set 4 (.int .u32 (v z.e))).set 5 (.int .u32 (v z.f))).set 6 (.int .u32 (v z.g))).set 7 (.int .u32 (v z.h)), ?_, by simp [World.setCell]⟩
  have hs : ∀ (V : World) (i : Nat) (u : Value), V.grownBy (V.setCell ⟨H, i, none⟩ u) (some H) := fun V i u => ⟨rfl, rfl, rfl, by simp [World.setCell], fun k hk hne => Below.heap_setCell V ⟨H, i, none⟩ u k (fun e => hne (by rw [e]))⟩
  exact World.grownBy.trans (World.grownBy.trans (World.grownBy.trans (World.grownBy.trans (World.grownBy.trans (World.grownBy.trans (World.grownBy.trans (hs _ 0 _) (hs _ 1 _)) (hs _ 2 _)) (hs _ 3 _)) (hs _ 4 _)) (hs _ 5 _)) (hs _ 6 _)) (hs _ 7 _)
set_option maxRecDepth 100000 in
set_option maxHeartbeats 400000 in
theorem sum_calls (parts : List (List Int)) (A : Option Addr) (c : Nat) (w : World) (hK : Kst w) (hBg : Bst w) (hr : kp.C w A parts.length parts) (hc : parts.length ≤ c) (hn : parts.length ≤ 1000000000) (hl : parts.flatten.length < 1000000000) (hby : Bytes parts.flatten) :
    Calls Tryd.prog 41 #[.slice A parts.length c] w fun e w' => e = .returned (hv (sum parts.flatten)) ∧ Below w.heap.size w w' := by
  obtain ⟨V0, hV0⟩ : ∃ V0, V0 = w.alloc (.cells #[.int .u8 0, .int .u8 0, .int .u8 0, .int .u8 0, .int .u8 0, .int .u8 0, .int .u8 0, .int .u8 0, .int .u8 0, .int .u8 0, .int .u8 0, .int .u8 0, .int .u8 0, .int .u8 0, .int .u8 0, .int .u8 0, .int .u8 0, .int .u8 0, .int .u8 0, .int .u8 0, .int .u8 0, .int .u8 0, .int .u8 0, .int .u8 0, .int .u8 0, .int .u8 0, .int .u8 0, .int .u8 0, .int .u8 0, .int .u8 0, .int .u8 0, .int .u8 0] 34) := ⟨_, rfl⟩
  have hB0 : Below w.heap.size w V0 := by rw [hV0]; exact (Below.refl _ _).alloc (Nat.le_refl _) _
  have hR0 : Blk V0 w.heap.size 34 (nums .u8 zero32) := by rw [hV0]; exact Blk.new w 34 (nums .u8 zero32)
  have b := hBg.below hB0
  have b0 : V0.cell? ⟨0, 0, none⟩ = some (.int .u32 (v beg.a)) := b 0 (by omega)
  have b1 : V0.cell? ⟨0, 1, none⟩ = some (.int .u32 (v beg.b)) := b 1 (by omega)
  have b2 : V0.cell? ⟨0, 2, none⟩ = some (.int .u32 (v beg.c)) := b 2 (by omega)
  have b3 : V0.cell? ⟨0, 3, none⟩ = some (.int .u32 (v beg.d)) := b 3 (by omega)
  have b4 : V0.cell? ⟨0, 4, none⟩ = some (.int .u32 (v beg.e)) := b 4 (by omega)
  have b5 : V0.cell? ⟨0, 5, none⟩ = some (.int .u32 (v beg.f)) := b 5 (by omega)
  have b6 : V0.cell? ⟨0, 6, none⟩ = some (.int .u32 (v beg.g)) := b 6 (by omega)
  have b7 : V0.cell? ⟨0, 7, none⟩ = some (.int .u32 (v beg.h)) := b 7 (by omega)
  obtain ⟨V1, hV1⟩ : ∃ V1, V1 = V0.alloc (.cells #[.int .u32 (v beg.a), .int .u32 (v beg.b), .int .u32 (v beg.c), .int .u32 (v beg.d), .int .u32 (v beg.e), .int .u32 (v beg.f), .int .u32 (v beg.g), .int .u32 (v beg.h)] 101) := ⟨_, rfl⟩
  have hB1 : Below w.heap.size w V1 := by rw [hV1]; exact hB0.alloc hB0.size _
  have hs0 : V0.heap.size = w.heap.size + 1 := by rw [hV0]; simp
  have hR1 : Blk V1 w.heap.size 34 (nums .u8 zero32) := by rw [hV1]; exact hR0.alloc _
  have hH1 : Blk V1 (w.heap.size + 1) 101 (cells beg.l) := by rw [hV1, ← hs0]; exact Blk.new V0 101 (cells beg.l)
  have hs1 : V1.heap.size = w.heap.size + 1 + 1 := by rw [hV1, World.size_alloc, hs0]
  have hCon := concat_calls parts A c V1 (Kd.C_below hr hB1) hc hn (by omega)
  rw [hV0] at b0 b1 b2 b3 b4 b5 b6 b7 hV1
  obtain ⟨t, ht⟩ : ∃ t, t = parts.flatten := ⟨_, rfl⟩
  rw [← ht] at hCon hl hby ⊢
  have hpl := pad_length t
  have hV1A := Aside0.mk hV1; have hB1A := Aside0.mk hB1; have hR1A := Aside0.mk hR1; have hH1A := Aside0.mk hH1; have hs1A := Aside0.mk hs1
  have hCA := Aside0.mk hCon; have hKA := Aside0.mk hK; have hplA := Aside0.mk hpl; have htA := Aside0.mk hl
  clear b hBg hr hK hV0 hB0 hR0 hV1 hB1 hs0 hR1 hH1 hs1 hCon ht hpl hl
  refine (callsIn_wide (n := 5)).1 ?_
  refine callsIn_of_wp_marks Tryd.func41 rfl trivial ?_ rfl
  simp only [Tryd.ntmps41, List.size_toArray, List.length_cons, List.length_nil, Nat.reduceAdd, Nat.reduceSub, Array.replicate_succ, Array.replicate_zero, List.push_toArray, List.append_toArray, List.nil_append, List.cons_append]
  gi_wp2_with (first | (refine ⟨trivial, ?_⟩; gi_at_call 68; rw [← hV1A.out]; refine (callsIn_wide.2 hCA.out).mono ?_; rintro e w1 ⟨v1, rfl, hRc, hBc⟩; obtain ⟨A1, c1, hv1, hc1, hC1⟩ := Kd.R_reads hRc; subst hv1; have hBcA := Aside0.mk hBc; have hFi := Aside0.mk (filled_calls t A1 c1 w1 htA.out hC1 hc1); clear hRc hBc hC1) | (refine ⟨trivial, ?_⟩; gi_at_call 67; refine (callsIn_wide.2 hFi.out).mono ?_; rintro e w2 ⟨v2, rfl, hRp, hBp⟩; obtain ⟨g, c2, hv2, hg1, hg2, _⟩ := Kd.R_form hRp (by have := hplA.out; omega); subst hv2; have hRpA := Aside0.mk hRp; have hBpA := Aside0.mk hBp; clear hRp hBp) | (refine ⟨trivial, ?_⟩; gi_at_call 66; refine (chunk_in 4 _ _ _ _).mono ?_; rintro e w' ⟨rfl, rfl⟩))
  clear b0 b1 b2 b3 b4 b5 b6 b7
  obtain ⟨N, hN⟩ : ∃ N, N = (t.length + 72) / 64 := ⟨_, rfl⟩
  have hp64 : (pad t).length = 64 * N := by rw [hplA.out, hN]
  have hsum : sum t = outb (blocks (pad t) N) := by unfold sum; rw [hp64]; congr 2; omega
  have hsumA := Aside0.mk hsum
  have hN0 : N < 100000000 := by have := htA.out; omega
  clear hN hsum hplA
  have hbp : Bytes (pad t) := pad_bytes hby
  have hCp := (Kd.R_reads' hRpA.out).2.2
  have hc2 := (Kd.R_reads' hRpA.out).2.1
  have hgb := hg1
  have hs2 : w.heap.size + 1 + 1 ≤ w1.heap.size := by have := hBcA.out.size; have := hs1A.out; omega
  have hH2 := (hH1A.out.below hBcA.out).below hBpA.out
  have hR2 := (hR1A.out.below hBcA.out).below hBpA.out
  have hB2 : Below w.heap.size w w2 := below_then (below_then hB1A.out hB1A.out.size hBcA.out) (by omega) hBpA.out
  rw [hp64] at hc2 ⊢
  generalize pad t = P at *
  obtain ⟨A3, hA3⟩ : ∃ A3 : Option Addr, A3 = some ⟨g, 0, none⟩ := ⟨_, rfl⟩
  rw [← hA3] at hCp ⊢
  replace hA3 := Aside0.mk hA3
  clear hRpA
  have hB3 : Below w.heap.size w ((w2.alloc (.cells #[.slice A3 (64 * N) c2] 40)).alloc (.cells #[.int .i64 64] 3)) := (hB2.alloc hB2.size _).alloc (by have := hB2.size; simp; omega) _
  have bx0 := Boxed.new w2 40 (.slice A3 (64 * N) c2)
  have bx1 := Boxed.new (w2.alloc (.cells #[.slice A3 (64 * N) c2] 40)) 3 (.int .i64 64)
  rw [World.size_alloc] at bx1
  have hws := hB2.size
  refine wpIn_rangeFunc_ownG rfl (by decide) (gf := 74) (lb := #[.pointer (some ⟨w2.heap.size, 0, none⟩), .pointer (some ⟨w2.heap.size + 1, 0, none⟩)]) rfl trivial (enters_of Tryd.func74 (by kernel_rfl) rfl)
    (chunk_stops 4 (by decide) w2.heap.size (w2.heap.size + 1) w.heap.size c2 N A3 (by omega) (by omega) (fun _ => ⟨_, hA3.out⟩) _ (by simp; omega) (by simp) (by simp; omega) (bx0.alloc _).cell bx1.cell) Kp.trans (Kp.b (by simp; omega)) (Below.refl _ _) (fun _ => rfl)
    (fun (pre : List (Fin N)) V => (Blk V (w.heap.size + 1) 101 (cells (foldB P pre).l) ∧ Blk V w.heap.size 34 (nums .u8 zero32) ∧ Kd.C (Kd.int .u8) V A3 P.length P) ∧ Below w.heap.size w V)
    (fun _ _ _ => False)
    (OwnFrom.and (Own.from (fun s A B row hs hg hr => ⟨Blk.kept hs.1 hg hr, Blk.kept hs.2.1 hg hr, C_kept hs.2.2 (fun ad e p u hb hu => cell_kept hu hg hr)⟩) _) (ownFrom_below (Nat.le_refl _) (by simp; omega)))
    (fun _ _ _ _ _ hs _ _ => hs)
    ⟨⟨(hH2.alloc _).alloc _, (hR2.alloc _).alloc _, Kd.C_alloc (Kd.C_alloc hCp _) _⟩, hB3⟩
    (fun (y : Fin N) => { tmps := #[.slice A parts.length c, undef, .pointer (some ⟨w.heap.size, 0, none⟩), .pointer (some ⟨w.heap.size + 1, 0, none⟩), Chunk.part A3 y.val, undef, undef, .agg #[.int .u32 (v beg.a), .int .u32 (v beg.b), .int .u32 (v beg.c), .int .u32 (v beg.d), .int .u32 (v beg.e), .int .u32 (v beg.f), .int .u32 (v beg.g), .int .u32 (v beg.h)], .slice A parts.length c, .slice A1 t.length c1, .slice A3 (64 * N) c2, .func (.func 74) #[] #[.pointer (some ⟨w2.heap.size, 0, none⟩), .pointer (some ⟨w2.heap.size + 1, 0, none⟩)], Chunk.part A3 y.val, undef, undef, undef, undef, undef, undef, undef, undef, undef, undef, undef, undef, undef, undef, undef, undef, undef, undef, undef, undef], defers := [] }) ?assign ?body ?done ?stop
  case assign =>
    intro l_ y W_ K hK
    gi_wp2
    exact hK
  case body =>
    rintro l_ pre y V ⟨⟨hx, hr0, hCv⟩, hB⟩ hpre
    have hy := y.2
    have hlen : ((P.drop (64 * y.val)).take 64).length = 64 := by rw [List.length_take, List.length_drop]; omega
    have hTk := take_calls (foldB P pre) ((P.drop (64 * y.val)).take 64) (A3.map fun ad => ad.add (64 * y.val)) 64 (fun x hx => hbp x (List.mem_of_mem_drop (List.mem_of_mem_take hx))) V (hKA.out.below hB) (C_part (c := c2) hCv (by omega) (by omega)) (by omega) hlen
    rw [hlen] at hTk
    obtain ⟨z, hz⟩ : ∃ z, z = comp (foldB P pre) ((P.drop (64 * y.val)).take 64) := ⟨_, rfl⟩
    rw [← hz] at hTk
    replace hz := Aside0.mk hz
    have hrA0 := Aside0.mk hr0; have hCvA := Aside0.mk hCv; have hBA := Aside0.mk hB
    obtain ⟨x, hxx⟩ : ∃ x, x = foldB P pre := ⟨_, rfl⟩
    rw [← hxx] at hTk hx
    have hxA := Aside0.mk hx
    replace hxx := Aside0.mk hxx
    have g0 := hxA.out.get 0 (.int .u32 (v x.a)) rfl
    have g1 := hxA.out.get 1 (.int .u32 (v x.b)) rfl
    have g2 := hxA.out.get 2 (.int .u32 (v x.c)) rfl
    have g3 := hxA.out.get 3 (.int .u32 (v x.d)) rfl
    have g4 := hxA.out.get 4 (.int .u32 (v x.e)) rfl
    have g5 := hxA.out.get 5 (.int .u32 (v x.f)) rfl
    have g6 := hxA.out.get 6 (.int .u32 (v x.g)) rfl
    have g7 := hxA.out.get 7 (.int .u32 (v x.h)) rfl
    have hTA := Aside0.mk hTk
    clear hx hr0 hCv hB hTk
    dsimp only [Chunk.part]
    gi_wp2_with (refine ⟨trivial, ?_⟩; gi_at_call 69; refine (CallsIn.inRound l_ (callsIn_wide.2 hTA.out)).mono ?_; rintro e w' ⟨rfl, hbt⟩; have hb2 := hxA.out.below hbt; have k0 := hb2.get 0 (.int .u32 (v x.a)) rfl; have z0 := hb2.fz 0; have k1 := hb2.get 1 (.int .u32 (v x.b)) rfl; have z1 := hb2.fz 1; have k2 := hb2.get 2 (.int .u32 (v x.c)) rfl; have z2 := hb2.fz 2; have k3 := hb2.get 3 (.int .u32 (v x.d)) rfl; have z3 := hb2.fz 3; have k4 := hb2.get 4 (.int .u32 (v x.e)) rfl; have z4 := hb2.fz 4; have k5 := hb2.get 5 (.int .u32 (v x.f)) rfl; have z5 := hb2.fz 5; have k6 := hb2.get 6 (.int .u32 (v x.g)) rfl; have z6 := hb2.fz 6; have k7 := hb2.get 7 (.int .u32 (v x.h)) rfl; have z7 := hb2.fz 7; have hbtA := Aside0.mk hbt; have hb2A := Aside0.mk hb2; clear hbt hb2 g0 g1 g2 g3 g4 g5 g6 g7)
    obtain ⟨hX8, hG8, hs8⟩ := sets8 x z hb2A.out
    have hbt := hbtA.out
    have hG0 : V.grownBy w' (some (w.heap.size + 1)) := ⟨hbt.os, hbt.tape, hbt.output, hbt.size, fun k hk _ => hbt.block k hk⟩
    have hG := World.grownBy.trans hG0 hG8
    have hkeep : KeepsOthers V _ := KeepsOthers.of_grownBy hG (fun j o' e ho' => by cases e; have := hxA.out; unfold Blk at this; rw [this] at ho'; cases ho'; rfl)
    have hBg : Below w.heap.size V _ := (Below.refl w.heap.size V).grown hG hBA.out.size (fun k e => by cases e; omega)
    refine ⟨hkeep.from _, ⟨hBg, fun u hu => hG.cell hu (by simp; omega), fun u hu => hG.cell hu (by simp; omega)⟩, ⟨?_, hrA0.out.grown hG (by simp), ?_⟩, hBA.out.grown hG hBA.out.size (fun k e => by cases e; omega)⟩
    · rw [foldB_snoc, ← hz.out]; exact hX8
    · exact C_kept hCvA.out (fun ad e p u hb hu => hG.cell hu (by rw [hA3.out] at e; cases e; simp [hb]; omega))
  case stop =>
    rintro D c_ pre V _ _ h _
    exact h.elim
  case done =>
    rintro D ys V hD rfl ⟨⟨hx, hr0, hCv⟩, hB⟩ hK
    rw [foldB_upto _ _ (Nat.le_refl _)] at hx
    clear hCv
    obtain ⟨z, hz⟩ : ∃ z, z = blocks P N := ⟨_, rfl⟩
    rw [← hz] at hx
    have hsz := hsumA.out
    rw [← hz] at hsz
    have hszA := Aside0.mk hsz
    clear hsz
    have hxA := Aside0.mk hx; have hrA0 := Aside0.mk hr0; have hBA := Aside0.mk hB
    clear hz hx hr0 hB
    dsimp only
    gi_wp2
    have hDlt := blk_lt hK
    have hD2 : w.heap.size + 2 ≤ D := by simp at hD; omega
    have hVs := hBA.out.size
    clear hD
    have hKA := Aside0.mk hK
    clear hK
    gi_loopw [16] (fun i wr => ∃ k : Nat, k ≤ 32 ∧ i = .int .i64 k ∧ Blk wr V.heap.size 34 (nums .u8 (ob z k)) ∧ Blk wr (w.heap.size + 1) 101 (cells z.l) ∧ Blk wr w.heap.size 34 (nums .u8 zero32) ∧ wr.heap[D]? = some (.deferred (some [])) ∧ Below w.heap.size w wr) (fun i _ => 32 - (intOf i).toNat)
    case atStart => exact ⟨0, by omega, rfl, Blk.new V 34 (nums .u8 zero32), hxA.out.alloc _, hrA0.out.alloc _, ((below_alloc (Below.refl _ _) _).block _ hDlt).trans hKA.out, hBA.out.alloc hVs _⟩
    case round =>
      clear hKA
      obtain ⟨k, hk, rfl, hO, hH, hR, hDf, hBl⟩ := hrel
      have hOA := Aside0.mk hO; have hHA := Aside0.mk hH; have hRA := Aside0.mk hR; have hDA := Aside0.mk hDf; have hBlA := Aside0.mk hBl
      clear hO hH hR hDf hBl
      by_cases hlt : k < 32
      · have p0 : (0 : Int) ≤ (k : Int) := by omega
        have p1 : (k : Int) < 32 := by omega
        have hw4 : IntKind.i64.wrap ((k : Int) + 1) = (k : Int) + 1 := IntWalk.i64_in _ (by omega)
        have gH := hHA.out.get (k / 4) _ (cells_at z.l (k / 4) (by show k / 4 < 8; omega))
        have gO := hOA.out.get k (.int .u8 (rd (ob z k) (k : Int))) (ob_at z k hlt)
        have fO := hOA.out.fz k
        have st := ob_step z k hlt
        have hby2 := byte_eq z k
        have hstA := Aside0.mk st
        have hbA := Aside0.mk hby2
        clear st hby2
        obtain ⟨y, hy⟩ : ∃ y, y = at_ z.l (k / 4) := ⟨_, rfl⟩
        rw [← hy] at gH
        replace hy := Aside0.mk hy
        have e1 : Int.tdiv (k : Int) 4 = ((k / 4 : Nat) : Int) := by rw [Int.tdiv_eq_ediv_of_nonneg p0]; omega
        have e2 : Int.tmod (k : Int) 4 = ((k % 4 : Nat) : Int) := by rw [Int.tmod_eq_emod_of_nonneg p0]; omega
        obtain ⟨m4, hm4⟩ : ∃ m, m = k / 4 := ⟨_, rfl⟩
        obtain ⟨r4, hr4⟩ : ∃ m, m = k % 4 := ⟨_, rfl⟩
        have l4 : (m4 : Int) < 8 := by omega
        have l5 : r4 < 4 := by omega
        rw [← hm4] at e1 gH
        rw [← hr4] at e2
        have e3 : IntKind.i64.wrap (3 - (r4 : Int)) = ((3 - r4 : Nat) : Int) := by rw [IntWalk.i64_in _ (by omega)]; omega
        have e4 : IntKind.i64.wrap (8 * ((3 - r4 : Nat) : Int)) = ((8 * (3 - r4) : Nat) : Int) := by rw [IntWalk.i64_in _ (by omega)]; omega
        replace hm4 := Aside0.mk hm4; replace hr4 := Aside0.mk hr4
        gi_wp2
        go_roundw
        case rel =>
          have hb : (v y / 2 ^ (8 * (3 - r4)) % 256) = byte_ z k := by rw [hy.out, hr4.out]; exact hbA.out
          rw [hb]
          refine ⟨k + 1, by omega, by go_num, ?_, hHA.out.far (p := ⟨V.heap.size, k, none⟩) (by show w.heap.size + 1 ≠ V.heap.size; omega) _, hRA.out.far (p := ⟨V.heap.size, k, none⟩) (by show w.heap.size ≠ V.heap.size; omega) _, (Below.heap_setCell wr ⟨V.heap.size, k, none⟩ _ D (by show D ≠ V.heap.size; omega)).trans hDA.out, hBlA.out.setCell (p := ⟨V.heap.size, k, none⟩) hVs _⟩
          rw [← hstA.out]
          exact hOA.out.set k _
        case measure => simp [intOf]; omega
      · obtain rfl : k = 32 := by omega
        have hob : ob z 32 = sum t := by
          rw [hszA.out]; unfold ob
          rw [List.take_of_length_le (by rw [outb_length]; exact Nat.le_refl _), Nat.sub_self, List.replicate_zero, List.append_nil]
        rw [hob] at hOA
        have hsl := sum_length t
        have hcl : (nums .u8 (sum t)).length = 32 := by simp [nums, hsl]
        have hone : ∀ u ∈ nums .u8 (sum t), u.oneCell' = true := by intro u hu; simp only [nums, List.mem_map] at hu; obtain ⟨_, _, rfl⟩ := hu; rfl
        have hzl : (nums .u8 zero32).length = 32 := rfl
        have hd1 : decide (((32 : Nat) : Int) < 32) = false := by decide
        generalize hcs : nums .u8 (sum t) = cs at *
        generalize nums .u8 zero32 = zs at *
        have hin : (Tryd.prog.info? 34).map (·.size) = some cs.length := by rw [hcl]; kernel_rfl
        have hzA := Aside0.mk (hzl.trans hcl.symm); have hiA := Aside0.mk hin; have hcsA := Aside0.mk hcs; have honeA := Aside0.mk hone
        clear hcl hzl hin hone hcs hob hsl hszA
        refine wpIn_wide.2 ?_
        go_wp2_with fail
        refine wpIn_wide.2 ?_
        go_wp2_with (with_reducible refine gate_dst (N := 32) rfl ?_; refine wpList_load_blk rfl 34 (.tmp 5) rfl V.heap.size 34 rfl cs _ hOA.out Tryd.underlying34 rfl hiA.out ?_; refine wpList_put_blk rfl 34 (.tmp 2) (.tmp 32) rfl w.heap.size 34 cs zs hzA.out rfl rfl hRA.out hiA.out honeA.out ?_; intro W1 hW1 hg1 hs1)
        have hK5 : W1.heap[D]? = some (.deferred (some [])) := (hg1.block D (blk_lt hDA.out) (by simp; omega)).trans hDA.out
        have hB5 : Below w.heap.size w W1 := hBlA.out.grown hg1 hBlA.out.size (fun k e => by cases e; exact Nat.le_refl _)
        have hi2 : (Tryd.prog.info? 34).map (·.size) = some cs.toArray.size := by rw [List.size_toArray]; exact hiA.out
        gi_wp2
        refine ⟨by simp, .inl ⟨_, _, rfl, run_takeDeferred hK5, ?_⟩⟩
        have hbD := belowK_b (w := w) (Nat.le_refl _) W1 D _ (.deferred none) (by omega) hK5 rfl rfl
        have hW2 : Blk (W1.putObj D (.deferred none)) w.heap.size 34 cs := Blk.kept hW1 (grownBy_putObj' W1 D _) (fun r e => by cases e; exact ⟨_, hK5, rfl⟩)
        exact ⟨_, results_cell_row rfl _ _ w.heap.size 34 cs.toArray (0, 0) _ rfl hW2 Tryd.underlying34 rfl hi2, by rw [← hcsA.out], hB5.trans hbD⟩
end Go.Proofs.YtlgfekllkahfaaaDoor.ShaW
