/- A tree's next level. -/
import Derived.Test.YtibiaacgcpgkbaaDoorHashK
import Derived.Test.YtibiaacgcpgkbaaDoorShaT
import Derived.Test.YtibiaacgcpgkbaaDoorInRound
set_option linter.unusedVariables false
set_option linter.unusedSimpArgs false
namespace Go.Proofs.YtibiaacgcpgkbaaDoor.ShaW
open Go.RowKit Go.Shelf Go.Proofs.YtibiaacgcpgkbaaDoorW.PrintWords Go.Proofs.YtibiaacgcpgkbaaDoorW.PrintMore Go.Proofs.YtibiaacgcpgkbaaDoor Go.Proofs.YtibiaacgcpgkbaaDoor.Bits Sha ArrK
open Go.Proofs.YtibiaacgcpgkbaaDoor.Chunk (Kp upto upto_succ upto_length Kp.refl Kp.trans Kp.b)
open Go.Proofs.YtibiaacgcpgkbaaDoor.InRound (op_at)
attribute [local go_sem] Oper.semAt_some
/-- a pair's digest: the last one stands for both, where it is alone -/
def duo (L : List (List Int)) (k : Nat) : List Int := dbl (L.getD (2 * k) [] ++ L.getD (2 * k + (min 2 (L.length - 2 * k) - 1)) [])
def lev (L : List (List Int)) : List (List Int) := (List.range ((L.length + 1) / 2)).map (duo L)
theorem lev_length (L : List (List Int)) : (lev L).length = (L.length + 1) / 2 := by simp [lev]
theorem duo_length (L : List (List Int)) (k : Nat) : (duo L k).length = 32 := sum_length _
theorem duo_bytes (L : List (List Int)) (k : Nat) : Bytes (duo L k) := sum_bytes _
theorem lev_lens (L : List (List Int)) : ∀ h ∈ lev L, h.length = 32 := fun h hm => by obtain ⟨k, _, rfl⟩ := List.mem_map.1 hm; exact duo_length L k
theorem lev_bytes (L : List (List Int)) : ∀ h ∈ lev L, Bytes h := fun h hm => by obtain ⟨k, _, rfl⟩ := List.mem_map.1 hm; exact duo_bytes L k
/-- what has come -/
def levB (L : List (List Int)) {N : Nat} (pre : List (Fin N)) : List (List Int) := pre.map fun x => duo L x.val
theorem levB_snoc (L : List (List Int)) {N : Nat} (pre : List (Fin N)) (x : Fin N) : levB L (pre ++ [x]) = levB L pre ++ [duo L x.val] := by simp [levB]
theorem levB_upto (L : List (List Int)) {N : Nat} : ∀ k, k ≤ N → levB L (upto N k) = (List.range k).map (duo L)
  | 0, _ => rfl
  | k + 1, h => by rw [upto_succ (show k < N by omega), levB_snoc, levB_upto L k (by omega), List.range_succ, List.map_append]; rfl
theorem C_keptK {α : Type} {d : Kd α} {A : Option Addr} {n : Nat} {l : List α} {W W' : World} (h : d.C W A n l) (hd : ∀ x cs, d.K W x cs → d.K W' x cs) (hk : ∀ (ad : Addr), A = some ad → ∀ (p : Addr) u, p.block = ad.block → W.cell? p = some u → W'.cell? p = some u) : d.C W' A n l := by
  refine ⟨h.1, h.2.1, fun hp => ?_⟩
  obtain ⟨ad, e, hc⟩ := h.2.2 hp
  refine ⟨ad, e, fun j p hj => ?_⟩
  obtain ⟨c, h1, h2, h3⟩ := hc j p hj
  exact ⟨c, h1, hd _ _ h2, fun i u hu => hk ad e _ _ (by unfold Addr.add; split <;> rfl) (h3 i u hu)⟩
theorem kh_kept {A : Option Addr} {n : Nat} {l : List (List Int)} {W W' : World} (h : kh.C W A n l) (hk : ∀ (ad : Addr), A = some ad → ∀ (p : Addr) u, p.block = ad.block → W.cell? p = some u → W'.cell? p = some u) : kh.C W' A n l := C_keptK h (fun _ _ h => h) hk
/-- what lies there while the pairs come: the box of what is made, the list -/
def LevJ (w : World) (L : List (List Int)) (A : Option Addr) (N : Nat) (pre : List (Fin N)) (V : World) : Prop :=
  (∃ v, Blk V w.heap.size 35 [v] ∧ kh.R 25 V w.heap.size (fun k => w.heap.size + 3 ≤ k) v (levB L pre) ∧ kh.C V A L.length L ∧ w.heap.size + 3 ≤ V.heap.size) ∧ Below w.heap.size w V
theorem add_block (a : Addr) (n : Nat) : (a.add n).block = a.block := by unfold Addr.add; split <;> rfl
theorem keep_refl (V : World) (g : Nat) (r : Option Nat) : KeepBut V V g r := ⟨Nat.le_refl _, fun _ _ _ _ => rfl⟩
theorem keep_below {V V1 V2 : World} {g : Nat} {r : Option Nat} (h : KeepBut V V1 g r) (hb : Below V1.heap.size V1 V2) : KeepBut V V2 g r :=
  ⟨Nat.le_trans h.1 hb.size, fun i hi h1 h2 => (hb.block i (Nat.lt_of_lt_of_le hi h.1)).trans (h.2 i hi h1 h2)⟩
theorem keep_grown {V V1 V2 : World} {g : Nat} {r : Option Nat} (h : KeepBut V V1 g r) (hg : V1.grownBy V2 r) : KeepBut V V2 g r :=
  ⟨Nat.le_trans h.1 hg.size, fun i hi h1 h2 => (hg.block i (Nat.lt_of_lt_of_le hi h.1) h2).trans (h.2 i hi h1 h2)⟩
theorem keep_set {V V1 : World} {g : Nat} {r : Option Nat} (h : KeepBut V V1 g r) (j : Nat) (u : Value) : KeepBut V (V1.setCell ⟨g, j, none⟩ u) g r :=
  ⟨by simp [World.setCell]; exact h.1, fun i hi h1 h2 => (Below.heap_setCell V1 ⟨g, j, none⟩ u i h1).trans (h.2 i hi h1 h2)⟩
theorem keep_cell {V V1 : World} {g : Nat} {r : Option Nat} (h : KeepBut V V1 g r) {a : Addr} {u : Value} (h1 : a.block ≠ g) (h2 : some a.block ≠ r) (hu : V.cell? a = some u) : V1.cell? a = some u := by
  have := h.2 a.block (World.block_lt_of_cell? V a hu) h1 h2
  unfold World.cell? at hu ⊢
  rw [this]; exact hu
/-- what is held while a round goes on -/
def LevS (w V : World) (v : Value) (V1 : World) : Prop := KeepBut V V1 w.heap.size v.ownBlock ∧ Below w.heap.size w V1
theorem levS_of {w V V1 V2 : World} {v : Value} (hb : Below V1.heap.size V1 V2) (h : LevS w V v V1) : LevS w V v V2 := ⟨keep_below h.1 hb, below_then h.2 h.2.size hb⟩
theorem below_between {n : Nat} {w V V1 : World} (h1 : Below n w V) (h2 : Below n w V1) (hs : V.heap.size ≤ V1.heap.size) : Below n V V1 :=
  ⟨h2.os.trans h1.os.symm, h2.tape.trans h1.tape.symm, h2.output.trans h1.output.symm, hs, fun k hk => (h2.block k hk).trans (h1.block k hk).symm⟩
theorem keepsOthers_of {V V1 : World} {g : Nat} {r : Option Nat} (h : KeepBut V V1 g r) (hg : ∀ o, V.heap[g]? = some o → o.isCells = true) (hr : ∀ k o, r = some k → V.heap[k]? = some o → o.isCells = true) : KeepsOthers V V1 :=
  ⟨h.1, fun k o hk ho => by
    refine (h.2 k (Array.getElem?_eq_some_iff.1 hk).1 (fun e => ?_) (fun e => ?_)).trans hk
    · subst e; rw [hg o hk] at ho; cases ho
    · rw [hr k o e.symm hk] at ho; cases ho⟩
/-- what a round leaves -/
theorem lev_end {B0 Bs Bn : Nat} {w V V1 : World} {v v1 : Value} {L : List (List Int)} {A : Option Addr} {N : Nat} {pre : List (Fin N)} {y : Fin N} {ls : List (List Int)} (hBs : Bs = w.heap.size + 1) (hBn : Bn = w.heap.size + 1 + 1) (hX : Blk V w.heap.size 35 [v]) (hR : kh.R 25 V w.heap.size (fun k => w.heap.size + 3 ≤ k) v ls) (hB : Below w.heap.size w V) (hVs : w.heap.size + 3 ≤ V.heap.size)
    (had : ∀ {ad : Addr}, A = some ad → ad.block < w.heap.size) (hC : kh.C V A L.length L) (hS : LevS w V v V1) (hX1 : Blk V1 w.heap.size 35 [v1]) (hR1 : kh.R 25 V1 w.heap.size (fun k => w.heap.size + 3 ≤ k) v1 (levB L (pre ++ [y]))) :
    KeepsFrom B0 V V1 ∧ Kp w.heap.size Bs Bn V V1 ∧ LevJ w L A N (pre ++ [y]) V1 := by
  subst hBs hBn
  have hown : ∀ k, v.ownBlock = some k → w.heap.size + 3 ≤ k := hR.1
  refine ⟨(keepsOthers_of hS.1 (fun o ho => ?_) (fun k o hk ho => ?_)).from _, ⟨below_between hB hS.2 hS.1.1, fun u hu => keep_cell hS.1 (by show w.heap.size + 1 ≠ _; omega) (fun e => by have h3 : w.heap.size + 3 ≤ w.heap.size + 1 := hown _ e.symm; omega) hu, fun u hu => keep_cell hS.1 (by show w.heap.size + 1 + 1 ≠ _; omega) (fun e => by have h3 : w.heap.size + 3 ≤ w.heap.size + 1 + 1 := hown _ e.symm; omega) hu⟩, ⟨v1, hX1, hR1, ?_, Nat.le_trans hVs hS.1.1⟩, hS.2⟩
  · unfold Blk at hX; rw [hX] at ho; cases ho; rfl
  · obtain ⟨inner, hi⟩ := Kd.R_own hR
    obtain ⟨cells, hc⟩ := own_typed hi k hk
    rw [hc] at ho; cases ho; rfl
  · exact kh_kept hC (fun a e p u hb hu => keep_cell hS.1 (by have := had e; omega) (fun e2 => by have := hown _ e2.symm; have := had e; omega) hu)
set_option maxRecDepth 100000 in
set_option maxHeartbeats 400000 in
theorem level_calls (L : List (List Int)) (A : Option Addr) (c : Nat) (w : World) (hK : Kst w) (hBg : Bst w) (hr : kh.C w A L.length L) (hc : L.length ≤ c) (hn : L.length ≤ 1000) (hby : ∀ h ∈ L, Bytes h) :
    Calls Tryd.prog 27 #[.slice A L.length c] w fun e w' => ∃ v, e = .returned v ∧ kh.R 25 w' w.heap.size (fun _ => True) v (lev L) ∧ Below w.heap.size w w' := by
  obtain ⟨N, hN⟩ : ∃ N, N = (L.length + 1) / 2 := ⟨_, rfl⟩
  obtain ⟨w2, hw2⟩ : ∃ w2, w2 = w.alloc (.cells #[.slice none 0 0] 35) := ⟨_, rfl⟩
  have hs2 : w2.heap.size = w.heap.size + 1 := by rw [hw2]; simp
  have hB2 : Below w.heap.size w w2 := by rw [hw2]; exact below_alloc (Below.refl _ _) _
  have hX2 : Blk w2 w.heap.size 35 [.slice none 0 0] := by rw [hw2]; exact Blk.new w 35 [.slice none 0 0]
  have hC2 := Kd.C_below hr hB2
  have hA : 0 < N → ∃ ad, A = some ad := fun h => by obtain ⟨ad, e, _⟩ := hr.2.2 (by omega); exact ⟨ad, e⟩
  have hw2A := Aside0.mk hw2; have hs2A := Aside0.mk hs2; have hX2A := Aside0.mk hX2; have hC2A := Aside0.mk hC2; have hB2A := Aside0.mk hB2; have hKA := Aside0.mk hK; have hBgA := Aside0.mk hBg; have hrA := Aside0.mk hr; have hNA := Aside0.mk hN
  clear hN hs2 hB2 hX2 hC2 hK hBg hr
  refine (callsIn_wide (n := 5)).1 ?_
  refine callsIn_of_wp_marks Tryd.func27 rfl trivial ?_ rfl
  simp only [Tryd.ntmps27, List.size_toArray, List.length_cons, List.length_nil, Nat.reduceAdd, Nat.reduceSub, Array.replicate_succ, Array.replicate_zero, List.push_toArray, List.append_toArray, List.nil_append, List.cons_append]
  clear hw2
  gi_wp2_with (refine ⟨trivial, ?_⟩; gi_at_call 34; rw [← hw2A.out]; refine (Chunk2.chunk_in 4 _ _ _ _).mono ?_; rintro e w' ⟨rfl, rfl⟩)
  have hs2 := hs2A.out; have hB2 := hB2A.out
  have hB3 : Below w.heap.size w ((w2.alloc (.cells #[.slice A L.length c] 35)).alloc (.cells #[.int .i64 2] 3)) := (hB2.alloc hB2.size _).alloc (by have := hB2.size; simp; omega) _
  have bx0 := Boxed.new w2 35 (.slice A L.length c)
  have bx1 := Boxed.new (w2.alloc (.cells #[.slice A L.length c] 35)) 3 (.int .i64 2)
  rw [World.size_alloc] at bx1
  refine wpIn_rangeFunc_ownG rfl (by decide) (gf := 36) (lb := #[.pointer (some ⟨w2.heap.size, 0, none⟩), .pointer (some ⟨w2.heap.size + 1, 0, none⟩)]) rfl trivial (enters_of Tryd.func36 (by kernel_rfl) rfl)
    (Chunk2.chunk_stops 4 (by decide) w2.heap.size (w2.heap.size + 1) w.heap.size c L.length N A hNA.out hc (by omega) hA _ (by simp; omega) (by simp) (by simp; omega) (bx0.alloc _).cell bx1.cell) Kp.trans (Kp.b (by simp; omega)) (Below.refl _ _) (fun _ => rfl)
    (LevJ w L A N)
    (fun _ _ _ => False)
    ?own
    (fun _ _ _ _ _ hs _ _ => hs)
    ⟨⟨_, (hX2A.out.alloc _).alloc _, Kd.R_nil _ _ _ _ _, Kd.C_alloc (Kd.C_alloc hC2A.out _) _, by simp; omega⟩, hB3⟩
    (fun (y : Fin N) => { tmps := #[.slice A L.length c, undef, .slice none 0 0, .pointer (some ⟨w.heap.size, 0, none⟩), Chunk2.part A L.length y.val, .slice A L.length c, .func (.func 36) #[] #[.pointer (some ⟨w.heap.size + 1, 0, none⟩), .pointer (some ⟨w.heap.size + 1 + 1, 0, none⟩)], Chunk2.part A L.length y.val, undef, undef, undef, undef, undef, undef, undef, undef, undef, undef, undef, undef, undef, undef, undef], defers := [] }) ?assign ?body ?done ?stop
  case own =>
    refine OwnFrom.and (fun s A1 B1 row hs hg hr => ?_) (ownFrom_below (Nat.le_refl _) (by simp; omega))
    obtain ⟨v, h1, h2, h3, h4⟩ := hs
    have hrow : ∀ r, row = some r → ∃ o : Obj, A1.heap[r]? = some o ∧ o.isCells = false := fun r e => (hr r e).2
    refine ⟨v, Blk.kept h1 hg hrow, Kd.R_mono (Kd.R_grown (Kd.R_bound h2) hg (fun k hk e => ?_)) (fun _ hk => hk.1), kh_kept h3 (fun ad e p u hb hu => cell_kept hu hg hrow), Nat.le_trans h4 hg.size⟩
    obtain ⟨_, _, _, q, _, cells, hc⟩ := hk
    obtain ⟨o, ho, hcells⟩ := hrow k e.symm
    rw [hc] at ho; cases ho; cases hcells
  case assign =>
    intro l_ y W_ K hK
    gi_wp2
    exact hK
  case body =>
    rintro l_ pre y V ⟨⟨v, hX, hR, hCv, hVs⟩, hB⟩ hpre
    have hVsA := Aside0.mk hVs
    have hy : 2 * y.val < L.length := by have := y.2; have := hNA.out; omega
    obtain ⟨q, hq⟩ : ∃ q, min 2 (L.length - 2 * y.val) = q + 1 := ⟨min 2 (L.length - 2 * y.val) - 1, by omega⟩
    obtain ⟨ad, rfl⟩ := hA (by have := y.2; omega)
    have had : ad.block < w.heap.size := by
      obtain ⟨_, a0, e0, h0⟩ := kh_at hrA.out 0 L[0] (List.getElem?_eq_getElem (by omega))
      cases e0
      have := h0 0 (.int .u8 (L[0].getD 0 0)) (by have := kh_lens hrA.out L[0] (by simp); simp [nums, this])
      have := World.block_lt_of_cell? _ _ this
      rwa [add_block, add_block] at this
    obtain ⟨p0, hp0⟩ : ∃ h, L[2 * y.val]? = some h := ⟨_, List.getElem?_eq_getElem hy⟩
    obtain ⟨p1, hp1⟩ : ∃ h, L[2 * y.val + q]? = some h := ⟨_, List.getElem?_eq_getElem (by omega)⟩
    have hb0 := hby p0 (List.mem_of_getElem? hp0)
    have hb1 := hby p1 (List.mem_of_getElem? hp1)
    have hduo : duo L y.val = dbl (p0 ++ p1) := by
      unfold duo
      rw [hq, Nat.add_sub_cancel, List.getD_eq_getElem?_getD, List.getD_eq_getElem?_getD, hp0, hp1]; rfl
    obtain ⟨bd, hbd⟩ : ∃ bd, bd = ad.add (64 * y.val) := ⟨_, rfl⟩
    have ebd1 : (ad.add ((2 * y.val + q) * 32)) = bd.add (q * 32) := by rw [hbd, Deep.add_add]; congr 1; omega
    have hown := fun k hk => hR.1 k hk
    have hl0 := kh_lens hrA.out p0 (List.mem_of_getElem? hp0)
    have hl1 := kh_lens hrA.out p1 (List.mem_of_getElem? hp1)
    have hkeepC : ∀ V1, LevS w V v V1 → kh.C V1 (some ad) L.length L := fun V1 hS => kh_kept hCv (fun a e p u hb hu => keep_cell hS.1 (by cases e; omega) (fun e2 => by cases e; have := hown _ e2.symm; omega) hu)
    have ht0 : ∀ V1, LevS w V v V1 → Kd.C (Kd.int .u8) V1 (some bd) p0.length p0 := fun V1 hS => by
      obtain ⟨_, a0, e0, h0⟩ := kh_text (hkeepC V1 hS) _ _ hp0
      cases e0
      rw [hbd, show 64 * y.val = 2 * y.val * 32 by omega]; exact h0
    have ht1 : ∀ V1, LevS w V v V1 → Kd.C (Kd.int .u8) V1 (some (bd.add (q * 32))) p1.length p1 := fun V1 hS => by
      obtain ⟨_, a0, e0, h0⟩ := kh_text (hkeepC V1 hS) _ _ hp1
      cases e0
      rw [← ebd1]; exact h0
    have hDb : ∀ (V1 : World) (b : Nat), Blk V1 b 22 [.slice (some bd) 32 32, .slice (some (bd.add (q * 32))) 32 32] → LevS w V v V1 → Calls Tryd.prog 11 #[.slice (some ⟨b, 0, none⟩) 2 2] V1 fun e w' => e = .returned (hv (dbl (p0 ++ p1))) ∧ Below V1.heap.size V1 w' := fun V1 b hb hS => by
      have h2 := kp_two (l := p0) (l' := p1) (by rw [hl0, hl1]; exact hb) (by omega) (ht0 V1 hS) (by omega) (ht1 V1 hS)
      have hf : [p0, p1].flatten = p0 ++ p1 := by simp
      have h := double_calls [p0, p1] (some ⟨b, 0, none⟩) 2 V1 (hKA.out.below hS.2) (hBgA.out.below hS.2) h2 (Nat.le_refl _) (by show 2 ≤ _; decide) (by rw [hf, List.length_append]; omega) (by rw [hf]; exact fun x hx => (List.mem_append.1 hx).elim (hb0 x) (hb1 x))
      rw [hf] at h
      exact h
    have hq1 : q ≤ 1 := by omega
    have hmq : IntKind.i64.wrap (((q + 1 : Nat) : Int) - 1) = (q : Int) := by rw [IntKind.wrap_i64]; omega
    have hdl : (dbl (p0 ++ p1)).length = 32 := sum_length _
    have hsn := levB_snoc L pre y
    rw [hduo] at hsn
    have hll : (levB L pre).length ≤ 1000 := by have := hNA.out; simp [levB]; omega
    obtain ⟨d, hd⟩ : ∃ d, d = dbl (p0 ++ p1) := ⟨_, rfl⟩
    rw [← hd] at hDb hdl hsn
    obtain ⟨ls, hls⟩ : ∃ ls, ls = levB L pre := ⟨_, rfl⟩
    rw [← hls] at hsn hR hll
    dsimp only [Chunk2.part, Option.map]
    rw [hq, ← hbd]
    have hRA := Aside0.mk hR; have hXA := Aside0.mk hX; have hDbA := Aside0.mk hDb; have hsnA := Aside0.mk hsn; have hdlA := Aside0.mk hdl; have hCvA := Aside0.mk hCv; have hownA := Aside0.mk hown; have hadA := Aside0.mk had; have hBA := Aside0.mk hB
    have hmqA := Aside0.mk hmq
    clear hq hbd ebd1 hduo hp0 hp1 hb0 hb1 hl0 hl1 hkeepC ht0 ht1 hd hls hR hX hDb hsn hdl hown hCv hmq hy
    gi_wp2
    have H0 : LevS w V v V.drew := ⟨keep_refl _ _ _, pw_below_drewN hBA.out 1⟩
    refine InRound.wpIn_round_held (S := LevS w V v) (by kernel_rfl) (by kernel_rfl) H0 (fun _ => ?_)
    have hR0 : Aside0 (kh.R 25 V.drew w.heap.size (fun k => w.heap.size + 3 ≤ k) v ls) := Aside0.mk (Kd.R_below hRA.out (pw_below_drewN (Below.refl V.heap.size V) 1))
    have hX0 : Blk V.drew w.heap.size 35 [v] := hXA.out
    generalize V.drew = V0 at *
    -- REGION
    refine wpAnyH_take (i := 1) (v := .slice (some bd) (q + 1) (q + 1)) (op_at rfl) (by kernel_rfl) (by kernel_rfl) (by kernel_rfl) (fun _ _ _ h => h) (Or.inl ⟨by rfl, fun w_ hSw => ?_⟩) H0 ?_
    · skip; go_simp
    try simp only [Act.put, List.setIfInBounds_toArray, List.set_cons_zero, List.set_cons_succ]
    refine wpAnyH_take (i := 2) (v := .pointer (some bd)) (op_at rfl) (by kernel_rfl) (by kernel_rfl) (by kernel_rfl) (fun _ _ _ h => h) (Or.inl ⟨by rfl, fun w_ hSw => ?_⟩) H0 ?_
    · skip; go_simp
    try simp only [Act.put, List.setIfInBounds_toArray, List.set_cons_zero, List.set_cons_succ]
    refine wpAnyH_take (i := 3) (v := .slice (some bd) 32 32) (op_at rfl) (by kernel_rfl) (by kernel_rfl) (by kernel_rfl) (fun _ _ _ h => h) (Or.inl ⟨by rfl, fun w_ hSw => ?_⟩) H0 ?_
    · skip; go_simp
    try simp only [Act.put, List.setIfInBounds_toArray, List.set_cons_zero, List.set_cons_succ]
    refine wpAnyH_take (i := 4) (v := .slice (some bd) (q + 1) (q + 1)) (op_at rfl) (by kernel_rfl) (by kernel_rfl) (by kernel_rfl) (fun _ _ _ h => h) (Or.inl ⟨by rfl, fun w_ hSw => ?_⟩) H0 ?_
    · skip; go_simp
    try simp only [Act.put, List.setIfInBounds_toArray, List.set_cons_zero, List.set_cons_succ]
    refine wpAnyH_take (i := 5) (v := .slice (some bd) (q + 1) (q + 1)) (op_at rfl) (by kernel_rfl) (by kernel_rfl) (by kernel_rfl) (fun _ _ _ h => h) (Or.inl ⟨by rfl, fun w_ hSw => ?_⟩) H0 ?_
    · skip; go_simp
    try simp only [Act.put, List.setIfInBounds_toArray, List.set_cons_zero, List.set_cons_succ]
    refine wpAnyH_take (i := 6) (v := .int .i64 ((q + 1 : Nat) : Int)) (op_at rfl) (by kernel_rfl) (by kernel_rfl) (by kernel_rfl) (fun _ _ _ h => h) (Or.inl ⟨by rfl, fun w_ hSw => ?_⟩) H0 ?_
    · skip; go_simp
    try simp only [Act.put, List.setIfInBounds_toArray, List.set_cons_zero, List.set_cons_succ]
    refine wpAnyH_take (i := 7) (v := .int .i64 (q : Int)) (op_at rfl) (by kernel_rfl) (by kernel_rfl) (by kernel_rfl) (fun _ _ _ h => h) (Or.inl ⟨by rfl, fun w_ hSw => ?_⟩) H0 ?_
    · have h1 := hmqA.out; have h2 : IntKind.i64.wrap (q : Int) = (q : Int) := (by rw [IntKind.wrap_i64]; omega); have h3 : IntKind.i64.wrap ((q : Int) + 1 - 1) = (q : Int) := (by rw [IntKind.wrap_i64]; omega); go_simp
    try simp only [Act.put, List.setIfInBounds_toArray, List.set_cons_zero, List.set_cons_succ]
    refine wpAnyH_take (i := 8) (v := .pointer (some (bd.add (q * 32)))) (op_at rfl) (by kernel_rfl) (by kernel_rfl) (by kernel_rfl) (fun _ _ _ h => h) (Or.inl ⟨by rfl, fun w_ hSw => ?_⟩) H0 ?_
    · have g1 : (q : Int) < ((q + 1 : Nat) : Int) := (by omega); have g2 : (q : Int) < (q : Int) + 1 := (by omega); have g0 : (0 : Int) ≤ (q : Int) := (by omega); go_simp
    try simp only [Act.put, List.setIfInBounds_toArray, List.set_cons_zero, List.set_cons_succ]
    refine wpAnyH_take (i := 9) (v := .slice (some (bd.add (q * 32))) 32 32) (op_at rfl) (by kernel_rfl) (by kernel_rfl) (by kernel_rfl) (fun _ _ _ h => h) (Or.inl ⟨by rfl, fun w_ hSw => ?_⟩) H0 ?_
    · skip; go_simp
    try simp only [Act.put, List.setIfInBounds_toArray, List.set_cons_zero, List.set_cons_succ]
    refine wpAnyH_ready (rs := [0, 10]) (by kernel_rfl) (by simp) ?_
    refine AllReadyH.cons (op_at rfl) (fun K hK => ?_) (AllReadyH.cons (op_at rfl) (fun K hK => ?_) AllReadyH.nil)
    · have hc_ := hX0.get 0 v rfl
      go_simp
      clear hc_
      refine hK.out _ _ H0 (fun H1_ => ?_)
      clear hK K
      try simp only [Act.put, List.setIfInBounds_toArray, List.set_cons_zero, List.set_cons_succ]
      refine wpAnyH_ready (rs := [10]) (by kernel_rfl) (by simp) ?_
      refine AllReadyH.cons (op_at rfl) (fun K hK => ?_) AllReadyH.nil
      go_simp
      have hb := below_alloc (Below.refl V0.heap.size V0) (.cells #[.slice (some bd) 32 32, .slice (some (bd.add (q * 32))) 32 32] 22)
      refine hK.out _ _ (levS_of hb H1_) (fun H2_ => ?_)
      have X_2 := Blk.below hX0 hb
      have XC_2 := Blk.below hX0 hb
      have R_2 := Aside0.mk (Kd.R_below hR0.out hb)
      have B1_2 := Blk.new V0 22 [.slice (some bd) 32 32, .slice (some (bd.add (q * 32))) 32 32]
      clear hK K hb
      obtain ⟨V2_, hV_⟩ : ∃ V_, V_ = V0.alloc (.cells #[.slice (some bd) 32 32, .slice (some (bd.add (q * 32))) 32 32] 22) := ⟨_, rfl⟩
      rw [← hV_] at H2_ X_2 XC_2 R_2 B1_2 ⊢
      obtain ⟨gB1_2, hg_⟩ : ∃ g_, g_ = V0.heap.size := ⟨_, rfl⟩
      rw [← hg_] at B1_2 ⊢
      clear hV_ hg_
      try simp only [Act.put, List.setIfInBounds_toArray, List.set_cons_zero, List.set_cons_succ]
      refine wpAnyH_ready (rs := [11]) (by kernel_rfl) (by simp) ?_
      refine AllReadyH.cons (op_at rfl) (fun K hK => ?_) AllReadyH.nil
      go_simp
      go_at_call 11
      with_reducible refine (hDbA.out V2_ gB1_2 B1_2 H2_).mono ?_
      rintro e V3_ ⟨rfl, hb⟩
      go_wp2_with fail
      refine hK.out _ _ (levS_of hb H2_) (fun H3_ => ?_)
      have X_3 := Blk.below X_2 hb
      have XC_3 := Blk.below XC_2 hb
      have R_3 := Aside0.mk (Kd.R_below R_2.out hb)
      have B1_3 := Blk.below B1_2 hb
      clear hK K hb
      try simp only [Act.put, List.setIfInBounds_toArray, List.set_cons_zero, List.set_cons_succ]
      refine wpAnyH_ready (rs := [12]) (by kernel_rfl) (by simp) ?_
      refine AllReadyH.cons (op_at rfl) (fun K hK => ?_) AllReadyH.nil
      refine step_slice_hash (by rfl) 35 (.tmp 19) rfl d hdlA.out rfl Tryd.underlying35 ?_
      refine hK.out _ _ (levS_of (below_alloc (Below.refl V3_.heap.size V3_) (.cells (nums .u8 d).toArray 25)) H3_) (fun H4_ => ?_)
      have XC_4 := X_3.alloc (.cells (nums .u8 d).toArray 25)
      clear hK K
      try simp only [Act.put, List.setIfInBounds_toArray, List.set_cons_zero, List.set_cons_succ]
      refine wpAnyH_ready (rs := [13]) (by kernel_rfl) (by simp) ?_
      refine AllReadyH.cons (op_at rfl) (fun K hK => ?_) AllReadyH.nil
      refine Kd.R_append_step kh (w0 := w) w.heap.size (by rfl) (.tmp 8) (.tmp 20) 35 25 (hv zero32) 32 rfl Tryd.underlying35 info_hash3 rfl (by decide) (by decide) v ls d (nums .u8 d) (fun k => w.heap.size + 3 ≤ k) (fun _ => False) rfl rfl (kh_M hdlA.out) (fun _ h => h.elim) (fun k hk => Nat.le_trans (Nat.le_trans hVsA.out H3_.1.1) hk) R_3.out H3_.2 H3_.2.size (by omega) ?_
      intro v1 V5_ hR_ hB_ hg_ _
      refine hK.out _ _ ⟨keep_grown H3_.1 hg_, hB_⟩ (fun H5_ => ?_)
      have X_5 := X_3.grown hg_ (Kd.R_ne R_3.out X_3 (by decide))
      have R_5 := Aside0.mk hR_
      clear hK K hB_ hg_ hR_
      try simp only [Act.put, List.setIfInBounds_toArray, List.set_cons_zero, List.set_cons_succ]
      refine wpAnyH_ready (rs := [14]) (by kernel_rfl) (by simp) ?_
      refine AllReadyH.cons (op_at rfl) (fun K hK => ?_) AllReadyH.nil
      obtain ⟨A1, c1, hv_⟩ := Kd.R_slice R_5.out
      rw [show (ls ++ [d]).length = ls.length + 1 by simp] at hv_
      subst hv_
      have hc_ := X_5.get 0 v rfl
      have hf_ := X_5.fz 0
      go_simp
      refine hK.out _ _ ⟨keep_set H5_.1 0 _, H5_.2.setCell (p := ⟨w.heap.size, 0, none⟩) (Nat.le_refl _) _⟩ (fun H6_ => ?_)
      have X_6 := X_5.set 0 (.slice A1 (ls.length + 1) c1)
      have R_6 := Aside0.mk (Kd.R_far (p := ⟨w.heap.size, 0, none⟩) R_5.out (fun k hk => by show k ≠ w.heap.size; omega) (.slice A1 (ls.length + 1) c1))
      obtain ⟨V6_, hV_⟩ : ∃ V_, V_ = V5_.setCell ⟨w.heap.size, 0, none⟩ (.slice A1 (ls.length + 1) c1) := ⟨_, rfl⟩
      rw [← hV_] at H6_ X_6 R_6 ⊢
      clear hK K hc_ hf_ hV_
      try simp only [Act.put, List.setIfInBounds_toArray, List.set_cons_zero, List.set_cons_succ]
      refine wpAnyH_done (by kernel_rfl) ?_ _
      refine InRound.Only.normal ?_
      gi_wp2
      exact lev_end (by have := hs2A.out; omega) (by have := hs2A.out; omega) hXA.out hRA.out hBA.out hVsA.out (fun e => by cases e; exact hadA.out) hCvA.out H6_ X_6 (by rw [hsnA.out]; exact R_6.out)
    · go_simp
      have hb := below_alloc (Below.refl V0.heap.size V0) (.cells #[.slice (some bd) 32 32, .slice (some (bd.add (q * 32))) 32 32] 22)
      refine hK.out _ _ (levS_of hb H0) (fun H7_ => ?_)
      have X_7 := Blk.below hX0 hb
      have XC_7 := Blk.below hX0 hb
      have R_7 := Aside0.mk (Kd.R_below hR0.out hb)
      have B1_7 := Blk.new V0 22 [.slice (some bd) 32 32, .slice (some (bd.add (q * 32))) 32 32]
      clear hK K hb
      obtain ⟨V7_, hV_⟩ : ∃ V_, V_ = V0.alloc (.cells #[.slice (some bd) 32 32, .slice (some (bd.add (q * 32))) 32 32] 22) := ⟨_, rfl⟩
      rw [← hV_] at H7_ X_7 XC_7 R_7 B1_7 ⊢
      obtain ⟨gB1_7, hg_⟩ : ∃ g_, g_ = V0.heap.size := ⟨_, rfl⟩
      rw [← hg_] at B1_7 ⊢
      clear hV_ hg_
      try simp only [Act.put, List.setIfInBounds_toArray, List.set_cons_zero, List.set_cons_succ]
      refine wpAnyH_ready (rs := [0, 11]) (by kernel_rfl) (by simp) ?_
      refine AllReadyH.cons (op_at rfl) (fun K hK => ?_) (AllReadyH.cons (op_at rfl) (fun K hK => ?_) AllReadyH.nil)
      · have hc_ := XC_7.get 0 v rfl
        go_simp
        clear hc_
        refine hK.out _ _ H7_ (fun H8_ => ?_)
        clear hK K
        try simp only [Act.put, List.setIfInBounds_toArray, List.set_cons_zero, List.set_cons_succ]
        refine wpAnyH_ready (rs := [11]) (by kernel_rfl) (by simp) ?_
        refine AllReadyH.cons (op_at rfl) (fun K hK => ?_) AllReadyH.nil
        go_simp
        go_at_call 11
        with_reducible refine (hDbA.out V7_ gB1_7 B1_7 H8_).mono ?_
        rintro e V9_ ⟨rfl, hb⟩
        go_wp2_with fail
        refine hK.out _ _ (levS_of hb H8_) (fun H9_ => ?_)
        have X_9 := Blk.below X_7 hb
        have XC_9 := Blk.below XC_7 hb
        have R_9 := Aside0.mk (Kd.R_below R_7.out hb)
        have B1_9 := Blk.below B1_7 hb
        clear hK K hb
        try simp only [Act.put, List.setIfInBounds_toArray, List.set_cons_zero, List.set_cons_succ]
        refine wpAnyH_ready (rs := [12]) (by kernel_rfl) (by simp) ?_
        refine AllReadyH.cons (op_at rfl) (fun K hK => ?_) AllReadyH.nil
        refine step_slice_hash (by rfl) 35 (.tmp 19) rfl d hdlA.out rfl Tryd.underlying35 ?_
        refine hK.out _ _ (levS_of (below_alloc (Below.refl V9_.heap.size V9_) (.cells (nums .u8 d).toArray 25)) H9_) (fun H10_ => ?_)
        have XC_10 := X_9.alloc (.cells (nums .u8 d).toArray 25)
        clear hK K
        try simp only [Act.put, List.setIfInBounds_toArray, List.set_cons_zero, List.set_cons_succ]
        refine wpAnyH_ready (rs := [13]) (by kernel_rfl) (by simp) ?_
        refine AllReadyH.cons (op_at rfl) (fun K hK => ?_) AllReadyH.nil
        refine Kd.R_append_step kh (w0 := w) w.heap.size (by rfl) (.tmp 8) (.tmp 20) 35 25 (hv zero32) 32 rfl Tryd.underlying35 info_hash3 rfl (by decide) (by decide) v ls d (nums .u8 d) (fun k => w.heap.size + 3 ≤ k) (fun _ => False) rfl rfl (kh_M hdlA.out) (fun _ h => h.elim) (fun k hk => Nat.le_trans (Nat.le_trans hVsA.out H9_.1.1) hk) R_9.out H9_.2 H9_.2.size (by omega) ?_
        intro v1 V11_ hR_ hB_ hg_ _
        refine hK.out _ _ ⟨keep_grown H9_.1 hg_, hB_⟩ (fun H11_ => ?_)
        have X_11 := X_9.grown hg_ (Kd.R_ne R_9.out X_9 (by decide))
        have R_11 := Aside0.mk hR_
        clear hK K hB_ hg_ hR_
        try simp only [Act.put, List.setIfInBounds_toArray, List.set_cons_zero, List.set_cons_succ]
        refine wpAnyH_ready (rs := [14]) (by kernel_rfl) (by simp) ?_
        refine AllReadyH.cons (op_at rfl) (fun K hK => ?_) AllReadyH.nil
        obtain ⟨A1, c1, hv_⟩ := Kd.R_slice R_11.out
        rw [show (ls ++ [d]).length = ls.length + 1 by simp] at hv_
        subst hv_
        have hc_ := X_11.get 0 v rfl
        have hf_ := X_11.fz 0
        go_simp
        refine hK.out _ _ ⟨keep_set H11_.1 0 _, H11_.2.setCell (p := ⟨w.heap.size, 0, none⟩) (Nat.le_refl _) _⟩ (fun H12_ => ?_)
        have X_12 := X_11.set 0 (.slice A1 (ls.length + 1) c1)
        have R_12 := Aside0.mk (Kd.R_far (p := ⟨w.heap.size, 0, none⟩) R_11.out (fun k hk => by show k ≠ w.heap.size; omega) (.slice A1 (ls.length + 1) c1))
        obtain ⟨V12_, hV_⟩ : ∃ V_, V_ = V11_.setCell ⟨w.heap.size, 0, none⟩ (.slice A1 (ls.length + 1) c1) := ⟨_, rfl⟩
        rw [← hV_] at H12_ X_12 R_12 ⊢
        clear hK K hc_ hf_ hV_
        try simp only [Act.put, List.setIfInBounds_toArray, List.set_cons_zero, List.set_cons_succ]
        refine wpAnyH_done (by kernel_rfl) ?_ _
        refine InRound.Only.normal ?_
        gi_wp2
        exact lev_end (by have := hs2A.out; omega) (by have := hs2A.out; omega) hXA.out hRA.out hBA.out hVsA.out (fun e => by cases e; exact hadA.out) hCvA.out H12_ X_12 (by rw [hsnA.out]; exact R_12.out)
      · go_simp
        go_at_call 11
        with_reducible refine (hDbA.out V7_ gB1_7 B1_7 H7_).mono ?_
        rintro e V13_ ⟨rfl, hb⟩
        go_wp2_with fail
        refine hK.out _ _ (levS_of hb H7_) (fun H13_ => ?_)
        have X_13 := Blk.below X_7 hb
        have XC_13 := Blk.below XC_7 hb
        have R_13 := Aside0.mk (Kd.R_below R_7.out hb)
        have B1_13 := Blk.below B1_7 hb
        clear hK K hb
        try simp only [Act.put, List.setIfInBounds_toArray, List.set_cons_zero, List.set_cons_succ]
        refine wpAnyH_ready (rs := [0, 12]) (by kernel_rfl) (by simp) ?_
        refine AllReadyH.cons (op_at rfl) (fun K hK => ?_) (AllReadyH.cons (op_at rfl) (fun K hK => ?_) AllReadyH.nil)
        · have hc_ := XC_13.get 0 v rfl
          go_simp
          clear hc_
          refine hK.out _ _ H13_ (fun H14_ => ?_)
          clear hK K
          try simp only [Act.put, List.setIfInBounds_toArray, List.set_cons_zero, List.set_cons_succ]
          refine wpAnyH_ready (rs := [12]) (by kernel_rfl) (by simp) ?_
          refine AllReadyH.cons (op_at rfl) (fun K hK => ?_) AllReadyH.nil
          refine step_slice_hash (by rfl) 35 (.tmp 19) rfl d hdlA.out rfl Tryd.underlying35 ?_
          refine hK.out _ _ (levS_of (below_alloc (Below.refl V13_.heap.size V13_) (.cells (nums .u8 d).toArray 25)) H14_) (fun H15_ => ?_)
          have XC_15 := X_13.alloc (.cells (nums .u8 d).toArray 25)
          clear hK K
          try simp only [Act.put, List.setIfInBounds_toArray, List.set_cons_zero, List.set_cons_succ]
          refine wpAnyH_ready (rs := [13]) (by kernel_rfl) (by simp) ?_
          refine AllReadyH.cons (op_at rfl) (fun K hK => ?_) AllReadyH.nil
          refine Kd.R_append_step kh (w0 := w) w.heap.size (by rfl) (.tmp 8) (.tmp 20) 35 25 (hv zero32) 32 rfl Tryd.underlying35 info_hash3 rfl (by decide) (by decide) v ls d (nums .u8 d) (fun k => w.heap.size + 3 ≤ k) (fun _ => False) rfl rfl (kh_M hdlA.out) (fun _ h => h.elim) (fun k hk => Nat.le_trans (Nat.le_trans hVsA.out H14_.1.1) hk) R_13.out H14_.2 H14_.2.size (by omega) ?_
          intro v1 V16_ hR_ hB_ hg_ _
          refine hK.out _ _ ⟨keep_grown H14_.1 hg_, hB_⟩ (fun H16_ => ?_)
          have X_16 := X_13.grown hg_ (Kd.R_ne R_13.out X_13 (by decide))
          have R_16 := Aside0.mk hR_
          clear hK K hB_ hg_ hR_
          try simp only [Act.put, List.setIfInBounds_toArray, List.set_cons_zero, List.set_cons_succ]
          refine wpAnyH_ready (rs := [14]) (by kernel_rfl) (by simp) ?_
          refine AllReadyH.cons (op_at rfl) (fun K hK => ?_) AllReadyH.nil
          obtain ⟨A1, c1, hv_⟩ := Kd.R_slice R_16.out
          rw [show (ls ++ [d]).length = ls.length + 1 by simp] at hv_
          subst hv_
          have hc_ := X_16.get 0 v rfl
          have hf_ := X_16.fz 0
          go_simp
          refine hK.out _ _ ⟨keep_set H16_.1 0 _, H16_.2.setCell (p := ⟨w.heap.size, 0, none⟩) (Nat.le_refl _) _⟩ (fun H17_ => ?_)
          have X_17 := X_16.set 0 (.slice A1 (ls.length + 1) c1)
          have R_17 := Aside0.mk (Kd.R_far (p := ⟨w.heap.size, 0, none⟩) R_16.out (fun k hk => by show k ≠ w.heap.size; omega) (.slice A1 (ls.length + 1) c1))
          obtain ⟨V17_, hV_⟩ : ∃ V_, V_ = V16_.setCell ⟨w.heap.size, 0, none⟩ (.slice A1 (ls.length + 1) c1) := ⟨_, rfl⟩
          rw [← hV_] at H17_ X_17 R_17 ⊢
          clear hK K hc_ hf_ hV_
          try simp only [Act.put, List.setIfInBounds_toArray, List.set_cons_zero, List.set_cons_succ]
          refine wpAnyH_done (by kernel_rfl) ?_ _
          refine InRound.Only.normal ?_
          gi_wp2
          exact lev_end (by have := hs2A.out; omega) (by have := hs2A.out; omega) hXA.out hRA.out hBA.out hVsA.out (fun e => by cases e; exact hadA.out) hCvA.out H17_ X_17 (by rw [hsnA.out]; exact R_17.out)
        · refine step_slice_hash (by rfl) 35 (.tmp 19) rfl d hdlA.out rfl Tryd.underlying35 ?_
          refine hK.out _ _ (levS_of (below_alloc (Below.refl V13_.heap.size V13_) (.cells (nums .u8 d).toArray 25)) H13_) (fun H18_ => ?_)
          have XC_18 := X_13.alloc (.cells (nums .u8 d).toArray 25)
          clear hK K
          try simp only [Act.put, List.setIfInBounds_toArray, List.set_cons_zero, List.set_cons_succ]
          refine wpAnyH_ready (rs := [0]) (by kernel_rfl) (by simp) ?_
          refine AllReadyH.cons (op_at rfl) (fun K hK => ?_) AllReadyH.nil
          have hc_ := XC_18.get 0 v rfl
          go_simp
          clear hc_
          refine hK.out _ _ H18_ (fun H19_ => ?_)
          clear hK K
          try simp only [Act.put, List.setIfInBounds_toArray, List.set_cons_zero, List.set_cons_succ]
          refine wpAnyH_ready (rs := [13]) (by kernel_rfl) (by simp) ?_
          refine AllReadyH.cons (op_at rfl) (fun K hK => ?_) AllReadyH.nil
          refine Kd.R_append_step kh (w0 := w) w.heap.size (by rfl) (.tmp 8) (.tmp 20) 35 25 (hv zero32) 32 rfl Tryd.underlying35 info_hash3 rfl (by decide) (by decide) v ls d (nums .u8 d) (fun k => w.heap.size + 3 ≤ k) (fun _ => False) rfl rfl (kh_M hdlA.out) (fun _ h => h.elim) (fun k hk => Nat.le_trans (Nat.le_trans hVsA.out H13_.1.1) hk) R_13.out H13_.2 H13_.2.size (by omega) ?_
          intro v1 V20_ hR_ hB_ hg_ _
          refine hK.out _ _ ⟨keep_grown H13_.1 hg_, hB_⟩ (fun H20_ => ?_)
          have X_20 := X_13.grown hg_ (Kd.R_ne R_13.out X_13 (by decide))
          have R_20 := Aside0.mk hR_
          clear hK K hB_ hg_ hR_
          try simp only [Act.put, List.setIfInBounds_toArray, List.set_cons_zero, List.set_cons_succ]
          refine wpAnyH_ready (rs := [14]) (by kernel_rfl) (by simp) ?_
          refine AllReadyH.cons (op_at rfl) (fun K hK => ?_) AllReadyH.nil
          obtain ⟨A1, c1, hv_⟩ := Kd.R_slice R_20.out
          rw [show (ls ++ [d]).length = ls.length + 1 by simp] at hv_
          subst hv_
          have hc_ := X_20.get 0 v rfl
          have hf_ := X_20.fz 0
          go_simp
          refine hK.out _ _ ⟨keep_set H20_.1 0 _, H20_.2.setCell (p := ⟨w.heap.size, 0, none⟩) (Nat.le_refl _) _⟩ (fun H21_ => ?_)
          have X_21 := X_20.set 0 (.slice A1 (ls.length + 1) c1)
          have R_21 := Aside0.mk (Kd.R_far (p := ⟨w.heap.size, 0, none⟩) R_20.out (fun k hk => by show k ≠ w.heap.size; omega) (.slice A1 (ls.length + 1) c1))
          obtain ⟨V21_, hV_⟩ : ∃ V_, V_ = V20_.setCell ⟨w.heap.size, 0, none⟩ (.slice A1 (ls.length + 1) c1) := ⟨_, rfl⟩
          rw [← hV_] at H21_ X_21 R_21 ⊢
          clear hK K hc_ hf_ hV_
          try simp only [Act.put, List.setIfInBounds_toArray, List.set_cons_zero, List.set_cons_succ]
          refine wpAnyH_done (by kernel_rfl) ?_ _
          refine InRound.Only.normal ?_
          gi_wp2
          exact lev_end (by have := hs2A.out; omega) (by have := hs2A.out; omega) hXA.out hRA.out hBA.out hVsA.out (fun e => by cases e; exact hadA.out) hCvA.out H21_ X_21 (by rw [hsnA.out]; exact R_21.out)
    -- END
  case stop =>
    rintro D c_ pre V _ _ h _
    exact h.elim
  case done =>
    rintro D ys V hD rfl ⟨⟨v, hX, hR, hCv, _⟩, hB⟩ hK
    rw [levB_upto _ _ (Nat.le_refl _), hNA.out] at hR
    have hXc := hX.get 0 v rfl
    have hRA := Aside0.mk hR; have hBA := Aside0.mk hB
    clear hR hB hCv hX
    dsimp only
    gi_wp2
    have hD2 : w.heap.size ≤ D := by simp at hD; omega
    refine ⟨by simp, .inl ⟨_, _, rfl, run_takeDeferred hK, ?_⟩⟩
    have hbD := belowK_b (w := w) (Nat.le_refl _) V D _ (.deferred none) hD2 hK rfl rfl
    have hR2 : kh.R 25 (V.putObj D (.deferred none)) w.heap.size (fun k => w.heap.size + 3 ≤ k) v (lev L) := Kd.R_mono (Kd.R_grown (Kd.R_bound hRA.out) (grownBy_putObj' V D _) (fun k hk e => by
      obtain ⟨_, _, _, q, _, cells, hc⟩ := hk
      cases e
      rw [hc] at hK; cases hK)) (fun _ hk => hk.1)
    exact ⟨v, by simp [results, Tryd.results27, go_sem], ⟨_, rfl, Kd.R_mono hR2 (fun _ _ => trivial), hBA.out.trans hbD⟩⟩
end Go.Proofs.YtibiaacgcpgkbaaDoor.ShaW
