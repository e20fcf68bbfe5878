/- The document's SHA-256. -/
import Derived.Test.YtlgfekllkahfaaaDoorShaQ
set_option linter.unusedVariables false
set_option linter.unusedSimpArgs false
namespace Go.Proofs.YtlgfekllkahfaaaDoor.ShaW
open Go.RowKit Go.Proofs.YtlgfekllkahfaaaDoorW.PrintWords Go.Proofs.YtlgfekllkahfaaaDoorW.PrintMore Go.Proofs.YtlgfekllkahfaaaDoor Go.Proofs.YtlgfekllkahfaaaDoor.Bits Sha ArrK
/-- the document's constants lie where the program's text lays them -/
def Rst (w : World) : Prop := ∀ i : Nat, i < 64 → w.cell? ⟨1, i, none⟩ = some (.int .u32 (v (at_ ks i)))
theorem Rst.below {w w1 : World} (h : Rst w) (hb : Below w.heap.size w w1) : Rst w1 := fun i hi => pw_cell_below hb (h i hi)
/-- a slice's length -/
def slen : Value → Nat
  | .slice _ n _ => n
  | _ => 0
theorem R_slen {W : World} {base e : Nat} {ok : Nat → Prop} {u : Value} {l : List Int} (h : Kd.R (Kd.int .u8) e W base ok u l) : slen u = l.length := by
  obtain ⟨A, c, rfl⟩ := Kd.R_slice h
  rfl
/-- what lies there while the text is filled -/
def Mid (w : World) (u : Value) (l : List Int) (W : World) : Prop := Kd.R (Kd.int .u8) 5 W w.heap.size (fun _ => True) u l ∧ Blk W w.heap.size 34 (nums .u8 zero32) ∧ Blk W (w.heap.size + 1) 100 (cells beg.l) ∧ Below w.heap.size w W
theorem Mid.step {w W W1 : World} {u u1 : Value} {l l1 : List Int} (h : Mid w u l W) (hR : Kd.R (Kd.int .u8) 5 W1 w.heap.size (fun _ => True) u1 l1) (hg : W.grownBy W1 u.ownBlock) (hb : Below w.heap.size w W1) : Mid w u1 l1 W1 :=
  ⟨hR, h.2.1.grown hg (Kd.R_ne h.1 h.2.1 (by decide)), h.2.2.1.grown hg (Kd.R_ne h.1 h.2.2.1 (by decide)), hb⟩
theorem Mid.alloc {w W : World} {u : Value} {l : List Int} (h : Mid w u l W) (o : Obj) : Mid w u l (W.alloc o) := ⟨Kd.R_alloc h.1 o, h.2.1.alloc o, h.2.2.1.alloc o, h.2.2.2.alloc h.2.2.2.size o⟩
theorem Mid.b {w W : World} {u : Value} {l : List Int} (h : Mid w u l W) : Below w.heap.size w W := h.2.2.2
theorem grown_set (V : World) (H i : Nat) (u : Value) : V.grownBy (V.setCell ⟨H, i, none⟩ u) (some H) := ⟨rfl, rfl, rfl, by simp [World.setCell], fun k hk hne => Below.heap_setCell V ⟨H, i, none⟩ u k (fun e => hne (by rw [e]))⟩
/-- what lies there while the blocks are taken -/
def Rn (w : World) (ad : Addr) (P : List Int) (cs : List Value) (W : World) : Prop := Blk W w.heap.size 34 (nums .u8 zero32) ∧ Blk W (w.heap.size + 1) 100 cs ∧ Kd.C (Kd.int .u8) W (some ad) P.length P ∧ Below w.heap.size w W
theorem Rn.grown {w W W1 : World} {ad : Addr} {P : List Int} {cs : List Value} {D : Nat} (h : Rn w ad P cs W) (hg : W.grownBy W1 (some D)) (hD : w.heap.size + 1 < D) (ha : ad.block ≠ D) : Rn w ad P cs W1 :=
  ⟨h.1.grown hg (fun e => by cases e; omega), h.2.1.grown hg (fun e => by cases e; omega), C_kept h.2.2.1 (fun a e p u hb hu => hg.cell hu (by cases e; rw [hb]; exact fun e => ha (Option.some.inj e))), h.2.2.2.grown hg h.2.2.2.size (fun k e => by cases e; omega)⟩
theorem Rn.alloc {w W : World} {ad : Addr} {P : List Int} {cs : List Value} (h : Rn w ad P cs W) (o : Obj) : Rn w ad P cs (W.alloc o) := ⟨h.1.alloc o, h.2.1.alloc o, Kd.C_alloc h.2.2.1 o, h.2.2.2.alloc h.2.2.2.size o⟩
theorem Rn.drew {w W : World} {ad : Addr} {P : List Int} {cs : List Value} (h : Rn w ad P cs W) : Rn w ad P cs W.drew := ⟨h.1, h.2.1, Kd.C_drew h.2.2.1, pw_below_drewN h.2.2.2 1⟩
theorem Rn.put {w W : World} {ad : Addr} {P : List Int} {cs : List Value} (h : Rn w ad P cs W) (i : Nat) (u : Value) (ha : ad.block ≠ w.heap.size + 1) : Rn w ad P (cs.set i u) (W.setCell ⟨w.heap.size + 1, i, none⟩ u) :=
  ⟨h.1.far (p := ⟨w.heap.size + 1, i, none⟩) (by show w.heap.size ≠ w.heap.size + 1; omega) u, h.2.1.set i u, C_kept h.2.2.1 (fun a e p u hb hu => (grown_set W (w.heap.size + 1) i _).cell hu (by cases e; rw [hb]; exact fun e => ha (Option.some.inj e))), h.2.2.2.setCell (p := ⟨w.heap.size + 1, i, none⟩) (by show w.heap.size ≤ w.heap.size + 1; omega) u⟩
set_option maxRecDepth 100000 in
set_option maxHeartbeats 12000000 in
theorem rsum_calls (t : List Int) (A : Option Addr) (c : Nat) (w : World) (hb : Bytes t) (hK : Rst w) (hr : Kd.C (Kd.int .u8) w A t.length t) (hc : t.length ≤ c) (hl : t.length < 1000000000) :
    Calls Tryd.prog 51 #[.slice A t.length c] w fun e w' => e = .returned (hv (Sha.sum t)) ∧ Below w.heap.size w w' := by
  obtain ⟨V0, hV0⟩ : ∃ V0, V0 = w.alloc (.cells #[.int .u8 0, .int .u8 0, .int .u8 0, .int .u8 0, .int .u8 0, .int .u8 0, .int .u8 0, .int .u8 0, .int .u8 0, .int .u8 0, .int .u8 0, .int .u8 0, .int .u8 0, .int .u8 0, .int .u8 0, .int .u8 0, .int .u8 0, .int .u8 0, .int .u8 0, .int .u8 0, .int .u8 0, .int .u8 0, .int .u8 0, .int .u8 0, .int .u8 0, .int .u8 0, .int .u8 0, .int .u8 0, .int .u8 0, .int .u8 0, .int .u8 0, .int .u8 0] 34) := ⟨_, rfl⟩
  have hB0 : Below w.heap.size w V0 := by rw [hV0]; exact (Below.refl _ _).alloc (Nat.le_refl _) _
  have hR0 : Blk V0 w.heap.size 34 (nums .u8 zero32) := by rw [hV0]; exact Blk.new w 34 (nums .u8 zero32)
  obtain ⟨V1, hV1⟩ : ∃ V1, V1 = V0.alloc (.cells #[.int .u32 1779033703, .int .u32 3144134277, .int .u32 1013904242, .int .u32 2773480762, .int .u32 1359893119, .int .u32 2600822924, .int .u32 528734635, .int .u32 1541459225] 100) := ⟨_, rfl⟩
  have hs0 : V0.heap.size = w.heap.size + 1 := by rw [hV0]; simp
  have hB1 : Below w.heap.size w V1 := by rw [hV1]; exact hB0.alloc hB0.size _
  have hR1 : Blk V1 w.heap.size 34 (nums .u8 zero32) := by rw [hV1]; exact hR0.alloc _
  have hH1 : Blk V1 (w.heap.size + 1) 100 (cells beg.l) := by rw [hV1, ← hs0]; exact Blk.new V0 100 (cells beg.l)
  have hC1 := Kd.C_below hr hB1
  rw [hV0] at hV1
  have hV1A := Aside0.mk hV1; have hB1A := Aside0.mk hB1; have hR1A := Aside0.mk hR1; have hH1A := Aside0.mk hH1; have hC1A := Aside0.mk hC1
  have hKA := Aside0.mk hK; have hbA := Aside0.mk hb; have hlA := Aside0.mk hl
  clear hV0 hB0 hR0 hs0 hV1 hB1 hR1 hH1 hC1 hr hK hb
  go_enter Tryd.func51, Tryd.ntmps51
  go_wp2_with (first | ((with_reducible refine gate_dst (N := 18) rfl ?_); rw [← hV1A.out]; refine Kd.R_lit (Kd.int .u8) (w0 := w) w.heap.size 5 ?hg (N := 18) ?hd (xs := ([] : List Int)) (inner := []) (ok := fun _ => True) (okp := fun _ => True) ?hr ?hp (fun _ hk => hk) trivial hB1A.out hB1A.out.size (by simp) ?_; (case hd => rfl); (case hg => rfl); (case hr => first | (go_simp; done) | (go_simp; rfl)); (case hp => exact (Reps.none _ _)); intro v18 w18 hR hB hg hn; have h18 : Mid w v18 [] w18 := ⟨hR, hR1A.out.grown hg (by simp), hH1A.out.grown hg (by simp), hB⟩; have h18A := Aside0.mk h18; have hC18 := Aside0.mk (Kd.C_below hC1A.out ⟨hg.os, hg.tape, hg.output, hg.size, fun k hk => hg.block k hk (by simp)⟩); clear hR hB hg hn h18) | ((with_reducible refine gate_dst (N := 20) rfl ?_); at_builtin; refine Kd.R_append_rows (Kd.int .u8) (Rr := (Kd.int .u8).K w18) (w0 := w) w.heap.size rfl (.tmp 18) (.tmp 19) 40 5 (.int .u8 0) 1 rfl Tryd.underlying40 info_u8 rfl (by decide) (by decide) v18 [] t A t.length c (fun _ => True) (fun _ => False) rfl rfl h18A.out.1 hC18.out (fun _ _ h => h) (fun _ h => h.elim) (fun _ _ => trivial) h18A.out.b h18A.out.b.size (by simp; omega) ?_; intro v20 w20 hR hB hg hn; rw [List.nil_append] at hR; have h20A := Aside0.mk (h18A.out.step hR hg hB); clear hR hB hg hn) | ((with_reducible refine gate_dst (N := 22) rfl ?_); at_builtin; refine Kd.R_append (Kd.int .u8) (w0 := w) w.heap.size rfl (.tmp 20) (.tmp 21) 40 5 (.int .u8 0) 1 rfl Tryd.underlying40 info_u8 rfl (by decide) (by omega) v20 t 128 [.int .u8 128] (fun _ => True) (fun _ => False) rfl rfl ?aP (fun _ hk => hk.elim) ?aF ?aO ?aB ?aS ?aL ?_; (case aP => exact rfl); (case aB => exact h20A.out.b); (case aF => exact (fun _ _ => trivial)); (case aO => exact h20A.out.1); (case aS => exact h20A.out.b.size); (case aL => omega); intro v22 w22 hR hB hg hn; have h22A := Aside0.mk (h20A.out.step hR hg hB); clear hR hB hg hn))
  obtain ⟨X, hX⟩ : ∃ X, X = t ++ [128] := ⟨_, rfl⟩
  have hXl : X.length = t.length + 1 := by rw [hX]; simp
  have hXA := Aside0.mk hX
  clear hX h18A hC18 h20A
  go_loopw [4] (fun u wr => ∃ j : Nat, j ≤ noughts t.length ∧ Mid w u (X ++ List.replicate j 0) wr) (fun u _ => t.length + 1 + noughts t.length - slen u)
  case atStart => exact ⟨0, by omega, by rw [List.replicate_zero, List.append_nil, hXA.out]; exact h22A.out⟩
  case round =>
    clear h22A
    obtain ⟨j, hj, hM⟩ := hrel
    obtain ⟨A1, c1, rfl⟩ := Kd.R_slice hM.1
    have hlen : (X ++ List.replicate j (0 : Int)).length = t.length + 1 + j := by rw [List.length_append, List.length_replicate, hXl]
    have hMA := Aside0.mk hM
    clear hM
    rw [hlen]
    by_cases hlt : j < noughts t.length
    · have hm : ¬ ((t.length : Int) + 1 + (j : Int)) % 64 = 56 := by
        unfold noughts at hlt; omega
      go_wp2_with ((with_reducible refine gate_dst (N := 29) rfl ?_); at_builtin; refine Kd.R_append (Kd.int .u8) (w0 := w) w.heap.size rfl (.tmp 27) (.tmp 28) 40 5 (.int .u8 0) 1 rfl Tryd.underlying40 info_u8 rfl (by decide) (by omega) (.slice A1 (t.length + 1 + j) c1) (X ++ List.replicate j 0) 0 [.int .u8 0] (fun _ => True) (fun _ => False) rfl rfl ?aP (fun _ hk => hk.elim) ?aF ?aO ?aB ?aS ?aL ?_; (case aP => exact rfl); (case aB => exact hMA.out.b); (case aF => exact (fun _ _ => trivial)); (case aO => exact (by have := hMA.out.1; rw [hlen] at this; exact this)); (case aS => exact hMA.out.b.size); (case aL => (rw [hlen]; have := hlA.out; unfold noughts at hlt; omega)); intro v29 w29 hR hB hg hn; have hMM := hMA.out; rw [hlen] at hMM; have h29A := Aside0.mk (hMM.step hR hg hB); clear hR hB hg hn hMM)
      go_roundw
      case rel => exact ⟨j + 1, by omega, by rw [List.replicate_succ', ← List.append_assoc]; exact h29A.out⟩
      case measure =>
        have := R_slen h29A.out.1
        rw [this, List.length_append, hlen]
        simp only [slen, List.length_cons, List.length_nil]
        omega
    · obtain rfl : j = noughts t.length := by omega
      have hm : ((t.length : Int) + 1 + (noughts t.length : Int)) % 64 = 56 := by unfold noughts; omega
      obtain ⟨Y, hY⟩ : ∃ Y, Y = X ++ List.replicate (noughts t.length) 0 := ⟨_, rfl⟩
      have hP : pad t = Y ++ lenTo (8 * t.length) 8 := by rw [hY, hXA.out]; rfl
      rw [← hY] at hlen hMA
      have hPA := Aside0.mk hP
      have hYl : Y.length < 1000000100 := by have := hlA.out; rw [hlen]; unfold noughts; omega
      clear hP hY
      obtain ⟨n, hn⟩ : ∃ n, n = 8 * t.length := ⟨_, rfl⟩
      have hn1 : IntKind.u64.wrap ((t.length : Int) * 8) = (n : Int) := by rw [wrap_u64]; omega
      have hn2 : ((t.length : Int) * 8) % 18446744073709551616 = (n : Int) := by omega
      have hn3 : (t.length : Int) < 18446744073709551616 := by omega
      have hn4 : n < 8000000000 := by have := hlA.out; omega
      rw [← hn] at hPA
      replace hn := Aside0.mk hn
      go_wp2_with fail
      clear hn1 hn2 hn3 hm
      go_loopw [6, 4] (fun i u wr => ∃ j : Nat, j ≤ 8 ∧ i = .int .i64 (7 - (j : Int)) ∧ Mid w u (Y ++ lenTo n j) wr) (fun i _ _ => (intOf i + 1).toNat)
      case atStart =>
        refine ⟨0, by omega, rfl, ?_⟩
        show Mid w _ (Y ++ []) wr
        rw [List.append_nil]
        have := hMA.out
        rw [hlen] at this
        exact this
      case round =>
        clear hMA
        obtain ⟨j, hj, rfl, hM⟩ := hrel
        have hjl : (lenTo n j).length = j := by simp [lenTo]
        have hlen2 : (Y ++ lenTo n j).length = Y.length + j := by rw [List.length_append, hjl]
        obtain ⟨A2, c2, rfl⟩ := Kd.R_slice hM.1
        have hMA := Aside0.mk hM
        clear hM
        by_cases hlt : j < 8
        · obtain ⟨i, hi⟩ : ∃ i : Int, i = 7 - (j : Int) := ⟨_, rfl⟩
          rw [← hi]
          have p0 : (0 : Int) ≤ i := by omega
          have p1 : i ≤ 7 := by omega
          have q1 : IntKind.i64.wrap (8 * i) = ((8 * (7 - j) : Nat) : Int) := by rw [IntWalk.i64_in _ (by omega)]; omega
          have q2 : IntKind.i64.wrap (i - 1) = i - 1 := by rw [IntWalk.i64_in _ (by omega)]
          obtain ⟨s, hs⟩ : ∃ s, s = 8 * (7 - j) := ⟨_, rfl⟩
          have q3 : (s : Int) < 18446744073709551616 := by omega
          have q4 : s < 64 := by omega
          have e3 : (n : Int) / 2 ^ s % 256 = ((n / 2 ^ s % 256 : Nat) : Int) := by
            rw [pow_cast, ediv_cast]
            exact emod_cast _ 256
          have e4 : lenTo n (j + 1) = lenTo n j ++ [((n / 2 ^ s % 256 : Nat) : Int)] := by unfold lenTo; rw [List.range_succ, List.map_append, hs]; rfl
          rw [← hs] at q1
          have e4A := Aside0.mk e4
          clear e4
          replace hs := Aside0.mk hs
          have hiA := Aside0.mk hi
          clear hi
          obtain ⟨b, hb⟩ : ∃ b, b = ((n / 2 ^ s % 256 : Nat) : Int) := ⟨_, rfl⟩
          rw [← hb] at e3 e4A
          clear hb
          rw [hlen2]
          go_wp2_with ((with_reducible refine gate_dst (N := 46) rfl ?_); at_builtin; refine Kd.R_append (Kd.int .u8) (w0 := w) w.heap.size rfl (.tmp 38) (.tmp 45) 40 5 (.int .u8 0) 1 rfl Tryd.underlying40 info_u8 rfl (by decide) (by omega) (.slice A2 (Y.length + j) c2) (Y ++ lenTo n j) b [.int .u8 b] (fun _ => True) (fun _ => False) rfl rfl ?aP (fun _ hk => hk.elim) ?aF ?aO ?aB ?aS ?aL ?_; (case aP => exact rfl); (case aB => exact hMA.out.b); (case aF => exact (fun _ _ => trivial)); (case aO => exact (by have := hMA.out.1; rw [hlen2] at this; exact this)); (case aS => exact hMA.out.b.size); (case aL => (rw [hlen2]; omega)); intro v46 w46 hR hB hg hn; have hMM := hMA.out; rw [hlen2] at hMM; have h46A := Aside0.mk (hMM.step hR hg hB); clear hR hB hg hn hMM)
          go_roundw
          case rel => exact ⟨j + 1, by omega, by have := hiA.out; go_num, by rw [e4A.out, ← List.append_assoc]; exact h46A.out⟩
          case measure => simp only [intOf]; omega
        · obtain rfl : j = 8 := by omega
          have e7 : (7 : Int) - ((8 : Nat) : Int) = -1 := rfl
          rw [e7]
          clear e7
          rw [← hPA.out] at hMA hlen2 ⊢
          have hpl := pad_length t
          obtain ⟨N, hN⟩ : ∃ N, N = (t.length + 72) / 64 := ⟨_, rfl⟩
          have hp64 : (pad t).length = 64 * N := by rw [hpl, hN]
          have hsum : sum t = outb (blocks (pad t) N) := by unfold sum; rw [hp64]; congr 2; omega
          have hsumA := Aside0.mk hsum
          have hN0 : N < 100000000 := by have := hlA.out; omega
          have hbp : Bytes (pad t) := pad_bytes hbA.out
          obtain ⟨g, c3, hv3, hg3, hg4, -⟩ := Kd.R_form hMA.out.1 (by omega)
          cases hv3
          have hc3 := (Kd.R_reads' hMA.out.1).2.1
          have hCp := (Kd.R_reads' hMA.out.1).2.2
          have hne0 := Kd.R_ne hMA.out.1 hMA.out.2.1 (by decide)
          have hne1 := Kd.R_ne hMA.out.1 hMA.out.2.2.1 (by decide)
          have hR2 := hMA.out.2.1
          have hH2 := hMA.out.2.2.1
          have hB2 := hMA.out.b
          rw [hp64] at hc3 ⊢
          clear hMA hN hsum hpl hn hlen hlen2 hjl hPA hYl hXl
          generalize pad t = P at *
          go_wp2_with fail
          obtain ⟨ad, had⟩ : ∃ ad : Addr, ad = ⟨g, 0, none⟩ := ⟨_, rfl⟩
          have hadg : ad.block = g := by rw [had]
          rw [← had] at hCp ⊢
          have hg1 : ad.block ≠ w.heap.size := fun e => hne0 (by rw [← e, hadg]; rfl)
          have hg2 : ad.block ≠ w.heap.size + 1 := fun e => hne1 (by rw [← e, hadg]; rfl)
          clear had hne0 hne1 hg3 hg4 hadg
          obtain ⟨L, hL⟩ : ∃ L, L = 64 * N := ⟨_, rfl⟩
          have hPL : P.length = L := by rw [hp64, hL]
          have hLb : L ≤ 6400000000 := by omega
          rw [← hL] at hc3 ⊢
          clear hp64
          go_loopw [7] (fun i wr => ∃ k : Nat, k ≤ N ∧ i = .int .i64 ((64 * k : Nat) : Int) ∧ Rn w ad P (cells (blocks P k).l) wr) (fun i _ => L - (intOf i).toNat)
          case atStart => exact ⟨0, by omega, rfl, hR2, hH2, hCp, hB2⟩
          case round =>
            clear hR2 hH2 hCp hB2
            obtain ⟨k, hk, rfl, hN2⟩ := hrel
            obtain ⟨q, hq⟩ : ∃ q, q = 64 * k := ⟨_, rfl⟩
            rw [← hq]
            have hqL : q ≤ L := by omega
            have hw4 : IntKind.i64.wrap ((q : Int) + 64) = (q : Int) + 64 := IntWalk.i64_in _ (by omega)
            by_cases hlt : k < N
            · have hq2 : q + 64 ≤ L := by omega
              have p1 : (q : Int) + 64 ≤ (L : Int) := by omega
              obtain ⟨x, hx⟩ : ∃ x, x = blocks P k := ⟨_, rfl⟩
              rw [← hx] at hN2
              obtain ⟨b, hb⟩ : ∃ b, b = (P.drop q).take 64 := ⟨_, rfl⟩
              have hnext : blocks P (k + 1) = x.add (rounds (sched b) x 64) := by rw [hx, hb, hq]; rfl
              have hbl : b.length = 64 := by rw [hb, List.length_take, List.length_drop]; omega
              have hN2A := Aside0.mk hN2; have hnA := Aside0.mk hnext; have hxA := Aside0.mk hx; have hbA2 := Aside0.mk hb; have hqA := Aside0.mk hq
              have hLA := Aside0.mk hL; have hPLA := Aside0.mk hPL; have hblA := Aside0.mk hbl
              clear hN2 hnext hx hb hq hL hPL hbl
              go_wp2_with fail
              have hD0 : w.heap.size + 1 < wr.heap.size := hN2A.out.2.1.lt
              have hD1 : ad.block ≠ wr.heap.size := by
                have h := hN2A.out.2.2.1
                obtain ⟨a0, e0, h0⟩ := Kd.at_int h 0 (by omega) (by have := hPLA.out; omega)
                cases e0
                have := World.block_lt_of_cell? wr _ h0
                intro e
                rw [show (ad.add ((0 : Int).toNat)).block = ad.block from by unfold Addr.add; split <;> rfl] at this
                omega
              obtain ⟨D, hD⟩ : ∃ D, D = wr.heap.size := ⟨_, rfl⟩
              have hBD : Blk (wr.alloc (.cells (cells (pl b 0)).toArray 109)) D 109 (cells (pl b 0)) := by rw [hD]; exact Blk.new wr 109 _
              have hRD := hN2A.out.alloc (.cells (cells (pl b 0)).toArray 109)
              rw [← hD] at hD0 hD1 ⊢
              have hDA := Aside0.mk hD; clear hD
              go_loopw [9] (fun i wq => ∃ m : Nat, m ≤ 64 ∧ i = .int .i64 (m : Int) ∧ Blk wq D 109 (cells (pl b m)) ∧ Rn w ad P (cells x.l) wq) (fun i _ => 64 - (intOf i).toNat)
              case atStart => exact ⟨0, by omega, rfl, hBD, hRD⟩
              case round =>
                clear hBD hRD
                obtain ⟨m, hm, rfl, hBm, hRm⟩ := hrel
                have hBA := Aside0.mk hBm; have hRA := Aside0.mk hRm
                clear hBm hRm
                by_cases hlt : m < 64
                · have p0 : (0 : Int) ≤ (m : Int) := by omega
                  have p1 : (m : Int) < 64 := by omega
                  have hw5 : IntKind.i64.wrap ((m : Int) + 1) = (m : Int) + 1 := IntWalk.i64_in _ (by omega)
                  by_cases h16 : m < 16
                  · as_aux_lemma =>
                    have p2 : (m : Int) < 16 := by omega
                    have u1 : IntKind.i64.wrap (4 * (m : Int)) = ((4 * m : Nat) : Int) := by rw [IntWalk.i64_in _ (by omega)]; omega
                    obtain ⟨r, hr⟩ : ∃ r, r = 4 * m := ⟨_, rfl⟩
                    rw [← hr] at u1
                    have u2 : IntKind.i64.wrap ((q : Int) + (r : Int)) = ((q + r : Nat) : Int) := by rw [IntWalk.i64_in _ (by omega)]; omega
                    obtain ⟨f, hf⟩ : ∃ f, f = q + r := ⟨_, rfl⟩
                    rw [← hf] at u2
                    have u3 : IntKind.i64.wrap ((f : Int) + 1) = ((f + 1 : Nat) : Int) := by rw [IntWalk.i64_in _ (by omega)]; omega
                    have u4 : IntKind.i64.wrap ((f : Int) + 2) = ((f + 2 : Nat) : Int) := by rw [IntWalk.i64_in _ (by omega)]; omega
                    have u5 : IntKind.i64.wrap ((f : Int) + 3) = ((f + 3 : Nat) : Int) := by rw [IntWalk.i64_in _ (by omega)]; omega
                    have hC := hRA.out.2.2.1
                    have gt : ∀ j : Nat, j < L → wr.cell? (ad.add j) = some (.int .u8 (rd P (j : Int))) := fun j hj => by
                      obtain ⟨a0, e0, h0⟩ := Kd.at_int hC (j : Int) (by omega) (by have := hPLA.out; omega)
                      cases e0
                      exact h0
                    have g0 := gt f (by omega); have g1 := gt (f + 1) (by omega); have g2 := gt (f + 2) (by omega); have g3 := gt (f + 3) (by omega)
                    clear gt hC
                    have y0 := Bytes.rd hbp f; have y1 := Bytes.rd hbp (f + 1); have y2 := Bytes.rd hbp (f + 2); have y3 := Bytes.rd hbp (f + 3)
                    have hset := pl_set b m hlt
                    rw [at_sched_first b m h16, hbA2.out, List.drop_take, List.drop_drop, List.take_take, show min 4 (64 - 4 * m) = 4 by omega, ← hbA2.out, ← hr, ← hf, take4 P f (by have := hPLA.out; omega)] at hset
                    have hw := word4 _ _ _ _ y0 y1 y2 y3
                    generalize rd P (f : Int) = b0 at *
                    generalize rd P ((f + 1 : Nat) : Int) = b1 at *
                    generalize rd P ((f + 2 : Nat) : Int) = b2 at *
                    generalize rd P ((f + 3 : Nat) : Int) = b3 at *
                    obtain ⟨f1, hf1⟩ : ∃ j, j = f + 1 := ⟨_, rfl⟩
                    obtain ⟨f2, hf2⟩ : ∃ j, j = f + 2 := ⟨_, rfl⟩
                    obtain ⟨f3, hf3⟩ : ∃ j, j = f + 3 := ⟨_, rfl⟩
                    have l0 : (f : Int) < (L : Int) := by omega
                    have l1 : (f1 : Int) < (L : Int) := by omega
                    have l2 : (f2 : Int) < (L : Int) := by omega
                    have l3 : (f3 : Int) < (L : Int) := by omega
                    rw [← hf1] at u3 g1; rw [← hf2] at u4 g2; rw [← hf3] at u5 g3
                    clear hr hf hf1 hf2 hf3
                    have c0 : IntKind.u32.wrap b0 = b0 := by rw [IntKind.wrap_u32]; omega
                    have c1 : IntKind.u32.wrap b1 = b1 := by rw [IntKind.wrap_u32]; omega
                    have c2 : IntKind.u32.wrap b2 = b2 := by rw [IntKind.wrap_u32]; omega
                    have c3 : IntKind.u32.wrap b3 = b3 := by rw [IntKind.wrap_u32]; omega
                    have gm : wr.cell? ⟨D, m, none⟩ = some (.int .u32 (v (at_ (pl b m) m))) := hBA.out.get m _ (cells_at (pl b m) m (by rw [pl_length b m hm]; omega))
                    have fm : wr.frozen? ⟨D, m, none⟩ = false := hBA.out.fz m
                    generalize word [b0, b1, b2, b3] = z at *
                    have hsA := Aside0.mk hset; have hwA := Aside0.mk hw; have y0A := Aside0.mk y0; have y1A := Aside0.mk y1; have y2A := Aside0.mk y2; have y3A := Aside0.mk y3
                    clear hset hw y0 y1 y2 y3
                    go_wp2_with fail
                    go_still_tail 42, (by kernel_rfl)
                    repeat still_step
                    have d0 : (b0 * 2 ^ 24 % 4294967296) = b0 * 16777216 := by have := y0A.out; omega
                    have d1 : (b1 * 2 ^ 16 % 4294967296) = b1 * 65536 := by have := y1A.out; omega
                    have d2 : (b2 * 2 ^ 8 % 4294967296) = b2 * 256 := by have := y2A.out; omega
                    change wpList _ _ _ _ _ wr.drew
                    clear d0 d1 d2 c0 c1 c2 c3 g0 g1 g2 g3 u1 u2 u3 u4 u5
                    have gm2 : wr.drew.cell? ⟨D, m, none⟩ = some (.int .u32 (v (at_ (pl b m) m))) := gm
                    have fm2 : wr.drew.frozen? ⟨D, m, none⟩ = false := fm
                    clear gm fm
                    go_wp2_with fail
                    go_roundw
                    case rel =>
                      refine ⟨m + 1, by omega, by go_num, ?_, hRA.out.drew.grown (grown_set wr.drew D m _) hD0 hD1⟩
                      have hz : (b0 * 16777216 + b1 * 65536 + b2 * 256 + b3) % 4294967296 = v z := by rw [hwA.out]; have := y0A.out; have := y1A.out; have := y2A.out; have := y3A.out; omega
                      rw [hz, ← hsA.out, ← cells_set]
                      exact (hBA.out.set m _).drew
                    case measure => simp [intOf]; omega
                  · as_aux_lemma =>
                    have p2 : ¬ (m : Int) < 16 := by omega
                    have q2 : IntKind.i64.wrap ((m : Int) - 2) = ((m - 2 : Nat) : Int) := by rw [IntWalk.i64_in _ (by omega)]; omega
                    have q7 : IntKind.i64.wrap ((m : Int) - 7) = ((m - 7 : Nat) : Int) := by rw [IntWalk.i64_in _ (by omega)]; omega
                    have q15 : IntKind.i64.wrap ((m : Int) - 15) = ((m - 15 : Nat) : Int) := by rw [IntWalk.i64_in _ (by omega)]; omega
                    have q16 : IntKind.i64.wrap ((m : Int) - 16) = ((m - 16 : Nat) : Int) := by rw [IntWalk.i64_in _ (by omega)]; omega
                    have gt : ∀ j, j < m → (cells (pl b m))[j]? = some (.int .u32 (v (at_ (sched b) j))) := fun j hj => (cells_at (pl b m) j (by rw [pl_length b m hm]; omega)).trans (by rw [pl_at b m j hj hm])
                    have g2 := hBA.out.get _ _ (gt (m - 2) (by omega)); have g7 := gt (m - 7) (by omega); have g15 := gt (m - 15) (by omega); have g16 := gt (m - 16) (by omega)
                    clear gt
                    have hsch := at_sched b m (by omega) hlt
                    have hset := pl_set b m hlt
                    obtain ⟨x2, h2⟩ : ∃ x, x = at_ (sched b) (m - 2) := ⟨_, rfl⟩
                    obtain ⟨x7, h7⟩ : ∃ x, x = at_ (sched b) (m - 7) := ⟨_, rfl⟩
                    obtain ⟨x15, h15⟩ : ∃ x, x = at_ (sched b) (m - 15) := ⟨_, rfl⟩
                    obtain ⟨x16, hx16⟩ : ∃ x, x = at_ (sched b) (m - 16) := ⟨_, rfl⟩
                    rw [← h2] at g2 hsch; rw [← h7] at g7 hsch; rw [← h15] at g15 hsch; rw [← hx16] at g16 hsch
                    rw [hsch] at hset
                    have hsA := Aside0.mk hset
                    clear h2 h7 h15 hx16 hsch hset
                    obtain ⟨m2, hm2⟩ : ∃ j, j = m - 2 := ⟨_, rfl⟩
                    obtain ⟨m7, hm7⟩ : ∃ j, j = m - 7 := ⟨_, rfl⟩
                    obtain ⟨m15, hm15⟩ : ∃ j, j = m - 15 := ⟨_, rfl⟩
                    obtain ⟨m16, hm16⟩ : ∃ j, j = m - 16 := ⟨_, rfl⟩
                    rw [← hm2] at q2 g2; rw [← hm7] at q7 g7; rw [← hm15] at q15 g15; rw [← hm16] at q16 g16
                    have l2 : (m2 : Int) < 64 := by omega
                    have l7 : (m7 : Int) < 64 := by omega
                    have l15 : (m15 : Int) < 64 := by omega
                    have l16 : (m16 : Int) < 64 := by omega
                    have n7 : m7 ≠ m := by omega
                    have n15 : m15 ≠ m := by omega
                    have n16 : m16 ≠ m := by omega
                    clear hm2 hm7 hm15 hm16
                    have z1 := sg1_v x2
                    go_wp2_with fail
                    go_still_tail 18, (by kernel_rfl)
                    repeat still_step
                    still_call (turn17_calls x2 _)
                    repeat still_step
                    still_call (turn19_calls x2 _)
                    repeat still_step
                    change wpList _ _ _ _ _ wr.drew
                    generalize hs1 : sg1 x2 = s1 at *
                    have gm : wr.drew.cell? ⟨D, m, none⟩ = some (.int .u32 (v (at_ (pl b m) m))) := hBA.out.get m _ (cells_at (pl b m) m (by rw [pl_length b m hm]; omega))
                    have fm : wr.drew.frozen? ⟨D, m, none⟩ = false := hBA.out.fz m
                    go_wp2_with fail
                    obtain ⟨W4, hW4⟩ : ∃ W4, W4 = (wr.setCell ⟨D, m, none⟩ (.int .u32 (v s1))).drew := ⟨_, rfl⟩
                    rw [← hW4]
                    have hB4 : Blk W4 D 109 ((cells (pl b m)).set m (.int .u32 (v s1))) := by rw [hW4]; exact (hBA.out.set m (.int .u32 (v s1))).drew
                    have hR4 : Rn w ad P (cells x.l) W4 := by rw [hW4]; exact (hRA.out.grown (grown_set wr D m (.int .u32 (v s1))) hD0 hD1).drew
                    clear hW4 gm fm g2 z1 hs1
                    have km : W4.cell? ⟨D, m, none⟩ = some (.int .u32 (v s1)) := hB4.get m _ (by rw [List.getElem?_set_self (by rw [cells_length, pl_length b m hm]; exact hlt)])
                    have k7 := hB4.get m7 _ ((List.getElem?_set_ne (Ne.symm n7)).trans g7)
                    have k15 := hB4.get m15 _ ((List.getElem?_set_ne (Ne.symm n15)).trans g15)
                    have k16 := hB4.get m16 _ ((List.getElem?_set_ne (Ne.symm n16)).trans g16)
                    have hB4A := Aside0.mk hB4; have hR4A := Aside0.mk hR4
                    clear hB4 hR4 g7 g15 g16 n7 n15 n16 hBA hRA
                    have z0 := sg0_v x15
                    have z2 := wadd s1 x7; have z3 := wadd (s1 + x7) (sg0 x15); have z4 := wadd (s1 + x7 + sg0 x15) x16
                    go_still_tail 32, (by kernel_rfl)
                    repeat still_step
                    still_call (turn7_calls x15 _)
                    repeat still_step
                    still_call (turn18_calls x15 _)
                    repeat still_step
                    change wpList _ _ _ _ _ W4.drew
                    have gm : W4.drew.cell? ⟨D, m, none⟩ = some (.int .u32 (v s1)) := km
                    have fm : W4.drew.frozen? ⟨D, m, none⟩ = false := hB4A.out.fz m
                    clear km k7 k15 k16 z0 z2 z3 z4
                    go_wp2_with fail
                    go_roundw
                    case rel =>
                      refine ⟨m + 1, by omega, by go_num, ?_, hR4A.out.drew.grown (grown_set W4.drew D m _) hD0 hD1⟩
                      have := hB4A.out.drew.set m (.int .u32 (v (s1 + x7 + sg0 x15 + x16)))
                      rw [List.set_set, cells_set, hsA.out] at this
                      exact this
                    case measure => simp [intOf]; omega
                · obtain rfl : m = 64 := by omega
                  rw [show ((64 : Nat) : Int) = 64 from rfl]
                  rw [pl_all] at hBA
                  have hsl := sched_length b
                  have hnx := hnA.out
                  obtain ⟨s, hs⟩ : ∃ s, s = sched b := ⟨_, rfl⟩
                  rw [← hs] at hBA hsl hnx
                  obtain ⟨M, hM⟩ : ∃ M, M = 64 := ⟨_, rfl⟩
                  rw [← hM] at hnx
                  have hMA := Aside0.mk hM; have hnxA := Aside0.mk hnx; have hslA := Aside0.mk hsl
                  clear hM hnx hsl hs hnA
                  have g0 := hRA.out.2.1.get 0 (.int .u32 (v x.a)) rfl
                  have g1 := hRA.out.2.1.get 1 (.int .u32 (v x.b)) rfl
                  have g2 := hRA.out.2.1.get 2 (.int .u32 (v x.c)) rfl
                  have g3 := hRA.out.2.1.get 3 (.int .u32 (v x.d)) rfl
                  have g4 := hRA.out.2.1.get 4 (.int .u32 (v x.e)) rfl
                  have g5 := hRA.out.2.1.get 5 (.int .u32 (v x.f)) rfl
                  have g6 := hRA.out.2.1.get 6 (.int .u32 (v x.g)) rfl
                  have g7 := hRA.out.2.1.get 7 (.int .u32 (v x.h)) rfl
                  go_wp2_with fail
                  clear g0 g1 g2 g3 g4 g5 g6 g7
                  have hE0 : D < wr.heap.size := hBA.out.lt
                  have hE1 : ad.block ≠ wr.heap.size := by
                    have h := hRA.out.2.2.1
                    obtain ⟨a0, e0, h0⟩ := Kd.at_int h 0 (by omega) (by have := hPLA.out; omega)
                    cases e0
                    have := World.block_lt_of_cell? wr _ h0
                    intro e
                    rw [show (ad.add ((0 : Int).toNat)).block = ad.block from by unfold Addr.add; split <;> rfl] at this
                    omega
                  obtain ⟨E, hE⟩ : ∃ E, E = wr.heap.size := ⟨_, rfl⟩
                  have hBE : Blk (wr.alloc (.cells (cells x.l).toArray 100)) E 100 (cells x.l) := by rw [hE]; exact Blk.new wr 100 _
                  have hBD := hBA.out.alloc (.cells (cells x.l).toArray 100)
                  have hRD := hRA.out.alloc (.cells (cells x.l).toArray 100)
                  rw [← hE] at hE0 hE1 ⊢
                  have hEA := Aside0.mk hE; clear hE
                  have hE2 : w.heap.size + 1 < E := by omega
                  clear hBA hRA
                  go_loopw [11] (fun i wq => ∃ m : Nat, m ≤ 64 ∧ i = .int .i64 (m : Int) ∧ Blk wq E 100 (cells (rounds s x m).l) ∧ Blk wq D 109 (cells s) ∧ Rn w ad P (cells x.l) wq) (fun i _ => 64 - (intOf i).toNat)
                  case atStart => exact ⟨0, by omega, rfl, hBE, hBD, hRD⟩
                  case round =>
                    clear hBE hBD hRD
                    obtain ⟨m, hm, rfl, hBm, hBs, hRm⟩ := hrel
                    have hBA := Aside0.mk hBm; have hRA := Aside0.mk hRm; have hBsA := Aside0.mk hBs
                    clear hBm hRm hBs
                    by_cases hlt : m < 64
                    · have p0 : (0 : Int) ≤ (m : Int) := by omega
                      have p1 : (m : Int) < 64 := by omega
                      have hw5 : IntKind.i64.wrap ((m : Int) + 1) = (m : Int) + 1 := IntWalk.i64_in _ (by omega)
                      have hrd : rounds s x (m + 1) = (rounds s x m).round (at_ ks m) (at_ s m) := rfl
                      have hrdA := Aside0.mk hrd
                      have gk := hKA.out.below hRA.out.2.2.2 m hlt
                      have gs := hBsA.out.get m _ (cells_at s m (by have := hslA.out; omega))
                      clear hrd
                      generalize rounds s x m = y at *
                      generalize at_ s m = c at *
                      generalize at_ ks m = z at *
                      have g0 := hBA.out.get 0 (.int .u32 (v y.a)) rfl
                      have g1 := hBA.out.get 1 (.int .u32 (v y.b)) rfl
                      have g2 := hBA.out.get 2 (.int .u32 (v y.c)) rfl
                      have g4 := hBA.out.get 4 (.int .u32 (v y.e)) rfl
                      have g5 := hBA.out.get 5 (.int .u32 (v y.f)) rfl
                      have g6 := hBA.out.get 6 (.int .u32 (v y.g)) rfl
                      have g7 := hBA.out.get 7 (.int .u32 (v y.h)) rfl
                      have b1 := bg1_v y.e
                      have c1 := and_v y.e y.f; have n1 := wless y.e; have c2 := and_v (~~~y.e) y.g; have c3 := wch y.e y.f y.g
                      have a1 := wadd y.h (bg1 y.e); have a2 := wadd (y.h + bg1 y.e) (ch y.e y.f y.g); have a3 := wadd (y.h + bg1 y.e + ch y.e y.f y.g) z; have a4 := wadd (y.h + bg1 y.e + ch y.e y.f y.g + z) c
                      go_wp2_with fail
                      go_still_tail 35, (by kernel_rfl)
                      repeat still_step
                      still_call (turn6_calls y.e _)
                      repeat still_step
                      still_call (turn11_calls y.e _)
                      repeat still_step
                      still_call (turn25_calls y.e _)
                      repeat still_step
                      refine wpStill_nil ?_
                      change wpList _ _ _ _ _ wr.drew
                      have hT := Aside0.mk (show (y.round z c) = ⟨y.h + bg1 y.e + ch y.e y.f y.g + z + c + (bg0 y.a + maj y.a y.b y.c), y.a, y.b, y.c, y.d + (y.h + bg1 y.e + ch y.e y.f y.g + z + c), y.e, y.f, y.g⟩ from rfl)
                      clear b1 c1 n1 c2 c3 a1 a2 a3 a4 gk gs g0 g1 g2 g4 g5 g6 g7
                      generalize y.h + bg1 y.e + ch y.e y.f y.g + z + c = T1 at *
                      obtain ⟨W3, hW3⟩ : ∃ W3, W3 = wr.drew := ⟨_, rfl⟩
                      have hB3 : Blk W3 E 100 (cells y.l) := by rw [hW3]; exact hBA.out.drew
                      have hS3 : Blk W3 D 109 (cells s) := by rw [hW3]; exact hBsA.out.drew
                      have hR3 : Rn w ad P (cells x.l) W3 := by rw [hW3]; exact hRA.out.drew
                      rw [← hW3]
                      clear hW3 hBA hBsA hRA
                      have g0 := hB3.get 0 (.int .u32 (v y.a)) rfl
                      have g1 := hB3.get 1 (.int .u32 (v y.b)) rfl
                      have g2 := hB3.get 2 (.int .u32 (v y.c)) rfl
                      have hB3A := Aside0.mk hB3; have hS3A := Aside0.mk hS3; have hR3A := Aside0.mk hR3
                      clear hB3 hS3 hR3
                      have b0 := bg0_v y.a
                      have c1 := and_v y.a y.b; have c2 := and_v y.a y.c; have c3 := and_v y.b y.c; have c4 := wmaj y.a y.b y.c; have a1 := wadd (bg0 y.a) (maj y.a y.b y.c)
                      go_wp2_with fail
                      go_still_tail 28, (by kernel_rfl)
                      repeat still_step
                      still_call (turn2_calls y.a _)
                      repeat still_step
                      still_call (turn13_calls y.a _)
                      repeat still_step
                      still_call (turn22_calls y.a _)
                      repeat still_step
                      refine wpStill_nil ?_
                      change wpList _ _ _ _ _ W3.drew
                      clear b0 c1 c2 c3 c4 a1 g0 g1 g2
                      have s2 : (v T1 + (v (bg0 y.a) + v (maj y.a y.b y.c))) % 4294967296 = v (T1 + (bg0 y.a + maj y.a y.b y.c)) := by
                        rw [← vadd T1, ← vadd (bg0 y.a)]; omega
                      generalize bg0 y.a + maj y.a y.b y.c = T2 at *
                      obtain ⟨W4, hW4⟩ : ∃ W4, W4 = W3.drew := ⟨_, rfl⟩
                      have hB4 : Blk W4 E 100 (cells y.l) := by rw [hW4]; exact hB3A.out.drew
                      have hS4 : Blk W4 D 109 (cells s) := by rw [hW4]; exact hS3A.out.drew
                      have hR4 : Rn w ad P (cells x.l) W4 := by rw [hW4]; exact hR3A.out.drew
                      rw [← hW4]
                      clear hW4 hB3A hS3A hR3A
                      have g0 := hB4.get 0 (.int .u32 (v y.a)) rfl; have f0 := hB4.fz 0
                      have g1 := hB4.get 1 (.int .u32 (v y.b)) rfl; have f1 := hB4.fz 1
                      have g2 := hB4.get 2 (.int .u32 (v y.c)) rfl; have f2 := hB4.fz 2
                      have g3 := hB4.get 3 (.int .u32 (v y.d)) rfl; have f3 := hB4.fz 3
                      have g4 := hB4.get 4 (.int .u32 (v y.e)) rfl; have f4 := hB4.fz 4
                      have g5 := hB4.get 5 (.int .u32 (v y.f)) rfl; have f5 := hB4.fz 5
                      have g6 := hB4.get 6 (.int .u32 (v y.g)) rfl; have f6 := hB4.fz 6
                      have g7 := hB4.get 7 (.int .u32 (v y.h)) rfl; have f7 := hB4.fz 7
                      have s1 := vadd y.d T1
                      have hB4A := Aside0.mk hB4; have hS4A := Aside0.mk hS4; have hR4A := Aside0.mk hR4
                      clear hB4 hS4 hR4
                      go_wp2_with fail
                      go_roundw
                      case rel =>
                        obtain ⟨hX8, hG8, hs8⟩ := sets8 y ⟨T1 + T2, y.a, y.b, y.c, y.d + T1, y.e, y.f, y.g⟩ hB4A.out
                        dsimp only at hX8 hG8
                        clear hs8
                        refine ⟨m + 1, by omega, by go_num, ?_, hS4A.out.grown hG8 (fun e => by cases e; omega), hR4A.out.grown hG8 hE2 hE1⟩
                        rw [hrdA.out, hT.out]
                        exact hX8
                      case measure => simp [intOf]; omega
                    · have hmM : m = M := by have := hMA.out; omega
                      subst hmM
                      have hm64 : (m : Int) = 64 := by have := hMA.out; omega
                      rw [hm64]
                      generalize hy : rounds s x m = y at *
                      have hyA := Aside0.mk hy
                      clear hy hm64
                      go_wp2_with fail
                      have hBm := hBA.out; have hRm := hRA.out
                      clear hBsA hslA hBA hRA
                      go_loopw [14] (fun i wq => ∃ m : Nat, m ≤ 8 ∧ i = .int .i64 (m : Int) ∧ Blk wq E 100 (cells y.l) ∧ Rn w ad P (cells ((x.add y).l.take m ++ x.l.drop m)) wq) (fun i _ => 8 - (intOf i).toNat)
                      case atStart => exact ⟨0, by omega, rfl, hBm, hRm⟩
                      case round =>
                        clear hBm hRm
                        obtain ⟨j, hj, rfl, hBm, hRm⟩ := hrel
                        have hBA := Aside0.mk hBm; have hRA := Aside0.mk hRm
                        clear hBm hRm
                        by_cases hlt : j < 8
                        · as_aux_lemma =>
                          have p0 : (0 : Int) ≤ (j : Int) := by omega
                          have p1 : (j : Int) < 8 := by omega
                          have hw5 : IntKind.i64.wrap ((j : Int) + 1) = (j : Int) + 1 := IntWalk.i64_in _ (by omega)
                          have st := add_step x y j hlt
                          have gp := hRA.out.2.1.get j _ ((cells_at _ j (by rw [add_len x y j hj]; exact hlt)).trans (by rw [add_at x y j hlt]))
                          have fp := hRA.out.2.1.fz j
                          have gx := hBA.out.get j _ (cells_at y.l j hlt)
                          have sm := wadd (at_ x.l j) (at_ y.l j)
                          have hstA := Aside0.mk st
                          clear st
                          generalize at_ x.l j = a at *
                          generalize at_ y.l j = b at *
                          go_wp2_with fail
                          go_still_tail 8, (by kernel_rfl)
                          repeat still_step
                          try refine wpStill_nil ?_
                          change wpList _ _ _ _ _ wr.drew
                          have gp2 : wr.drew.cell? ⟨w.heap.size + 1, j, none⟩ = some (.int .u32 (v a)) := gp
                          have fp2 : wr.drew.frozen? ⟨w.heap.size + 1, j, none⟩ = false := fp
                          clear gp fp gx
                          go_wp2_with fail
                          go_roundw
                          case rel =>
                            refine ⟨j + 1, by omega, by go_num, hBA.out.drew.far (p := ⟨w.heap.size + 1, j, none⟩) (by show E ≠ w.heap.size + 1; omega) _, ?_⟩
                            rw [← hstA.out, ← cells_set]
                            exact hRA.out.drew.put j _ hg2
                          case measure => simp [intOf]; omega
                        · obtain rfl : j = 8 := by omega
                          rw [show ((8 : Nat) : Int) = 8 from rfl]
                          have e8 : (x.add y).l.take 8 ++ x.l.drop 8 = (x.add y).l := rfl
                          rw [e8] at hRA
                          clear e8
                          go_wp2_with fail
                          go_roundw
                          case rel =>
                            refine ⟨k + 1, by omega, by have := hqA.out; go_num, ?_⟩
                            rw [hnxA.out]
                            exact hRA.out
                          case measure => simp [intOf]; omega
            · obtain rfl : k = N := by omega
              have hqe : q = L := by omega
              have p1 : ¬ (q : Int) + 64 ≤ (L : Int) := by omega
              obtain ⟨z, hz⟩ : ∃ z, z = blocks P k := ⟨_, rfl⟩
              have hsz := hsumA.out
              rw [← hz] at hN2 hsz
              have hszA := Aside0.mk hsz; have hRA := Aside0.mk hN2
              clear hz hsz hN2 hsumA
              go_wp2_with fail
              obtain ⟨O, hO⟩ : ∃ O, O = wr.heap.size := ⟨_, rfl⟩
              have hO1 : w.heap.size + 1 < O := by rw [hO]; exact hRA.out.2.1.lt
              have hBO : Blk (wr.alloc (.cells (nums .u8 zero32).toArray 34)) O 34 (nums .u8 (ob z 0)) := by rw [hO]; exact Blk.new wr 34 _
              have hBH := hRA.out.2.1.alloc (.cells (nums .u8 zero32).toArray 34)
              have hBR := hRA.out.1.alloc (.cells (nums .u8 zero32).toArray 34)
              have hBB := hRA.out.2.2.2.alloc hRA.out.2.2.2.size (.cells (nums .u8 zero32).toArray 34)
              rw [← hO]
              have hOA := Aside0.mk hO; clear hO hRA
              go_loopw [16] (fun i wq => ∃ m : Nat, m ≤ 32 ∧ i = .int .i64 (m : Int) ∧ Blk wq O 34 (nums .u8 (ob z m)) ∧ Blk wq (w.heap.size + 1) 100 (cells z.l) ∧ Blk wq w.heap.size 34 (nums .u8 zero32) ∧ Below w.heap.size w wq) (fun i _ => 32 - (intOf i).toNat)
              case atStart => exact ⟨0, by omega, rfl, hBO, hBH, hBR, hBB⟩
              case round =>
                clear hBO hBH hBR hBB
                obtain ⟨m, hm, rfl, hO, hH, hR, hB⟩ := hrel
                have hOA := Aside0.mk hO; have hHA := Aside0.mk hH; have hRA := Aside0.mk hR; have hBlA := Aside0.mk hB
                clear hO hH hR hB
                by_cases hlt : m < 32
                · as_aux_lemma =>
                  have p0 : (0 : Int) ≤ (m : Int) := by omega
                  have p1 : (m : Int) < 32 := by omega
                  have hw5 : IntKind.i64.wrap ((m : Int) + 1) = (m : Int) + 1 := IntWalk.i64_in _ (by omega)
                  have gH := hHA.out.get (m / 4) _ (cells_at z.l (m / 4) (by show m / 4 < 8; omega))
                  have gO := hOA.out.get m (.int .u8 (rd (ob z m) (m : Int))) (ob_at z m hlt)
                  have fO := hOA.out.fz m
                  have st := ob_step z m hlt
                  have hby2 := byte_eq z m
                  have hstA := Aside0.mk st
                  have hbA := Aside0.mk hby2
                  clear st hby2
                  obtain ⟨y, hy⟩ : ∃ y, y = at_ z.l (m / 4) := ⟨_, rfl⟩
                  rw [← hy] at gH
                  replace hy := Aside0.mk hy
                  have e1 : Int.tdiv (m : Int) 4 = ((m / 4 : Nat) : Int) := by rw [Int.tdiv_eq_ediv_of_nonneg p0]; omega
                  have e2 : Int.tmod (m : Int) 4 = ((m % 4 : Nat) : Int) := by rw [Int.tmod_eq_emod_of_nonneg p0]; omega
                  obtain ⟨m4, hm4⟩ : ∃ j, j = m / 4 := ⟨_, rfl⟩
                  obtain ⟨r4, hr4⟩ : ∃ j, j = m % 4 := ⟨_, rfl⟩
                  have l4 : (m4 : Int) < 8 := by omega
                  have l5 : r4 < 4 := by omega
                  rw [← hm4] at e1 gH
                  rw [← hr4] at e2
                  have e3 : IntKind.i64.wrap (8 * (r4 : Int)) = ((8 * r4 : Nat) : Int) := by rw [IntWalk.i64_in _ (by omega)]; omega
                  have e4 : IntKind.i64.wrap (24 - ((8 * r4 : Nat) : Int)) = ((8 * (3 - r4) : Nat) : Int) := by rw [IntWalk.i64_in _ (by omega)]; omega
                  replace hm4 := Aside0.mk hm4; replace hr4 := Aside0.mk hr4
                  go_wp2_with fail
                  go_roundw
                  case rel =>
                    have hb : (v y / 2 ^ (24 - 8 * r4) % 256) = byte_ z m := by rw [show 24 - 8 * r4 = 8 * (3 - r4) by omega, hy.out, hr4.out]; exact hbA.out
                    rw [hb]
                    refine ⟨m + 1, by omega, by go_num, ?_, hHA.out.far (p := ⟨O, m, none⟩) (by show w.heap.size + 1 ≠ O; omega) _, hRA.out.far (p := ⟨O, m, none⟩) (by show w.heap.size ≠ O; omega) _, hBlA.out.setCell (p := ⟨O, m, none⟩) (by show w.heap.size ≤ O; omega) _⟩
                    rw [← hstA.out]
                    exact hOA.out.set m _
                  case measure => simp [intOf]; omega
                · as_aux_lemma =>
                  obtain rfl : m = 32 := by omega
                  have hob : ob z 32 = sum t := by
                    rw [hszA.out]; unfold ob
                    rw [List.take_of_length_le (by rw [outb_length]; exact Nat.le_refl _), Nat.sub_self, List.replicate_zero, List.append_nil]
                  rw [hob] at hOA
                  have hsl := sum_length t
                  have hcl : (nums .u8 (sum t)).length = 32 := by simp [nums, hsl]
                  have hone : ∀ u ∈ nums .u8 (sum t), u.oneCell' = true := by intro u hu; simp only [nums, List.mem_map] at hu; obtain ⟨_, _, rfl⟩ := hu; rfl
                  have hzl : (nums .u8 zero32).length = 32 := rfl
                  have hd1 : decide (((32 : Nat) : Int) < 32) = false := by decide
                  generalize hcs : nums .u8 (sum t) = cs at *
                  generalize nums .u8 zero32 = zs at *
                  have hin : (Tryd.prog.info? 34).map (·.size) = some cs.length := by rw [hcl]; kernel_rfl
                  have hzA := Aside0.mk (hzl.trans hcl.symm); have hiA := Aside0.mk hin; have hcsA := Aside0.mk hcs; have honeA := Aside0.mk hone
                  clear hcl hzl hin hone hcs hob hsl hszA
                  go_wp2_with (with_reducible refine gate_dst (N := 274) rfl ?_; refine wpList_load_blk rfl 34 (.tmp 15) rfl O 34 rfl cs _ hOA.out Tryd.underlying34 rfl hiA.out ?_; refine wpList_put_blk rfl 34 (.tmp 2) (.tmp 274) rfl w.heap.size 34 cs zs hzA.out rfl rfl hRA.out hiA.out honeA.out ?_; intro W1 hW1 hg1 hs1)
                  have hi2 : (Tryd.prog.info? 34).map (·.size) = some cs.toArray.size := by rw [List.size_toArray]; exact hiA.out
                  exact bodyPost_ret (results_cell_row rfl _ _ w.heap.size 34 cs.toArray (0, 0) _ rfl hW1 Tryd.underlying34 rfl hi2) rfl ⟨by show Ending.returned _ = Ending.returned (Value.agg (nums .u8 (sum t)).toArray); rw [hcsA.out], hBlA.out.grown hg1 hBlA.out.size (fun k e => by cases e; exact Nat.le_refl _)⟩
end Go.Proofs.YtlgfekllkahfaaaDoor.ShaW
