/- Keys' seals, by the document: a text's bytes, and a digest's behind them. -/
import Derived.Test.YthnfjbnebfjjfaaDoorLockA
set_option linter.unusedVariables false
set_option linter.unusedSimpArgs false
namespace Go.Proofs.YthnfjbnebfjjfaaDoor.ShaW
open Go.RowKit Go.Proofs.YthnfjbnebfjjfaaDoorW.PrintWords Go.Proofs.YthnfjbnebfjjfaaDoorW.PrintMore Go.Proofs.YthnfjbnebfjjfaaDoor Go.Proofs.YthnfjbnebfjjfaaDoor.Bits Sha ArrK
theorem bytesCells_size (W : World) (s : ByteArray) : (Lib.bytesCells W 5 s).size = grownCap W s.size 0 5 := by
  have h := conv_cap W s
  simp only [Lib.bytesCells, Array.size_append, Array.size_map, Array.size_replicate]
  have : s.data.size = s.size := rfl
  omega
/-- bytes laid behind a text's bytes -/
theorem wpList_append_conv {ops : Array Oper} {rest : List Oper} {o : Oper} {a : Act} {Q : Exit → Act → World → Prop} {W V : World} (hgd : o.guard = none) (x y : Operand) (ho : o.op = .call { callee := .builtin .append, args := #[x, y], argTypes := #[58, 58] })
    (s : ByteArray) (hs : s.size ≤ 1000000) (l : List Int) (hl : l.length ≤ 1000000) (ad : Addr) (c : Nat) (b : Nat) (hb : b = W.heap.size) (hx : a.eval x = .slice (some ⟨b, 0, none⟩) s.size (grownCap W s.size 0 5)) (hy : a.eval y = .slice (some ad) l.length c)
    (hV : Below (Lib.bytesWorld W 5 s).heap.size (Lib.bytesWorld W 5 s) V) (hC : Kd.C (Kd.int .u8) V (some ad) l.length l)
    (h : ∀ w1 A1 c1, s.size + l.length ≤ c1 → Kd.C (Kd.int .u8) w1 A1 (bytesOf s ++ l).length (bytesOf s ++ l) → Below W.heap.size W w1 → wpList Tryd.prog ops Q rest (a.put o.dst (.slice A1 (s.size + l.length) c1)) w1) : wpList Tryd.prog ops Q (o :: rest) a V := by
  subst hb
  have hbs := bytesOf_length s
  have hlen : (bytesOf s ++ l).length = s.size + l.length := by rw [List.length_append, hbs]
  have hWs := Lib.bytesWorld_size W 5 s
  have hblk : V.heap[W.heap.size]? = some (.cells (Lib.bytesCells W 5 s) 5 ((Lib.bytesCells W 5 s).size, (Lib.bytesCells W 5 s).size + 1)) := (hV.block _ (by omega)).trans (Lib.bytesWorld_at_new W 5 s)
  have hBW : Below W.heap.size W V := below_then (conv_below W s) (by omega) hV
  have hsz := bytesCells_size W s
  have hold : ∀ j u, (nums .u8 (bytesOf s))[j]? = some u → V.cell? ⟨W.heap.size, 0 + j, none⟩ = some u := fun j u hj => by
    have hjl : j < s.size := by have := (List.getElem?_eq_some_iff.1 hj).1; simpa [nums, hbs] using this
    rw [Nat.zero_add]
    have h1 := hV.cell (p := ⟨W.heap.size, j, none⟩) (by show W.heap.size < _; omega)
    rw [h1, Lib.bytesWorld_cell W 5 s j hjl, ← hj]
    have h' : j < s.data.toList.length := by rw [data_length]; exact hjl
    simp [nums, bytesOf, List.getD_eq_getElem?_getD, List.getElem?_eq_getElem h']
  have h0 := Kd.reads_of_C (enc := Value.int .u8) (d := (0 : Int)) (h1 := fun _ => rfl) hC
  have hnew : ∀ j u, (nums .u8 l)[j]? = some u → V.cell? (ad.add j) = some u := fun j u hj => by
    have hjl : j < l.length := by have := (List.getElem?_eq_some_iff.1 hj).1; simpa [nums] using this
    obtain ⟨a0, e, hc⟩ := h0.2.2 (by omega)
    cases e
    rw [hc j hjl, ← hj]
    simp [nums, List.getD_eq_getElem?_getD, List.getElem?_eq_getElem hjl]
  obtain ⟨i0, hi, hzz⟩ := Option.map_eq_some_iff.1 info_u8
  simp only [Prod.mk.injEq] at hzz
  obtain ⟨hz0, hz1, hz2⟩ := hzz
  have hn1 : (nums .u8 l).length = l.length * 1 := by simp [nums]
  refine wpList_append_arg V hgd x y 58 ho 5 i0 (.int .u8 0) 1 1 Tryd.underlying58 hi hz0 hz1 hz2 rfl (by decide) W.heap.size 0 s.size (grownCap W s.size 0 5) (nums .u8 (bytesOf s)) hx (by simp [nums, hbs]) hold ad l.length c (nums .u8 l) hy hn1 hnew (u8_one l)
    (fun hr j hj => ?_) (by unfold maxLen; omega) (by omega) (fun hr => ?_) (fun hr v' w' hown hg => ?_)
  · have hj2 : j < l.length := by simpa [nums] using hj
    have hlt : 0 + s.size * 1 + j < (Lib.bytesCells W 5 s).size := by rw [hsz]; omega
    refine ⟨?_, ?_⟩
    · unfold World.cell?; simp only [hblk]
      rw [Array.getElem?_eq_getElem hlt]; rfl
    · unfold World.frozen?; simp only [hblk]
      simp; omega
  · refine h _ (some ⟨W.heap.size, 0, none⟩) _ hr ?_ (ArrK.below_setCells W.heap.size (Nat.le_refl _) _ _ V hBW)
    have hthere : ∀ i, i < (nums .u8 l).length → (V.cell? ⟨W.heap.size, (0 + s.size * 1) + i, none⟩).isSome = true := fun i hi => by
      have hj2 : i < l.length := by simpa [nums] using hi
      have hlt : 0 + s.size * 1 + i < (Lib.bytesCells W 5 s).size := by rw [hsz]; omega
      unfold World.cell?; simp only [hblk]
      rw [Array.getElem?_eq_getElem hlt]; rfl
    refine Kd.C_of_reads (d := (0 : Int)) (h1 := fun _ => rfl) ⟨rfl, by omega, fun _ => ⟨_, rfl, fun j hj => ?_⟩⟩
    rw [add_plain]
    rcases Nat.lt_or_ge j s.size with hjs | hjs
    · rw [World.cell?_setCells_out W.heap.size (nums .u8 l) _ V ⟨W.heap.size, j, none⟩ (fun _ _ => by left; show j < _; omega)]
      have := hold j (.int .u8 ((bytesOf s ++ l).getD j 0)) (by
        have h2 : j < (bytesOf s).length := by omega
        simp [nums, List.getD_eq_getElem?_getD, List.getElem?_append_left h2, List.getElem?_eq_getElem h2])
      rwa [Nat.zero_add] at this
    · have hj3 : j - s.size < (nums .u8 l).length := by simp [nums]; omega
      have := World.cell?_setCells_in W.heap.size (nums .u8 l) (0 + s.size * 1) V hthere (j - s.size) hj3
      rw [show (0 + s.size * 1) + (j - s.size) = j by omega] at this
      rw [this]
      have h2 : (bytesOf s).length ≤ j := by omega
      have h3 : j - s.size < l.length := by omega
      simp [nums, List.getD_eq_getElem?_getD, List.getElem?_append_right h2, hbs, List.getElem?_eq_getElem h3]
  · have e : nums .u8 (bytesOf s) ++ nums .u8 l = encs (Value.int .u8) (bytesOf s ++ l) := by simp [nums, encs]
    rw [e, ← hlen] at hown
    have hR := Kd.R_of_own (h1 := fun _ => rfl) (ok := fun _ => True) hown (fun _ _ => trivial)
    obtain ⟨A1, c1, rfl, hc1, hC1⟩ := Kd.R_reads hR
    rw [hlen] at hc1 ⊢
    exact h w' A1 c1 hc1 hC1 (hBW.grown hg hBW.size (fun k e => by cases e))
set_option maxRecDepth 100000 in
set_option maxHeartbeats 400000 in
theorem rhash_calls (h : List Int) (hl : h.length = 32) (w : World) :
    Calls Tryd.prog 27 #[hv h] w fun e w' => ∃ v, e = .returned v ∧ Kd.R (Kd.int .u8) 5 w' w.heap.size (fun _ => True) v h ∧ Below w.heap.size w w' := by
  have h0 : Blk (w.alloc (.cells (nums .u8 h).toArray 23)) w.heap.size 23 (nums .u8 h) := Blk.new w _ _
  have hB : Below w.heap.size w (w.alloc (.cells (nums .u8 h).toArray 23)) := below_alloc (Below.refl _ _) _
  have h0A := Aside0.mk h0; have hBA := Aside0.mk hB; have hlA := Aside0.mk hl
  clear h0 hB hl
  go_enter Tryd.func27, Tryd.ntmps27
  go_wp2_with fail
  go_loopw [4, 3] (fun i u wr => ∃ k : Nat, k ≤ 32 ∧ i = .int .i64 k ∧ Kd.R (Kd.int .u8) 5 wr w.heap.size (fun _ => True) u (h.take k) ∧ Blk wr w.heap.size 23 (nums .u8 h) ∧ Below w.heap.size w wr) (fun i _ _ => 32 - (intOf i).toNat)
  case atStart => exact ⟨0, by omega, rfl, Kd.R_nil _ _ _ _ _, h0A.out, hBA.out⟩
  case round =>
    clear h0A hBA
    obtain ⟨k, hk, rfl, hR, hX, hB⟩ := hrel
    have hBA := Aside0.mk hB; have hXA := Aside0.mk hX; have hRA := Aside0.mk hR
    clear hB hX hR
    by_cases hlt : k < 32
    · have p0 : (0 : Int) ≤ (k : Int) := by omega
      have p1 : (k : Int) < 32 := by omega
      have hw4 : IntKind.i64.wrap ((k : Int) + 1) = (k : Int) + 1 := IntWalk.i64_in _ (by omega)
      have gx := hXA.out.get k _ (nums_rd h k (by have := hlA.out; omega))
      have htk : h.take (k + 1) = h.take k ++ [rd h (k : Int)] := by
        have hkl : k < h.length := by have := hlA.out; omega
        rw [List.take_succ_eq_append_getElem hkl]
        unfold rd; rw [Int.toNat_natCast, List.getD_eq_getElem?_getD, List.getElem?_eq_getElem hkl]; rfl
      have hll : (h.take k).length ≤ 32 := by rw [List.length_take]; omega
      obtain ⟨x, hx⟩ : ∃ x, x = rd h (k : Int) := ⟨_, rfl⟩
      rw [← hx] at gx htk
      have htA := Aside0.mk htk
      clear hx htk
      generalize h.take k = l at *
      go_wp2_with ((with_reducible refine gate_dst (N := 14) rfl ?_); at_builtin; refine Kd.R_append (Kd.int .u8) (w0 := w) w.heap.size rfl (.tmp 9) (.tmp 13) 58 5 (.int .u8 0) 1 rfl Tryd.underlying58 info_u8 rfl (by decide) (by omega) u3 l x [.int .u8 x] (fun _ => True) (fun _ => False) rfl rfl ?aP (fun _ hk => hk.elim) ?aF ?aO ?aB ?aS ?aL ?_; (case aP => exact rfl); (case aB => exact hBA.out); (case aF => exact (fun _ _ => trivial)); (case aO => exact hRA.out); (case aS => exact hBA.out.size); (case aL => omega); intro v14 w14 hR hB hg hn; have hX14 := Aside0.mk (hXA.out.grown hg (Kd.R_ne hRA.out hXA.out (by decide))); have hRA14 := Aside0.mk hR; have hBA14 := Aside0.mk hB; clear hR hB hg hn)
      go_roundw
      case rel => exact ⟨k + 1, by omega, by go_num, by rw [htA.out]; exact hRA14.out, hX14.out, hBA14.out⟩
      case measure => simp [intOf]; omega
    · obtain rfl : k = 32 := by omega
      rw [List.take_of_length_le (by rw [hlA.out]; exact Nat.le_refl _)] at hRA
      go_wp2_with fail
      go_ret
      exact ⟨_, rfl, hRA.out, hBA.out⟩
set_option maxRecDepth 100000 in
set_option maxHeartbeats 400000 in
theorem rseal_calls (s : ByteArray) (hs : s.size ≤ 1000000) (id : List Int) (hid : id.length = 32) (hib : Bytes id) (w : World) (hK : Rst w) :
    Calls Tryd.prog 10 #[.string s, hv id] w fun e w' => e = .returned (.int .u64 (sl s id)) ∧ Below w.heap.size w w' := by
  have kc := fun (w : World) (s : ByteArray) => Lib.run_convert_string_bytes (P := Tryd.prog) w 9 58 5 s Tryd.underlying9 Tryd.underlying58 Tryd.underlying5
  obtain ⟨V, hV⟩ : ∃ V, V = w.alloc (.cells (nums .u8 id).toArray 23) := ⟨_, rfl⟩
  have hVB : Below w.heap.size w V := by rw [hV]; exact below_alloc (Below.refl _ _) _
  have hVX : Blk V w.heap.size 23 (nums .u8 id) := by rw [hV]; exact Blk.new w _ _
  have hb := conv_below V s
  have hX := hVX.below hb
  have hi := info_hash id hid
  have hu := Tryd.underlying23
  have hW := fun W => rword_calls (Sha.sum (bytesOf s ++ id)) (Bytes.sum _) (sum_length _) W
  have hSum := fun (V2 : World) (A : Option Addr) (c : Nat) (hB : Below w.heap.size w V2) (hC : Kd.C (Kd.int .u8) V2 A (bytesOf s ++ id).length (bytesOf s ++ id)) (hc : s.size + id.length ≤ c) => rsum_calls (bytesOf s ++ id) A c V2 (fun x hx => (List.mem_append.1 hx).elim (bytes_ok s x) (hib x)) (hK.below hB) hC (by rw [List.length_append, bytesOf_length]; exact hc) (by rw [List.length_append, bytesOf_length]; omega)
  rw [show (bytesOf s ++ id).length = s.size + id.length by rw [List.length_append, bytesOf_length]] at hSum
  unfold sl
  generalize Sha.sum (bytesOf s ++ id) = z at *
  have hWA := Aside0.mk hW; have hSA := Aside0.mk hSum; have hVA := Aside0.mk hV; have hXA := Aside0.mk hX; have hiA := Aside0.mk hi; have hidA := Aside0.mk hid; have hVBA := Aside0.mk hVB; have hbA := Aside0.mk hb; have hVsA := Aside0.mk (show V.heap.size = w.heap.size + 1 by rw [hV]; simp)
  clear hW hSum hV hX hi hid hVB hVX hb hK
  go_enter Tryd.func10, Tryd.ntmps10
  go_wp2_with (first | ((with_reducible refine gate_dst (N := 7) rfl ?_); rw [← hVA.out]; refine wpList_load_blk rfl 23 (.tmp 3) rfl w.heap.size 23 rfl (nums .u8 id) _ hXA.out hu rfl hiA.out ?_) | (go_at_call 27; with_reducible refine (rhash_calls id hidA.out _).mono ?_; rintro e w1 ⟨u1, rfl, hR1, hb1⟩; obtain ⟨B1, c1, hv1, hB1, hB2, -⟩ := Kd.R_form hR1 (by rw [hidA.out]; decide); subst hv1; have hC1A := Aside0.mk (Kd.R_reads' hR1).2.2; have hb1A := Aside0.mk hb1; clear hR1 hb1) | ((with_reducible refine gate_dst (N := 9) rfl ?_); at_builtin; refine wpList_append_conv rfl (.tmp 6) (.tmp 8) rfl s hs id (by rw [hidA.out]; decide) _ _ (w.heap.size + 1) hVsA.out.symm rfl rfl hb1A.out hC1A.out ?_; intro w2 A2 c2 hc2 hC2 hb2; have hb2A := Aside0.mk (below_then hVBA.out hVBA.out.size hb2); have hSS := Aside0.mk (hSA.out w2 A2 c2 hb2A.out (by rw [List.length_append, bytesOf_length] at hC2; exact hC2) hc2); clear hC2 hb2) | (go_at_call 26; with_reducible refine hSS.out.mono ?_; rintro e w3 ⟨rfl, hb3⟩; have h3A := Aside0.mk (below_then hb2A.out hb2A.out.size hb3); clear hb3) | (go_at_call 25; with_reducible refine (hWA.out _).mono ?_; rintro e w4 ⟨rfl, hb4⟩; have h4A := Aside0.mk (below_then h3A.out h3A.out.size hb4); clear hb4))
  go_ret
  exact ⟨rfl, h4A.out⟩
end Go.Proofs.YthnfjbnebfjjfaaDoor.ShaW
