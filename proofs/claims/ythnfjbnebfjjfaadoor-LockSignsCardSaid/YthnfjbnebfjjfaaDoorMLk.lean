/- Keys' locks and seals. -/
import Derived.Test.YthnfjbnebfjjfaaDoorShaS
import Derived.Test.YthnfjbnebfjjfaaDoorHashK
import Derived.ArgAppend
import Derived.Lib.ConvBytes
import Derived.Test.YthnfjbnebfjjfaaDoorInRound
set_option linter.unusedVariables false
set_option linter.unusedSimpArgs false
namespace Go.Proofs.YthnfjbnebfjjfaaDoor.ShaW
open Go.RowKit Go.Proofs.YthnfjbnebfjjfaaDoorW.PrintWords Go.Proofs.YthnfjbnebfjjfaaDoorW.PrintMore Go.Proofs.YthnfjbnebfjjfaaDoor Go.Proofs.YthnfjbnebfjjfaaDoor.Bits Sha ArrK
theorem bytes_ok (s : ByteArray) : Bytes (bytesOf s) := by
  intro x hx
  simp only [bytesOf, List.mem_map] at hx
  obtain ⟨b, _, rfl⟩ := hx
  have := b.toNat_lt
  omega
/-- a key's lock, its seal of an id -/
def lk (s : ByteArray) : Int := w64 (Sha.sum (bytesOf s))
def sl (s : ByteArray) (id : List Int) : Int := w64 (Sha.sum (bytesOf s ++ id))
theorem conv_C (W : World) (s : ByteArray) (hs : s.size ≤ 1000000) : Kd.C (Kd.int .u8) (Lib.bytesWorld W 5 s) (some ⟨W.heap.size, 0, none⟩) s.size (bytesOf s) := Kd.C_of_reads (d := (0 : Int)) (h1 := fun _ => rfl) (bytes_reads W 5 s (by omega))
theorem conv_cap (W : World) (s : ByteArray) : s.size ≤ grownCap W s.size 0 5 := grownCap_ge W s.size 0 5
theorem conv_below (W : World) (s : ByteArray) : Below W.heap.size W (Lib.bytesWorld W 5 s) := bytes_below (Below.refl _ _) (Nat.le_refl _) _ _
set_option maxRecDepth 100000 in
set_option maxHeartbeats 400000 in
theorem lock_calls (s : ByteArray) (hs : s.size ≤ 1000000) (w : World) (hK : Kst w) (hBg : Bst w) :
    Calls Tryd.prog 7 #[.string s] w fun e w' => e = .returned (.int .u64 (lk s)) ∧ Below w.heap.size w w' := by
  have kc := fun (w : World) (s : ByteArray) => Lib.run_convert_string_bytes (P := Tryd.prog) w 9 58 5 s Tryd.underlying9 Tryd.underlying58 Tryd.underlying5
  have hb := conv_below w s
  have hl := bytesOf_length s
  have hS := sum_lit1 (Lib.bytesWorld w 5 s) (some ⟨w.heap.size, 0, none⟩) (grownCap w s.size 0 5) (bytesOf s) (by rw [hl]; exact conv_C w s hs) (by rw [hl]; exact conv_cap w s) (hK.below hb) (hBg.below hb) (by omega) (bytes_ok s)
  rw [hl] at hS
  have hW := fun W => wordof_calls (Sha.sum (bytesOf s)) (Bytes.sum _) (sum_length _) W
  unfold lk
  generalize Sha.sum (bytesOf s) = z at *
  have hSA := Aside0.mk hS; have hWA := Aside0.mk hW; have hbA := Aside0.mk hb
  clear hS hW hb hl hK hBg
  go_enter Tryd.func7, Tryd.ntmps7
  go_wp2_with (first | (go_at_call 24; with_reducible refine hSA.out.mono ?_; rintro e w1 ⟨rfl, hb1⟩; have h1A := Aside0.mk (below_then hbA.out hbA.out.size hb1); clear hb1) | (go_at_call 23; with_reducible refine (hWA.out _).mono ?_; rintro e w2 ⟨rfl, hb2⟩; have h2A := Aside0.mk (below_then h1A.out h1A.out.size hb2); clear hb2))
  go_ret
  exact ⟨rfl, h2A.out⟩
set_option maxRecDepth 100000 in
set_option maxHeartbeats 400000 in
theorem rlock_calls (s : ByteArray) (hs : s.size ≤ 1000000) (w : World) (hK : Rst w) :
    Calls Tryd.prog 8 #[.string s] w fun e w' => e = .returned (.int .u64 (lk s)) ∧ Below w.heap.size w w' := by
  have kc := fun (w : World) (s : ByteArray) => Lib.run_convert_string_bytes (P := Tryd.prog) w 9 58 5 s Tryd.underlying9 Tryd.underlying58 Tryd.underlying5
  have hb := conv_below w s
  have hl := bytesOf_length s
  have hS := rsum_calls (bytesOf s) (some ⟨w.heap.size, 0, none⟩) (grownCap w s.size 0 5) (Lib.bytesWorld w 5 s) (bytes_ok s) (hK.below hb) (by rw [hl]; exact conv_C w s hs) (by rw [hl]; exact conv_cap w s) (by omega)
  rw [hl] at hS
  have hW := fun W => rword_calls (Sha.sum (bytesOf s)) (Bytes.sum _) (sum_length _) W
  unfold lk
  generalize Sha.sum (bytesOf s) = z at *
  have hSA := Aside0.mk hS; have hWA := Aside0.mk hW; have hbA := Aside0.mk hb
  clear hS hW hb hl hK
  go_enter Tryd.func8, Tryd.ntmps8
  go_wp2_with (first | (go_at_call 26; with_reducible refine hSA.out.mono ?_; rintro e w1 ⟨rfl, hb1⟩; have h1A := Aside0.mk (below_then hbA.out hbA.out.size hb1); clear hb1) | (go_at_call 25; with_reducible refine (hWA.out _).mono ?_; rintro e w2 ⟨rfl, hb2⟩; have h2A := Aside0.mk (below_then h1A.out h1A.out.size hb2); clear hb2))
  go_ret
  exact ⟨rfl, h2A.out⟩
set_option maxRecDepth 100000 in
set_option maxHeartbeats 400000 in
theorem seal_calls (s : ByteArray) (hs : s.size ≤ 1000000) (id : List Int) (hid : id.length = 32) (hib : Bytes id) (w : World) (hK : Kst w) (hBg : Bst w) :
    Calls Tryd.prog 9 #[.string s, hv id] w fun e w' => e = .returned (.int .u64 (sl s id)) ∧ Below w.heap.size w w' := by
  have kc := fun (w : World) (s : ByteArray) => Lib.run_convert_string_bytes (P := Tryd.prog) w 9 58 5 s Tryd.underlying9 Tryd.underlying58 Tryd.underlying5
  obtain ⟨V, hV⟩ : ∃ V, V = w.alloc (.cells (nums .u8 id).toArray 23) := ⟨_, rfl⟩
  have hVs : V.heap.size = w.heap.size + 1 := by rw [hV]; simp
  have hVB : Below w.heap.size w V := by rw [hV]; exact below_alloc (Below.refl _ _) _
  have hVX : Blk V w.heap.size 23 (nums .u8 id) := by rw [hV]; exact Blk.new w _ _
  have hb := conv_below V s
  have hX := hVX.below hb
  have hl := bytesOf_length s
  have hB2 := below_then hVB hVB.size hb
  have hS := sum_lit2 (Lib.bytesWorld V 5 s) (some ⟨V.heap.size, 0, none⟩) (some ⟨w.heap.size, 0, none⟩) (grownCap V s.size 0 5) 32 (bytesOf s) id (by rw [hl]; exact conv_C V s hs) (by rw [hl]; exact conv_cap V s) (C_block hX (by omega)) (by omega) (hK.below hB2) (hBg.below hB2) (by rw [List.length_append]; omega) (fun x hx => (List.mem_append.1 hx).elim (bytes_ok s x) (hib x))
  rw [hl, hid, hVs] at hS
  have hW := fun W => wordof_calls (Sha.sum (bytesOf s ++ id)) (Bytes.sum _) (sum_length _) W
  unfold sl
  generalize Sha.sum (bytesOf s ++ id) = z at *
  have hSA := Aside0.mk hS; have hWA := Aside0.mk hW; have hbA := Aside0.mk hB2; have hVA := Aside0.mk hV
  clear hS hW hb hl hK hBg hV hVB hVX hX hVs hB2
  go_enter Tryd.func9, Tryd.ntmps9
  go_wp2_with (first | (go_at_call 24; rw [← hVA.out]; with_reducible refine hSA.out.mono ?_; rintro e w1 ⟨rfl, hb1⟩; have h1A := Aside0.mk (below_then hbA.out hbA.out.size hb1); clear hb1) | (go_at_call 23; with_reducible refine (hWA.out _).mono ?_; rintro e w2 ⟨rfl, hb2⟩; have h2A := Aside0.mk (below_then h1A.out h1A.out.size hb2); clear hb2))
  go_ret
  exact ⟨rfl, h2A.out⟩
end Go.Proofs.YthnfjbnebfjjfaaDoor.ShaW
/- Keys' seals, by the document: a text's bytes, and a digest's behind them. -/
set_option linter.unusedVariables false
set_option linter.unusedSimpArgs false
namespace Go.Proofs.YthnfjbnebfjjfaaDoor.ShaW
open Go.RowKit Go.Proofs.YthnfjbnebfjjfaaDoorW.PrintWords Go.Proofs.YthnfjbnebfjjfaaDoorW.PrintMore Go.Proofs.YthnfjbnebfjjfaaDoor Go.Proofs.YthnfjbnebfjjfaaDoor.Bits Sha ArrK
theorem bytesCells_size (W : World) (s : ByteArray) : (Lib.bytesCells W 5 s).size = grownCap W s.size 0 5 := by
  have h := conv_cap W s
  simp only [Lib.bytesCells, Array.size_append, Array.size_map, Array.size_replicate]
  have : s.data.size = s.size := rfl
  omega
/-- bytes laid behind a text's bytes -/
theorem wpList_append_conv {ops : Array Oper} {rest : List Oper} {o : Oper} {a : Act} {Q : Exit → Act → World → Prop} {W V : World} (hgd : o.guard = none) (x y : Operand) (ho : o.op = .call { callee := .builtin .append, args := #[x, y], argTypes := #[58, 58] })
    (s : ByteArray) (hs : s.size ≤ 1000000) (l : List Int) (hl : l.length ≤ 1000000) (ad : Addr) (c : Nat) (b : Nat) (hb : b = W.heap.size) (hx : a.eval x = .slice (some ⟨b, 0, none⟩) s.size (grownCap W s.size 0 5)) (hy : a.eval y = .slice (some ad) l.length c)
    (hV : Below (Lib.bytesWorld W 5 s).heap.size (Lib.bytesWorld W 5 s) V) (hC : Kd.C (Kd.int .u8) V (some ad) l.length l)
    (h : ∀ w1 A1 c1, s.size + l.length ≤ c1 → Kd.C (Kd.int .u8) w1 A1 (bytesOf s ++ l).length (bytesOf s ++ l) → Below W.heap.size W w1 → wpList Tryd.prog ops Q rest (a.put o.dst (.slice A1 (s.size + l.length) c1)) w1) : wpList Tryd.prog ops Q (o :: rest) a V := by
  subst hb
  have hbs := bytesOf_length s
  have hlen : (bytesOf s ++ l).length = s.size + l.length := by rw [List.length_append, hbs]
  have hWs := Lib.bytesWorld_size W 5 s
  have hblk : V.heap[W.heap.size]? = some (.cells (Lib.bytesCells W 5 s) 5 ((Lib.bytesCells W 5 s).size, (Lib.bytesCells W 5 s).size + 1)) := (hV.block _ (by omega)).trans (Lib.bytesWorld_at_new W 5 s)
  have hBW : Below W.heap.size W V := below_then (conv_below W s) (by omega) hV
  have hsz := bytesCells_size W s
  have hold : ∀ j u, (nums .u8 (bytesOf s))[j]? = some u → V.cell? ⟨W.heap.size, 0 + j, none⟩ = some u := fun j u hj => by
    have hjl : j < s.size := by have := (List.getElem?_eq_some_iff.1 hj).1; simpa [nums, hbs] using this
    rw [Nat.zero_add]
    have h1 := hV.cell (p := ⟨W.heap.size, j, none⟩) (by show W.heap.size < _; omega)
    rw [h1, Lib.bytesWorld_cell W 5 s j hjl, ← hj]
    have h' : j < s.data.toList.length := by rw [data_length]; exact hjl
    simp [nums, bytesOf, List.getD_eq_getElem?_getD, List.getElem?_eq_getElem h']
  have h0 := Kd.reads_of_C (enc := Value.int .u8) (d := (0 : Int)) (h1 := fun _ => rfl) hC
  have hnew : ∀ j u, (nums .u8 l)[j]? = some u → V.cell? (ad.add j) = some u := fun j u hj => by
    have hjl : j < l.length := by have := (List.getElem?_eq_some_iff.1 hj).1; simpa [nums] using this
    obtain ⟨a0, e, hc⟩ := h0.2.2 (by omega)
    cases e
    rw [hc j hjl, ← hj]
    simp [nums, List.getD_eq_getElem?_getD, List.getElem?_eq_getElem hjl]
  obtain ⟨i0, hi, hzz⟩ := Option.map_eq_some_iff.1 info_u8
  simp only [Prod.mk.injEq] at hzz
  obtain ⟨hz0, hz1, hz2⟩ := hzz
  have hn1 : (nums .u8 l).length = l.length * 1 := by simp [nums]
  refine wpList_append_arg V hgd x y 58 ho 5 i0 (.int .u8 0) 1 1 Tryd.underlying58 hi hz0 hz1 hz2 rfl (by decide) W.heap.size 0 s.size (grownCap W s.size 0 5) (nums .u8 (bytesOf s)) hx (by simp [nums, hbs]) hold ad l.length c (nums .u8 l) hy hn1 hnew (u8_one l)
    (fun hr j hj => ?_) (by unfold maxLen; omega) (by omega) (fun hr => ?_) (fun hr v' w' hown hg => ?_)
  · have hj2 : j < l.length := by simpa [nums] using hj
    have hlt : 0 + s.size * 1 + j < (Lib.bytesCells W 5 s).size := by rw [hsz]; omega
    refine ⟨?_, ?_⟩
    · unfold World.cell?; simp only [hblk]
      rw [Array.getElem?_eq_getElem hlt]; rfl
    · unfold World.frozen?; simp only [hblk]
      simp; omega
  · refine h _ (some ⟨W.heap.size, 0, none⟩) _ hr ?_ (ArrK.below_setCells W.heap.size (Nat.le_refl _) _ _ V hBW)
    have hthere : ∀ i, i < (nums .u8 l).length → (V.cell? ⟨W.heap.size, (0 + s.size * 1) + i, none⟩).isSome = true := fun i hi => by
      have hj2 : i < l.length := by simpa [nums] using hi
      have hlt : 0 + s.size * 1 + i < (Lib.bytesCells W 5 s).size := by rw [hsz]; omega
      unfold World.cell?; simp only [hblk]
      rw [Array.getElem?_eq_getElem hlt]; rfl
    refine Kd.C_of_reads (d := (0 : Int)) (h1 := fun _ => rfl) ⟨rfl, by omega, fun _ => ⟨_, rfl, fun j hj => ?_⟩⟩
    rw [add_plain]
    rcases Nat.lt_or_ge j s.size with hjs | hjs
    · rw [World.cell?_setCells_out W.heap.size (nums .u8 l) _ V ⟨W.heap.size, j, none⟩ (fun _ _ => by left; show j < _; omega)]
      have := hold j (.int .u8 ((bytesOf s ++ l).getD j 0)) (by
        have h2 : j < (bytesOf s).length := by omega
        simp [nums, List.getD_eq_getElem?_getD, List.getElem?_append_left h2, List.getElem?_eq_getElem h2])
      rwa [Nat.zero_add] at this
    · have hj3 : j - s.size < (nums .u8 l).length := by simp [nums]; omega
      have := World.cell?_setCells_in W.heap.size (nums .u8 l) (0 + s.size * 1) V hthere (j - s.size) hj3
      rw [show (0 + s.size * 1) + (j - s.size) = j by omega] at this
      rw [this]
      have h2 : (bytesOf s).length ≤ j := by omega
      have h3 : j - s.size < l.length := by omega
      simp [nums, List.getD_eq_getElem?_getD, List.getElem?_append_right h2, hbs, List.getElem?_eq_getElem h3]
  · have e : nums .u8 (bytesOf s) ++ nums .u8 l = encs (Value.int .u8) (bytesOf s ++ l) := by simp [nums, encs]
    rw [e, ← hlen] at hown
    have hR := Kd.R_of_own (h1 := fun _ => rfl) (ok := fun _ => True) hown (fun _ _ => trivial)
    obtain ⟨A1, c1, rfl, hc1, hC1⟩ := Kd.R_reads hR
    rw [hlen] at hc1 ⊢
    exact h w' A1 c1 hc1 hC1 (hBW.grown hg hBW.size (fun k e => by cases e))
set_option maxRecDepth 100000 in
set_option maxHeartbeats 400000 in
theorem rhash_calls (h : List Int) (hl : h.length = 32) (w : World) :
    Calls Tryd.prog 27 #[hv h] w fun e w' => ∃ v, e = .returned v ∧ Kd.R (Kd.int .u8) 5 w' w.heap.size (fun _ => True) v h ∧ Below w.heap.size w w' := by
  have h0 : Blk (w.alloc (.cells (nums .u8 h).toArray 23)) w.heap.size 23 (nums .u8 h) := Blk.new w _ _
  have hB : Below w.heap.size w (w.alloc (.cells (nums .u8 h).toArray 23)) := below_alloc (Below.refl _ _) _
  have h0A := Aside0.mk h0; have hBA := Aside0.mk hB; have hlA := Aside0.mk hl
  clear h0 hB hl
  go_enter Tryd.func27, Tryd.ntmps27
  go_wp2_with fail
  go_loopw [4, 3] (fun i u wr => ∃ k : Nat, k ≤ 32 ∧ i = .int .i64 k ∧ Kd.R (Kd.int .u8) 5 wr w.heap.size (fun _ => True) u (h.take k) ∧ Blk wr w.heap.size 23 (nums .u8 h) ∧ Below w.heap.size w wr) (fun i _ _ => 32 - (intOf i).toNat)
  case atStart => exact ⟨0, by omega, rfl, Kd.R_nil _ _ _ _ _, h0A.out, hBA.out⟩
  case round =>
    clear h0A hBA
    obtain ⟨k, hk, rfl, hR, hX, hB⟩ := hrel
    have hBA := Aside0.mk hB; have hXA := Aside0.mk hX; have hRA := Aside0.mk hR
    clear hB hX hR
    by_cases hlt : k < 32
    · have p0 : (0 : Int) ≤ (k : Int) := by omega
      have p1 : (k : Int) < 32 := by omega
      have hw4 : IntKind.i64.wrap ((k : Int) + 1) = (k : Int) + 1 := IntWalk.i64_in _ (by omega)
      have gx := hXA.out.get k _ (nums_rd h k (by have := hlA.out; omega))
      have htk : h.take (k + 1) = h.take k ++ [rd h (k : Int)] := by
        have hkl : k < h.length := by have := hlA.out; omega
        rw [List.take_succ_eq_append_getElem hkl]
        unfold rd; rw [Int.toNat_natCast, List.getD_eq_getElem?_getD, List.getElem?_eq_getElem hkl]; rfl
      have hll : (h.take k).length ≤ 32 := by rw [List.length_take]; omega
      obtain ⟨x, hx⟩ : ∃ x, x = rd h (k : Int) := ⟨_, rfl⟩
      rw [← hx] at gx htk
      have htA := Aside0.mk htk
      clear hx htk
      generalize h.take k = l at *
      go_wp2_with ((with_reducible refine gate_dst (N := 14) rfl ?_); at_builtin; refine Kd.R_append (Kd.int .u8) (w0 := w) w.heap.size rfl (.tmp 9) (.tmp 13) 58 5 (.int .u8 0) 1 rfl Tryd.underlying58 info_u8 rfl (by decide) (by omega) u3 l x [.int .u8 x] (fun _ => True) (fun _ => False) rfl rfl ?aP (fun _ hk => hk.elim) ?aF ?aO ?aB ?aS ?aL ?_; (case aP => exact rfl); (case aB => exact hBA.out); (case aF => exact (fun _ _ => trivial)); (case aO => exact hRA.out); (case aS => exact hBA.out.size); (case aL => omega); intro v14 w14 hR hB hg hn; have hX14 := Aside0.mk (hXA.out.grown hg (Kd.R_ne hRA.out hXA.out (by decide))); have hRA14 := Aside0.mk hR; have hBA14 := Aside0.mk hB; clear hR hB hg hn)
      go_roundw
      case rel => exact ⟨k + 1, by omega, by go_num, by rw [htA.out]; exact hRA14.out, hX14.out, hBA14.out⟩
      case measure => simp [intOf]; omega
    · obtain rfl : k = 32 := by omega
      rw [List.take_of_length_le (by rw [hlA.out]; exact Nat.le_refl _)] at hRA
      go_wp2_with fail
      go_ret
      exact ⟨_, rfl, hRA.out, hBA.out⟩
set_option maxRecDepth 100000 in
set_option maxHeartbeats 400000 in
theorem rseal_calls (s : ByteArray) (hs : s.size ≤ 1000000) (id : List Int) (hid : id.length = 32) (hib : Bytes id) (w : World) (hK : Rst w) :
    Calls Tryd.prog 10 #[.string s, hv id] w fun e w' => e = .returned (.int .u64 (sl s id)) ∧ Below w.heap.size w w' := by
  have kc := fun (w : World) (s : ByteArray) => Lib.run_convert_string_bytes (P := Tryd.prog) w 9 58 5 s Tryd.underlying9 Tryd.underlying58 Tryd.underlying5
  obtain ⟨V, hV⟩ : ∃ V, V = w.alloc (.cells (nums .u8 id).toArray 23) := ⟨_, rfl⟩
  have hVB : Below w.heap.size w V := by rw [hV]; exact below_alloc (Below.refl _ _) _
  have hVX : Blk V w.heap.size 23 (nums .u8 id) := by rw [hV]; exact Blk.new w _ _
  have hb := conv_below V s
  have hX := hVX.below hb
  have hi := info_hash id hid
  have hu := Tryd.underlying23
  have hW := fun W => rword_calls (Sha.sum (bytesOf s ++ id)) (Bytes.sum _) (sum_length _) W
  have hSum := fun (V2 : World) (A : Option Addr) (c : Nat) (hB : Below w.heap.size w V2) (hC : Kd.C (Kd.int .u8) V2 A (bytesOf s ++ id).length (bytesOf s ++ id)) (hc : s.size + id.length ≤ c) => rsum_calls (bytesOf s ++ id) A c V2 (fun x hx => (List.mem_append.1 hx).elim (bytes_ok s x) (hib x)) (hK.below hB) hC (by rw [List.length_append, bytesOf_length]; exact hc) (by rw [List.length_append, bytesOf_length]; omega)
  rw [show (bytesOf s ++ id).length = s.size + id.length by rw [List.length_append, bytesOf_length]] at hSum
  unfold sl
  generalize Sha.sum (bytesOf s ++ id) = z at *
  have hWA := Aside0.mk hW; have hSA := Aside0.mk hSum; have hVA := Aside0.mk hV; have hXA := Aside0.mk hX; have hiA := Aside0.mk hi; have hidA := Aside0.mk hid; have hVBA := Aside0.mk hVB; have hbA := Aside0.mk hb; have hVsA := Aside0.mk (show V.heap.size = w.heap.size + 1 by rw [hV]; simp)
  clear hW hSum hV hX hi hid hVB hVX hb hK
  go_enter Tryd.func10, Tryd.ntmps10
  go_wp2_with (first | ((with_reducible refine gate_dst (N := 7) rfl ?_); rw [← hVA.out]; refine wpList_load_blk rfl 23 (.tmp 3) rfl w.heap.size 23 rfl (nums .u8 id) _ hXA.out hu rfl hiA.out ?_) | (go_at_call 27; with_reducible refine (rhash_calls id hidA.out _).mono ?_; rintro e w1 ⟨u1, rfl, hR1, hb1⟩; obtain ⟨B1, c1, hv1, hB1, hB2, -⟩ := Kd.R_form hR1 (by rw [hidA.out]; decide); subst hv1; have hC1A := Aside0.mk (Kd.R_reads' hR1).2.2; have hb1A := Aside0.mk hb1; clear hR1 hb1) | ((with_reducible refine gate_dst (N := 9) rfl ?_); at_builtin; refine wpList_append_conv rfl (.tmp 6) (.tmp 8) rfl s hs id (by rw [hidA.out]; decide) _ _ (w.heap.size + 1) hVsA.out.symm rfl rfl hb1A.out hC1A.out ?_; intro w2 A2 c2 hc2 hC2 hb2; have hb2A := Aside0.mk (below_then hVBA.out hVBA.out.size hb2); have hSS := Aside0.mk (hSA.out w2 A2 c2 hb2A.out (by rw [List.length_append, bytesOf_length] at hC2; exact hC2) hc2); clear hC2 hb2) | (go_at_call 26; with_reducible refine hSS.out.mono ?_; rintro e w3 ⟨rfl, hb3⟩; have h3A := Aside0.mk (below_then hb2A.out hb2A.out.size hb3); clear hb3) | (go_at_call 25; with_reducible refine (hWA.out _).mono ?_; rintro e w4 ⟨rfl, hb4⟩; have h4A := Aside0.mk (below_then h3A.out h3A.out.size hb4); clear hb4))
  go_ret
  exact ⟨rfl, h4A.out⟩
end Go.Proofs.YthnfjbnebfjjfaaDoor.ShaW
/- Does a spend open a coin? -/
set_option linter.unusedVariables false
set_option linter.unusedSimpArgs false
namespace Go.Proofs.YthnfjbnebfjjfaaDoor.ShaW
open Go.RowKit Go.Proofs.YthnfjbnebfjjfaaDoorW.PrintWords Go.Proofs.YthnfjbnebfjjfaaDoorW.PrintMore Go.Proofs.YthnfjbnebfjjfaaDoor Go.Proofs.YthnfjbnebfjjfaaDoor.Bits Sha ArrK
open Go.Proofs.YthnfjbnebfjjfaaDoor.InRound (op_at)
/-- a spend, its cells -/
structure Sp where
  tx : List Int
  n : Int
  key : ByteArray
  sel : Int
def spc (s : Sp) : List Value := nums .u8 s.tx ++ [.int .i64 s.n, .string s.key, .int .u64 s.sel]
abbrev spv (s : Sp) : Value := .agg (spc s).toArray
/-- a coin, its cells -/
structure Co where
  value : Int
  lock : Int
def coc (c : Co) : List Value := [.int .i64 c.value, .int .u64 c.lock]
abbrev cov (c : Co) : Value := .agg (coc c).toArray
def opens (s : Sp) (c : Co) (id : List Int) : Bool := decide (lk s.key = c.lock) && decide (s.sel = sl s.key id)
theorem spc_length (s : Sp) (h : s.tx.length = 32) : (spc s).length = 35 := by simp [spc, nums, h]
theorem spc_n (s : Sp) (h : s.tx.length = 32) : (spc s)[32]? = some (.int .i64 s.n) := by
  unfold spc; rw [List.getElem?_append_right (by simp [nums, h])]; simp [nums, h]
theorem spc_key (s : Sp) (h : s.tx.length = 32) : (spc s)[33]? = some (.string s.key) := by
  unfold spc; rw [List.getElem?_append_right (by simp [nums, h])]; simp [nums, h]
theorem spc_seal (s : Sp) (h : s.tx.length = 32) : (spc s)[34]? = some (.int .u64 s.sel) := by
  unfold spc; rw [List.getElem?_append_right (by simp [nums, h])]; simp [nums, h]
theorem spc_one (s : Sp) : ∀ u ∈ spc s, u.oneCell' = true := by
  intro u hu
  simp only [spc, List.mem_append, List.mem_cons, List.not_mem_nil, or_false] at hu
  rcases hu with hu | rfl | rfl | rfl
  · exact u8_one _ u hu
  · rfl
  · rfl
  · rfl
theorem coc_one (c : Co) : ∀ u ∈ coc c, u.oneCell' = true := by
  intro u hu
  simp only [coc, List.mem_cons, List.not_mem_nil, or_false] at hu
  rcases hu with rfl | rfl <;> rfl
theorem info_spend (s : Sp) (h : s.tx.length = 32) : (Tryd.prog.info? 28).map (·.size) = some (spc s).length := by rw [spc_length s h]; kernel_rfl
theorem info_coin (c : Co) : (Tryd.prog.info? 30).map (·.size) = some (coc c).length := by kernel_rfl
theorem open_l (x y : Int) : Ending.returned (.bool (y == x)) = Ending.returned (.bool (decide True && decide (y = x))) := by rw [decide_true, Bool.true_and]; rfl
theorem open_r (x y : Int) : Ending.returned (.bool (x == y)) = Ending.returned (.bool (decide True && decide (y = x))) := by
  rw [decide_true, Bool.true_and]
  by_cases h : x = y
  · subst h; simp
  · have h2 : ¬ y = x := fun e => h e.symm
    simp [h, h2]
set_option maxRecDepth 100000 in
set_option maxHeartbeats 400000 in
theorem opens_calls (s : Sp) (c : Co) (id : List Int) (hs : s.key.size ≤ 1000000) (ht : s.tx.length = 32) (hid : id.length = 32) (hib : Bytes id) (w : World) (hK : Kst w) (hBg : Bst w) :
    Calls Tryd.prog 11 #[spv s, cov c, hv id] w fun e w' => e = .returned (.bool (opens s c id)) ∧ Below w.heap.size w w' := by
  -- HEAD
  obtain ⟨V, hV⟩ : ∃ V, V = (((w.alloc (.cells (spc s).toArray 28)).alloc (.cells (coc c).toArray 30)).alloc (.cells (nums .u8 id).toArray 23)) := ⟨_, rfl⟩
  have hB : Below w.heap.size w V := by rw [hV]; exact below_alloc (below_alloc (below_alloc (Below.refl _ _) _) _) _
  have h0 : Blk V w.heap.size 28 (spc s) := by rw [hV]; exact ((Blk.new w 28 (spc s)).alloc _).alloc _
  have h1 : Blk V (w.heap.size + 1) 30 (coc c) := by
    rw [hV]
    have := (Blk.new (w.alloc (.cells (spc s).toArray 28)) 30 (coc c)).alloc (.cells (nums .u8 id).toArray 23)
    rwa [World.size_alloc] at this
  have h2 : Blk V (w.heap.size + 1 + 1) 23 (nums .u8 id) := by
    rw [hV]
    have := Blk.new ((w.alloc (.cells (spc s).toArray 28)).alloc (.cells (coc c).toArray 30)) 23 (nums .u8 id)
    rwa [World.size_alloc, World.size_alloc] at this
  have kS := spc_key s ht
  have sS := spc_seal s ht
  have gk : ∀ V1, Below V.heap.size V V1 → V1.cell? ⟨w.heap.size, 33, none⟩ = some (.string s.key) := fun V1 h => (h0.below h).get 33 _ kS
  have gs : ∀ V1, Below V.heap.size V V1 → V1.cell? ⟨w.heap.size, 34, none⟩ = some (.int .u64 s.sel) := fun V1 h => (h0.below h).get 34 _ sS
  have gl : ∀ V1, Below V.heap.size V V1 → V1.cell? ⟨w.heap.size + 1, 1, none⟩ = some (.int .u64 c.lock) := fun V1 h => (h1.below h).get 1 _ rfl
  have gi : ∀ V1, Below V.heap.size V V1 → V1.rangeAt (w.heap.size + 1 + 1) 0 (nums .u8 id) := fun V1 h j u hu => by rw [Nat.zero_add]; exact (h2.below h).get j u hu
  have hi := info_hash id hid
  have hu := Tryd.underlying23
  -- HEAD END
  have cl := fun (V1 : World) (h : Below V.heap.size V V1) => lock_calls s.key hs V1 (hK.below (below_then hB hB.size h)) (hBg.below (below_then hB hB.size h))
  have cs := fun (V1 : World) (h : Below V.heap.size V V1) => seal_calls s.key hs id hid hib V1 (hK.below (below_then hB hB.size h)) (hBg.below (below_then hB hB.size h))
  unfold opens
  generalize lk s.key = a at *
  generalize c.lock = b at *
  generalize sl s.key id = x at *
  generalize s.sel = y at *
  generalize s.key = k at *
  have hVA := Aside0.mk hV; have hBA := Aside0.mk hB; have clA := Aside0.mk cl; have csA := Aside0.mk cs; have gkA := Aside0.mk gk; have gsA := Aside0.mk gs; have glA := Aside0.mk gl
  clear hV hB h0 h1 h2 kS sS cl cs gk gs gl hK hBg hs hib
  by_cases hab : a = b
  · subst hab
    go_enter Tryd.func11, Tryd.ntmps11
    go_wp2_with fail
    rw [← hVA.out]
    refine wp_region_noPanic ?_
    have H0 : Below V.heap.size V V.drew := pw_below_drewN (Below.refl _ _) 1
    refine wp_region_held_drew (S := fun V1 => Below V.heap.size V V1) (by kernel_rfl) H0 (fun _ => ?_)
    generalize V.drew = V0 at *
    -- REGION A
    refine wpAnyH_take (i := 0) (v := .pointer (some ⟨w.heap.size, 33, none⟩)) (op_at rfl) (by kernel_rfl) (by kernel_rfl) (by kernel_rfl) (fun _ _ _ h => h) (Or.inl ⟨by rfl, fun w_ hSw => ?_⟩) H0 ?_
    · skip; go_simp
    try simp only [Act.put, List.setIfInBounds_toArray, List.set_cons_zero, List.set_cons_succ]
    refine wpAnyH_take (i := 1) (v := .string k) (op_at rfl) (by kernel_rfl) (by kernel_rfl) (by kernel_rfl) (fun _ _ _ h => h) (Or.inl ⟨by rfl, fun w_ hSw => ?_⟩) H0 ?_
    · have hc_ := gkA.out w_ hSw; go_simp
    try simp only [Act.put, List.setIfInBounds_toArray, List.set_cons_zero, List.set_cons_succ]
    refine wpAnyH_take (i := 3) (v := .pointer (some ⟨w.heap.size + 1, 1, none⟩)) (op_at rfl) (by kernel_rfl) (by kernel_rfl) (by kernel_rfl) (fun _ _ _ h => h) (Or.inl ⟨by rfl, fun w_ hSw => ?_⟩) H0 ?_
    · skip; go_simp
    try simp only [Act.put, List.setIfInBounds_toArray, List.set_cons_zero, List.set_cons_succ]
    refine wpAnyH_take (i := 4) (v := .int .u64 a) (op_at rfl) (by kernel_rfl) (by kernel_rfl) (by kernel_rfl) (fun _ _ _ h => h) (Or.inl ⟨by rfl, fun w_ hSw => ?_⟩) H0 ?_
    · have hc_ := glA.out w_ hSw; go_simp
    try simp only [Act.put, List.setIfInBounds_toArray, List.set_cons_zero, List.set_cons_succ]
    refine wpAnyH_ready (rs := [2]) (by kernel_rfl) (by simp) ?_
    refine AllReadyH.cons (op_at rfl) (fun K hK => ?_) AllReadyH.nil
    go_simp
    go_at_call 7
    with_reducible refine (clA.out V0 H0).mono ?_
    rintro e V1_ ⟨rfl, hb⟩
    go_wp2_with fail
    refine hK.out _ _ (below_then H0 H0.size hb) (fun H1_ => ?_)
    clear hK K hb
    try simp only [Act.put, List.setIfInBounds_toArray, List.set_cons_zero, List.set_cons_succ]
    refine wpAnyH_take (i := 5) (v := .bool true) (op_at rfl) (by kernel_rfl) (by kernel_rfl) (by kernel_rfl) (fun _ _ _ h => h) (Or.inl ⟨by rfl, fun w_ hSw => ?_⟩) H1_ ?_
    · skip; go_simp
    try simp only [Act.put, List.setIfInBounds_toArray, List.set_cons_zero, List.set_cons_succ]
    refine wpAnyH_take (i := 6) (v := .bool true) (op_at rfl) (by kernel_rfl) (by kernel_rfl) (by kernel_rfl) (fun _ _ _ h => h) (Or.inl ⟨by rfl, fun w_ hSw => ?_⟩) H1_ ?_
    · skip; go_simp
    try simp only [Act.put, List.setIfInBounds_toArray, List.set_cons_zero, List.set_cons_succ]
    refine wpAnyH_take (i := 7) (v := .pointer (some ⟨w.heap.size, 34, none⟩)) (op_at rfl) (by kernel_rfl) (by kernel_rfl) (by kernel_rfl) (fun _ _ _ h => h) (Or.inl ⟨by rfl, fun w_ hSw => ?_⟩) H1_ ?_
    · skip; go_simp
    try simp only [Act.put, List.setIfInBounds_toArray, List.set_cons_zero, List.set_cons_succ]
    refine wpAnyH_take (i := 8) (v := .int .u64 y) (op_at rfl) (by kernel_rfl) (by kernel_rfl) (by kernel_rfl) (fun _ _ _ h => h) (Or.inl ⟨by rfl, fun w_ hSw => ?_⟩) H1_ ?_
    · have hc_ := gsA.out w_ hSw; go_simp
    try simp only [Act.put, List.setIfInBounds_toArray, List.set_cons_zero, List.set_cons_succ]
    refine wpAnyH_take (i := 9) (v := .pointer (some ⟨w.heap.size, 33, none⟩)) (op_at rfl) (by kernel_rfl) (by kernel_rfl) (by kernel_rfl) (fun _ _ _ h => h) (Or.inl ⟨by rfl, fun w_ hSw => ?_⟩) H1_ ?_
    · skip; go_simp
    try simp only [Act.put, List.setIfInBounds_toArray, List.set_cons_zero, List.set_cons_succ]
    refine wpAnyH_take (i := 10) (v := .string k) (op_at rfl) (by kernel_rfl) (by kernel_rfl) (by kernel_rfl) (fun _ _ _ h => h) (Or.inl ⟨by rfl, fun w_ hSw => ?_⟩) H1_ ?_
    · have hc_ := gkA.out w_ hSw; go_simp
    try simp only [Act.put, List.setIfInBounds_toArray, List.set_cons_zero, List.set_cons_succ]
    refine wpAnyH_take (i := 11) (v := hv id) (op_at rfl) (by kernel_rfl) (by kernel_rfl) (by kernel_rfl) (fun _ _ _ h => h) (yieldsIf_load_mid (by rfl) _ _ rfl (w.heap.size + 1 + 1) 0 rfl _ _ (fun w_ hSw => gi w_ hSw) hu rfl hi) H1_ ?_
    try simp only [Act.put, List.setIfInBounds_toArray, List.set_cons_zero, List.set_cons_succ]
    refine wpAnyH_ready (rs := [12]) (by kernel_rfl) (by simp) ?_
    refine AllReadyH.cons (op_at rfl) (fun K hK => ?_) AllReadyH.nil
    go_simp
    go_at_call 9
    with_reducible refine (csA.out V1_ H1_).mono ?_
    rintro e V2_ ⟨rfl, hb⟩
    go_wp2_with fail
    refine hK.out _ _ (below_then H1_ H1_.size hb) (fun H2_ => ?_)
    clear hK K hb
    try simp only [Act.put, List.setIfInBounds_toArray, List.set_cons_zero, List.set_cons_succ]
    refine wpAnyH_take (i := 13) (v := .bool (y == x)) (op_at rfl) (by kernel_rfl) (by kernel_rfl) (by kernel_rfl) (fun _ _ _ h => h) (Or.inl ⟨by rfl, fun w_ hSw => ?_⟩) H2_ ?_
    · skip; go_simp
    try simp only [Act.put, List.setIfInBounds_toArray, List.set_cons_zero, List.set_cons_succ]
    refine wpAnyH_take (i := 14) (v := .bool (y == x)) (op_at rfl) (by kernel_rfl) (by kernel_rfl) (by kernel_rfl) (fun _ _ _ h => h) (Or.inl ⟨by rfl, fun w_ hSw => ?_⟩) H2_ ?_
    · skip; go_simp
    try simp only [Act.put, List.setIfInBounds_toArray, List.set_cons_zero, List.set_cons_succ]
    refine wpAnyH_take (i := 15) (v := .bool (y == x)) (op_at rfl) (by kernel_rfl) (by kernel_rfl) (by kernel_rfl) (fun _ _ _ h => h) (Or.inl ⟨by rfl, fun w_ hSw => ?_⟩) H2_ ?_
    · skip; go_simp
    try simp only [Act.put, List.setIfInBounds_toArray, List.set_cons_zero, List.set_cons_succ]
    refine wpAnyH_done (by kernel_rfl) ?_ _
    refine NoPanic.normal ?_
    go_wp2
    go_ret
    exact ⟨open_l x y, below_then hBA.out hBA.out.size H2_⟩
    -- END A
  · have d1 : (a == b) = false := beq_eq_false_iff_ne.2 hab
    rw [decide_eq_false hab, Bool.false_and]
    clear hab
    go_enter Tryd.func11, Tryd.ntmps11
    go_wp2_with fail
    rw [← hVA.out]
    refine wp_region_noPanic ?_
    have H0 : Below V.heap.size V V.drew := pw_below_drewN (Below.refl _ _) 1
    refine wp_region_held_drew (S := fun V1 => Below V.heap.size V V1) (by kernel_rfl) H0 (fun _ => ?_)
    generalize V.drew = V0 at *
    -- REGION B
    refine wpAnyH_take (i := 0) (v := .pointer (some ⟨w.heap.size, 33, none⟩)) (op_at rfl) (by kernel_rfl) (by kernel_rfl) (by kernel_rfl) (fun _ _ _ h => h) (Or.inl ⟨by rfl, fun w_ hSw => ?_⟩) H0 ?_
    · skip; go_simp
    try simp only [Act.put, List.setIfInBounds_toArray, List.set_cons_zero, List.set_cons_succ]
    refine wpAnyH_take (i := 1) (v := .string k) (op_at rfl) (by kernel_rfl) (by kernel_rfl) (by kernel_rfl) (fun _ _ _ h => h) (Or.inl ⟨by rfl, fun w_ hSw => ?_⟩) H0 ?_
    · have hc_ := gkA.out w_ hSw; go_simp
    try simp only [Act.put, List.setIfInBounds_toArray, List.set_cons_zero, List.set_cons_succ]
    refine wpAnyH_take (i := 3) (v := .pointer (some ⟨w.heap.size + 1, 1, none⟩)) (op_at rfl) (by kernel_rfl) (by kernel_rfl) (by kernel_rfl) (fun _ _ _ h => h) (Or.inl ⟨by rfl, fun w_ hSw => ?_⟩) H0 ?_
    · skip; go_simp
    try simp only [Act.put, List.setIfInBounds_toArray, List.set_cons_zero, List.set_cons_succ]
    refine wpAnyH_take (i := 4) (v := .int .u64 b) (op_at rfl) (by kernel_rfl) (by kernel_rfl) (by kernel_rfl) (fun _ _ _ h => h) (Or.inl ⟨by rfl, fun w_ hSw => ?_⟩) H0 ?_
    · have hc_ := glA.out w_ hSw; go_simp
    try simp only [Act.put, List.setIfInBounds_toArray, List.set_cons_zero, List.set_cons_succ]
    refine wpAnyH_ready (rs := [2]) (by kernel_rfl) (by simp) ?_
    refine AllReadyH.cons (op_at rfl) (fun K hK => ?_) AllReadyH.nil
    go_simp
    go_at_call 7
    with_reducible refine (clA.out V0 H0).mono ?_
    rintro e V1_ ⟨rfl, hb⟩
    go_wp2_with fail
    refine hK.out _ _ (below_then H0 H0.size hb) (fun H1_ => ?_)
    clear hK K hb
    try simp only [Act.put, List.setIfInBounds_toArray, List.set_cons_zero, List.set_cons_succ]
    refine wpAnyH_take (i := 5) (v := .bool false) (op_at rfl) (by kernel_rfl) (by kernel_rfl) (by kernel_rfl) (fun _ _ _ h => h) (Or.inl ⟨by rfl, fun w_ hSw => ?_⟩) H1_ ?_
    · skip; go_simp
    try simp only [Act.put, List.setIfInBounds_toArray, List.set_cons_zero, List.set_cons_succ]
    refine wpAnyH_take (i := 6) (v := .bool false) (op_at rfl) (by kernel_rfl) (by kernel_rfl) (by kernel_rfl) (fun _ _ _ h => h) (Or.inl ⟨by rfl, fun w_ hSw => ?_⟩) H1_ ?_
    · skip; go_simp
    try simp only [Act.put, List.setIfInBounds_toArray, List.set_cons_zero, List.set_cons_succ]
    refine wpAnyH_take (i := 7) (v := undef) (op_at rfl) (by kernel_rfl) (by kernel_rfl) (by kernel_rfl) (fun _ _ _ h => h) (Or.inr ⟨by rfl, rfl⟩) H1_ ?_
    try simp only [Act.put, List.setIfInBounds_toArray, List.set_cons_zero, List.set_cons_succ]
    refine wpAnyH_take (i := 8) (v := undef) (op_at rfl) (by kernel_rfl) (by kernel_rfl) (by kernel_rfl) (fun _ _ _ h => h) (Or.inr ⟨by rfl, rfl⟩) H1_ ?_
    try simp only [Act.put, List.setIfInBounds_toArray, List.set_cons_zero, List.set_cons_succ]
    refine wpAnyH_take (i := 9) (v := undef) (op_at rfl) (by kernel_rfl) (by kernel_rfl) (by kernel_rfl) (fun _ _ _ h => h) (Or.inr ⟨by rfl, rfl⟩) H1_ ?_
    try simp only [Act.put, List.setIfInBounds_toArray, List.set_cons_zero, List.set_cons_succ]
    refine wpAnyH_take (i := 10) (v := undef) (op_at rfl) (by kernel_rfl) (by kernel_rfl) (by kernel_rfl) (fun _ _ _ h => h) (Or.inr ⟨by rfl, rfl⟩) H1_ ?_
    try simp only [Act.put, List.setIfInBounds_toArray, List.set_cons_zero, List.set_cons_succ]
    refine wpAnyH_take (i := 11) (v := undef) (op_at rfl) (by kernel_rfl) (by kernel_rfl) (by kernel_rfl) (fun _ _ _ h => h) (Or.inr ⟨by rfl, rfl⟩) H1_ ?_
    try simp only [Act.put, List.setIfInBounds_toArray, List.set_cons_zero, List.set_cons_succ]
    refine wpAnyH_take (i := 12) (v := undef) (op_at rfl) (by kernel_rfl) (by kernel_rfl) (by kernel_rfl) (fun _ _ _ h => h) (Or.inr ⟨by rfl, rfl⟩) H1_ ?_
    try simp only [Act.put, List.setIfInBounds_toArray, List.set_cons_zero, List.set_cons_succ]
    refine wpAnyH_take (i := 13) (v := undef) (op_at rfl) (by kernel_rfl) (by kernel_rfl) (by kernel_rfl) (fun _ _ _ h => h) (Or.inr ⟨by rfl, rfl⟩) H1_ ?_
    try simp only [Act.put, List.setIfInBounds_toArray, List.set_cons_zero, List.set_cons_succ]
    refine wpAnyH_take (i := 14) (v := .bool false) (op_at rfl) (by kernel_rfl) (by kernel_rfl) (by kernel_rfl) (fun _ _ _ h => h) (Or.inl ⟨by rfl, fun w_ hSw => ?_⟩) H1_ ?_
    · skip; go_simp
    try simp only [Act.put, List.setIfInBounds_toArray, List.set_cons_zero, List.set_cons_succ]
    refine wpAnyH_take (i := 15) (v := .bool false) (op_at rfl) (by kernel_rfl) (by kernel_rfl) (by kernel_rfl) (fun _ _ _ h => h) (Or.inl ⟨by rfl, fun w_ hSw => ?_⟩) H1_ ?_
    · skip; go_simp
    try simp only [Act.put, List.setIfInBounds_toArray, List.set_cons_zero, List.set_cons_succ]
    refine wpAnyH_done (by kernel_rfl) ?_ _
    refine NoPanic.normal ?_
    go_wp2
    go_ret
    exact ⟨rfl, below_then hBA.out hBA.out.size H1_⟩
    -- END B
set_option maxRecDepth 100000 in
set_option maxHeartbeats 400000 in
theorem ropens_calls (s : Sp) (c : Co) (id : List Int) (hs : s.key.size ≤ 1000000) (ht : s.tx.length = 32) (hid : id.length = 32) (hib : Bytes id) (w : World) (hK : Rst w) :
    Calls Tryd.prog 12 #[spv s, cov c, hv id] w fun e w' => e = .returned (.bool (opens s c id)) ∧ Below w.heap.size w w' := by
  -- HEAD
  obtain ⟨V, hV⟩ : ∃ V, V = (((w.alloc (.cells (spc s).toArray 28)).alloc (.cells (coc c).toArray 30)).alloc (.cells (nums .u8 id).toArray 23)) := ⟨_, rfl⟩
  have hB : Below w.heap.size w V := by rw [hV]; exact below_alloc (below_alloc (below_alloc (Below.refl _ _) _) _) _
  have h0 : Blk V w.heap.size 28 (spc s) := by rw [hV]; exact ((Blk.new w 28 (spc s)).alloc _).alloc _
  have h1 : Blk V (w.heap.size + 1) 30 (coc c) := by
    rw [hV]
    have := (Blk.new (w.alloc (.cells (spc s).toArray 28)) 30 (coc c)).alloc (.cells (nums .u8 id).toArray 23)
    rwa [World.size_alloc] at this
  have h2 : Blk V (w.heap.size + 1 + 1) 23 (nums .u8 id) := by
    rw [hV]
    have := Blk.new ((w.alloc (.cells (spc s).toArray 28)).alloc (.cells (coc c).toArray 30)) 23 (nums .u8 id)
    rwa [World.size_alloc, World.size_alloc] at this
  have kS := spc_key s ht
  have sS := spc_seal s ht
  have gk : ∀ V1, Below V.heap.size V V1 → V1.cell? ⟨w.heap.size, 33, none⟩ = some (.string s.key) := fun V1 h => (h0.below h).get 33 _ kS
  have gs : ∀ V1, Below V.heap.size V V1 → V1.cell? ⟨w.heap.size, 34, none⟩ = some (.int .u64 s.sel) := fun V1 h => (h0.below h).get 34 _ sS
  have gl : ∀ V1, Below V.heap.size V V1 → V1.cell? ⟨w.heap.size + 1, 1, none⟩ = some (.int .u64 c.lock) := fun V1 h => (h1.below h).get 1 _ rfl
  have gi : ∀ V1, Below V.heap.size V V1 → V1.rangeAt (w.heap.size + 1 + 1) 0 (nums .u8 id) := fun V1 h j u hu => by rw [Nat.zero_add]; exact (h2.below h).get j u hu
  have hi := info_hash id hid
  have hu := Tryd.underlying23
  -- HEAD END
  have cl := fun (V1 : World) (h : Below V.heap.size V V1) => rlock_calls s.key hs V1 (hK.below (below_then hB hB.size h))
  have cs := fun (V1 : World) (h : Below V.heap.size V V1) => rseal_calls s.key hs id hid hib V1 (hK.below (below_then hB hB.size h))
  unfold opens
  generalize lk s.key = a at *
  generalize c.lock = b at *
  generalize sl s.key id = x at *
  generalize s.sel = y at *
  generalize s.key = k at *
  have hVA := Aside0.mk hV; have hBA := Aside0.mk hB; have clA := Aside0.mk cl; have csA := Aside0.mk cs; have gkA := Aside0.mk gk; have gsA := Aside0.mk gs; have glA := Aside0.mk gl
  clear hV hB h0 h1 h2 kS sS cl cs gk gs gl hK hs hib
  by_cases hab : a = b
  · subst hab
    go_enter Tryd.func12, Tryd.ntmps12
    go_wp2_with fail
    rw [← hVA.out]
    refine wp_region_noPanic ?_
    have H0 : Below V.heap.size V V.drew := pw_below_drewN (Below.refl _ _) 1
    refine wp_region_held_drew (S := fun V1 => Below V.heap.size V V1) (by kernel_rfl) H0 (fun _ => ?_)
    generalize V.drew = V0 at *
    -- REGION C
    refine wpAnyH_take (i := 0) (v := .pointer (some ⟨w.heap.size, 33, none⟩)) (op_at rfl) (by kernel_rfl) (by kernel_rfl) (by kernel_rfl) (fun _ _ _ h => h) (Or.inl ⟨by rfl, fun w_ hSw => ?_⟩) H0 ?_
    · skip; go_simp
    try simp only [Act.put, List.setIfInBounds_toArray, List.set_cons_zero, List.set_cons_succ]
    refine wpAnyH_take (i := 1) (v := .string k) (op_at rfl) (by kernel_rfl) (by kernel_rfl) (by kernel_rfl) (fun _ _ _ h => h) (Or.inl ⟨by rfl, fun w_ hSw => ?_⟩) H0 ?_
    · have hc_ := gkA.out w_ hSw; go_simp
    try simp only [Act.put, List.setIfInBounds_toArray, List.set_cons_zero, List.set_cons_succ]
    refine wpAnyH_take (i := 3) (v := .pointer (some ⟨w.heap.size + 1, 1, none⟩)) (op_at rfl) (by kernel_rfl) (by kernel_rfl) (by kernel_rfl) (fun _ _ _ h => h) (Or.inl ⟨by rfl, fun w_ hSw => ?_⟩) H0 ?_
    · skip; go_simp
    try simp only [Act.put, List.setIfInBounds_toArray, List.set_cons_zero, List.set_cons_succ]
    refine wpAnyH_take (i := 4) (v := .int .u64 a) (op_at rfl) (by kernel_rfl) (by kernel_rfl) (by kernel_rfl) (fun _ _ _ h => h) (Or.inl ⟨by rfl, fun w_ hSw => ?_⟩) H0 ?_
    · have hc_ := glA.out w_ hSw; go_simp
    try simp only [Act.put, List.setIfInBounds_toArray, List.set_cons_zero, List.set_cons_succ]
    refine wpAnyH_ready (rs := [2]) (by kernel_rfl) (by simp) ?_
    refine AllReadyH.cons (op_at rfl) (fun K hK => ?_) AllReadyH.nil
    go_simp
    go_at_call 8
    with_reducible refine (clA.out V0 H0).mono ?_
    rintro e V1_ ⟨rfl, hb⟩
    go_wp2_with fail
    refine hK.out _ _ (below_then H0 H0.size hb) (fun H1_ => ?_)
    clear hK K hb
    try simp only [Act.put, List.setIfInBounds_toArray, List.set_cons_zero, List.set_cons_succ]
    refine wpAnyH_take (i := 5) (v := .bool true) (op_at rfl) (by kernel_rfl) (by kernel_rfl) (by kernel_rfl) (fun _ _ _ h => h) (Or.inl ⟨by rfl, fun w_ hSw => ?_⟩) H1_ ?_
    · skip; go_simp
    try simp only [Act.put, List.setIfInBounds_toArray, List.set_cons_zero, List.set_cons_succ]
    refine wpAnyH_take (i := 6) (v := .bool true) (op_at rfl) (by kernel_rfl) (by kernel_rfl) (by kernel_rfl) (fun _ _ _ h => h) (Or.inl ⟨by rfl, fun w_ hSw => ?_⟩) H1_ ?_
    · skip; go_simp
    try simp only [Act.put, List.setIfInBounds_toArray, List.set_cons_zero, List.set_cons_succ]
    refine wpAnyH_take (i := 7) (v := .pointer (some ⟨w.heap.size, 33, none⟩)) (op_at rfl) (by kernel_rfl) (by kernel_rfl) (by kernel_rfl) (fun _ _ _ h => h) (Or.inl ⟨by rfl, fun w_ hSw => ?_⟩) H1_ ?_
    · skip; go_simp
    try simp only [Act.put, List.setIfInBounds_toArray, List.set_cons_zero, List.set_cons_succ]
    refine wpAnyH_take (i := 8) (v := .string k) (op_at rfl) (by kernel_rfl) (by kernel_rfl) (by kernel_rfl) (fun _ _ _ h => h) (Or.inl ⟨by rfl, fun w_ hSw => ?_⟩) H1_ ?_
    · have hc_ := gkA.out w_ hSw; go_simp
    try simp only [Act.put, List.setIfInBounds_toArray, List.set_cons_zero, List.set_cons_succ]
    refine wpAnyH_take (i := 9) (v := hv id) (op_at rfl) (by kernel_rfl) (by kernel_rfl) (by kernel_rfl) (fun _ _ _ h => h) (yieldsIf_load_mid (by rfl) _ _ rfl (w.heap.size + 1 + 1) 0 rfl _ _ (fun w_ hSw => gi w_ hSw) hu rfl hi) H1_ ?_
    try simp only [Act.put, List.setIfInBounds_toArray, List.set_cons_zero, List.set_cons_succ]
    refine wpAnyH_take (i := 11) (v := .pointer (some ⟨w.heap.size, 34, none⟩)) (op_at rfl) (by kernel_rfl) (by kernel_rfl) (by kernel_rfl) (fun _ _ _ h => h) (Or.inl ⟨by rfl, fun w_ hSw => ?_⟩) H1_ ?_
    · skip; go_simp
    try simp only [Act.put, List.setIfInBounds_toArray, List.set_cons_zero, List.set_cons_succ]
    refine wpAnyH_take (i := 12) (v := .int .u64 y) (op_at rfl) (by kernel_rfl) (by kernel_rfl) (by kernel_rfl) (fun _ _ _ h => h) (Or.inl ⟨by rfl, fun w_ hSw => ?_⟩) H1_ ?_
    · have hc_ := gsA.out w_ hSw; go_simp
    try simp only [Act.put, List.setIfInBounds_toArray, List.set_cons_zero, List.set_cons_succ]
    refine wpAnyH_ready (rs := [10]) (by kernel_rfl) (by simp) ?_
    refine AllReadyH.cons (op_at rfl) (fun K hK => ?_) AllReadyH.nil
    go_simp
    go_at_call 10
    with_reducible refine (csA.out V1_ H1_).mono ?_
    rintro e V2_ ⟨rfl, hb⟩
    go_wp2_with fail
    refine hK.out _ _ (below_then H1_ H1_.size hb) (fun H2_ => ?_)
    clear hK K hb
    try simp only [Act.put, List.setIfInBounds_toArray, List.set_cons_zero, List.set_cons_succ]
    refine wpAnyH_take (i := 13) (v := .bool (x == y)) (op_at rfl) (by kernel_rfl) (by kernel_rfl) (by kernel_rfl) (fun _ _ _ h => h) (Or.inl ⟨by rfl, fun w_ hSw => ?_⟩) H2_ ?_
    · skip; go_simp
    try simp only [Act.put, List.setIfInBounds_toArray, List.set_cons_zero, List.set_cons_succ]
    refine wpAnyH_take (i := 14) (v := .bool (x == y)) (op_at rfl) (by kernel_rfl) (by kernel_rfl) (by kernel_rfl) (fun _ _ _ h => h) (Or.inl ⟨by rfl, fun w_ hSw => ?_⟩) H2_ ?_
    · skip; go_simp
    try simp only [Act.put, List.setIfInBounds_toArray, List.set_cons_zero, List.set_cons_succ]
    refine wpAnyH_take (i := 15) (v := .bool (x == y)) (op_at rfl) (by kernel_rfl) (by kernel_rfl) (by kernel_rfl) (fun _ _ _ h => h) (Or.inl ⟨by rfl, fun w_ hSw => ?_⟩) H2_ ?_
    · skip; go_simp
    try simp only [Act.put, List.setIfInBounds_toArray, List.set_cons_zero, List.set_cons_succ]
    refine wpAnyH_done (by kernel_rfl) ?_ _
    refine NoPanic.normal ?_
    go_wp2
    go_ret
    exact ⟨open_r x y, below_then hBA.out hBA.out.size H2_⟩
    -- END C
  · have d1 : (a == b) = false := beq_eq_false_iff_ne.2 hab
    rw [decide_eq_false hab, Bool.false_and]
    clear hab
    go_enter Tryd.func12, Tryd.ntmps12
    go_wp2_with fail
    rw [← hVA.out]
    refine wp_region_noPanic ?_
    have H0 : Below V.heap.size V V.drew := pw_below_drewN (Below.refl _ _) 1
    refine wp_region_held_drew (S := fun V1 => Below V.heap.size V V1) (by kernel_rfl) H0 (fun _ => ?_)
    generalize V.drew = V0 at *
    -- REGION D
    refine wpAnyH_take (i := 0) (v := .pointer (some ⟨w.heap.size, 33, none⟩)) (op_at rfl) (by kernel_rfl) (by kernel_rfl) (by kernel_rfl) (fun _ _ _ h => h) (Or.inl ⟨by rfl, fun w_ hSw => ?_⟩) H0 ?_
    · skip; go_simp
    try simp only [Act.put, List.setIfInBounds_toArray, List.set_cons_zero, List.set_cons_succ]
    refine wpAnyH_take (i := 1) (v := .string k) (op_at rfl) (by kernel_rfl) (by kernel_rfl) (by kernel_rfl) (fun _ _ _ h => h) (Or.inl ⟨by rfl, fun w_ hSw => ?_⟩) H0 ?_
    · have hc_ := gkA.out w_ hSw; go_simp
    try simp only [Act.put, List.setIfInBounds_toArray, List.set_cons_zero, List.set_cons_succ]
    refine wpAnyH_take (i := 3) (v := .pointer (some ⟨w.heap.size + 1, 1, none⟩)) (op_at rfl) (by kernel_rfl) (by kernel_rfl) (by kernel_rfl) (fun _ _ _ h => h) (Or.inl ⟨by rfl, fun w_ hSw => ?_⟩) H0 ?_
    · skip; go_simp
    try simp only [Act.put, List.setIfInBounds_toArray, List.set_cons_zero, List.set_cons_succ]
    refine wpAnyH_take (i := 4) (v := .int .u64 b) (op_at rfl) (by kernel_rfl) (by kernel_rfl) (by kernel_rfl) (fun _ _ _ h => h) (Or.inl ⟨by rfl, fun w_ hSw => ?_⟩) H0 ?_
    · have hc_ := glA.out w_ hSw; go_simp
    try simp only [Act.put, List.setIfInBounds_toArray, List.set_cons_zero, List.set_cons_succ]
    refine wpAnyH_ready (rs := [2]) (by kernel_rfl) (by simp) ?_
    refine AllReadyH.cons (op_at rfl) (fun K hK => ?_) AllReadyH.nil
    go_simp
    go_at_call 8
    with_reducible refine (clA.out V0 H0).mono ?_
    rintro e V1_ ⟨rfl, hb⟩
    go_wp2_with fail
    refine hK.out _ _ (below_then H0 H0.size hb) (fun H1_ => ?_)
    clear hK K hb
    try simp only [Act.put, List.setIfInBounds_toArray, List.set_cons_zero, List.set_cons_succ]
    refine wpAnyH_take (i := 5) (v := .bool false) (op_at rfl) (by kernel_rfl) (by kernel_rfl) (by kernel_rfl) (fun _ _ _ h => h) (Or.inl ⟨by rfl, fun w_ hSw => ?_⟩) H1_ ?_
    · skip; go_simp
    try simp only [Act.put, List.setIfInBounds_toArray, List.set_cons_zero, List.set_cons_succ]
    refine wpAnyH_take (i := 6) (v := .bool false) (op_at rfl) (by kernel_rfl) (by kernel_rfl) (by kernel_rfl) (fun _ _ _ h => h) (Or.inl ⟨by rfl, fun w_ hSw => ?_⟩) H1_ ?_
    · skip; go_simp
    try simp only [Act.put, List.setIfInBounds_toArray, List.set_cons_zero, List.set_cons_succ]
    refine wpAnyH_take (i := 7) (v := undef) (op_at rfl) (by kernel_rfl) (by kernel_rfl) (by kernel_rfl) (fun _ _ _ h => h) (Or.inr ⟨by rfl, rfl⟩) H1_ ?_
    try simp only [Act.put, List.setIfInBounds_toArray, List.set_cons_zero, List.set_cons_succ]
    refine wpAnyH_take (i := 8) (v := undef) (op_at rfl) (by kernel_rfl) (by kernel_rfl) (by kernel_rfl) (fun _ _ _ h => h) (Or.inr ⟨by rfl, rfl⟩) H1_ ?_
    try simp only [Act.put, List.setIfInBounds_toArray, List.set_cons_zero, List.set_cons_succ]
    refine wpAnyH_take (i := 9) (v := undef) (op_at rfl) (by kernel_rfl) (by kernel_rfl) (by kernel_rfl) (fun _ _ _ h => h) (Or.inr ⟨by rfl, rfl⟩) H1_ ?_
    try simp only [Act.put, List.setIfInBounds_toArray, List.set_cons_zero, List.set_cons_succ]
    refine wpAnyH_take (i := 10) (v := undef) (op_at rfl) (by kernel_rfl) (by kernel_rfl) (by kernel_rfl) (fun _ _ _ h => h) (Or.inr ⟨by rfl, rfl⟩) H1_ ?_
    try simp only [Act.put, List.setIfInBounds_toArray, List.set_cons_zero, List.set_cons_succ]
    refine wpAnyH_take (i := 11) (v := undef) (op_at rfl) (by kernel_rfl) (by kernel_rfl) (by kernel_rfl) (fun _ _ _ h => h) (Or.inr ⟨by rfl, rfl⟩) H1_ ?_
    try simp only [Act.put, List.setIfInBounds_toArray, List.set_cons_zero, List.set_cons_succ]
    refine wpAnyH_take (i := 12) (v := undef) (op_at rfl) (by kernel_rfl) (by kernel_rfl) (by kernel_rfl) (fun _ _ _ h => h) (Or.inr ⟨by rfl, rfl⟩) H1_ ?_
    try simp only [Act.put, List.setIfInBounds_toArray, List.set_cons_zero, List.set_cons_succ]
    refine wpAnyH_take (i := 13) (v := undef) (op_at rfl) (by kernel_rfl) (by kernel_rfl) (by kernel_rfl) (fun _ _ _ h => h) (Or.inr ⟨by rfl, rfl⟩) H1_ ?_
    try simp only [Act.put, List.setIfInBounds_toArray, List.set_cons_zero, List.set_cons_succ]
    refine wpAnyH_take (i := 14) (v := .bool false) (op_at rfl) (by kernel_rfl) (by kernel_rfl) (by kernel_rfl) (fun _ _ _ h => h) (Or.inl ⟨by rfl, fun w_ hSw => ?_⟩) H1_ ?_
    · skip; go_simp
    try simp only [Act.put, List.setIfInBounds_toArray, List.set_cons_zero, List.set_cons_succ]
    refine wpAnyH_take (i := 15) (v := .bool false) (op_at rfl) (by kernel_rfl) (by kernel_rfl) (by kernel_rfl) (fun _ _ _ h => h) (Or.inl ⟨by rfl, fun w_ hSw => ?_⟩) H1_ ?_
    · skip; go_simp
    try simp only [Act.put, List.setIfInBounds_toArray, List.set_cons_zero, List.set_cons_succ]
    refine wpAnyH_done (by kernel_rfl) ?_ _
    refine NoPanic.normal ?_
    go_wp2
    go_ret
    exact ⟨rfl, below_then hBA.out hBA.out.size H1_⟩
    -- END D
end Go.Proofs.YthnfjbnebfjjfaaDoor.ShaW
/- Chapter 11's example. -/
set_option linter.unusedVariables false
set_option linter.unusedSimpArgs false
namespace Go.Proofs.YthnfjbnebfjjfaaDoor.ShaW
open Go.RowKit Go.Proofs.YthnfjbnebfjjfaaDoorW.PrintWords Go.Proofs.YthnfjbnebfjjfaaDoorW.PrintMore Go.Proofs.YthnfjbnebfjjfaaDoor Go.Proofs.YthnfjbnebfjjfaaDoor.Bits Sha ArrK
open Go.Proofs.YthnfjbnebfjjfaaDoor.InRound (op_at)
abbrev keyA : ByteArray := ⟨#[97]⟩
theorem seal_not : ¬ (0 = sl keyA zero32) := by decide +kernel
theorem opens_yes : opens ⟨zero32, 0, keyA, sl keyA zero32⟩ ⟨0, lk keyA⟩ zero32 = true := by
  unfold opens
  rw [decide_eq_true (rfl : lk keyA = lk keyA), decide_eq_true (rfl : sl keyA zero32 = sl keyA zero32)]; rfl
theorem opens_no : opens ⟨zero32, 0, keyA, 0⟩ ⟨0, lk keyA⟩ zero32 = false := by
  unfold opens
  rw [decide_eq_false seal_not, Bool.and_false]
theorem zero_bytes : Bytes zero32 := by intro x hx; simp at hx; omega
set_option maxRecDepth 100000 in
set_option maxHeartbeats 400000 in
theorem alive11_calls (w : World) (hK : Kst w) (hBg : Bst w) :
    Calls Tryd.prog 6 #[] w fun e w' => e = .returned (.bool true) ∧ Below w.heap.size w w' := by
  have hL := lock_calls keyA (by decide) w hK hBg
  have cs : ∀ V1, Below w.heap.size w V1 → Calls Tryd.prog 9 #[.string keyA, .agg #[.int .u8 0, .int .u8 0, .int .u8 0, .int .u8 0, .int .u8 0, .int .u8 0, .int .u8 0, .int .u8 0, .int .u8 0, .int .u8 0, .int .u8 0, .int .u8 0, .int .u8 0, .int .u8 0, .int .u8 0, .int .u8 0, .int .u8 0, .int .u8 0, .int .u8 0, .int .u8 0, .int .u8 0, .int .u8 0, .int .u8 0, .int .u8 0, .int .u8 0, .int .u8 0, .int .u8 0, .int .u8 0, .int .u8 0, .int .u8 0, .int .u8 0, .int .u8 0]] V1 fun e w' => e = .returned (.int .u64 (sl keyA zero32)) ∧ Below V1.heap.size V1 w' := fun V1 h => seal_calls keyA (by decide) zero32 rfl zero_bytes V1 (hK.below h) (hBg.below h)
  have c1 : ∀ V1, Below w.heap.size w V1 → Calls Tryd.prog 11 #[.agg #[.int .u8 0, .int .u8 0, .int .u8 0, .int .u8 0, .int .u8 0, .int .u8 0, .int .u8 0, .int .u8 0, .int .u8 0, .int .u8 0, .int .u8 0, .int .u8 0, .int .u8 0, .int .u8 0, .int .u8 0, .int .u8 0, .int .u8 0, .int .u8 0, .int .u8 0, .int .u8 0, .int .u8 0, .int .u8 0, .int .u8 0, .int .u8 0, .int .u8 0, .int .u8 0, .int .u8 0, .int .u8 0, .int .u8 0, .int .u8 0, .int .u8 0, .int .u8 0, .int .i64 0, .string keyA, .int .u64 (sl keyA zero32)], .agg #[.int .i64 0, .int .u64 (lk keyA)], .agg #[.int .u8 0, .int .u8 0, .int .u8 0, .int .u8 0, .int .u8 0, .int .u8 0, .int .u8 0, .int .u8 0, .int .u8 0, .int .u8 0, .int .u8 0, .int .u8 0, .int .u8 0, .int .u8 0, .int .u8 0, .int .u8 0, .int .u8 0, .int .u8 0, .int .u8 0, .int .u8 0, .int .u8 0, .int .u8 0, .int .u8 0, .int .u8 0, .int .u8 0, .int .u8 0, .int .u8 0, .int .u8 0, .int .u8 0, .int .u8 0, .int .u8 0, .int .u8 0]] V1 fun e w' => e = .returned (.bool true) ∧ Below V1.heap.size V1 w' := fun V1 h => by
    have := opens_calls ⟨zero32, 0, keyA, sl keyA zero32⟩ ⟨0, lk keyA⟩ zero32 (by decide) rfl rfl zero_bytes V1 (hK.below h) (hBg.below h)
    rw [opens_yes] at this
    exact this
  have c2 : ∀ V1, Below w.heap.size w V1 → Calls Tryd.prog 11 #[.agg #[.int .u8 0, .int .u8 0, .int .u8 0, .int .u8 0, .int .u8 0, .int .u8 0, .int .u8 0, .int .u8 0, .int .u8 0, .int .u8 0, .int .u8 0, .int .u8 0, .int .u8 0, .int .u8 0, .int .u8 0, .int .u8 0, .int .u8 0, .int .u8 0, .int .u8 0, .int .u8 0, .int .u8 0, .int .u8 0, .int .u8 0, .int .u8 0, .int .u8 0, .int .u8 0, .int .u8 0, .int .u8 0, .int .u8 0, .int .u8 0, .int .u8 0, .int .u8 0, .int .i64 0, .string keyA, .int .u64 0], .agg #[.int .i64 0, .int .u64 (lk keyA)], .agg #[.int .u8 0, .int .u8 0, .int .u8 0, .int .u8 0, .int .u8 0, .int .u8 0, .int .u8 0, .int .u8 0, .int .u8 0, .int .u8 0, .int .u8 0, .int .u8 0, .int .u8 0, .int .u8 0, .int .u8 0, .int .u8 0, .int .u8 0, .int .u8 0, .int .u8 0, .int .u8 0, .int .u8 0, .int .u8 0, .int .u8 0, .int .u8 0, .int .u8 0, .int .u8 0, .int .u8 0, .int .u8 0, .int .u8 0, .int .u8 0, .int .u8 0, .int .u8 0]] V1 fun e w' => e = .returned (.bool false) ∧ Below V1.heap.size V1 w' := fun V1 h => by
    have := opens_calls ⟨zero32, 0, keyA, 0⟩ ⟨0, lk keyA⟩ zero32 (by decide) rfl rfl zero_bytes V1 (hK.below h) (hBg.below h)
    rw [opens_no] at this
    exact this
  generalize lk keyA = X at *
  generalize sl keyA zero32 = Y at *
  have hLA := Aside0.mk hL; have csA := Aside0.mk cs; have c1A := Aside0.mk c1; have c2A := Aside0.mk c2
  clear hL cs c1 c2 hK hBg
  go_enter Tryd.func6, Tryd.ntmps6
  go_wp2_with (go_at_call 7; with_reducible refine hLA.out.mono ?_; rintro e w1 ⟨rfl, hb1⟩; have hb1A := Aside0.mk hb1; clear hb1)
  refine wp_region_noPanic ?_
  obtain ⟨V, hV⟩ : ∃ V, V = w1.alloc (.cells #[.int .i64 0, .int .u64 X] 30) := ⟨_, rfl⟩
  have hX : Blk V w1.heap.size 30 [.int .i64 0, .int .u64 X] := by rw [hV]; exact Blk.new w1 _ _
  have hVB : Below w.heap.size w V := by rw [hV]; exact below_then hb1A.out hb1A.out.size (below_alloc (Below.refl _ _) _)
  obtain ⟨b, hb⟩ : ∃ b, b = w1.heap.size := ⟨_, rfl⟩
  rw [← hV, ← hb]
  rw [← hb] at hX
  have g0 : ∀ V1, Below V.heap.size V V1 → V1.cell? ⟨b, 0, none⟩ = some (.int .i64 0) := fun V1 h => (hX.below h).get 0 _ rfl
  have g1 : ∀ V1, Below V.heap.size V V1 → V1.cell? ⟨b, 1, none⟩ = some (.int .u64 X) := fun V1 h => (hX.below h).get 1 _ rfl
  have g0A := Aside0.mk g0; have g1A := Aside0.mk g1; have hVA := Aside0.mk hVB
  clear g0 g1 hVB hX hV hb hb1A hLA
  have H0 : Below V.heap.size V V.drew := pw_below_drewN (Below.refl _ _) 1
  refine wp_region_held_drew (S := fun V1 => Below V.heap.size V V1) (by kernel_rfl) H0 (fun _ => ?_)
  generalize V.drew = V0 at *
  -- REGION A
  refine wpAnyH_take (i := 0) (v := .agg #[.int .u8 0, .int .u8 0, .int .u8 0, .int .u8 0, .int .u8 0, .int .u8 0, .int .u8 0, .int .u8 0, .int .u8 0, .int .u8 0, .int .u8 0, .int .u8 0, .int .u8 0, .int .u8 0, .int .u8 0, .int .u8 0, .int .u8 0, .int .u8 0, .int .u8 0, .int .u8 0, .int .u8 0, .int .u8 0, .int .u8 0, .int .u8 0, .int .u8 0, .int .u8 0, .int .u8 0, .int .u8 0, .int .u8 0, .int .u8 0, .int .u8 0, .int .u8 0]) (op_at rfl) (by kernel_rfl) (by kernel_rfl) (by kernel_rfl) (fun _ _ _ h => h) (Or.inl ⟨by rfl, fun w_ hSw => ?_⟩) H0 ?_
  · skip; go_simp
  try simp only [Act.put, List.setIfInBounds_toArray, List.set_cons_zero, List.set_cons_succ]
  refine wpAnyH_take (i := 3) (v := .agg #[.int .i64 0, .int .u64 X]) (op_at rfl) (by kernel_rfl) (by kernel_rfl) (by kernel_rfl) (fun _ _ _ h => h) (Or.inl ⟨by rfl, fun w_ hSw => ?_⟩) H0 ?_
  · have h1 := g0A.out w_ hSw; have h2 := g1A.out w_ hSw; go_simp
  try simp only [Act.put, List.setIfInBounds_toArray, List.set_cons_zero, List.set_cons_succ]
  refine wpAnyH_take (i := 4) (v := .agg #[.int .u8 0, .int .u8 0, .int .u8 0, .int .u8 0, .int .u8 0, .int .u8 0, .int .u8 0, .int .u8 0, .int .u8 0, .int .u8 0, .int .u8 0, .int .u8 0, .int .u8 0, .int .u8 0, .int .u8 0, .int .u8 0, .int .u8 0, .int .u8 0, .int .u8 0, .int .u8 0, .int .u8 0, .int .u8 0, .int .u8 0, .int .u8 0, .int .u8 0, .int .u8 0, .int .u8 0, .int .u8 0, .int .u8 0, .int .u8 0, .int .u8 0, .int .u8 0]) (op_at rfl) (by kernel_rfl) (by kernel_rfl) (by kernel_rfl) (fun _ _ _ h => h) (Or.inl ⟨by rfl, fun w_ hSw => ?_⟩) H0 ?_
  · skip; go_simp
  try simp only [Act.put, List.setIfInBounds_toArray, List.set_cons_zero, List.set_cons_succ]
  refine wpAnyH_ready (rs := [1]) (by kernel_rfl) (by simp) ?_
  refine AllReadyH.cons (op_at rfl) (fun K hK => ?_) AllReadyH.nil
  go_simp
  go_at_call 9
  with_reducible refine (csA.out V0 (below_then hVA.out hVA.out.size H0)).mono ?_
  rintro e V1_ ⟨rfl, hb⟩
  go_wp2_with fail
  refine hK.out _ _ (below_then H0 H0.size hb) (fun H1_ => ?_)
  clear hK K hb
  try simp only [Act.put, List.setIfInBounds_toArray, List.set_cons_zero, List.set_cons_succ]
  refine wpAnyH_take (i := 2) (v := .agg #[.int .u8 0, .int .u8 0, .int .u8 0, .int .u8 0, .int .u8 0, .int .u8 0, .int .u8 0, .int .u8 0, .int .u8 0, .int .u8 0, .int .u8 0, .int .u8 0, .int .u8 0, .int .u8 0, .int .u8 0, .int .u8 0, .int .u8 0, .int .u8 0, .int .u8 0, .int .u8 0, .int .u8 0, .int .u8 0, .int .u8 0, .int .u8 0, .int .u8 0, .int .u8 0, .int .u8 0, .int .u8 0, .int .u8 0, .int .u8 0, .int .u8 0, .int .u8 0, .int .i64 0, .string keyA, .int .u64 Y]) (op_at rfl) (by kernel_rfl) (by kernel_rfl) (by kernel_rfl) (fun _ _ _ h => h) (Or.inl ⟨by rfl, fun w_ hSw => ?_⟩) H1_ ?_
  · skip; go_simp
  try simp only [Act.put, List.setIfInBounds_toArray, List.set_cons_zero, List.set_cons_succ]
  refine wpAnyH_ready (rs := [5]) (by kernel_rfl) (by simp) ?_
  refine AllReadyH.cons (op_at rfl) (fun K hK => ?_) AllReadyH.nil
  go_simp
  go_at_call 11
  with_reducible refine (c1A.out V1_ (below_then hVA.out hVA.out.size H1_)).mono ?_
  rintro e V2_ ⟨rfl, hb⟩
  go_wp2_with fail
  refine hK.out _ _ (below_then H1_ H1_.size hb) (fun H2_ => ?_)
  clear hK K hb
  try simp only [Act.put, List.setIfInBounds_toArray, List.set_cons_zero, List.set_cons_succ]
  refine wpAnyH_take (i := 6) (v := .bool true) (op_at rfl) (by kernel_rfl) (by kernel_rfl) (by kernel_rfl) (fun _ _ _ h => h) (Or.inl ⟨by rfl, fun w_ hSw => ?_⟩) H2_ ?_
  · skip; go_simp
  try simp only [Act.put, List.setIfInBounds_toArray, List.set_cons_zero, List.set_cons_succ]
  refine wpAnyH_take (i := 7) (v := .agg #[.int .u8 0, .int .u8 0, .int .u8 0, .int .u8 0, .int .u8 0, .int .u8 0, .int .u8 0, .int .u8 0, .int .u8 0, .int .u8 0, .int .u8 0, .int .u8 0, .int .u8 0, .int .u8 0, .int .u8 0, .int .u8 0, .int .u8 0, .int .u8 0, .int .u8 0, .int .u8 0, .int .u8 0, .int .u8 0, .int .u8 0, .int .u8 0, .int .u8 0, .int .u8 0, .int .u8 0, .int .u8 0, .int .u8 0, .int .u8 0, .int .u8 0, .int .u8 0, .int .i64 0, .string keyA, .int .u64 0]) (op_at rfl) (by kernel_rfl) (by kernel_rfl) (by kernel_rfl) (fun _ _ _ h => h) (Or.inl ⟨by rfl, fun w_ hSw => ?_⟩) H2_ ?_
  · skip; go_simp
  try simp only [Act.put, List.setIfInBounds_toArray, List.set_cons_zero, List.set_cons_succ]
  refine wpAnyH_take (i := 8) (v := .agg #[.int .i64 0, .int .u64 X]) (op_at rfl) (by kernel_rfl) (by kernel_rfl) (by kernel_rfl) (fun _ _ _ h => h) (Or.inl ⟨by rfl, fun w_ hSw => ?_⟩) H2_ ?_
  · have h1 := g0A.out w_ hSw; have h2 := g1A.out w_ hSw; go_simp
  try simp only [Act.put, List.setIfInBounds_toArray, List.set_cons_zero, List.set_cons_succ]
  refine wpAnyH_take (i := 9) (v := .agg #[.int .u8 0, .int .u8 0, .int .u8 0, .int .u8 0, .int .u8 0, .int .u8 0, .int .u8 0, .int .u8 0, .int .u8 0, .int .u8 0, .int .u8 0, .int .u8 0, .int .u8 0, .int .u8 0, .int .u8 0, .int .u8 0, .int .u8 0, .int .u8 0, .int .u8 0, .int .u8 0, .int .u8 0, .int .u8 0, .int .u8 0, .int .u8 0, .int .u8 0, .int .u8 0, .int .u8 0, .int .u8 0, .int .u8 0, .int .u8 0, .int .u8 0, .int .u8 0]) (op_at rfl) (by kernel_rfl) (by kernel_rfl) (by kernel_rfl) (fun _ _ _ h => h) (Or.inl ⟨by rfl, fun w_ hSw => ?_⟩) H2_ ?_
  · skip; go_simp
  try simp only [Act.put, List.setIfInBounds_toArray, List.set_cons_zero, List.set_cons_succ]
  refine wpAnyH_ready (rs := [10]) (by kernel_rfl) (by simp) ?_
  refine AllReadyH.cons (op_at rfl) (fun K hK => ?_) AllReadyH.nil
  go_simp
  go_at_call 11
  with_reducible refine (c2A.out V2_ (below_then hVA.out hVA.out.size H2_)).mono ?_
  rintro e V3_ ⟨rfl, hb⟩
  go_wp2_with fail
  refine hK.out _ _ (below_then H2_ H2_.size hb) (fun H3_ => ?_)
  clear hK K hb
  try simp only [Act.put, List.setIfInBounds_toArray, List.set_cons_zero, List.set_cons_succ]
  refine wpAnyH_take (i := 11) (v := .bool true) (op_at rfl) (by kernel_rfl) (by kernel_rfl) (by kernel_rfl) (fun _ _ _ h => h) (Or.inl ⟨by rfl, fun w_ hSw => ?_⟩) H3_ ?_
  · skip; go_simp
  try simp only [Act.put, List.setIfInBounds_toArray, List.set_cons_zero, List.set_cons_succ]
  refine wpAnyH_take (i := 12) (v := .bool true) (op_at rfl) (by kernel_rfl) (by kernel_rfl) (by kernel_rfl) (fun _ _ _ h => h) (Or.inl ⟨by rfl, fun w_ hSw => ?_⟩) H3_ ?_
  · skip; go_simp
  try simp only [Act.put, List.setIfInBounds_toArray, List.set_cons_zero, List.set_cons_succ]
  refine wpAnyH_take (i := 13) (v := .bool true) (op_at rfl) (by kernel_rfl) (by kernel_rfl) (by kernel_rfl) (fun _ _ _ h => h) (Or.inl ⟨by rfl, fun w_ hSw => ?_⟩) H3_ ?_
  · skip; go_simp
  try simp only [Act.put, List.setIfInBounds_toArray, List.set_cons_zero, List.set_cons_succ]
  refine wpAnyH_done (by kernel_rfl) ?_ _
  refine NoPanic.normal ?_
  go_wp2
  go_ret
  exact ⟨rfl, below_then hVA.out hVA.out.size H3_⟩
  -- END A
/-- the three boxes of the law's parameters -/
theorem law_heads (s : Sp) (c : Co) (id : List Int) (ht : s.tx.length = 32) (w : World) :
    Below w.heap.size w (((w.alloc (.cells (spc s).toArray 28)).alloc (.cells (coc c).toArray 30)).alloc (.cells (nums .u8 id).toArray 23)) ∧
    Blk (((w.alloc (.cells (spc s).toArray 28)).alloc (.cells (coc c).toArray 30)).alloc (.cells (nums .u8 id).toArray 23)) w.heap.size 28 (spc s) ∧
    Blk (((w.alloc (.cells (spc s).toArray 28)).alloc (.cells (coc c).toArray 30)).alloc (.cells (nums .u8 id).toArray 23)) (w.heap.size + 1) 30 (coc c) ∧
    Blk (((w.alloc (.cells (spc s).toArray 28)).alloc (.cells (coc c).toArray 30)).alloc (.cells (nums .u8 id).toArray 23)) (w.heap.size + 1 + 1) 23 (nums .u8 id) := by
  refine ⟨below_alloc (below_alloc (below_alloc (Below.refl _ _) _) _) _, ((Blk.new w 28 (spc s)).alloc _).alloc _, ?_, ?_⟩
  · have := (Blk.new (w.alloc (.cells (spc s).toArray 28)) 30 (coc c)).alloc (.cells (nums .u8 id).toArray 23)
    rwa [World.size_alloc] at this
  · have := Blk.new ((w.alloc (.cells (spc s).toArray 28)).alloc (.cells (coc c).toArray 30)) 23 (nums .u8 id)
    rwa [World.size_alloc, World.size_alloc] at this
end Go.Proofs.YthnfjbnebfjjfaaDoor.ShaW
namespace Go.Proofs.YthnfjbnebfjjfaaDoor.Walk
open Go.RowKit Go.Proofs.YthnfjbnebfjjfaaDoorW.PrintWords Go.Proofs.YthnfjbnebfjjfaaDoorW.PrintMore Go.Proofs.YthnfjbnebfjjfaaDoor Go.Proofs.YthnfjbnebfjjfaaDoor.Bits Sha ArrK ShaW
open Go.Proofs.YthnfjbnebfjjfaaDoor.InRound (op_at)
set_option maxRecDepth 100000 in
set_option maxHeartbeats 1000000 in
theorem LockKeys (s : Sp) (c : Co) (id : List Int) (ht : s.tx.length = 32) (hid : id.length = 32) (hib : Bytes id) (w : World) (hK : Kst w) (hBg : Bst w) (hRs : Rst w) :
    Calls Tryd.prog 3 #[spv s, cov c, hv id] w fun e w' => e = .returned (.bool true) ∧ Below w.heap.size w w' := by
  obtain ⟨hB, h0, h1, h2⟩ := law_heads s c id ht w
  obtain ⟨V, hV⟩ : ∃ V, V = (((w.alloc (.cells (spc s).toArray 28)).alloc (.cells (coc c).toArray 30)).alloc (.cells (nums .u8 id).toArray 23)) := ⟨_, rfl⟩
  rw [← hV] at hB h0 h1 h2
  have kS := spc_key s ht
  have hAl := alive11_calls V (hK.below hB) (hBg.below hB)
  have hAlA := Aside0.mk hAl; have hVA := Aside0.mk hV; have hBA := Aside0.mk hB; have h0A := Aside0.mk h0; have h1A := Aside0.mk h1; have h2A := Aside0.mk h2
  have hKA := Aside0.mk hK; have hBgA := Aside0.mk hBg; have hRsA := Aside0.mk hRs; have hibA := Aside0.mk hib; have hidA := Aside0.mk hid; have htA := Aside0.mk ht
  have kSA := Aside0.mk kS
  clear hAl hV hB h0 h1 h2 hK hBg hRs hib hid ht kS
  by_cases h500 : s.key.size ≤ 500
  · have d1 : decide ((s.key.size : Int) > 500) = false := decide_eq_false (by omega)
    have d1' : ¬ (500 : Int) < (s.key.size : Int) := by omega
    go_enter Tryd.func3, Tryd.ntmps3
    go_wp2_with (go_at_call 6; rw [← hVA.out]; with_reducible refine hAlA.out.mono ?_; rintro e w1 ⟨rfl, hb1⟩; have kc := (h0A.out.below hb1).get 33 _ kSA.out; have hb1A := Aside0.mk hb1; clear hb1)
    have hX0 := h0A.out.below hb1A.out; have hX1 := h1A.out.below hb1A.out; have hX2 := h2A.out.below hb1A.out
    have hBw := below_then hBA.out hBA.out.size hb1A.out
    obtain ⟨W, hW⟩ : ∃ W, W = w1.drew := ⟨_, rfl⟩
    replace hX0 : Blk W w.heap.size 28 (spc s) := by rw [hW]; exact hX0
    replace hX1 : Blk W (w.heap.size + 1) 30 (coc c) := by rw [hW]; exact hX1
    replace hX2 : Blk W (w.heap.size + 1 + 1) 23 (nums .u8 id) := by rw [hW]; exact hX2
    replace hBw : Below w.heap.size w W := by rw [hW]; exact pw_below_drewN hBw 1
    have gk : ∀ V1, Below W.heap.size W V1 → V1.cell? ⟨w.heap.size, 33, none⟩ = some (.string s.key) := fun V1 h => (hX0.below h).get 33 _ kSA.out
    have gs : ∀ V1, Below W.heap.size W V1 → V1.rangeAt w.heap.size 0 (spc s) := fun V1 h j u hu => by rw [Nat.zero_add]; exact (hX0.below h).get j u hu
    have gc : ∀ V1, Below W.heap.size W V1 → V1.rangeAt (w.heap.size + 1) 0 (coc c) := fun V1 h j u hu => by rw [Nat.zero_add]; exact (hX1.below h).get j u hu
    have gi : ∀ V1, Below W.heap.size W V1 → V1.rangeAt (w.heap.size + 1 + 1) 0 (nums .u8 id) := fun V1 h j u hu => by rw [Nat.zero_add]; exact (hX2.below h).get j u hu
    have hi := info_hash id hidA.out
    have hu := Tryd.underlying23
    have his := info_spend s htA.out
    have hus := Tryd.underlying28
    have hic := info_coin c
    have huc := Tryd.underlying30
    have c1 := fun (V1 : World) (h : Below W.heap.size W V1) => lock_calls s.key (by omega) V1 (hKA.out.below (below_then hBw hBw.size h)) (hBgA.out.below (below_then hBw hBw.size h))
    have c2 := fun (V1 : World) (h : Below W.heap.size W V1) => rlock_calls s.key (by omega) V1 (hRsA.out.below (below_then hBw hBw.size h))
    have c3 := fun (V1 : World) (h : Below W.heap.size W V1) => seal_calls s.key (by omega) id hidA.out hibA.out V1 (hKA.out.below (below_then hBw hBw.size h)) (hBgA.out.below (below_then hBw hBw.size h))
    have c4 := fun (V1 : World) (h : Below W.heap.size W V1) => rseal_calls s.key (by omega) id hidA.out hibA.out V1 (hRsA.out.below (below_then hBw hBw.size h))
    have c5 := fun (V1 : World) (h : Below W.heap.size W V1) => opens_calls s c id (by omega) htA.out hidA.out hibA.out V1 (hKA.out.below (below_then hBw hBw.size h)) (hBgA.out.below (below_then hBw hBw.size h))
    have c6 := fun (V1 : World) (h : Below W.heap.size W V1) => ropens_calls s c id (by omega) htA.out hidA.out hibA.out V1 (hRsA.out.below (below_then hBw hBw.size h))
    generalize opens s c id = ob at *
    generalize lk s.key = X at *
    generalize sl s.key id = Y at *
    have c1A := Aside0.mk c1; have c2A := Aside0.mk c2; have c3A := Aside0.mk c3; have c4A := Aside0.mk c4; have c5A := Aside0.mk c5; have c6A := Aside0.mk c6; have hBwA := Aside0.mk hBw; have gkA := Aside0.mk gk
    clear c1 c2 c3 c4 c5 c6 hBw hX0 hX1 hX2 gk hAlA hVA hBA h0A h1A h2A hKA hBgA hRsA hibA hidA htA hb1A kSA kc
    refine wp_region_noPanic ?_
    rw [hW] at *
    have H0 : Below w1.drew.heap.size w1.drew w1.drew := Below.refl _ _
    refine wp_region_held_drew (S := fun V1 => Below w1.drew.heap.size w1.drew V1) (by kernel_rfl) H0 (fun _ => ?_)
    clear hW
    generalize w1.drew = W at *
    -- REGION B
    refine wpAnyH_take (i := 0) (v := .pointer (some ⟨w.heap.size, 33, none⟩)) (op_at rfl) (by kernel_rfl) (by kernel_rfl) (by kernel_rfl) (fun _ _ _ h => h) (Or.inl ⟨by rfl, fun w_ hSw => ?_⟩) H0 ?_
    · skip; go_simp
    try simp only [Act.put, List.setIfInBounds_toArray, List.set_cons_zero, List.set_cons_succ]
    refine wpAnyH_take (i := 1) (v := .string s.key) (op_at rfl) (by kernel_rfl) (by kernel_rfl) (by kernel_rfl) (fun _ _ _ h => h) (Or.inl ⟨by rfl, fun w_ hSw => ?_⟩) H0 ?_
    · have hc_ := gkA.out w_ hSw; go_simp
    try simp only [Act.put, List.setIfInBounds_toArray, List.set_cons_zero, List.set_cons_succ]
    refine wpAnyH_take (i := 3) (v := .pointer (some ⟨w.heap.size, 33, none⟩)) (op_at rfl) (by kernel_rfl) (by kernel_rfl) (by kernel_rfl) (fun _ _ _ h => h) (Or.inl ⟨by rfl, fun w_ hSw => ?_⟩) H0 ?_
    · skip; go_simp
    try simp only [Act.put, List.setIfInBounds_toArray, List.set_cons_zero, List.set_cons_succ]
    refine wpAnyH_take (i := 4) (v := .string s.key) (op_at rfl) (by kernel_rfl) (by kernel_rfl) (by kernel_rfl) (fun _ _ _ h => h) (Or.inl ⟨by rfl, fun w_ hSw => ?_⟩) H0 ?_
    · have hc_ := gkA.out w_ hSw; go_simp
    try simp only [Act.put, List.setIfInBounds_toArray, List.set_cons_zero, List.set_cons_succ]
    refine wpAnyH_ready (rs := [2]) (by kernel_rfl) (by simp) ?_
    refine AllReadyH.cons (op_at rfl) (fun K hK => ?_) AllReadyH.nil
    go_simp
    go_at_call 7
    with_reducible refine (c1A.out W H0).mono ?_
    rintro e V1_ ⟨rfl, hb⟩
    go_wp2_with fail
    refine hK.out _ _ (below_then H0 H0.size hb) (fun H1_ => ?_)
    clear hK K hb
    try simp only [Act.put, List.setIfInBounds_toArray, List.set_cons_zero, List.set_cons_succ]
    refine wpAnyH_ready (rs := [5]) (by kernel_rfl) (by simp) ?_
    refine AllReadyH.cons (op_at rfl) (fun K hK => ?_) AllReadyH.nil
    go_simp
    go_at_call 8
    with_reducible refine (c2A.out V1_ H1_).mono ?_
    rintro e V2_ ⟨rfl, hb⟩
    go_wp2_with fail
    refine hK.out _ _ (below_then H1_ H1_.size hb) (fun H2_ => ?_)
    clear hK K hb
    try simp only [Act.put, List.setIfInBounds_toArray, List.set_cons_zero, List.set_cons_succ]
    refine wpAnyH_take (i := 6) (v := .bool true) (op_at rfl) (by kernel_rfl) (by kernel_rfl) (by kernel_rfl) (fun _ _ _ h => h) (Or.inl ⟨by rfl, fun w_ hSw => ?_⟩) H2_ ?_
    · skip; go_simp
    try simp only [Act.put, List.setIfInBounds_toArray, List.set_cons_zero, List.set_cons_succ]
    refine wpAnyH_take (i := 7) (v := .bool true) (op_at rfl) (by kernel_rfl) (by kernel_rfl) (by kernel_rfl) (fun _ _ _ h => h) (Or.inl ⟨by rfl, fun w_ hSw => ?_⟩) H2_ ?_
    · skip; go_simp
    try simp only [Act.put, List.setIfInBounds_toArray, List.set_cons_zero, List.set_cons_succ]
    refine wpAnyH_take (i := 8) (v := .pointer (some ⟨w.heap.size, 33, none⟩)) (op_at rfl) (by kernel_rfl) (by kernel_rfl) (by kernel_rfl) (fun _ _ _ h => h) (Or.inl ⟨by rfl, fun w_ hSw => ?_⟩) H2_ ?_
    · skip; go_simp
    try simp only [Act.put, List.setIfInBounds_toArray, List.set_cons_zero, List.set_cons_succ]
    refine wpAnyH_take (i := 9) (v := .string s.key) (op_at rfl) (by kernel_rfl) (by kernel_rfl) (by kernel_rfl) (fun _ _ _ h => h) (Or.inl ⟨by rfl, fun w_ hSw => ?_⟩) H2_ ?_
    · have hc_ := gkA.out w_ hSw; go_simp
    try simp only [Act.put, List.setIfInBounds_toArray, List.set_cons_zero, List.set_cons_succ]
    refine wpAnyH_take (i := 10) (v := hv id) (op_at rfl) (by kernel_rfl) (by kernel_rfl) (by kernel_rfl) (fun _ _ _ h => h) (yieldsIf_load_mid (by rfl) _ _ rfl (w.heap.size + 1 + 1) 0 rfl _ _ (fun w_ hSw => gi w_ hSw) hu rfl hi) H2_ ?_
    try simp only [Act.put, List.setIfInBounds_toArray, List.set_cons_zero, List.set_cons_succ]
    refine wpAnyH_take (i := 12) (v := .pointer (some ⟨w.heap.size, 33, none⟩)) (op_at rfl) (by kernel_rfl) (by kernel_rfl) (by kernel_rfl) (fun _ _ _ h => h) (Or.inl ⟨by rfl, fun w_ hSw => ?_⟩) H2_ ?_
    · skip; go_simp
    try simp only [Act.put, List.setIfInBounds_toArray, List.set_cons_zero, List.set_cons_succ]
    refine wpAnyH_take (i := 13) (v := .string s.key) (op_at rfl) (by kernel_rfl) (by kernel_rfl) (by kernel_rfl) (fun _ _ _ h => h) (Or.inl ⟨by rfl, fun w_ hSw => ?_⟩) H2_ ?_
    · have hc_ := gkA.out w_ hSw; go_simp
    try simp only [Act.put, List.setIfInBounds_toArray, List.set_cons_zero, List.set_cons_succ]
    refine wpAnyH_take (i := 14) (v := hv id) (op_at rfl) (by kernel_rfl) (by kernel_rfl) (by kernel_rfl) (fun _ _ _ h => h) (yieldsIf_load_mid (by rfl) _ _ rfl (w.heap.size + 1 + 1) 0 rfl _ _ (fun w_ hSw => gi w_ hSw) hu rfl hi) H2_ ?_
    try simp only [Act.put, List.setIfInBounds_toArray, List.set_cons_zero, List.set_cons_succ]
    refine wpAnyH_ready (rs := [11]) (by kernel_rfl) (by simp) ?_
    refine AllReadyH.cons (op_at rfl) (fun K hK => ?_) AllReadyH.nil
    go_simp
    go_at_call 9
    with_reducible refine (c3A.out V2_ H2_).mono ?_
    rintro e V3_ ⟨rfl, hb⟩
    go_wp2_with fail
    refine hK.out _ _ (below_then H2_ H2_.size hb) (fun H3_ => ?_)
    clear hK K hb
    try simp only [Act.put, List.setIfInBounds_toArray, List.set_cons_zero, List.set_cons_succ]
    refine wpAnyH_ready (rs := [15]) (by kernel_rfl) (by simp) ?_
    refine AllReadyH.cons (op_at rfl) (fun K hK => ?_) AllReadyH.nil
    go_simp
    go_at_call 10
    with_reducible refine (c4A.out V3_ H3_).mono ?_
    rintro e V4_ ⟨rfl, hb⟩
    go_wp2_with fail
    refine hK.out _ _ (below_then H3_ H3_.size hb) (fun H4_ => ?_)
    clear hK K hb
    try simp only [Act.put, List.setIfInBounds_toArray, List.set_cons_zero, List.set_cons_succ]
    refine wpAnyH_take (i := 16) (v := .bool true) (op_at rfl) (by kernel_rfl) (by kernel_rfl) (by kernel_rfl) (fun _ _ _ h => h) (Or.inl ⟨by rfl, fun w_ hSw => ?_⟩) H4_ ?_
    · skip; go_simp
    try simp only [Act.put, List.setIfInBounds_toArray, List.set_cons_zero, List.set_cons_succ]
    refine wpAnyH_take (i := 17) (v := .bool true) (op_at rfl) (by kernel_rfl) (by kernel_rfl) (by kernel_rfl) (fun _ _ _ h => h) (Or.inl ⟨by rfl, fun w_ hSw => ?_⟩) H4_ ?_
    · skip; go_simp
    try simp only [Act.put, List.setIfInBounds_toArray, List.set_cons_zero, List.set_cons_succ]
    refine wpAnyH_take (i := 18) (v := .bool true) (op_at rfl) (by kernel_rfl) (by kernel_rfl) (by kernel_rfl) (fun _ _ _ h => h) (Or.inl ⟨by rfl, fun w_ hSw => ?_⟩) H4_ ?_
    · skip; go_simp
    try simp only [Act.put, List.setIfInBounds_toArray, List.set_cons_zero, List.set_cons_succ]
    refine wpAnyH_take (i := 19) (v := spv s) (op_at rfl) (by kernel_rfl) (by kernel_rfl) (by kernel_rfl) (fun _ _ _ h => h) (yieldsIf_load_mid (by rfl) _ _ rfl w.heap.size 0 rfl _ _ (fun w_ hSw => gs w_ hSw) hus rfl his) H4_ ?_
    try simp only [Act.put, List.setIfInBounds_toArray, List.set_cons_zero, List.set_cons_succ]
    refine wpAnyH_take (i := 20) (v := cov c) (op_at rfl) (by kernel_rfl) (by kernel_rfl) (by kernel_rfl) (fun _ _ _ h => h) (yieldsIf_load_mid (by rfl) _ _ rfl (w.heap.size + 1) 0 rfl _ _ (fun w_ hSw => gc w_ hSw) huc rfl hic) H4_ ?_
    try simp only [Act.put, List.setIfInBounds_toArray, List.set_cons_zero, List.set_cons_succ]
    refine wpAnyH_take (i := 21) (v := hv id) (op_at rfl) (by kernel_rfl) (by kernel_rfl) (by kernel_rfl) (fun _ _ _ h => h) (yieldsIf_load_mid (by rfl) _ _ rfl (w.heap.size + 1 + 1) 0 rfl _ _ (fun w_ hSw => gi w_ hSw) hu rfl hi) H4_ ?_
    try simp only [Act.put, List.setIfInBounds_toArray, List.set_cons_zero, List.set_cons_succ]
    refine wpAnyH_take (i := 23) (v := spv s) (op_at rfl) (by kernel_rfl) (by kernel_rfl) (by kernel_rfl) (fun _ _ _ h => h) (yieldsIf_load_mid (by rfl) _ _ rfl w.heap.size 0 rfl _ _ (fun w_ hSw => gs w_ hSw) hus rfl his) H4_ ?_
    try simp only [Act.put, List.setIfInBounds_toArray, List.set_cons_zero, List.set_cons_succ]
    refine wpAnyH_take (i := 24) (v := cov c) (op_at rfl) (by kernel_rfl) (by kernel_rfl) (by kernel_rfl) (fun _ _ _ h => h) (yieldsIf_load_mid (by rfl) _ _ rfl (w.heap.size + 1) 0 rfl _ _ (fun w_ hSw => gc w_ hSw) huc rfl hic) H4_ ?_
    try simp only [Act.put, List.setIfInBounds_toArray, List.set_cons_zero, List.set_cons_succ]
    refine wpAnyH_take (i := 25) (v := hv id) (op_at rfl) (by kernel_rfl) (by kernel_rfl) (by kernel_rfl) (fun _ _ _ h => h) (yieldsIf_load_mid (by rfl) _ _ rfl (w.heap.size + 1 + 1) 0 rfl _ _ (fun w_ hSw => gi w_ hSw) hu rfl hi) H4_ ?_
    try simp only [Act.put, List.setIfInBounds_toArray, List.set_cons_zero, List.set_cons_succ]
    refine wpAnyH_ready (rs := [22]) (by kernel_rfl) (by simp) ?_
    refine AllReadyH.cons (op_at rfl) (fun K hK => ?_) AllReadyH.nil
    go_simp
    go_at_call 11
    with_reducible refine (c5A.out V4_ H4_).mono ?_
    rintro e V5_ ⟨rfl, hb⟩
    go_wp2_with fail
    refine hK.out _ _ (below_then H4_ H4_.size hb) (fun H5_ => ?_)
    clear hK K hb
    try simp only [Act.put, List.setIfInBounds_toArray, List.set_cons_zero, List.set_cons_succ]
    refine wpAnyH_ready (rs := [26]) (by kernel_rfl) (by simp) ?_
    refine AllReadyH.cons (op_at rfl) (fun K hK => ?_) AllReadyH.nil
    go_simp
    go_at_call 12
    with_reducible refine (c6A.out V5_ H5_).mono ?_
    rintro e V6_ ⟨rfl, hb⟩
    go_wp2_with fail
    refine hK.out _ _ (below_then H5_ H5_.size hb) (fun H6_ => ?_)
    clear hK K hb
    try simp only [Act.put, List.setIfInBounds_toArray, List.set_cons_zero, List.set_cons_succ]
    refine wpAnyH_take (i := 27) (v := .bool true) (op_at rfl) (by kernel_rfl) (by kernel_rfl) (by kernel_rfl) (fun _ _ _ h => h) (Or.inl ⟨by rfl, fun w_ hSw => ?_⟩) H6_ ?_
    · skip; go_simp
    try simp only [Act.put, List.setIfInBounds_toArray, List.set_cons_zero, List.set_cons_succ]
    refine wpAnyH_take (i := 28) (v := .bool true) (op_at rfl) (by kernel_rfl) (by kernel_rfl) (by kernel_rfl) (fun _ _ _ h => h) (Or.inl ⟨by rfl, fun w_ hSw => ?_⟩) H6_ ?_
    · skip; go_simp
    try simp only [Act.put, List.setIfInBounds_toArray, List.set_cons_zero, List.set_cons_succ]
    refine wpAnyH_take (i := 29) (v := .bool true) (op_at rfl) (by kernel_rfl) (by kernel_rfl) (by kernel_rfl) (fun _ _ _ h => h) (Or.inl ⟨by rfl, fun w_ hSw => ?_⟩) H6_ ?_
    · skip; go_simp
    try simp only [Act.put, List.setIfInBounds_toArray, List.set_cons_zero, List.set_cons_succ]
    refine wpAnyH_done (by kernel_rfl) ?_ _
    refine NoPanic.normal ?_
    go_wp2
    go_ret
    exact ⟨rfl, below_then hBwA.out hBwA.out.size H6_⟩
    -- END B
  · have d1 : decide ((s.key.size : Int) > 500) = true := decide_eq_true (by omega)
    have d1' : (500 : Int) < (s.key.size : Int) := by omega
    go_enter Tryd.func3, Tryd.ntmps3
    go_wp2_with (go_at_call 6; rw [← hVA.out]; with_reducible refine hAlA.out.mono ?_; rintro e w1 ⟨rfl, hb1⟩; have kc := (h0A.out.below hb1).get 33 _ kSA.out; have hb1A := Aside0.mk hb1; clear hb1)
    go_ret
    exact ⟨rfl, below_then hBA.out hBA.out.size hb1A.out⟩
end Go.Proofs.YthnfjbnebfjjfaaDoor.Walk
