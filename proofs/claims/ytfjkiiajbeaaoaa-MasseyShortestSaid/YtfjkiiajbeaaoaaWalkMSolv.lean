/- The document's elimination: what a call of solvable comes to. -/
import Derived.Test.YtfjkiiajbeaaoaaQx1
import Derived.Test.YtfjkiiajbeaaoaaQx2
import Derived.Test.YtfjkiiajbeaaoaaMM2
import Derived.Test.YtfjkiiajbeaaoaaMMq
import Derived.Test.YtfjkiiajbeaaoaaInRound
set_option linter.unusedVariables false
set_option linter.unusedSimpArgs false
namespace Go.Proofs.Ytfjkiiajbeaaoaa.MRws
open Go.RowKit Go.Proofs.Ytfjkiiajbeaaoaa.Q Go.Proofs.YtfjkiiajbeaaoaaW.PrintWords Go.Proofs.YtfjkiiajbeaaoaaW.PrintLast Go.Proofs.YtfjkiiajbeaaoaaW.PrintMore Go.Proofs.Ytfjkiiajbeaaoaa.Bits Go.Proofs.Ytfjkiiajbeaaoaa GF PolyT MV MSolv
open Go.Proofs.Ytfjkiiajbeaaoaa.InRound (op_at)
theorem info_u32 : (Try.prog.info? 30).map (fun i => (i.zero, i.size, i.bytes)) = some (some (.int .u32 0), (Kd.int .u32).sz, 4) := by kernel_rfl
theorem info_row (wd : Nat) : (Try.prog.info? 22).map (fun i => (i.zero, i.size, i.bytes)) = some (some (.slice none 0 0), (kH wd).sz, 24) := by kernel_rfl
theorem cut_at {P : Program} {c : Code} {a : Act} {W : World} {Q : Exit → Act → World → Prop} (F : Act → Exit → Act → World → Prop) (h1 : Code.wp P c (F a) a W) (h2 : ∀ e a' W', F a e a' W' → Q e a' W') : Code.wp P c Q a W := Code.wp_mono h2 h1
theorem row_take (s : List F) (L i k : Nat) (h : k < L) : (row s L i).take (k + 1) = (row s L i).take k ++ [co s (i - (k + 1))] := by
  have hl : k < (row s L i).length := by rw [row_length]; omega
  rw [List.take_succ_eq_append_getElem hl]
  have := co_row s L i k h
  rw [co_lt hl] at this
  rw [this]
theorem row_whole (s : List F) (L i : Nat) : (row s L i).take L ++ [co s i] = row s L i := by
  unfold row
  rw [List.take_append_of_le_length (by simp), List.take_of_length_le (by simp)]
def prt (r q : List F) (j : Nat) : List F := q.take j ++ r.drop j
theorem co_prt_ge (r q : List F) (h : q.length = r.length) (j i : Nat) (hi : j ≤ i) (hj : j ≤ r.length) : co (prt r q j) i = co r i := by
  unfold prt co
  have hl : (q.take j).length = j := by rw [List.length_take]; omega
  rw [List.getD_eq_getElem?_getD, List.getD_eq_getElem?_getD, List.getElem?_append_right (by omega), hl, List.getElem?_drop, show j + (i - j) = i by omega]
theorem prt_set (r q : List F) (h : q.length = r.length) (j : Nat) (hj : j < r.length) : (prt r q j).set j (co q j) = prt r q (j + 1) := by
  have hl : (q.take j).length = j := by rw [List.length_take]; omega
  have hq : j < q.length := by omega
  unfold prt
  rw [List.set_append_right _ _ (by omega), hl, Nat.sub_self, List.take_succ_eq_append_getElem hq, List.drop_eq_getElem_cons hj, List.set_cons_zero, List.append_assoc, co_lt hq]
  rfl
def kv : Option Nat → Value
  | none => .int .i64 (-1)
  | some k => .int .i64 (k : Int)
set_option maxRecDepth 100000 in
set_option maxHeartbeats 4000000 in
theorem solvable_calls (s : List F) (L : Nat) (A : Option Addr) (c : Nat) (w : World) (hs : Kd.C (Kd.int .u32) w A (V s).length (V s)) (hc : s.length ≤ c) (hsl : s.length ≤ 1000) (hL : L ≤ s.length) :
    Calls Try.prog 19 #[.slice A s.length c, .int .i64 (L : Int)] w fun e w' => e = .returned (.bool (solv s L)) ∧ Below w.heap.size w w' := by
  have hM := Aside0.mk (fun (a b : F) (W : World) => gossamerref01_Mul.calls 66 (v a) (v b) _ W (rmul_v a b 66 (by omega)))
  have hI := Aside0.mk (fun (a : F) (W : World) => gossamerref01_Inverse.calls 140 (v a) _ W (rinverse_v a 140 (by omega)))
  have hat := Aside0.mk (fun (W : World) (hW : Below w.heap.size w W) (i : Nat) (hi : i < s.length) => Kd.at_int (Kd.C_below hs hW) (i : Int) (by omega) (by rw [V_length]; omega))
  have hsA := Aside0.mk hs
  clear hs
  go_enter Try.func19, Try.ntmps19
  go_wp2_with fail
  go_loopw [5, 6] (fun va i wr => ∃ (n : Nat) (hs : List (Nat × Nat)), L + n ≤ s.length ∧ i = .int .i64 ((L + n : Nat) : Int) ∧ Rws w.heap.size wr va (L + 1) hs (rowsN s L n) ∧ Below w.heap.size w wr) (fun _ i _ => s.length - (intOf i).toNat)
  case atStart => exact ⟨0, [], by omega, rfl, Rws.nil _ _ _, Below.refl _ _⟩
  case round =>
    obtain ⟨n, hd, hn, rfl, hR, hB⟩ := hrel
    by_cases hlt : L + n < s.length
    · obtain ⟨i, hi⟩ : ∃ i, i = L + n := ⟨_, rfl⟩
      rw [← hi] at hlt ⊢
      have p1 : (i : Int) < (s.length : Int) := by omega
      obtain ⟨wo, rfl⟩ : ∃ x, x = wr := ⟨_, rfl⟩
      have hRA := Aside0.mk hR; have hBA := Aside0.mk hB; have hiA := Aside0.mk hi
      clear hR hB hi
      go_wp2_with fail
      go_loopw [7, 8] (fun vr j wr => ∃ k : Nat, 1 ≤ k ∧ k ≤ L + 1 ∧ j = .int .i64 (k : Int) ∧ Kd.R (Kd.int .u32) 30 wr wo.heap.size (fun _ => True) vr (V ((row s L i).take (k - 1))) ∧ Below wo.heap.size wo wr) (fun _ j _ => L + 1 - (intOf j).toNat)
      case atStart => exact ⟨1, by omega, by omega, rfl, Kd.R_nil _ _ _ _ _, Below.refl _ _⟩
      case round =>
        obtain ⟨k, hk1, hk, rfl, hr, hb⟩ := hrel
        by_cases hkl : k ≤ L
        · have p2 : (k : Int) ≤ (L : Int) := by omega
          obtain ⟨m, hm⟩ : ∃ m, m = i - k := ⟨_, rfl⟩
          have hiL := hiA.out
          have e1 : IntKind.i64.wrap ((i : Int) - (k : Int)) = (m : Int) := by rw [IntWalk.i64_in _ (by omega)]; omega
          have hml : m < s.length := by omega
          have p3 : (0 : Int) ≤ (m : Int) := by omega
          have p4 : (m : Int) < (s.length : Int) := by omega
          have e2 : IntKind.i64.wrap ((k : Int) + 1) = (k : Int) + 1 := IntWalk.i64_in _ (by omega)
          obtain ⟨ad, rfl, hx⟩ := hat.out wr (below_then hBA.out hBA.out.size hb) m hml
          rw [rd_Vn, Int.toNat_natCast] at hx
          obtain ⟨x, hxe⟩ : ∃ x, co s m = x := ⟨_, rfl⟩
          rw [hxe] at hx
          have htk := row_take s L i (k - 1) (by omega)
          rw [show k - 1 + 1 = k by omega, ← hm, hxe] at htk
          have htl : ((row s L i).take (k - 1)).length ≤ 1000 := by rw [List.length_take]; omega
          have hrA := Aside0.mk hr; have hbA := Aside0.mk hb; have htkA := Aside0.mk htk; have htlA := Aside0.mk htl
          clear hr hb htk htl hm hxe hiL hml
          go_wp2_with ((with_reducible refine gate_dst (N := 38) rfl ?_); at_builtin; refine Kd.R_append (Kd.int .u32) (w0 := wo) wo.heap.size rfl (.tmp 30) (.tmp 37) 22 30 (.int .u32 0) 4 rfl Try.underlying22 info_u32 rfl (by decide) (by omega) _ (V ((row s L i).take (k - 1))) (v x) [.int .u32 (v x)] (fun _ => True) (fun _ => False) rfl rfl rfl (fun _ hk => hk.elim) (fun _ _ => trivial) hrA.out hbA.out hbA.out.size (by have := htlA.out; rw [V_length]; omega) ?_; intro v14 w14 hR14 hB14 hg14 hn14; have hR14A := Aside0.mk hR14; have hB14A := Aside0.mk hB14; clear hR14 hB14 hg14 hn14)
          go_roundw
          · exact ⟨k + 1, by omega, by omega, by go_num, by rw [Nat.add_sub_cancel, htkA.out, V_append]; exact hR14A.out, hB14A.out⟩
          · simp [intOf]; omega
        · have p2 : ¬ (k : Int) ≤ (L : Int) := by omega
          obtain rfl : k = L + 1 := by omega
          rw [Nat.add_sub_cancel] at hr
          obtain ⟨ad, rfl, hx⟩ := hat.out wr (below_then hBA.out hBA.out.size hb) i hlt
          rw [rd_Vn, Int.toNat_natCast] at hx
          obtain ⟨x, hxe⟩ : ∃ x, co s i = x := ⟨_, rfl⟩
          rw [hxe] at hx
          have hrw := row_whole s L i
          have hrw : V ((row s L i).take L) ++ [v x] = V (row s L i) := by rw [hxe] at hrw; conv => rhs; rw [← hrw, V_append]
                                                                           rfl
          have p5 : (0 : Int) ≤ (i : Int) := by omega
          have htl : ((row s L i).take L).length ≤ 1000 := by rw [List.length_take]; omega
          have hrA := Aside0.mk hr; have hbA := Aside0.mk hb; have hrwA := Aside0.mk hrw; have htlA := Aside0.mk htl
          have hRW := Aside0.mk (hRA.out.below hb)
          have e2 : IntKind.i64.wrap ((i : Int) + 1) = (i : Int) + 1 := IntWalk.i64_in _ (by omega)
          clear hr hb hrw htl hxe
          go_wp2_with (first | ((with_reducible refine gate_dst (N := 46) rfl ?_); at_builtin; (refine Kd.R_append (Kd.int .u32) (w0 := wo) wo.heap.size rfl (.tmp 40) (.tmp 45) 22 30 (.int .u32 0) 4 rfl Try.underlying22 info_u32 rfl (by decide) (by omega) _ (V ((row s L i).take L)) (v x) [.int .u32 (v x)] (fun _ => True) (fun _ => False) rfl rfl rfl (fun _ hk => hk.elim) (fun _ _ => trivial) hrA.out hbA.out hbA.out.size (by have := htlA.out; rw [V_length]; omega) ?_; intro v14 w14 hR14 hB14 hg14 hn14; rw [hrwA.out] at hR14; obtain ⟨g, cap, hvg, hgb, hIR⟩ := IR_of hR14 (by rw [row_length]; exact Nat.succ_pos _); rw [row_length] at hvg; subst hvg; have hIRA := Aside0.mk hIR; have hgbA := Aside0.mk hgb; have hB14A := Aside0.mk hB14; have hRW14 := Aside0.mk (hRA.out.below hB14); clear hR14 hB14 hg14 hn14 hIR hgb)) | ((with_reducible refine gate_dst (N := 48) rfl ?_); at_builtin; (refine Kd.R_append (kH (L + 1)) (w0 := w) w.heap.size rfl (.tmp 39) (.tmp 47) 51 22 (.slice none 0 0) 24 rfl Try.underlying51 (info_row (L + 1)) rfl Nat.zero_lt_one (by omega) _ hd (g, cap) [hdr (L + 1) (g, cap)] (fun _ => True) (fun _ => False) rfl rfl rfl (fun _ hk => hk.elim) (fun _ _ => trivial) hRW14.out.own (below_then hBA.out hBA.out.size hB14A.out) (below_then hBA.out hBA.out.size hB14A.out).size (by have := hRW14.out.len; rw [rowsN_length] at this; have := hiA.out; omega) ?_; intro v15 w15 hR15 hB15 hg15 hn15; have hPA := Aside0.mk (hRW14.out.push hIRA.out (row_length s L i) (Nat.le_trans hBA.out.size hgbA.out) (fun i' hi' => by have h1 := (hRA.out.row i' hi').2.1.lt; have h2 := hgbA.out; omega) hg15 hR15); have hB15A := Aside0.mk hB15; clear hR15 hB15 hg15 hn15)))
          go_roundw
          · exact ⟨n + 1, hd ++ [(g, cap)], by have := hiA.out; omega, by have := hiA.out; go_num, by rw [rowsN_succ, ← hiA.out]; exact hPA.out, hB15A.out⟩
          · simp [intOf]; omega
    · obtain rfl : n = s.length - L := by omega
      have p1 : ¬ ((L + (s.length - L) : Nat) : Int) < (s.length : Int) := by omega
      have p1' : ¬ ((L : Int) + ((s.length - L : Nat) : Int)) < (s.length : Int) := by omega
      obtain ⟨M0, hM0⟩ : ∃ M, M = rowsN s L (s.length - L) := ⟨_, rfl⟩
      have hsolv : solv s L = go L 0 M0 0 := by rw [hM0]; rfl
      rw [← hM0] at hR
      have hRA := Aside0.mk hR; have hBA := Aside0.mk hB; have hsvA := Aside0.mk hsolv
      have hlen : M0.length = s.length - L := by rw [hM0, rowsN_length]
      have hlenA := Aside0.mk hlen
      clear hR hB hsolv hM0 hlen
      go_wp2_with fail
      obtain ⟨R, hRe⟩ : ∃ R, R = s.length - L := ⟨_, rfl⟩
      have hRw := hRA.out
      obtain ⟨A5, c5, hva⟩ := Kd.R_slice hRw.own
      have hhl := hRw.len
      rw [hlenA.out, ← hRe] at hhl
      rw [hhl] at hva
      subst hva
      have hM0l := hlenA.out
      rw [← hRe] at hM0l
      have hRL : R ≤ 1000 := by omega
      have hM0A := Aside0.mk hM0l; have hRLA := Aside0.mk hRL
      clear hRw hhl hM0l hRL hRe p1 p1' hlenA
      go_loopw [9, 10] (fun uv cv wr => ∃ (cc u : Nat) (M : List (List F)) (hd : List (Nat × Nat)), cc ≤ L ∧ cv = .int .i64 (cc : Int) ∧ uv = .int .i64 (u : Int) ∧ u ≤ R ∧ M.length = R ∧ Rws w.heap.size wr (.slice A5 R c5) (L + 1) hd M ∧ go L 0 M0 0 = go (L - cc) cc M u ∧ Below w.heap.size w wr) (fun _ cv _ => L - (intOf cv).toNat)
      case atStart => exact ⟨0, 0, M0, hd, by omega, rfl, rfl, by omega, hM0A.out, hRA.out, rfl, hBA.out⟩
      case round =>
        clear hRA hBA hM0A
        obtain ⟨cc, u, M, hd, hcc, rfl, rfl, hu, hMl, hR, hgo, hB⟩ := hrel
        by_cases hcl : cc < L
        · have p1 : (cc : Int) < (L : Int) := by omega
          have p2 : (cc : Int) < (L : Int) + 1 := by omega
          have p3 : (0 : Int) ≤ (cc : Int) := by omega
          have e1 : IntKind.i64.wrap ((cc : Int) + 1) = (cc : Int) + 1 := IntWalk.i64_in _ (by omega)
          have hRA := Aside0.mk hR; have hBA := Aside0.mk hB; have hMlA := Aside0.mk hMl; have hgoA := Aside0.mk hgo
          clear hR hB hMl hgo
          go_wp2_with fail
          go_loopw [11, 12] (fun kx iv wr => ∃ m : Nat, u ≤ m ∧ m ≤ R ∧ iv = .int .i64 (m : Int) ∧ kx = kv (pk M cc u (m - u)) ∧ Rws w.heap.size wr (.slice A5 R c5) (L + 1) hd M ∧ Below w.heap.size w wr) (fun _ iv _ => R - (intOf iv).toNat)
          case atStart => exact ⟨u, by omega, by omega, rfl, by rw [Nat.sub_self]; rfl, hRA.out, hBA.out⟩
          case round =>
            clear hRA hBA
            obtain ⟨m, hm1, hm2, rfl, rfl, hR, hB⟩ := hrel
            by_cases hlm : m < R
            · have p4 : (m : Int) < (R : Int) := by omega
              have p5 : (0 : Int) ≤ (m : Int) := by omega
              have e2 : IntKind.i64.wrap ((m : Int) + 1) = (m : Int) + 1 := IntWalk.i64_in _ (by have := hRLA.out; omega)
              have hhl := hR.len
              obtain ⟨B, cap, hv, -⟩ := Kd.R_form hR.own (by rw [hhl, hMlA.out]; omega)
              obtain rfl : A5 = some ⟨B, 0, none⟩ := by injection hv
              have hc1 := hR.hd m (by rw [hMlA.out]; exact hlm)
              have hc2 := hR.word m cc (by rw [hMlA.out]; exact hlm) (by omega)
              obtain ⟨⟨g, cp⟩, hgg⟩ : ∃ g, hd.getD m (0, 0) = g := ⟨_, rfl⟩
              obtain ⟨x, hx⟩ : ∃ x, At M m cc = x := ⟨_, rfl⟩
              rw [hgg] at hc1 hc2
              rw [hx] at hc2
              have hkk : pk M cc u (m + 1 - u) = if x = 0#32 then pk M cc u (m - u) else some m := by
                rw [show m + 1 - u = (m - u) + 1 by omega, pk, show u + (m - u) = m by omega, hx]
              have hRA := Aside0.mk hR; have hBA := Aside0.mk hB; have hkkA := Aside0.mk hkk
              clear hR hB hkk hgg hx hhl hv
              by_cases hx0 : x = 0#32
              · have q1 : (v x != 0) = false := by rw [hx0]; rfl
                have hx0A := Aside0.mk hx0
                clear hx0
                obtain ⟨y, hy⟩ : ∃ y, v x = y := ⟨_, rfl⟩
                rw [hy] at q1 hc2
                clear hy
                go_wp2_with fail
                go_roundw
                · exact ⟨m + 1, by omega, by omega, by go_num, by rw [hkkA.out, if_pos hx0A.out], hRA.out, hBA.out⟩
                · simp [intOf]; omega
              · have q1 : (v x != 0) = true := by rw [bne_iff_ne]; intro h; exact hx0 ((v_zero_iff x).1 h)
                have hx0A := Aside0.mk hx0
                clear hx0
                obtain ⟨y, hy⟩ : ∃ y, v x = y := ⟨_, rfl⟩
                rw [hy] at q1 hc2
                clear hy
                go_wp2_with fail
                go_roundw
                · exact ⟨m + 1, by omega, by omega, by go_num, by rw [hkkA.out, if_neg hx0A.out]; rfl, hRA.out, hBA.out⟩
                · simp [intOf]; omega
            · obtain rfl : R = m := by omega
              have p4 : ¬ (R : Int) < (R : Int) := by omega
              have hRA := Aside0.mk hR; have hBA := Aside0.mk hB
              clear hR hB
              have hgo2 : go (L - cc) cc M u = match pk M cc u (R - u) with | none => go (L - (cc + 1)) (cc + 1) M u | some k => go (L - (cc + 1)) (cc + 1) (elim M cc u k) (u + 1) := by
                rw [show L - cc = (L - (cc + 1)) + 1 by omega, go, hMlA.out]
                cases pk M cc u (R - u) <;> rfl
              cases hkk : pk M cc u (R - u) with
              | none =>
                rw [hkk] at hgo2
                have hgo2A := Aside0.mk hgo2
                clear hgo2 hkk
                simp only [kv]
                go_wp2_with fail
                go_roundw
                · exact ⟨cc + 1, u, M, hd, by omega, by go_num, rfl, by omega, hMlA.out, hRA.out, hgoA.out.trans hgo2A.out, hBA.out⟩
                · simp [intOf]; omega
              | some k =>
                rw [hkk] at hgo2
                obtain ⟨hk1, hk2, hk3⟩ := pk_some M cc u _ k hkk
                have hgo2A := Aside0.mk hgo2
                clear hgo2 hkk hk3
                simp only [kv]
                go_wp2_with fail
                have hhl := hRA.out.len
                obtain ⟨B, cap, hv, -⟩ := Kd.R_form hRA.out.own (by rw [hhl, hMlA.out]; omega)
                obtain rfl : A5 = some ⟨B, 0, none⟩ := by injection hv
                have huR : u < R := by omega
                have hkR : k < R := by omega
                have huM : u < M.length := by rw [hMlA.out]; exact huR
                have hkM : k < M.length := by rw [hMlA.out]; exact hkR
                obtain ⟨⟨ga, ca⟩, hga⟩ : ∃ g, hd.getD k (0, 0) = g := ⟨_, rfl⟩
                obtain ⟨⟨gb, cb⟩, hgb⟩ : ∃ g, hd.getD u (0, 0) = g := ⟨_, rfl⟩
                have hck := hRA.out.hd k hkM
                have hcu := hRA.out.hd u huM
                rw [hga] at hck
                rw [hgb] at hcu
                have q1 : (0 : Int) ≤ (u : Int) := by omega
                have q2 : (u : Int) < (R : Int) := by omega
                have q3 : (0 : Int) ≤ (k : Int) := by omega
                have q4 : (k : Int) < (R : Int) := by omega
                have hckA : Aside0 (wr.drew.cell? ⟨B, k, none⟩ = some (hdr (L + 1) (ga, ca))) := Aside0.mk hck
                have hcuA : Aside0 (wr.drew.cell? ⟨B, u, none⟩ = some (hdr (L + 1) (gb, cb))) := Aside0.mk hcu
                have hgaA := Aside0.mk hga; have hgbA := Aside0.mk hgb
                clear hck hcu hhl hv hga hgb hk2
                refine cut_at (fun a0 e a' W' => e = .normal ∧ a' = (((((((((((((a0.put (some 72) (.slice (some ⟨B, 0, none⟩) R c5)).put (some 73) (.int .i64 (u : Int))).put (some 74) (.slice (some ⟨B, 0, none⟩) R c5)).put (some 75) (.int .i64 (k : Int))).put (some 76) (.slice (some ⟨B, 0, none⟩) R c5)).put (some 77) (.int .i64 (k : Int))).put (some 78) (.pointer (some ⟨B, k, none⟩))).put (some 79) (.slice (some ⟨ga, 0, none⟩) (L + 1) ca)).put (some 80) (.slice (some ⟨B, 0, none⟩) R c5)).put (some 81) (.int .i64 (u : Int))).put (some 82) (.pointer (some ⟨B, u, none⟩))).put (some 83) (.slice (some ⟨gb, 0, none⟩) (L + 1) cb)).put (some 84) (.pointer (some ⟨B, u, none⟩))).put (some 85) (.pointer (some ⟨B, k, none⟩)) ∧ (kH (L + 1)).R 22 W' w.heap.size (fun _ => True) (.slice (some ⟨B, 0, none⟩) R c5) ((hd.set u (ga, ca)).set k (gb, cb)) ∧ (∀ i, i < M.length → IR W' (hd.getD i (0, 0)).1 (M.getD i [])) ∧ Below w.heap.size w W') ?_ ?_
                · refine wp_region_noPanic ?_
                  have OH0 : Aside0 ((kH (L + 1)).R 22 wr.drew w.heap.size (fun _ => True) (.slice (some ⟨B, 0, none⟩) R c5) hd) := Aside0.mk hRA.out.own
                  have II0 : Aside0 (∀ i, i < M.length → IR wr.drew (hd.getD i (0, 0)).1 (M.getD i [])) := Aside0.mk (fun i hi => (hRA.out.row i hi).2.1)
                  have H0 : Below w.heap.size w wr.drew := pw_below_drewN hBA.out 1
                  refine wp_region_held_drew (S := fun V1 => Below w.heap.size w V1) (by kernel_rfl) H0 (fun _ => ?_)
                  generalize wr.drew = V0 at *
                  -- REGION 22
                  refine wpAnyH_take (i := 0) (v := .slice (some ⟨B, 0, none⟩) R c5) (op_at rfl) (by kernel_rfl) (by kernel_rfl) (by kernel_rfl) (fun _ _ _ h => h) (Or.inl ⟨by rfl, fun w_ hSw => ?_⟩) H0 ?_
                  · skip; go_simp
                  try simp only [Act.put, List.setIfInBounds_toArray, List.set_cons_zero, List.set_cons_succ]
                  refine wpAnyH_take (i := 1) (v := .int .i64 (u : Int)) (op_at rfl) (by kernel_rfl) (by kernel_rfl) (by kernel_rfl) (fun _ _ _ h => h) (Or.inl ⟨by rfl, fun w_ hSw => ?_⟩) H0 ?_
                  · skip; go_simp
                  try simp only [Act.put, List.setIfInBounds_toArray, List.set_cons_zero, List.set_cons_succ]
                  refine wpAnyH_take (i := 2) (v := .slice (some ⟨B, 0, none⟩) R c5) (op_at rfl) (by kernel_rfl) (by kernel_rfl) (by kernel_rfl) (fun _ _ _ h => h) (Or.inl ⟨by rfl, fun w_ hSw => ?_⟩) H0 ?_
                  · skip; go_simp
                  try simp only [Act.put, List.setIfInBounds_toArray, List.set_cons_zero, List.set_cons_succ]
                  refine wpAnyH_take (i := 3) (v := .int .i64 (k : Int)) (op_at rfl) (by kernel_rfl) (by kernel_rfl) (by kernel_rfl) (fun _ _ _ h => h) (Or.inl ⟨by rfl, fun w_ hSw => ?_⟩) H0 ?_
                  · skip; go_simp
                  try simp only [Act.put, List.setIfInBounds_toArray, List.set_cons_zero, List.set_cons_succ]
                  refine wpAnyH_take (i := 4) (v := .slice (some ⟨B, 0, none⟩) R c5) (op_at rfl) (by kernel_rfl) (by kernel_rfl) (by kernel_rfl) (fun _ _ _ h => h) (Or.inl ⟨by rfl, fun w_ hSw => ?_⟩) H0 ?_
                  · skip; go_simp
                  try simp only [Act.put, List.setIfInBounds_toArray, List.set_cons_zero, List.set_cons_succ]
                  refine wpAnyH_take (i := 5) (v := .int .i64 (k : Int)) (op_at rfl) (by kernel_rfl) (by kernel_rfl) (by kernel_rfl) (fun _ _ _ h => h) (Or.inl ⟨by rfl, fun w_ hSw => ?_⟩) H0 ?_
                  · skip; go_simp
                  try simp only [Act.put, List.setIfInBounds_toArray, List.set_cons_zero, List.set_cons_succ]
                  refine wpAnyH_take (i := 6) (v := .pointer (some ⟨B, k, none⟩)) (op_at rfl) (by kernel_rfl) (by kernel_rfl) (by kernel_rfl) (fun _ _ _ h => h) (Or.inl ⟨by rfl, fun w_ hSw => ?_⟩) H0 ?_
                  · skip; go_simp
                  try simp only [Act.put, List.setIfInBounds_toArray, List.set_cons_zero, List.set_cons_succ]
                  refine wpAnyH_take (i := 8) (v := .slice (some ⟨B, 0, none⟩) R c5) (op_at rfl) (by kernel_rfl) (by kernel_rfl) (by kernel_rfl) (fun _ _ _ h => h) (Or.inl ⟨by rfl, fun w_ hSw => ?_⟩) H0 ?_
                  · skip; go_simp
                  try simp only [Act.put, List.setIfInBounds_toArray, List.set_cons_zero, List.set_cons_succ]
                  refine wpAnyH_take (i := 9) (v := .int .i64 (u : Int)) (op_at rfl) (by kernel_rfl) (by kernel_rfl) (by kernel_rfl) (fun _ _ _ h => h) (Or.inl ⟨by rfl, fun w_ hSw => ?_⟩) H0 ?_
                  · skip; go_simp
                  try simp only [Act.put, List.setIfInBounds_toArray, List.set_cons_zero, List.set_cons_succ]
                  refine wpAnyH_take (i := 10) (v := .pointer (some ⟨B, u, none⟩)) (op_at rfl) (by kernel_rfl) (by kernel_rfl) (by kernel_rfl) (fun _ _ _ h => h) (Or.inl ⟨by rfl, fun w_ hSw => ?_⟩) H0 ?_
                  · skip; go_simp
                  try simp only [Act.put, List.setIfInBounds_toArray, List.set_cons_zero, List.set_cons_succ]
                  refine wpAnyH_ready (rs := [7, 11]) (by kernel_rfl) (by simp) ?_
                  refine AllReadyH.cons (op_at rfl) (fun K hK => ?_) (AllReadyH.cons (op_at rfl) (fun K hK => ?_) AllReadyH.nil)
                  · have hc_ := hckA.out
                    go_simp
                    clear hc_
                    refine hK.out _ _ H0 (fun H1_ => ?_)
                    clear hK K
                    try simp only [Act.put, List.setIfInBounds_toArray, List.set_cons_zero, List.set_cons_succ]
                    refine wpAnyH_ready (rs := [11]) (by kernel_rfl) (by simp) ?_
                    refine AllReadyH.cons (op_at rfl) (fun K hK => ?_) AllReadyH.nil
                    have hc_ := hcuA.out
                    go_simp
                    clear hc_
                    refine hK.out _ _ H1_ (fun H2_ => ?_)
                    clear hK K
                    try simp only [Act.put, List.setIfInBounds_toArray, List.set_cons_zero, List.set_cons_succ]
                    refine wpAnyH_take (i := 12) (v := .pointer (some ⟨B, u, none⟩)) (op_at rfl) (by kernel_rfl) (by kernel_rfl) (by kernel_rfl) (fun _ _ _ h => h) (Or.inl ⟨by rfl, fun w_ hSw => ?_⟩) H2_ ?_
                    · skip; go_simp
                    try simp only [Act.put, List.setIfInBounds_toArray, List.set_cons_zero, List.set_cons_succ]
                    refine wpAnyH_ready (rs := [13]) (by kernel_rfl) (by simp) ?_
                    refine AllReadyH.cons (op_at rfl) (fun K hK => ?_) AllReadyH.nil
                    obtain ⟨hr_, hg_, ⟨u_, hc_⟩, hf_, hbg_⟩ := RH_put (wd := L + 1) OH0.out u huR (ga, ca)
                    go_simp
                    refine hK.out _ _ (H2_.setCell (p := ⟨B, u, none⟩) hbg_ _) (fun H3_ => ?_)
                    have OH_3 := Aside0.mk hr_
                    have II_3 := Aside0.mk (fun i hi => (II0.out i hi).hset OH0.out u (hdr (L + 1) (ga, ca)))
                    clear hK K hc_ hf_ hr_ hg_ hbg_
                    try simp only [Act.put, List.setIfInBounds_toArray, List.set_cons_zero, List.set_cons_succ]
                    refine wpAnyH_take (i := 14) (v := .pointer (some ⟨B, k, none⟩)) (op_at rfl) (by kernel_rfl) (by kernel_rfl) (by kernel_rfl) (fun _ _ _ h => h) (Or.inl ⟨by rfl, fun w_ hSw => ?_⟩) H3_ ?_
                    · skip; go_simp
                    try simp only [Act.put, List.setIfInBounds_toArray, List.set_cons_zero, List.set_cons_succ]
                    refine wpAnyH_ready (rs := [15]) (by kernel_rfl) (by simp) ?_
                    refine AllReadyH.cons (op_at rfl) (fun K hK => ?_) AllReadyH.nil
                    obtain ⟨hr_, hg_, ⟨u_, hc_⟩, hf_, hbg_⟩ := RH_put (wd := L + 1) OH_3.out k hkR (gb, cb)
                    go_simp
                    refine hK.out _ _ (H3_.setCell (p := ⟨B, k, none⟩) hbg_ _) (fun H4_ => ?_)
                    have OH_4 := Aside0.mk hr_
                    have II_4 := Aside0.mk (fun i hi => (II_3.out i hi).hset OH_3.out k (hdr (L + 1) (gb, cb)))
                    clear hK K hc_ hf_ hr_ hg_ hbg_
                    try simp only [Act.put, List.setIfInBounds_toArray, List.set_cons_zero, List.set_cons_succ]
                    refine wpAnyH_done (by kernel_rfl) ?_ _
                    refine NoPanic.normal ?_
                    exact ⟨rfl, by simp only [Act.put, List.setIfInBounds_toArray, List.set_cons_zero, List.set_cons_succ], OH_4.out, II_4.out, H4_⟩
                  · have hc_ := hcuA.out
                    go_simp
                    clear hc_
                    refine hK.out _ _ H0 (fun H5_ => ?_)
                    clear hK K
                    try simp only [Act.put, List.setIfInBounds_toArray, List.set_cons_zero, List.set_cons_succ]
                    refine wpAnyH_ready (rs := [7]) (by kernel_rfl) (by simp) ?_
                    refine AllReadyH.cons (op_at rfl) (fun K hK => ?_) AllReadyH.nil
                    have hc_ := hckA.out
                    go_simp
                    clear hc_
                    refine hK.out _ _ H5_ (fun H6_ => ?_)
                    clear hK K
                    try simp only [Act.put, List.setIfInBounds_toArray, List.set_cons_zero, List.set_cons_succ]
                    refine wpAnyH_take (i := 12) (v := .pointer (some ⟨B, u, none⟩)) (op_at rfl) (by kernel_rfl) (by kernel_rfl) (by kernel_rfl) (fun _ _ _ h => h) (Or.inl ⟨by rfl, fun w_ hSw => ?_⟩) H6_ ?_
                    · skip; go_simp
                    try simp only [Act.put, List.setIfInBounds_toArray, List.set_cons_zero, List.set_cons_succ]
                    refine wpAnyH_ready (rs := [13]) (by kernel_rfl) (by simp) ?_
                    refine AllReadyH.cons (op_at rfl) (fun K hK => ?_) AllReadyH.nil
                    obtain ⟨hr_, hg_, ⟨u_, hc_⟩, hf_, hbg_⟩ := RH_put (wd := L + 1) OH0.out u huR (ga, ca)
                    go_simp
                    refine hK.out _ _ (H6_.setCell (p := ⟨B, u, none⟩) hbg_ _) (fun H7_ => ?_)
                    have OH_7 := Aside0.mk hr_
                    have II_7 := Aside0.mk (fun i hi => (II0.out i hi).hset OH0.out u (hdr (L + 1) (ga, ca)))
                    clear hK K hc_ hf_ hr_ hg_ hbg_
                    try simp only [Act.put, List.setIfInBounds_toArray, List.set_cons_zero, List.set_cons_succ]
                    refine wpAnyH_take (i := 14) (v := .pointer (some ⟨B, k, none⟩)) (op_at rfl) (by kernel_rfl) (by kernel_rfl) (by kernel_rfl) (fun _ _ _ h => h) (Or.inl ⟨by rfl, fun w_ hSw => ?_⟩) H7_ ?_
                    · skip; go_simp
                    try simp only [Act.put, List.setIfInBounds_toArray, List.set_cons_zero, List.set_cons_succ]
                    refine wpAnyH_ready (rs := [15]) (by kernel_rfl) (by simp) ?_
                    refine AllReadyH.cons (op_at rfl) (fun K hK => ?_) AllReadyH.nil
                    obtain ⟨hr_, hg_, ⟨u_, hc_⟩, hf_, hbg_⟩ := RH_put (wd := L + 1) OH_7.out k hkR (gb, cb)
                    go_simp
                    refine hK.out _ _ (H7_.setCell (p := ⟨B, k, none⟩) hbg_ _) (fun H8_ => ?_)
                    have OH_8 := Aside0.mk hr_
                    have II_8 := Aside0.mk (fun i hi => (II_7.out i hi).hset OH_7.out k (hdr (L + 1) (gb, cb)))
                    clear hK K hc_ hf_ hr_ hg_ hbg_
                    try simp only [Act.put, List.setIfInBounds_toArray, List.set_cons_zero, List.set_cons_succ]
                    refine wpAnyH_done (by kernel_rfl) ?_ _
                    refine NoPanic.normal ?_
                    exact ⟨rfl, by simp only [Act.put, List.setIfInBounds_toArray, List.set_cons_zero, List.set_cons_succ], OH_8.out, II_8.out, H8_⟩
                  -- END 22
                rintro e a' W9 ⟨rfl, rfl, hOH, hII, hB9⟩
                simp only [Act.put, List.setIfInBounds_toArray, List.set_cons_zero, List.set_cons_succ]
                have hSw : Rws w.heap.size W9 (.slice (some ⟨B, 0, none⟩) R c5) (L + 1) ((hd.set u (hd.getD k (0, 0))).set k (hd.getD u (0, 0))) (swp M u k) := hRA.out.swap u k huM hkM (by rw [hgaA.out, hgbA.out]; exact hOH) hII
                obtain ⟨hs, hhs⟩ : ∃ h, h = (hd.set u (hd.getD k (0, 0))).set k (hd.getD u (0, 0)) := ⟨_, rfl⟩
                obtain ⟨SW, hSWe⟩ : ∃ h, h = swp M u k := ⟨_, rfl⟩
                rw [← hhs, ← hSWe] at hSw
                have hSWl : SW.length = R := by rw [hSWe, swp_length]; exact hMlA.out
                have hel : elim M cc u k = elN SW u cc (R - (u + 1)) := by rw [hSWe, ← hMlA.out]; rfl
                rw [hel] at hgo2A
                have hSwA := Aside0.mk hSw; have hB9A := Aside0.mk hB9; have hSWlA := Aside0.mk hSWl
                clear hOH hII hSw hB9 hhs hSWe hSWl hel hRA hBA hckA hcuA hgaA hgbA huM hkM hkR
                obtain ⟨⟨gu, cu⟩, hgu⟩ : ∃ g, hs.getD u (0, 0) = g := ⟨_, rfl⟩
                obtain ⟨pv, hpv⟩ : ∃ x, At SW u cc = x := ⟨_, rfl⟩
                have hc1 := hSwA.out.hd u (by rw [hSWlA.out]; exact huR)
                have hc2 := hSwA.out.word u cc (by rw [hSWlA.out]; exact huR) (by omega)
                rw [hgu] at hc1 hc2
                rw [hpv] at hc2
                have hguA := Aside0.mk hgu; have hpvA := Aside0.mk hpv
                clear hgu hpv q3 q4
                have e2 : IntKind.i64.wrap ((u : Int) + 1) = (u : Int) + 1 := IntWalk.i64_in _ (by have := hRLA.out; omega)
                go_wp2_with (go_at_call 26; ((with_reducible refine (hI.out pv _).mono ?_); rintro e0 W10 ⟨rfl, hd1⟩; have hS10 := Aside0.mk (hSwA.out.below hd1.below); have hB10 := Aside0.mk (below_then hB9A.out hB9A.out.size hd1.below); clear hd1 hc1 hc2))
                go_loopw [14] (fun iv wr => ∃ m : Nat, m ≤ R - (u + 1) ∧ iv = .int .i64 ((u + 1 + m : Nat) : Int) ∧ Rws w.heap.size wr (.slice (some ⟨B, 0, none⟩) R c5) (L + 1) hs (elN SW u cc m) ∧ Below w.heap.size w wr) (fun iv _ => R - (intOf iv).toNat)
                case atStart => exact ⟨0, by omega, by go_num, hS10.out, hB10.out⟩
                case round =>
                  clear hS10 hB10
                  obtain ⟨m, hm, rfl, hR, hB⟩ := hrel
                  by_cases hlm : m < R - (u + 1)
                  · obtain ⟨i, hi⟩ : ∃ i, i = u + 1 + m := ⟨_, rfl⟩
                    rw [← hi]
                    have hiR : i < R := by omega
                    obtain ⟨cur, hcur⟩ : ∃ M, M = elN SW u cc m := ⟨_, rfl⟩
                    have hnx : elN SW u cc (m + 1) = cur.set i (rsub (cur.getD i []) (cur.getD u []) (mul (At cur i cc) (inv pv))) := by rw [elN, ← hcur, ← hi, hpvA.out]
                    have hcl' : cur.length = R := by rw [hcur, elN_length]; exact hSWlA.out
                    rw [← hcur] at hR
                    have hpu : cur.getD u [] = SW.getD u [] := by
                      rw [hcur]
                      by_cases z : m = 0
                      · subst z; rfl
                      · rw [elN_get SW u cc m (by rw [hSWlA.out]; omega), if_neg (by omega)]
                    have p4 : (i : Int) < (R : Int) := by omega
                    have p5 : (0 : Int) ≤ (i : Int) := by omega
                    have hc1 := hR.hd i (by rw [hcl']; exact hiR)
                    have hc2 := hR.word i cc (by rw [hcl']; exact hiR) (by omega)
                    obtain ⟨⟨gi, ci⟩, hgi⟩ : ∃ g, hs.getD i (0, 0) = g := ⟨_, rfl⟩
                    obtain ⟨x, hx⟩ : ∃ x, At cur i cc = x := ⟨_, rfl⟩
                    rw [hgi] at hc1 hc2
                    rw [hx] at hc2 hnx
                    have hRA := Aside0.mk hR; have hBA := Aside0.mk hB; have hnxA := Aside0.mk hnx; have hgiA := Aside0.mk hgi; have hclA := Aside0.mk hcl'; have hiA := Aside0.mk hi; have hpuA := Aside0.mk hpu
                    clear hR hB hnx hgi hx hcl' hcur hi hpu
                    go_wp2_with (go_at_call 20; ((with_reducible refine (hM.out x (inv pv) _).mono ?_); rintro e0 W11 ⟨rfl, hd1⟩; have hR11 := Aside0.mk (hRA.out.below hd1.below); have hB11 := Aside0.mk (below_then hBA.out hBA.out.size hd1.below); clear hd1 hc1 hc2))
                    obtain ⟨bb, hbb⟩ : ∃ b, b = mul x (inv pv) := ⟨_, rfl⟩
                    rw [← hbb] at hnxA ⊢
                    obtain ⟨r, hr⟩ : ∃ r, cur.getD i [] = r := ⟨_, rfl⟩
                    obtain ⟨p, hp⟩ : ∃ r, cur.getD u [] = r := ⟨_, rfl⟩
                    have hrl : r.length = L + 1 := by rw [← hr]; exact (hR11.out.row i (by rw [hclA.out]; exact hiR)).2.2
                    have hpl : p.length = r.length := by rw [hrl, ← hp]; exact (hR11.out.row u (by rw [hclA.out]; exact huR)).2.2
                    obtain ⟨qq, hqq⟩ : ∃ q, q = rsub r p bb := ⟨_, rfl⟩
                    have hql : qq.length = r.length := by rw [hqq, rsub_length]
                    rw [hr, hp, ← hqq] at hnxA
                    have hset0 : cur.set i (prt r qq 0) = cur := by
                      rw [show prt r qq 0 = r from rfl, ← hr]
                      apply List.ext_getElem?
                      intro t
                      by_cases e : i = t
                      · subst e
                        rw [List.getElem?_set_self (by rw [hclA.out]; exact hiR)]
                        simp [List.getD_eq_getElem?_getD, List.getElem?_eq_getElem (show i < cur.length by rw [hclA.out]; exact hiR)]
                      · rw [List.getElem?_set_ne e]
                    have hrA := Aside0.mk hr; have hpA := Aside0.mk hp; have hrlA := Aside0.mk hrl; have hplA := Aside0.mk hpl; have hqqA := Aside0.mk hqq; have hqlA := Aside0.mk hql; have hset0A := Aside0.mk hset0
                    clear hbb hr hp hrl hpl hqq hql hset0
                    go_loopw [16] (fun jv wr => ∃ j : Nat, j ≤ L + 1 ∧ jv = .int .i64 (j : Int) ∧ Rws w.heap.size wr (.slice (some ⟨B, 0, none⟩) R c5) (L + 1) hs (cur.set i (prt r qq j)) ∧ Below w.heap.size w wr) (fun jv _ => L + 1 - (intOf jv).toNat)
                    case atStart => exact ⟨0, by omega, rfl, by rw [hset0A.out]; exact hR11.out, hB11.out⟩
                    case round =>
                      clear hR11 hB11 hRA hBA
                      obtain ⟨j, hj, rfl, hR, hB⟩ := hrel
                      by_cases hjl : j ≤ L
                      · have p6 : (j : Int) ≤ (L : Int) := by omega
                        have p7 : (j : Int) < (L : Int) + 1 := by omega
                        have p8 : (0 : Int) ≤ (j : Int) := by omega
                        have e3 : IntKind.i64.wrap ((j : Int) + 1) = (j : Int) + 1 := IntWalk.i64_in _ (by have := hRLA.out; omega)
                        have hiM : i < (cur.set i (prt r qq j)).length := by rw [List.length_set, hclA.out]; exact hiR
                        have huM : u < cur.length := by rw [hclA.out]; exact huR
                        have hiM' : i < cur.length := by rw [hclA.out]; exact hiR
                        have hui : u ≠ i := by have := hiA.out; omega
                        obtain ⟨rj, hrj⟩ : ∃ x, co r j = x := ⟨_, rfl⟩
                        obtain ⟨pj, hpj⟩ : ∃ x, co p j = x := ⟨_, rfl⟩
                        have hqj : co qq j = rj ^^^ mul bb pj := by rw [hqqA.out, co_rsub _ _ _ hplA.out, hrj, hpj]
                        have hAij : At (cur.set i (prt r qq j)) i j = rj := by
                          unfold At
                          rw [getD_set _ _ _ _ hiM', if_pos rfl, co_prt_ge _ _ hqlA.out j j (Nat.le_refl _) (by rw [hrlA.out]; omega), hrj]
                        have hAu : ∀ t, At (cur.set i (prt r qq t)) u j = pj := fun t => by
                          unfold At
                          rw [getD_set _ _ _ _ hiM', if_neg hui, hpA.out, hpj]
                        have hny : (cur.set i (prt r qq j)).set i (((cur.set i (prt r qq j)).getD i []).set j (rj ^^^ mul bb pj)) = cur.set i (prt r qq (j + 1)) := by
                          rw [getD_set _ _ _ _ hiM', if_pos rfl, List.set_set, ← hqj, prt_set _ _ hqlA.out j (by rw [hrlA.out]; omega)]
                        have hF1' : ∀ V, (Rws w.heap.size V (.slice (some ⟨B, 0, none⟩) R c5) (L + 1) hs (cur.set i (prt r qq j)) ∨ Rws w.heap.size V (.slice (some ⟨B, 0, none⟩) R c5) (L + 1) hs (cur.set i (prt r qq (j + 1)))) → V.cell? ⟨B, i, none⟩ = some (hdr (L + 1) (gi, ci)) := fun V h => by
                          rcases h with h | h <;> (have := h.hd i (by rw [List.length_set]; exact hiM'); rwa [hgiA.out] at this)
                        have hF2' : ∀ V, (Rws w.heap.size V (.slice (some ⟨B, 0, none⟩) R c5) (L + 1) hs (cur.set i (prt r qq j)) ∨ Rws w.heap.size V (.slice (some ⟨B, 0, none⟩) R c5) (L + 1) hs (cur.set i (prt r qq (j + 1)))) → V.cell? ⟨B, u, none⟩ = some (hdr (L + 1) (gu, cu)) := fun V h => by
                          rcases h with h | h <;> (have := h.hd u (by rw [List.length_set]; exact huM); rwa [hguA.out] at this)
                        have hF3' : ∀ V, (Rws w.heap.size V (.slice (some ⟨B, 0, none⟩) R c5) (L + 1) hs (cur.set i (prt r qq j)) ∨ Rws w.heap.size V (.slice (some ⟨B, 0, none⟩) R c5) (L + 1) hs (cur.set i (prt r qq (j + 1)))) → V.cell? ⟨gu, j, none⟩ = some (.int .u32 (v pj)) := fun V h => by
                          rcases h with h | h <;> (have := h.word u j (by rw [List.length_set]; exact huM) (by omega); rwa [hguA.out, hAu] at this)
                        have hF1 := Aside0.mk hF1'; have hF2 := Aside0.mk hF2'; have hF3 := Aside0.mk hF3'; have hnyA := Aside0.mk hny; have hAijA := Aside0.mk hAij; have hiMA := Aside0.mk hiM; have hjA := Aside0.mk (show j < L + 1 by omega)
                        have RW0 : Aside0 (Rws w.heap.size wr.drew (.slice (some ⟨B, 0, none⟩) R c5) (L + 1) hs (cur.set i (prt r qq j))) := Aside0.mk (hR.below (pw_below_drewN (Below.refl _ _) 1))
                        have BB0 : Aside0 (Below w.heap.size w wr.drew) := Aside0.mk (pw_below_drewN hB 1)
                        clear hF1' hF2' hF3' hny hAij hAu hqj hrj hpj hiM huM hiM' hui hR hB
                        go_wp2_with fail
                        have H0 : Rws w.heap.size wr.drew (.slice (some ⟨B, 0, none⟩) R c5) (L + 1) hs (cur.set i (prt r qq j)) ∨ Rws w.heap.size wr.drew (.slice (some ⟨B, 0, none⟩) R c5) (L + 1) hs (cur.set i (prt r qq (j + 1))) := Or.inl RW0.out
                        refine wp_region_noPanic ?_
                        refine wp_region_held_drew (S := fun V1 => Rws w.heap.size V1 (.slice (some ⟨B, 0, none⟩) R c5) (L + 1) hs (cur.set i (prt r qq j)) ∨ Rws w.heap.size V1 (.slice (some ⟨B, 0, none⟩) R c5) (L + 1) hs (cur.set i (prt r qq (j + 1)))) (by kernel_rfl) H0 (fun _ => ?_)
                        generalize wr.drew = V0 at *
                        -- REGION 31
                        refine wpAnyH_take (i := 0) (v := .slice (some ⟨B, 0, none⟩) R c5) (op_at rfl) (by kernel_rfl) (by kernel_rfl) (by kernel_rfl) (fun _ _ _ h => h) (Or.inl ⟨by rfl, fun w_ hSw => ?_⟩) H0 ?_
                        · skip; go_simp
                        try simp only [Act.put, List.setIfInBounds_toArray, List.set_cons_zero, List.set_cons_succ]
                        refine wpAnyH_take (i := 1) (v := .int .i64 (i : Int)) (op_at rfl) (by kernel_rfl) (by kernel_rfl) (by kernel_rfl) (fun _ _ _ h => h) (Or.inl ⟨by rfl, fun w_ hSw => ?_⟩) H0 ?_
                        · skip; go_simp
                        try simp only [Act.put, List.setIfInBounds_toArray, List.set_cons_zero, List.set_cons_succ]
                        refine wpAnyH_take (i := 2) (v := .pointer (some ⟨B, i, none⟩)) (op_at rfl) (by kernel_rfl) (by kernel_rfl) (by kernel_rfl) (fun _ _ _ h => h) (Or.inl ⟨by rfl, fun w_ hSw => ?_⟩) H0 ?_
                        · skip; go_simp
                        try simp only [Act.put, List.setIfInBounds_toArray, List.set_cons_zero, List.set_cons_succ]
                        refine wpAnyH_take (i := 3) (v := .slice (some ⟨gi, 0, none⟩) (L + 1) ci) (op_at rfl) (by kernel_rfl) (by kernel_rfl) (by kernel_rfl) (fun _ _ _ h => h) (Or.inl ⟨by rfl, fun w_ hSw => ?_⟩) H0 ?_
                        · have hc_ := hF1.out w_ hSw; go_simp
                        try simp only [Act.put, List.setIfInBounds_toArray, List.set_cons_zero, List.set_cons_succ]
                        refine wpAnyH_take (i := 4) (v := .int .i64 (j : Int)) (op_at rfl) (by kernel_rfl) (by kernel_rfl) (by kernel_rfl) (fun _ _ _ h => h) (Or.inl ⟨by rfl, fun w_ hSw => ?_⟩) H0 ?_
                        · skip; go_simp
                        try simp only [Act.put, List.setIfInBounds_toArray, List.set_cons_zero, List.set_cons_succ]
                        refine wpAnyH_take (i := 5) (v := .slice (some ⟨B, 0, none⟩) R c5) (op_at rfl) (by kernel_rfl) (by kernel_rfl) (by kernel_rfl) (fun _ _ _ h => h) (Or.inl ⟨by rfl, fun w_ hSw => ?_⟩) H0 ?_
                        · skip; go_simp
                        try simp only [Act.put, List.setIfInBounds_toArray, List.set_cons_zero, List.set_cons_succ]
                        refine wpAnyH_take (i := 6) (v := .int .i64 (i : Int)) (op_at rfl) (by kernel_rfl) (by kernel_rfl) (by kernel_rfl) (fun _ _ _ h => h) (Or.inl ⟨by rfl, fun w_ hSw => ?_⟩) H0 ?_
                        · skip; go_simp
                        try simp only [Act.put, List.setIfInBounds_toArray, List.set_cons_zero, List.set_cons_succ]
                        refine wpAnyH_take (i := 7) (v := .pointer (some ⟨B, i, none⟩)) (op_at rfl) (by kernel_rfl) (by kernel_rfl) (by kernel_rfl) (fun _ _ _ h => h) (Or.inl ⟨by rfl, fun w_ hSw => ?_⟩) H0 ?_
                        · skip; go_simp
                        try simp only [Act.put, List.setIfInBounds_toArray, List.set_cons_zero, List.set_cons_succ]
                        refine wpAnyH_take (i := 8) (v := .slice (some ⟨gi, 0, none⟩) (L + 1) ci) (op_at rfl) (by kernel_rfl) (by kernel_rfl) (by kernel_rfl) (fun _ _ _ h => h) (Or.inl ⟨by rfl, fun w_ hSw => ?_⟩) H0 ?_
                        · have hc_ := hF1.out w_ hSw; go_simp
                        try simp only [Act.put, List.setIfInBounds_toArray, List.set_cons_zero, List.set_cons_succ]
                        refine wpAnyH_take (i := 9) (v := .int .i64 (j : Int)) (op_at rfl) (by kernel_rfl) (by kernel_rfl) (by kernel_rfl) (fun _ _ _ h => h) (Or.inl ⟨by rfl, fun w_ hSw => ?_⟩) H0 ?_
                        · skip; go_simp
                        try simp only [Act.put, List.setIfInBounds_toArray, List.set_cons_zero, List.set_cons_succ]
                        refine wpAnyH_take (i := 10) (v := .pointer (some ⟨gi, j, none⟩)) (op_at rfl) (by kernel_rfl) (by kernel_rfl) (by kernel_rfl) (fun _ _ _ h => h) (Or.inl ⟨by rfl, fun w_ hSw => ?_⟩) H0 ?_
                        · skip; go_simp
                        try simp only [Act.put, List.setIfInBounds_toArray, List.set_cons_zero, List.set_cons_succ]
                        refine wpAnyH_take (i := 12) (v := .int .u32 (v bb)) (op_at rfl) (by kernel_rfl) (by kernel_rfl) (by kernel_rfl) (fun _ _ _ h => h) (Or.inl ⟨by rfl, fun w_ hSw => ?_⟩) H0 ?_
                        · skip; go_simp
                        try simp only [Act.put, List.setIfInBounds_toArray, List.set_cons_zero, List.set_cons_succ]
                        refine wpAnyH_take (i := 13) (v := .slice (some ⟨B, 0, none⟩) R c5) (op_at rfl) (by kernel_rfl) (by kernel_rfl) (by kernel_rfl) (fun _ _ _ h => h) (Or.inl ⟨by rfl, fun w_ hSw => ?_⟩) H0 ?_
                        · skip; go_simp
                        try simp only [Act.put, List.setIfInBounds_toArray, List.set_cons_zero, List.set_cons_succ]
                        refine wpAnyH_take (i := 14) (v := .int .i64 (u : Int)) (op_at rfl) (by kernel_rfl) (by kernel_rfl) (by kernel_rfl) (fun _ _ _ h => h) (Or.inl ⟨by rfl, fun w_ hSw => ?_⟩) H0 ?_
                        · skip; go_simp
                        try simp only [Act.put, List.setIfInBounds_toArray, List.set_cons_zero, List.set_cons_succ]
                        refine wpAnyH_take (i := 15) (v := .pointer (some ⟨B, u, none⟩)) (op_at rfl) (by kernel_rfl) (by kernel_rfl) (by kernel_rfl) (fun _ _ _ h => h) (Or.inl ⟨by rfl, fun w_ hSw => ?_⟩) H0 ?_
                        · skip; go_simp
                        try simp only [Act.put, List.setIfInBounds_toArray, List.set_cons_zero, List.set_cons_succ]
                        refine wpAnyH_take (i := 16) (v := .slice (some ⟨gu, 0, none⟩) (L + 1) cu) (op_at rfl) (by kernel_rfl) (by kernel_rfl) (by kernel_rfl) (fun _ _ _ h => h) (Or.inl ⟨by rfl, fun w_ hSw => ?_⟩) H0 ?_
                        · have hc_ := hF2.out w_ hSw; go_simp
                        try simp only [Act.put, List.setIfInBounds_toArray, List.set_cons_zero, List.set_cons_succ]
                        refine wpAnyH_take (i := 17) (v := .int .i64 (j : Int)) (op_at rfl) (by kernel_rfl) (by kernel_rfl) (by kernel_rfl) (fun _ _ _ h => h) (Or.inl ⟨by rfl, fun w_ hSw => ?_⟩) H0 ?_
                        · skip; go_simp
                        try simp only [Act.put, List.setIfInBounds_toArray, List.set_cons_zero, List.set_cons_succ]
                        refine wpAnyH_take (i := 18) (v := .pointer (some ⟨gu, j, none⟩)) (op_at rfl) (by kernel_rfl) (by kernel_rfl) (by kernel_rfl) (fun _ _ _ h => h) (Or.inl ⟨by rfl, fun w_ hSw => ?_⟩) H0 ?_
                        · skip; go_simp
                        try simp only [Act.put, List.setIfInBounds_toArray, List.set_cons_zero, List.set_cons_succ]
                        refine wpAnyH_take (i := 19) (v := .int .u32 (v pj)) (op_at rfl) (by kernel_rfl) (by kernel_rfl) (by kernel_rfl) (fun _ _ _ h => h) (Or.inl ⟨by rfl, fun w_ hSw => ?_⟩) H0 ?_
                        · have hc_ := hF3.out w_ hSw; go_simp
                        try simp only [Act.put, List.setIfInBounds_toArray, List.set_cons_zero, List.set_cons_succ]
                        refine wpAnyH_ready (rs := [11, 20]) (by kernel_rfl) (by simp) ?_
                        refine AllReadyH.cons (op_at rfl) (fun K hK => ?_) (AllReadyH.cons (op_at rfl) (fun K hK => ?_) AllReadyH.nil)
                        · have hc_ := (by have h_ := RW0.out.word i j hiMA.out hjA.out; rw [hgiA.out, hAijA.out] at h_; exact h_)
                          go_simp
                          clear hc_
                          refine hK.out _ _ H0 (fun H1_ => ?_)
                          clear hK K
                          try simp only [Act.put, List.setIfInBounds_toArray, List.set_cons_zero, List.set_cons_succ]
                          refine wpAnyH_ready (rs := [20]) (by kernel_rfl) (by simp) ?_
                          refine AllReadyH.cons (op_at rfl) (fun K hK => ?_) AllReadyH.nil
                          go_simp
                          go_at_call 20
                          with_reducible refine (hM.out bb pj V0).mono ?_
                          rintro e V2_ ⟨rfl, hd_⟩
                          go_wp2_with fail
                          refine hK.out _ _ (H1_.imp (fun h => h.below hd_.below) (fun h => h.below hd_.below)) (fun H2_ => ?_)
                          have RW_2 := Aside0.mk (RW0.out.below hd_.below)
                          have BB_2 := Aside0.mk (below_then BB0.out BB0.out.size hd_.below)
                          clear hK K hd_
                          try simp only [Act.put, List.setIfInBounds_toArray, List.set_cons_zero, List.set_cons_succ]
                          refine wpAnyH_take (i := 21) (v := .int .u32 (v (rj ^^^ mul bb pj))) (op_at rfl) (by kernel_rfl) (by kernel_rfl) (by kernel_rfl) (fun _ _ _ h => h) (Or.inl ⟨by rfl, fun w_ hSw => ?_⟩) H2_ ?_
                          · have ex_ := xor_v rj (mul bb pj); go_simp
                          try simp only [Act.put, List.setIfInBounds_toArray, List.set_cons_zero, List.set_cons_succ]
                          refine wpAnyH_take (i := 22) (v := .pointer (some ⟨gi, j, none⟩)) (op_at rfl) (by kernel_rfl) (by kernel_rfl) (by kernel_rfl) (fun _ _ _ h => h) (Or.inl ⟨by rfl, fun w_ hSw => ?_⟩) H2_ ?_
                          · skip; go_simp
                          try simp only [Act.put, List.setIfInBounds_toArray, List.set_cons_zero, List.set_cons_succ]
                          refine wpAnyH_ready (rs := [23]) (by kernel_rfl) (by simp) ?_
                          refine AllReadyH.cons (op_at rfl) (fun K hK => ?_) AllReadyH.nil
                          have hp_ := RW_2.out.put i j hiMA.out hjA.out (rj ^^^ mul bb pj)
                          have hc_ := RW_2.out.word i j hiMA.out hjA.out
                          have hf_ := (RW_2.out.row i hiMA.out).2.1.fz j
                          have hb_ := (RW_2.out.row i hiMA.out).1
                          rw [hgiA.out] at hp_ hc_ hf_ hb_
                          rw [hnyA.out] at hp_
                          go_simp
                          refine hK.out _ _ (Or.inr hp_) (fun H3_ => ?_)
                          have RW_3 := Aside0.mk hp_
                          have BB_3 := Aside0.mk (BB_2.out.setCell (p := ⟨gi, j, none⟩) hb_ (.int .u32 (v (rj ^^^ mul bb pj))))
                          clear hK K hc_ hf_ hp_ hb_
                          try simp only [Act.put, List.setIfInBounds_toArray, List.set_cons_zero, List.set_cons_succ]
                          refine wpAnyH_done (by kernel_rfl) ?_ _
                          refine NoPanic.normal ?_
                          go_wp2_with fail
                          go_roundw
                          · exact ⟨j + 1, by have := hjA.out; omega, by go_num, RW_3.out, BB_3.out⟩
                          · have := hjA.out; simp [intOf]; omega
                        · go_simp
                          go_at_call 20
                          with_reducible refine (hM.out bb pj V0).mono ?_
                          rintro e V4_ ⟨rfl, hd_⟩
                          go_wp2_with fail
                          refine hK.out _ _ (H0.imp (fun h => h.below hd_.below) (fun h => h.below hd_.below)) (fun H4_ => ?_)
                          have RW_4 := Aside0.mk (RW0.out.below hd_.below)
                          have BB_4 := Aside0.mk (below_then BB0.out BB0.out.size hd_.below)
                          clear hK K hd_
                          try simp only [Act.put, List.setIfInBounds_toArray, List.set_cons_zero, List.set_cons_succ]
                          refine wpAnyH_ready (rs := [11]) (by kernel_rfl) (by simp) ?_
                          refine AllReadyH.cons (op_at rfl) (fun K hK => ?_) AllReadyH.nil
                          have hc_ := (by have h_ := RW_4.out.word i j hiMA.out hjA.out; rw [hgiA.out, hAijA.out] at h_; exact h_)
                          go_simp
                          clear hc_
                          refine hK.out _ _ H4_ (fun H5_ => ?_)
                          clear hK K
                          try simp only [Act.put, List.setIfInBounds_toArray, List.set_cons_zero, List.set_cons_succ]
                          refine wpAnyH_take (i := 21) (v := .int .u32 (v (rj ^^^ mul bb pj))) (op_at rfl) (by kernel_rfl) (by kernel_rfl) (by kernel_rfl) (fun _ _ _ h => h) (Or.inl ⟨by rfl, fun w_ hSw => ?_⟩) H5_ ?_
                          · have ex_ := xor_v rj (mul bb pj); go_simp
                          try simp only [Act.put, List.setIfInBounds_toArray, List.set_cons_zero, List.set_cons_succ]
                          refine wpAnyH_take (i := 22) (v := .pointer (some ⟨gi, j, none⟩)) (op_at rfl) (by kernel_rfl) (by kernel_rfl) (by kernel_rfl) (fun _ _ _ h => h) (Or.inl ⟨by rfl, fun w_ hSw => ?_⟩) H5_ ?_
                          · skip; go_simp
                          try simp only [Act.put, List.setIfInBounds_toArray, List.set_cons_zero, List.set_cons_succ]
                          refine wpAnyH_ready (rs := [23]) (by kernel_rfl) (by simp) ?_
                          refine AllReadyH.cons (op_at rfl) (fun K hK => ?_) AllReadyH.nil
                          have hp_ := RW_4.out.put i j hiMA.out hjA.out (rj ^^^ mul bb pj)
                          have hc_ := RW_4.out.word i j hiMA.out hjA.out
                          have hf_ := (RW_4.out.row i hiMA.out).2.1.fz j
                          have hb_ := (RW_4.out.row i hiMA.out).1
                          rw [hgiA.out] at hp_ hc_ hf_ hb_
                          rw [hnyA.out] at hp_
                          go_simp
                          refine hK.out _ _ (Or.inr hp_) (fun H6_ => ?_)
                          have RW_6 := Aside0.mk hp_
                          have BB_6 := Aside0.mk (BB_4.out.setCell (p := ⟨gi, j, none⟩) hb_ (.int .u32 (v (rj ^^^ mul bb pj))))
                          clear hK K hc_ hf_ hp_ hb_
                          try simp only [Act.put, List.setIfInBounds_toArray, List.set_cons_zero, List.set_cons_succ]
                          refine wpAnyH_done (by kernel_rfl) ?_ _
                          refine NoPanic.normal ?_
                          go_wp2_with fail
                          go_roundw
                          · exact ⟨j + 1, by have := hjA.out; omega, by go_num, RW_6.out, BB_6.out⟩
                          · have := hjA.out; simp [intOf]; omega
                        -- END 31
                      · obtain rfl : j = L + 1 := by omega
                        have p6 : ¬ (L : Int) + 1 ≤ (L : Int) := by omega
                        have hqw : prt r qq (L + 1) = qq := by unfold prt; rw [← hrlA.out, ← hqlA.out, List.take_length, List.drop_of_length_le (by rw [hqlA.out]; exact Nat.le_refl _), List.append_nil]
                        rw [hqw, ← hnxA.out] at hR
                        have e3 : IntKind.i64.wrap ((i : Int) + 1) = (i : Int) + 1 := IntWalk.i64_in _ (by have := hRLA.out; omega)
                        have hRA := Aside0.mk hR; have hBA := Aside0.mk hB
                        clear hR hB hqw
                        go_wp2_with fail
                        go_roundw
                        · exact ⟨m + 1, by omega, by have := hiA.out; go_num, hRA.out, hBA.out⟩
                        · have := hiA.out; simp [intOf]; omega
                  · obtain rfl : m = R - (u + 1) := by omega
                    obtain ⟨i, hi⟩ : ∃ i, i = u + 1 + (R - (u + 1)) := ⟨_, rfl⟩
                    rw [← hi]
                    obtain rfl : i = R := by omega
                    have p4 : ¬ (i : Int) < (i : Int) := by omega
                    have hRA := Aside0.mk hR; have hBA := Aside0.mk hB
                    clear hR hB hi
                    go_wp2_with fail
                    go_roundw
                    · exact ⟨cc + 1, u + 1, _, hs, by omega, by go_num, by go_num, by omega, by rw [elN_length]; exact hSWlA.out, hRA.out, hgoA.out.trans hgo2A.out, hBA.out⟩
                    · simp [intOf]; omega
        · obtain rfl : L = cc := by omega
          have p1 : ¬ (L : Int) < (L : Int) := by omega
          have hfin : solv s L = decide (∀ i, i < M.length → u ≤ i → At M i L = 0#32) := by rw [hsvA.out, hgo, Nat.sub_self]; rfl
          have hRA := Aside0.mk hR; have hBA := Aside0.mk hB; have hMlA := Aside0.mk hMl; have hfA := Aside0.mk hfin
          clear hR hB hMl hgo hfin
          go_wp2_with fail
          go_loopw [17] (fun iv wr => ∃ m : Nat, u ≤ m ∧ m ≤ R ∧ iv = .int .i64 (m : Int) ∧ (∀ i, u ≤ i → i < m → At M i L = 0#32) ∧ Rws w.heap.size wr (.slice A5 R c5) (L + 1) hd M ∧ Below w.heap.size w wr) (fun iv _ => R - (intOf iv).toNat)
          case atStart => exact ⟨u, by omega, by omega, rfl, fun i h1 h2 => by omega, hRA.out, hBA.out⟩
          case round =>
            clear hRA hBA
            obtain ⟨m, hm1, hm2, rfl, hz, hR, hB⟩ := hrel
            by_cases hlm : m < R
            · have p4 : (m : Int) < (R : Int) := by omega
              have p5 : (0 : Int) ≤ (m : Int) := by omega
              have p6 : (L : Int) < (L : Int) + 1 := by omega
              have p7 : (0 : Int) ≤ (L : Int) := by omega
              have e2 : IntKind.i64.wrap ((m : Int) + 1) = (m : Int) + 1 := IntWalk.i64_in _ (by have := hRLA.out; omega)
              have hhl := hR.len
              obtain ⟨B, cap, hv, -⟩ := Kd.R_form hR.own (by rw [hhl, hMlA.out]; omega)
              obtain rfl : A5 = some ⟨B, 0, none⟩ := by injection hv
              have hc1 := hR.hd m (by rw [hMlA.out]; exact hlm)
              have hc2 := hR.word m L (by rw [hMlA.out]; exact hlm) (by omega)
              obtain ⟨⟨g, cp⟩, hgg⟩ : ∃ g, hd.getD m (0, 0) = g := ⟨_, rfl⟩
              obtain ⟨x, hx⟩ : ∃ x, At M m L = x := ⟨_, rfl⟩
              rw [hgg] at hc1 hc2
              rw [hx] at hc2
              have hRA := Aside0.mk hR; have hBA := Aside0.mk hB; have hzA := Aside0.mk hz
              clear hR hB hz hgg hhl hv
              by_cases hx0 : x = 0#32
              · have q1 : (v x != 0) = false := by rw [hx0]; rfl
                have hz2 : ∀ i, u ≤ i → i < m + 1 → At M i L = 0#32 := fun i h1 h2 => by
                  by_cases e : i = m
                  · rw [e, hx, hx0]
                  · exact hzA.out i h1 (by omega)
                have hz2A := Aside0.mk hz2
                clear hx0 hx hz2
                obtain ⟨y, hy⟩ : ∃ y, v x = y := ⟨_, rfl⟩
                rw [hy] at q1 hc2
                clear hy
                go_wp2_with fail
                go_roundw
                · exact ⟨m + 1, by omega, by omega, by go_num, hz2A.out, hRA.out, hBA.out⟩
                · simp [intOf]; omega
              · have q1 : (v x != 0) = true := by rw [bne_iff_ne]; intro h; exact hx0 ((v_zero_iff x).1 h)
                have hf : solv s L = false := by rw [hfA.out]; exact decide_eq_false (fun h => hx0 (hx ▸ h m (by rw [hMlA.out]; exact hlm) hm1))
                have hfA := Aside0.mk hf
                clear hx0 hx hf
                obtain ⟨y, hy⟩ : ∃ y, v x = y := ⟨_, rfl⟩
                rw [hy] at q1 hc2
                clear hy
                go_wp2_with fail
                go_ret
                exact ⟨by rw [hfA.out]; rfl, hBA.out⟩
            · obtain rfl : R = m := by omega
              have p4 : ¬ (R : Int) < (R : Int) := by omega
              have hf : solv s L = true := by rw [hfA.out]; exact decide_eq_true (fun i h1 h2 => hz i h2 (by rw [hMlA.out] at h1; exact h1))
              have hfA := Aside0.mk hf
              have hBA := Aside0.mk hB
              clear hR hB hz hf
              go_wp2_with fail
              go_ret
              exact ⟨by rw [hfA.out]; rfl, hBA.out⟩
end Go.Proofs.Ytfjkiiajbeaaoaa.MRws
