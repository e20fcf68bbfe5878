/- What is read has the bytes that were read. -/
import Derived.Test.YtlgfekllkahfaaaMRa
import Derived.Test.YtlgfekllkahfaaaMRc
import Derived.Test.YtlgfekllkahfaaaMPq
import Derived.Test.YtlgfekllkahfaaaTyY
set_option linter.unusedVariables false
set_option linter.unusedSimpArgs false
namespace Go.Proofs.Ytlgfekllkahfaaa.Pack
open Go.RowKit Go.Proofs.YtlgfekllkahfaaaW.PrintWords Go.Proofs.YtlgfekllkahfaaaW.PrintMore Go.Proofs.Ytlgfekllkahfaaa Go.Proofs.Ytlgfekllkahfaaa.Bits Sha ArrK ShaW
theorem next_eq {n : Nat} {r : Rd} {m : List Int} (h : (rdNext n r).2 = some m) : ∃ l, r = some l ∧ l = (rdNext n r).1 ++ m ∧ (rdNext n r).1.length = n := by
  cases r with
  | none => cases h
  | some l =>
    rw [rdNext] at h ⊢
    by_cases q : n ≤ l.length
    · rw [if_pos q] at h ⊢
      cases h
      exact ⟨l, rfl, (List.take_append_drop n l).symm, by rw [List.length_take]; omega⟩
    · rw [if_neg q] at h; cases h
theorem numb_cons (x : Int) (z : Int) (k : Nat) (hx : 0 ≤ x ∧ x < 256) : numb (x + 256 * z) (k + 1) = x :: numb z k := by
  unfold numb
  rw [List.range_succ_eq_map, List.map_cons, List.map_map]
  congr 1
  · simp; omega
  · apply List.map_congr_left
    intro i _
    simp only [Function.comp]
    have e : (2 : Int) ^ (8 * (i + 1)) = 256 * 2 ^ (8 * i) := by rw [show 8 * (i + 1) = 8 + 8 * i by omega, Int.pow_add]; rfl
    rw [show 8 * Nat.succ i = 8 * (i + 1) from rfl, e, ← Int.ediv_ediv_of_nonneg (by decide), show (x + 256 * z) / 256 = z by omega]
theorem numb_le : ∀ (b : List Int), Bytes b → numb (le b) b.length = b
  | [], _ => rfl
  | x :: r, h => by
    rw [le, List.length_cons, numb_cons x (le r) r.length (h x List.mem_cons_self), numb_le r (fun y hy => h y (List.mem_cons_of_mem _ hy))]
theorem num_eq {n : Nat} {r : Rd} {m : List Int} (hb : RB r) (h : (rdNum n r).2 = some m) : ∃ l, r = some l ∧ l = numb (rdNum n r).1 n ++ m := by
  obtain ⟨l, h1, h2, h3⟩ := next_eq (r := r) (n := n) h
  refine ⟨l, h1, ?_⟩
  have hn := numb_le (rdNext n r).1 (next_bytes hb).1
  rw [h3] at hn
  show l = numb (le (rdNext n r).1) n ++ m
  rw [hn]; exact h2
theorem mark_big {x : Int} {b : Int} (h : mark x = b) (hb : b = 253 ∨ b = 254 ∨ b = 255) : 253 ≤ x := by
  unfold mark at h
  by_cases q : x < 253
  · rw [if_pos q] at h; omega
  · omega
theorem count_eq {most : Nat} {r : Rd} {m : List Int} (hm : most < 253) (hb : RB r) (h : (rdCount most r).2 = some m) : ∃ l, r = some l ∧ l = cnt (rdCount most r).1 ++ m := by
  unfold rdCount at h ⊢
  by_cases q : (rdCnt r).2 = none ∨ (most : Int) < (rdCnt r).1
  · rw [if_pos q] at h; cases h
  · rw [if_neg q] at h ⊢
    simp only at h ⊢
    have hk : szk (rdNum 1 r).1 = 0 := by
      by_cases hk : 0 < szk (rdNum 1 r).1
      · exfalso
        unfold rdCnt at q h
        rw [if_pos hk] at q h
        simp only at q h
        by_cases hq : mark (rdNum (szk (rdNum 1 r).1) (rdNum 1 r).2).1 = (rdNum 1 r).1
        · have h3 : (rdNum 1 r).1 = 253 ∨ (rdNum 1 r).1 = 254 ∨ (rdNum 1 r).1 = 255 := by
            unfold szk at hk
            by_cases a : (rdNum 1 r).1 = 253
            · exact .inl a
            · rw [if_neg a] at hk
              by_cases b : (rdNum 1 r).1 = 254
              · exact .inr (.inl b)
              · rw [if_neg b] at hk
                by_cases c : (rdNum 1 r).1 = 255
                · exact .inr (.inr c)
                · rw [if_neg c] at hk; exact absurd hk (by decide)
          have := mark_big hq h3
          exact q (.inr (by omega))
        · rw [if_neg hq] at h; cases h
      · omega
    have hc : rdCnt r = rdNum 1 r := by unfold rdCnt; rw [hk]; rfl
    rw [hc] at h q ⊢
    obtain ⟨l, h1, h2⟩ := num_eq hb h
    refine ⟨l, h1, ?_⟩
    have hbd := num_bound (n := 1) hb
    have hq : ¬ (most : Int) < (rdNum 1 r).1 := fun h => q (.inr h)
    unfold cnt
    rw [if_pos (by omega), show (((rdNum 1 r).1.toNat : Nat) : Int) = (rdNum 1 r).1 by omega]
    exact h2
theorem hash_eq {r : Rd} {m : List Int} (h : (rdHash r).2 = some m) : ∃ l, r = some l ∧ l = (rdHash r).1 ++ m := by
  obtain ⟨l, h1, h2, h3⟩ := next_eq (r := r) (n := 32) h
  refine ⟨l, h1, ?_⟩
  unfold rdHash
  simp only
  rw [if_pos h3]; exact h2
theorem bytesOf_str (b : List Int) (hb : Bytes b) : bytesOf (strOfNums b) = b := by
  unfold bytesOf strOfNums
  simp only [List.map_map]
  have : ∀ x ∈ b, ((fun c : UInt8 => (c.toNat : Int)) ∘ fun n : Int => UInt8.ofNat n.toNat) x = x := by
    intro x hx
    have := hb x hx
    simp only [Function.comp, UInt8.toNat_ofNat']
    omega
  rw [List.map_congr_left this]; simp
theorem text_eq {most : Nat} {r : Rd} {m : List Int} (hm : most < 253) (hb : RB r) (h : (rdText most r).2 = some m) : ∃ l, r = some l ∧ l = (cnt (strOfNums (rdText most r).1).size ++ bytesOf (strOfNums (rdText most r).1)) ++ m := by
  obtain ⟨l1, h1, h2, h3⟩ := next_eq (r := (rdCount most r).2) (n := (rdCount most r).1) h
  obtain ⟨l, h4, h5⟩ := count_eq hm hb h1
  refine ⟨l, h4, ?_⟩
  have hb1 := (next_bytes (n := (rdCount most r).1) (rb_count (most := most) hb)).1
  have e1 : (strOfNums (rdText most r).1).size = (rdCount most r).1 := by rw [strOfNums_size]; exact h3
  have e2 : bytesOf (strOfNums (rdText most r).1) = (rdNext (rdCount most r).1 (rdCount most r).2).1 := bytesOf_str _ hb1
  rw [e1, e2, h5, h2, List.append_assoc]
theorem spend_eq (r : Rd) (hb : RB r) (m : List Int) (h : (rdSpend r).2 = some m) : ∃ l, r = some l ∧ l = encS true (rdSpend r).1 ++ m := by
  unfold rdSpend at h ⊢
  simp only at h ⊢
  have b1 := rb_hash hb
  have b2 := rb_num (n := 4) b1
  have b3 := rb_text (most := 32) b2
  obtain ⟨l1, e1, f1⟩ := num_eq b3 h
  obtain ⟨l2, e2, f2⟩ := text_eq (by decide) b2 e1
  obtain ⟨l3, e3, f3⟩ := num_eq b1 e2
  obtain ⟨l4, e4, f4⟩ := hash_eq e3
  refine ⟨l4, e4, ?_⟩
  have hbd := num_bound (n := 4) b1
  have hw : IntKind.u64.wrap (rdNum 4 (rdHash r).2).1 = (rdNum 4 (rdHash r).2).1 := by rw [wrap_u64]; omega
  unfold encS
  simp only
  rw [hw, f4, f3, f2, f1]
  simp only [if_true, List.append_assoc]
theorem coin_eq (r : Rd) (hb : RB r) (m : List Int) (h : (rdCoin r).2 = some m) : ∃ l, r = some l ∧ l = encC (rdCoin r).1 ++ m := by
  unfold rdCoin at h ⊢
  simp only at h ⊢
  obtain ⟨l1, e1, f1⟩ := num_eq (rb_num (n := 8) hb) h
  obtain ⟨l2, e2, f2⟩ := num_eq hb e1
  refine ⟨l2, e2, ?_⟩
  have hbd := num_bound (n := 8) hb
  have hw : IntKind.u64.wrap (IntKind.i64.wrap (rdNum 8 r).1) = (rdNum 8 r).1 := by
    simp only [IntKind.wrap, IntKind.bits, IntKind.signed]; simp; omega
  unfold encC
  simp only
  rw [hw, f2, f1, List.append_assoc]
theorem list_eq {α : Type} {f : Rd → α × Rd} {g : α → List Int} (hf : ∀ r, RB r → RB (f r).2) (hg : ∀ r, RB r → ∀ m, (f r).2 = some m → ∃ l, r = some l ∧ l = g (f r).1 ++ m) : ∀ (k : Nat) (r : Rd) (m : List Int), RB r → (rdList f k r).2 = some m → ∃ l, r = some l ∧ l = (rdList f k r).1.flatMap g ++ m
  | 0, r, m, _, h => ⟨m, h, by simp [rdList]⟩
  | k + 1, r, m, hb, h => by
    rw [rdList] at h ⊢
    simp only at h ⊢
    obtain ⟨l1, e1, f1⟩ := hg _ (rb_list hf k hb) m h
    obtain ⟨l, e, f2⟩ := list_eq hf hg k r l1 hb e1
    exact ⟨l, e, by rw [f2, f1, List.flatMap_append]; simp⟩
/-- what was read has these bytes -/
theorem rdTx_enc {l : List Int} {t : Tr} (hb : Bytes l) (h : rdTx l = some t) : enc true t = l := by
  unfold rdTx at h
  by_cases q : rdBad l = true
  · rw [if_pos q] at h; cases h
  · rw [if_neg q] at h
    cases h
    have hb0 : RB (some l) := fun m e => by cases e; exact hb
    unfold rdBad at q
    simp only [Bool.or_eq_true, not_or, decide_eq_true_eq] at q
    obtain ⟨q1, q2, -⟩ := q
    unfold rdFirm at q1 q2 ⊢
    have c1 := rb_count (most := 8) hb0
    have s1 : RB (rdSpends (some l)).2 := rb_list rb_spend _ c1
    have c2 := rb_count (most := 8) s1
    have s2 : RB (rdCoins (rdSpends (some l)).2).2 := rb_list rb_coin _ c2
    have e4 : (rdNum 1 (rdCoins (rdSpends (some l)).2).2).2 = some [] := by
      generalize (rdNum 1 (rdCoins (rdSpends (some l)).2).2).2 = r4 at q1
      match r4, q1 with
      | some [], _ => rfl
      | some (x :: y), q1 => exact absurd rfl q1
      | none, q1 => exact absurd rfl q1
    obtain ⟨l3, e3, f3⟩ := num_eq s2 e4
    obtain ⟨l2, e2, f2⟩ := list_eq rb_coin coin_eq _ _ _ c2 e3
    obtain ⟨l1, e1, f1⟩ := count_eq (by decide) s1 e2
    obtain ⟨l0, e0, f0⟩ := list_eq rb_spend spend_eq _ _ _ c1 e1
    obtain ⟨l', e', f'⟩ := count_eq (by decide) hb0 e0
    cases e'
    have hbd := num_bound (n := 1) s2
    have hn1 : (rdSpends (some l)).1.length = (rdCount 8 (some l)).1 := rdList_len _ _ _
    have hn2 : (rdCoins (rdSpends (some l)).2).1.length = (rdCount 8 (rdSpends (some l)).2).1 := rdList_len _ _ _
    have hf : numb (rdNum 1 (rdCoins (rdSpends (some l)).2).2).1 1 = [if ((rdNum 1 (rdCoins (rdSpends (some l)).2).2).1 == 1) = true then 1 else 0] := by
      generalize (rdNum 1 (rdCoins (rdSpends (some l)).2).2).1 = f at *
      have : f = 0 ∨ f = 1 := by omega
      rcases this with rfl | rfl <;> rfl
    unfold enc
    simp only
    rw [hn1, hn2, ← hf]
    have f3' : l3 = numb (rdNum 1 (rdCoins (rdSpends (some l)).2).2).1 1 := by rw [f3, List.append_nil]
    have hfin : l = cnt (rdCount 8 (some l)).1 ++ ((rdList rdSpend (rdCount 8 (some l)).1 (rdCount 8 (some l)).2).1.flatMap (encS true) ++ (cnt (rdCount 8 (rdSpends (some l)).2).1 ++ ((rdList rdCoin (rdCount 8 (rdSpends (some l)).2).1 (rdCount 8 (rdSpends (some l)).2).2).1.flatMap encC ++ l3))) := by
      rw [← f2, ← f1, ← f0]; exact f'
    rw [f3'] at hfin
    rw [List.append_assoc]
    exact hfin.symm
end Go.Proofs.Ytlgfekllkahfaaa.Pack
/- Which bytes are a transaction's.
   Conditions: none. -/
set_option linter.unusedVariables false
set_option linter.unusedSimpArgs false
namespace Go.Proofs.Ytlgfekllkahfaaa.Walk
open Go.RowKit Go.Proofs.YtlgfekllkahfaaaW.PrintWords Go.Proofs.YtlgfekllkahfaaaW.PrintMore Go.Proofs.Ytlgfekllkahfaaa Go.Proofs.Ytlgfekllkahfaaa.Bits Sha ArrK ShaW Pack
open Go.Proofs.Ytlgfekllkahfaaa.InRound (op_at)
theorem alike_self {α : Type} (f : α → α → Bool) (hf : ∀ x, f x x = true) (l : List α) : alike f l l = true := by
  unfold alike
  rw [List.all_eq_true]
  intro p hp
  have : p.1 = p.2 := by
    obtain ⟨i, hi⟩ := List.mem_iff_getElem?.1 hp
    rw [List.getElem?_zip_eq_some] at hi
    exact Option.some.inj (hi.1.symm.trans hi.2)
  rw [this]; exact hf _
theorem sameT_self (t : Tr) : sameT t t = true := by
  unfold sameT
  rw [alike_self eqS (fun s => by simp [eqS]), alike_self eqC (fun c => by simp [eqC])]
  simp
theorem is2_calls (w : World) : Calls Try.prog 19 #[.iface 55 (.int .i64 2), .int .i64 2] w fun e w' => e = .returned (.bool true) ∧ Below w.heap.size w w' :=
  (Go.Proofs.Ytlgfekllkahfaaa.V.gossamernum_Is.calls (some 2) 2 true w (by rfl)).mono fun e w' ⟨h1, h2⟩ => ⟨h1, h2.below⟩
theorem read_small {l : List Int} (hb : Bytes l) {t : Tr} (h : (rdTx l).getD ztx = t) : t.sp.length ≤ 8 ∧ t.co.length ≤ 8 ∧ ∀ s ∈ t.sp, s.key.size ≤ 5000 := by
  subst h
  have hb0 : RB (some l) := fun m e => by cases e; exact hb
  unfold rdTx
  split
  · exact ⟨by decide, by decide, fun s hs => by simp [ztx] at hs⟩
  · refine ⟨?_, ?_, ?_⟩
    · show (rdSpends (some l)).1.length ≤ 8
      unfold rdSpends; rw [rdList_len]; exact count_le 8 _
    · show (rdCoins (rdSpends (some l)).2).1.length ≤ 8
      unfold rdCoins; rw [rdList_len]; exact count_le 8 _
    · exact rdList_ok (p := fun s : Sp => s.key.size ≤ 5000) rb_spend (fun r _ => by
        show (strOfNums _).size ≤ 5000
        rw [strOfNums_size]
        exact Nat.le_trans (text_len 32 _) (by decide)) _ (rb_count hb0)
set_option maxRecDepth 100000 in
set_option maxHeartbeats 1600000 in
theorem TxReads (A : Option Addr) (c : Nat) (l : List Int) (w : World) (hC : Kd.C (Kd.int .u8) w A l.length l) (hc : l.length ≤ c) (hb : Bytes l) :
    Calls Try.prog 5 #[.slice A l.length c] w fun e w' => e = .returned (.bool true) ∧ Below w.heap.size w w' := by
  have hAlA := Aside0.mk (alive10_calls w)
  have hCA := Aside0.mk (fun W (hW : Below w.heap.size w W) => Kd.C_below hC hW)
  clear hC
  by_cases q : 2000 < l.length
  · have p : (2000 : Int) < (l.length : Int) := by omega
    go_enter Try.func5, Try.ntmps5
    go_wp2_with (go_at_call 6; (with_reducible refine hAlA.out.mono ?_); rintro e w1 ⟨rfl, hb1⟩; have hb1A := Aside0.mk hb1; clear hb1)
    go_ret
    exact ⟨rfl, hb1A.out⟩
  · have p : ¬ (2000 : Int) < (l.length : Int) := by omega
    have hrd := Aside0.mk (fun W B k (h : Kd.C (Kd.int .u8) W B l.length l) (hk : l.length ≤ k) => txread_calls W B k l h hk hb (by omega))
    have hdr := Aside0.mk (fun W B k (h : Kd.C (Kd.int .u8) W B l.length l) (hk : l.length ≤ k) => dread_calls W B k l h hk hb (by omega))
    have henc : rdBad l = false → enc true ((rdTx l).getD ztx) = l := fun h => by
      have e : rdTx l = some ⟨(rdSpends (some l)).1, (rdCoins (rdSpends (some l)).2).1, (rdFirm l).1 == 1⟩ := by unfold rdTx; rw [h]; rfl
      rw [e]; exact rdTx_enc hb e
    obtain ⟨T, hT⟩ : ∃ T, (rdTx l).getD ztx = T := ⟨_, rfl⟩
    obtain ⟨s1, s2, s3⟩ := read_small hb hT
    rw [hT] at hrd hdr henc
    clear hT
    obtain ⟨bad, hbad⟩ : ∃ b, rdBad l = b := ⟨_, rfl⟩
    rw [hbad] at hrd hdr henc
    clear hbad
    have hNt := Aside0.mk (fun W E1 E2 k1 k2 D1 D2 j1 j2 (h1 : SpR0 W E1 T.sp.length T.sp) (h2 : CoR W E2 T.co.length T.co) (h3 : SpR0 W D1 T.sp.length T.sp) (h4 : CoR W D2 T.co.length T.co) => by
      have h := numtx_calls (a := T) (b := T) (A1 := E1) (A2 := E2) (c1 := k1) (c2 := k2) (B1 := D1) (B2 := D2) (d1 := j1) (d2 := j2) W h1 h2 h3 h4 (by omega) (by omega)
      rw [sameT_self] at h
      exact h)
    have hBy := Aside0.mk (fun W E1 E2 k1 k2 (h1 : SpR0 W E1 T.sp.length T.sp) (h2 : CoR W E2 T.co.length T.co) => bytesT_calls (t := T) (A1 := E1) (A2 := E2) (c1 := k1) (c2 := k2) W ⟨h1.small s3, h2, by omega, by omega⟩)
    have hencA := Aside0.mk henc
    clear henc
    cases bad
    · simp only [Go.Proofs.Ytlgfekllkahfaaa.Q.errW, Bool.false_eq_true, if_false, Bool.not_false] at hrd hdr
      go_enter Try.func5, Try.ntmps5
      go_wp2_with (first | (go_at_call 6; (with_reducible refine hAlA.out.mono ?_); rintro e w1 ⟨rfl, hb1⟩; have hb1A := Aside0.mk hb1; clear hb1) | ((with_reducible refine gate_dst (N := 13) rfl ?_); (refine Kd.R_lit (Kd.int .u8) (w0 := w) w.heap.size 5 rfl (N := 13) rfl (xs := ([] : List Int)) (inner := []) (ok := fun _ => True) (okp := fun _ => True) ?hr (Reps.none _ _) (fun _ hk => hk) trivial hb1A.out hb1A.out.size (by simp) ?_; (case hr => first | (go_simp; done) | (go_simp; rfl)); intro v2 w2 hR2 hB2 hg2 _; have hR2A := Aside0.mk hR2; have hB2A := Aside0.mk hB2; clear hR2 hB2 hg2)) | ((with_reducible refine gate_dst (N := 15) rfl ?_); at_builtin; (refine Kd.R_append_rows (Kd.int .u8) (w0 := w) w.heap.size rfl (.tmp 13) (.tmp 14) 49 5 (.int .u8 0) 1 rfl Try.underlying49 info_u8 rfl (by decide) (by omega) v2 [] l A _ _ (fun _ => True) (fun _ => False) rfl rfl hR2A.out (hCA.out _ hB2A.out) (fun _ _ h => h) (fun _ h => h.elim) (fun _ _ => trivial) hB2A.out hB2A.out.size (by simp; omega) ?_; intro v3 w3 hR3 hB3 hg3 _; rw [List.nil_append] at hR3; obtain ⟨B3, k3, hv3⟩ := Kd.R_slice hR3; subst hv3; have hR3A := Aside0.mk hR3; have hB3A := Aside0.mk hB3; clear hR3 hB3 hg3)) | (go_at_call 17; ((with_reducible refine (hrd.out _ _ _ (Kd.R_reads' hR3A.out).2.2 (Kd.R_reads' hR3A.out).2.1).mono ?_); rintro e w4 ⟨⟨u1, u2, rfl, hS, hC⟩, hb⟩; obtain ⟨E1, e1, hu1⟩ := Kd.R_slice hS; obtain ⟨E2, e2, hu2⟩ := Kd.R_slice hC; subst hu1; subst hu2; have hR4A := Aside0.mk (Kd.R_below hR3A.out hb); have hB4A := Aside0.mk (below_then hB3A.out hB3A.out.size hb); have hS4A := Aside0.mk hS; have hC4A := Aside0.mk hC; clear hb hS hC)) | (go_at_call 18; (obtain ⟨W5, hW5⟩ : ∃ W5, W5 = w4.alloc (.cells #[.slice E1 T.sp.length e1, .slice E2 T.co.length e2, .bool T.firm] 25) := ⟨_, rfl⟩; rw [show w4.alloc (.cells #[.slice E1 T.sp.length e1, .slice E2 T.co.length e2, .bool T.firm] 25) = W5 from hW5.symm]; have h45 : Below w4.heap.size w4 W5 := (by rw [hW5]; exact below_alloc (Below.refl _ _) _); have hX5 : Blk W5 w4.heap.size 25 [.slice E1 T.sp.length e1, .slice E2 T.co.length e2, .bool T.firm] := (by rw [hW5]; exact Blk.new w4 25 [.slice E1 T.sp.length e1, .slice E2 T.co.length e2, .bool T.firm]); have hb5 := below_then hB4A.out hB4A.out.size h45; (with_reducible refine (hdr.out _ _ _ (hCA.out _ hb5) hc).mono ?_); rintro e w6 ⟨⟨u1, u2, rfl, hS, hC⟩, hb⟩; obtain ⟨D1, d1, hu1⟩ := Kd.R_slice hS; obtain ⟨D2, d2, hu2⟩ := Kd.R_slice hC; subst hu1; subst hu2; have h46 := below_then h45 h45.size hb; have hX6A := Aside0.mk (hX5.below hb); have hR6A := Aside0.mk (Kd.R_below hR4A.out h46); have hS6A := Aside0.mk (Kd.R_below hS4A.out h46); have hC6A := Aside0.mk (Kd.R_below hC4A.out h46); have hS7A := Aside0.mk hS; have hC7A := Aside0.mk hC; have hB6A := Aside0.mk (below_then hb5 hb5.size hb); have h67 : Below w6.heap.size w6 (w6.alloc (.cells #[.slice D1 T.sp.length d1, .slice D2 T.co.length d2, .bool T.firm] 25)) := below_alloc (Below.refl _ _) _; have hX7 := hX6A.out.below h67; have hU7 : Blk (w6.alloc (.cells #[.slice D1 T.sp.length d1, .slice D2 T.co.length d2, .bool T.firm] 25)) w6.heap.size 25 [.slice D1 T.sp.length d1, .slice D2 T.co.length d2, .bool T.firm] := Blk.new w6 25 [.slice D1 T.sp.length d1, .slice D2 T.co.length d2, .bool T.firm]; have t0 := hX7.get 0 _ rfl; have v10 := hU7.get 0 _ rfl; have t1 := hX7.get 1 _ rfl; have v11 := hU7.get 1 _ rfl; have t2 := hX7.get 2 _ rfl; have v12 := hU7.get 2 _ rfl; have hRbA := Aside0.mk (Kd.R_below hR6A.out h67); have hSbA := Aside0.mk (Kd.R_below hS6A.out h67); have hCbA := Aside0.mk (Kd.R_below hC6A.out h67); have hSwA := Aside0.mk (Kd.R_below hS7A.out h67); have hCwA := Aside0.mk (Kd.R_below hC7A.out h67); have hBbA := Aside0.mk (below_then hB6A.out hB6A.out.size h67); have hXbA := Aside0.mk hX7; have hUbA := Aside0.mk hU7; clear hW5 hb hS hC h45 hX5 hb5 h46 h67 hX7 hU7)) | (go_at_call 10; ((with_reducible refine (hNt.out _ _ _ _ _ _ _ _ _ (rowS_ hSbA.out) (rowC_ hCbA.out) (rowS_ hSwA.out) (rowC_ hCwA.out)).mono ?_); rintro e w9 ⟨rfl, hb⟩; clear t0 t1 t2 v10 v11 v12; have cv1 := run_text w9 B3 k3 l (Kd.R_reads' (Kd.R_below hRbA.out hb)).2.2; have hB9A := Aside0.mk (below_then hBbA.out hBbA.out.size hb); have cv2 := run_text w9 A c l (hCA.out _ hB9A.out); have hX9A := Aside0.mk (hXbA.out.below hb); have hS9A := Aside0.mk (Kd.R_below hSbA.out hb); have hC9A := Aside0.mk (Kd.R_below hCbA.out hb); clear hb)))
      refine wp_region_noPanic ?_
      clear cv1 cv2
      have H0 : Below w9.heap.size w9 w9.drew := pw_below_drewN (Below.refl _ _) 1
      refine wp_region_held_drew (S := fun V1 => Below w9.heap.size w9 V1) (by kernel_rfl) H0 (fun _ => ?_)
      generalize w9.drew = V0 at *
      -- REGION G
      refine wpAnyH_take (i := 0) (v := .bool true) (op_at rfl) (by kernel_rfl) (by kernel_rfl) (by kernel_rfl) (fun _ _ _ h => h) (Or.inl ⟨by rfl, fun w_ hSw => ?_⟩) H0 ?_
      · skip; go_simp
      try simp only [Act.put, List.setIfInBounds_toArray, List.set_cons_zero, List.set_cons_succ]
      refine wpAnyH_take (i := 1) (v := .bool false) (op_at rfl) (by kernel_rfl) (by kernel_rfl) (by kernel_rfl) (fun _ _ _ h => h) (Or.inl ⟨by rfl, fun w_ hSw => ?_⟩) H0 ?_
      · skip; go_simp
      try simp only [Act.put, List.setIfInBounds_toArray, List.set_cons_zero, List.set_cons_succ]
      refine wpAnyH_take (i := 2) (v := .bool false) (op_at rfl) (by kernel_rfl) (by kernel_rfl) (by kernel_rfl) (fun _ _ _ h => h) (Or.inl ⟨by rfl, fun w_ hSw => ?_⟩) H0 ?_
      · skip; go_simp
      try simp only [Act.put, List.setIfInBounds_toArray, List.set_cons_zero, List.set_cons_succ]
      refine wpAnyH_take (i := 3) (v := .agg #[.slice E1 T.sp.length e1, .slice E2 T.co.length e2, .bool T.firm]) (op_at rfl) (by kernel_rfl) (by kernel_rfl) (by kernel_rfl) (fun _ _ _ h => h) (yieldsIf_load_any (by rfl) _ _ rfl ⟨w4.heap.size, 0, none⟩ rfl _ _ (fun w_ hSw => (hX9A.out.below hSw).add) Try.underlying25 rfl (info_tx3_ _ _ _)) H0 ?_
      try simp only [Act.put, List.setIfInBounds_toArray, List.set_cons_zero, List.set_cons_succ]
      refine wpAnyH_take (i := 6) (v := .slice A l.length c) (op_at rfl) (by kernel_rfl) (by kernel_rfl) (by kernel_rfl) (fun _ _ _ h => h) (Or.inl ⟨by rfl, fun w_ hSw => ?_⟩) H0 ?_
      · skip; go_simp
      try simp only [Act.put, List.setIfInBounds_toArray, List.set_cons_zero, List.set_cons_succ]
      refine wpAnyH_take (i := 7) (v := .string (strOfNums l)) (op_at rfl) (by kernel_rfl) (by kernel_rfl) (by kernel_rfl) (fun _ _ _ h => h) (Or.inl ⟨by rfl, fun w_ hSw => (exec_text (.tmp 58) rfl A c l.length l rfl w_ rfl (hCA.out w_ (below_then hB9A.out hB9A.out.size hSw)))⟩) H0 ?_
      try simp only [Act.put, List.setIfInBounds_toArray, List.set_cons_zero, List.set_cons_succ]
      refine wpAnyH_ready (rs := [4]) (by kernel_rfl) (by simp) ?_
      refine AllReadyH.cons (op_at rfl) (fun K hK => ?_) AllReadyH.nil
      go_simp
      go_at_call 20
      with_reducible refine (hBy.out V0 E1 E2 e1 e2 (rowS_ (Kd.R_below hS9A.out H0)) (rowC_ (Kd.R_below hC9A.out H0))).mono ?_
      rintro e V1_ ⟨v_, rfl, hR_, hb_⟩
      rw [hencA.out (by trivial)] at hR_
      obtain ⟨A_, c_, hv_⟩ := Kd.R_slice hR_
      subst hv_
      go_wp2_with fail
      refine hK.out _ _ (below_then H0 H0.size hb_) (fun H1_ => ?_)
      have hcv_ := Aside0.mk (run_text V1_ A_ c_ l (Kd.R_reads' hR_).2.2)
      clear hK K hb_ hR_
      try simp only [Act.put, List.setIfInBounds_toArray, List.set_cons_zero, List.set_cons_succ]
      refine wpAnyH_ready (rs := [5]) (by kernel_rfl) (by simp) ?_
      refine AllReadyH.cons (op_at rfl) (fun K hK => ?_) AllReadyH.nil
      have hc_ := hcv_.out
      go_simp
      clear hc_
      refine hK.out _ _ H1_ (fun H2_ => ?_)
      clear hK K
      try simp only [Act.put, List.setIfInBounds_toArray, List.set_cons_zero, List.set_cons_succ]
      refine wpAnyH_take (i := 8) (v := .bool true) (op_at rfl) (by kernel_rfl) (by kernel_rfl) (by kernel_rfl) (fun _ _ _ h => h) (Or.inl ⟨by rfl, fun w_ hSw => ?_⟩) H2_ ?_
      · skip; go_simp
      try simp only [Act.put, List.setIfInBounds_toArray, List.set_cons_zero, List.set_cons_succ]
      refine wpAnyH_take (i := 9) (v := .bool true) (op_at rfl) (by kernel_rfl) (by kernel_rfl) (by kernel_rfl) (fun _ _ _ h => h) (Or.inl ⟨by rfl, fun w_ hSw => ?_⟩) H2_ ?_
      · skip; go_simp
      try simp only [Act.put, List.setIfInBounds_toArray, List.set_cons_zero, List.set_cons_succ]
      refine wpAnyH_take (i := 10) (v := .bool true) (op_at rfl) (by kernel_rfl) (by kernel_rfl) (by kernel_rfl) (fun _ _ _ h => h) (Or.inl ⟨by rfl, fun w_ hSw => ?_⟩) H2_ ?_
      · skip; go_simp
      try simp only [Act.put, List.setIfInBounds_toArray, List.set_cons_zero, List.set_cons_succ]
      refine wpAnyH_done (by kernel_rfl) ?_ _
      refine NoPanic.normal ?_
      have hHA := Aside0.mk H2_
      go_wp2
      go_ret
      exact ⟨rfl, below_then hB9A.out hB9A.out.size hHA.out⟩
      -- END G
    · simp only [Go.Proofs.Ytlgfekllkahfaaa.Q.errW, if_true, Bool.not_true] at hrd hdr
      go_enter Try.func5, Try.ntmps5
      go_wp2_with (first | (go_at_call 6; (with_reducible refine hAlA.out.mono ?_); rintro e w1 ⟨rfl, hb1⟩; have hb1A := Aside0.mk hb1; clear hb1) | ((with_reducible refine gate_dst (N := 13) rfl ?_); (refine Kd.R_lit (Kd.int .u8) (w0 := w) w.heap.size 5 rfl (N := 13) rfl (xs := ([] : List Int)) (inner := []) (ok := fun _ => True) (okp := fun _ => True) ?hr (Reps.none _ _) (fun _ hk => hk) trivial hb1A.out hb1A.out.size (by simp) ?_; (case hr => first | (go_simp; done) | (go_simp; rfl)); intro v2 w2 hR2 hB2 hg2 _; have hR2A := Aside0.mk hR2; have hB2A := Aside0.mk hB2; clear hR2 hB2 hg2)) | ((with_reducible refine gate_dst (N := 15) rfl ?_); at_builtin; (refine Kd.R_append_rows (Kd.int .u8) (w0 := w) w.heap.size rfl (.tmp 13) (.tmp 14) 49 5 (.int .u8 0) 1 rfl Try.underlying49 info_u8 rfl (by decide) (by omega) v2 [] l A _ _ (fun _ => True) (fun _ => False) rfl rfl hR2A.out (hCA.out _ hB2A.out) (fun _ _ h => h) (fun _ h => h.elim) (fun _ _ => trivial) hB2A.out hB2A.out.size (by simp; omega) ?_; intro v3 w3 hR3 hB3 hg3 _; rw [List.nil_append] at hR3; obtain ⟨B3, k3, hv3⟩ := Kd.R_slice hR3; subst hv3; have hR3A := Aside0.mk hR3; have hB3A := Aside0.mk hB3; clear hR3 hB3 hg3)) | (go_at_call 17; ((with_reducible refine (hrd.out _ _ _ (Kd.R_reads' hR3A.out).2.2 (Kd.R_reads' hR3A.out).2.1).mono ?_); rintro e w4 ⟨⟨u1, u2, rfl, hS, hC⟩, hb⟩; obtain ⟨E1, e1, hu1⟩ := Kd.R_slice hS; obtain ⟨E2, e2, hu2⟩ := Kd.R_slice hC; subst hu1; subst hu2; have hR4A := Aside0.mk (Kd.R_below hR3A.out hb); have hB4A := Aside0.mk (below_then hB3A.out hB3A.out.size hb); have hS4A := Aside0.mk hS; have hC4A := Aside0.mk hC; clear hb hS hC)) | (go_at_call 18; (obtain ⟨W5, hW5⟩ : ∃ W5, W5 = w4.alloc (.cells #[.slice E1 T.sp.length e1, .slice E2 T.co.length e2, .bool T.firm] 25) := ⟨_, rfl⟩; rw [show w4.alloc (.cells #[.slice E1 T.sp.length e1, .slice E2 T.co.length e2, .bool T.firm] 25) = W5 from hW5.symm]; have h45 : Below w4.heap.size w4 W5 := (by rw [hW5]; exact below_alloc (Below.refl _ _) _); have hX5 : Blk W5 w4.heap.size 25 [.slice E1 T.sp.length e1, .slice E2 T.co.length e2, .bool T.firm] := (by rw [hW5]; exact Blk.new w4 25 [.slice E1 T.sp.length e1, .slice E2 T.co.length e2, .bool T.firm]); have hb5 := below_then hB4A.out hB4A.out.size h45; (with_reducible refine (hdr.out _ _ _ (hCA.out _ hb5) hc).mono ?_); rintro e w6 ⟨⟨u1, u2, rfl, hS, hC⟩, hb⟩; obtain ⟨D1, d1, hu1⟩ := Kd.R_slice hS; obtain ⟨D2, d2, hu2⟩ := Kd.R_slice hC; subst hu1; subst hu2; have h46 := below_then h45 h45.size hb; have hX6A := Aside0.mk (hX5.below hb); have hR6A := Aside0.mk (Kd.R_below hR4A.out h46); have hS6A := Aside0.mk (Kd.R_below hS4A.out h46); have hC6A := Aside0.mk (Kd.R_below hC4A.out h46); have hS7A := Aside0.mk hS; have hC7A := Aside0.mk hC; have hB6A := Aside0.mk (below_then hb5 hb5.size hb); have h67 : Below w6.heap.size w6 (w6.alloc (.cells #[.slice D1 T.sp.length d1, .slice D2 T.co.length d2, .bool T.firm] 25)) := below_alloc (Below.refl _ _) _; have hX7 := hX6A.out.below h67; have hU7 : Blk (w6.alloc (.cells #[.slice D1 T.sp.length d1, .slice D2 T.co.length d2, .bool T.firm] 25)) w6.heap.size 25 [.slice D1 T.sp.length d1, .slice D2 T.co.length d2, .bool T.firm] := Blk.new w6 25 [.slice D1 T.sp.length d1, .slice D2 T.co.length d2, .bool T.firm]; have t0 := hX7.get 0 _ rfl; have v10 := hU7.get 0 _ rfl; have t1 := hX7.get 1 _ rfl; have v11 := hU7.get 1 _ rfl; have t2 := hX7.get 2 _ rfl; have v12 := hU7.get 2 _ rfl; have hRbA := Aside0.mk (Kd.R_below hR6A.out h67); have hSbA := Aside0.mk (Kd.R_below hS6A.out h67); have hCbA := Aside0.mk (Kd.R_below hC6A.out h67); have hSwA := Aside0.mk (Kd.R_below hS7A.out h67); have hCwA := Aside0.mk (Kd.R_below hC7A.out h67); have hBbA := Aside0.mk (below_then hB6A.out hB6A.out.size h67); have hXbA := Aside0.mk hX7; have hUbA := Aside0.mk hU7; clear hW5 hb hS hC h45 hX5 hb5 h46 h67 hX7 hU7)) | (go_at_call 19; ((with_reducible refine (is2_calls _).mono ?_); rintro e w8 ⟨rfl, hb⟩; clear t0 t1 t2 v10 v11 v12; have hX8 := hXbA.out.below hb; have hU8 := hUbA.out.below hb; have t0 := hX8.get 0 _ rfl; have v10 := hU8.get 0 _ rfl; have t1 := hX8.get 1 _ rfl; have v11 := hU8.get 1 _ rfl; have t2 := hX8.get 2 _ rfl; have v12 := hU8.get 2 _ rfl; have hRcA := Aside0.mk (Kd.R_below hRbA.out hb); have hScA := Aside0.mk (Kd.R_below hSbA.out hb); have hCcA := Aside0.mk (Kd.R_below hCbA.out hb); have hSyA := Aside0.mk (Kd.R_below hSwA.out hb); have hCyA := Aside0.mk (Kd.R_below hCwA.out hb); have hBcA := Aside0.mk (below_then hBbA.out hBbA.out.size hb); have hXcA := Aside0.mk hX8; clear hb hX8 hU8)) | (go_at_call 10; ((with_reducible refine (hNt.out _ _ _ _ _ _ _ _ _ (rowS_ hScA.out) (rowC_ hCcA.out) (rowS_ hSyA.out) (rowC_ hCyA.out)).mono ?_); rintro e w9 ⟨rfl, hb⟩; clear t0 t1 t2 v10 v11 v12; have cv1 := run_text w9 B3 k3 l (Kd.R_reads' (Kd.R_below hRcA.out hb)).2.2; have hB9A := Aside0.mk (below_then hBcA.out hBcA.out.size hb); have cv2 := run_text w9 A c l (hCA.out _ hB9A.out); have hX9A := Aside0.mk (hXcA.out.below hb); have hS9A := Aside0.mk (Kd.R_below hScA.out hb); have hC9A := Aside0.mk (Kd.R_below hCcA.out hb); clear hb)))
      refine wp_region_noPanic ?_
      clear cv1 cv2
      have H0 : Below w9.heap.size w9 w9.drew := pw_below_drewN (Below.refl _ _) 1
      refine wp_region_held_drew (S := fun V1 => Below w9.heap.size w9 V1) (by kernel_rfl) H0 (fun _ => ?_)
      generalize w9.drew = V0 at *
      -- REGION B
      refine wpAnyH_take (i := 0) (v := .bool false) (op_at rfl) (by kernel_rfl) (by kernel_rfl) (by kernel_rfl) (fun _ _ _ h => h) (Or.inl ⟨by rfl, fun w_ hSw => ?_⟩) H0 ?_
      · skip; go_simp
      try simp only [Act.put, List.setIfInBounds_toArray, List.set_cons_zero, List.set_cons_succ]
      refine wpAnyH_take (i := 1) (v := .bool true) (op_at rfl) (by kernel_rfl) (by kernel_rfl) (by kernel_rfl) (fun _ _ _ h => h) (Or.inl ⟨by rfl, fun w_ hSw => ?_⟩) H0 ?_
      · skip; go_simp
      try simp only [Act.put, List.setIfInBounds_toArray, List.set_cons_zero, List.set_cons_succ]
      refine wpAnyH_take (i := 2) (v := .bool true) (op_at rfl) (by kernel_rfl) (by kernel_rfl) (by kernel_rfl) (fun _ _ _ h => h) (Or.inl ⟨by rfl, fun w_ hSw => ?_⟩) H0 ?_
      · skip; go_simp
      try simp only [Act.put, List.setIfInBounds_toArray, List.set_cons_zero, List.set_cons_succ]
      refine wpAnyH_take (i := 3) (v := undef) (op_at rfl) (by kernel_rfl) (by kernel_rfl) (by kernel_rfl) (fun _ _ _ h => h) (Or.inr ⟨by rfl, rfl⟩) H0 ?_
      try simp only [Act.put, List.setIfInBounds_toArray, List.set_cons_zero, List.set_cons_succ]
      refine wpAnyH_take (i := 4) (v := undef) (op_at rfl) (by kernel_rfl) (by kernel_rfl) (by kernel_rfl) (fun _ _ _ h => h) (Or.inr ⟨by rfl, rfl⟩) H0 ?_
      try simp only [Act.put, List.setIfInBounds_toArray, List.set_cons_zero, List.set_cons_succ]
      refine wpAnyH_take (i := 5) (v := undef) (op_at rfl) (by kernel_rfl) (by kernel_rfl) (by kernel_rfl) (fun _ _ _ h => h) (Or.inr ⟨by rfl, rfl⟩) H0 ?_
      try simp only [Act.put, List.setIfInBounds_toArray, List.set_cons_zero, List.set_cons_succ]
      refine wpAnyH_take (i := 6) (v := undef) (op_at rfl) (by kernel_rfl) (by kernel_rfl) (by kernel_rfl) (fun _ _ _ h => h) (Or.inr ⟨by rfl, rfl⟩) H0 ?_
      try simp only [Act.put, List.setIfInBounds_toArray, List.set_cons_zero, List.set_cons_succ]
      refine wpAnyH_take (i := 7) (v := undef) (op_at rfl) (by kernel_rfl) (by kernel_rfl) (by kernel_rfl) (fun _ _ _ h => h) (Or.inr ⟨by rfl, rfl⟩) H0 ?_
      try simp only [Act.put, List.setIfInBounds_toArray, List.set_cons_zero, List.set_cons_succ]
      refine wpAnyH_take (i := 8) (v := undef) (op_at rfl) (by kernel_rfl) (by kernel_rfl) (by kernel_rfl) (fun _ _ _ h => h) (Or.inr ⟨by rfl, rfl⟩) H0 ?_
      try simp only [Act.put, List.setIfInBounds_toArray, List.set_cons_zero, List.set_cons_succ]
      refine wpAnyH_take (i := 9) (v := .bool true) (op_at rfl) (by kernel_rfl) (by kernel_rfl) (by kernel_rfl) (fun _ _ _ h => h) (Or.inl ⟨by rfl, fun w_ hSw => ?_⟩) H0 ?_
      · skip; go_simp
      try simp only [Act.put, List.setIfInBounds_toArray, List.set_cons_zero, List.set_cons_succ]
      refine wpAnyH_take (i := 10) (v := .bool true) (op_at rfl) (by kernel_rfl) (by kernel_rfl) (by kernel_rfl) (fun _ _ _ h => h) (Or.inl ⟨by rfl, fun w_ hSw => ?_⟩) H0 ?_
      · skip; go_simp
      try simp only [Act.put, List.setIfInBounds_toArray, List.set_cons_zero, List.set_cons_succ]
      refine wpAnyH_done (by kernel_rfl) ?_ _
      refine NoPanic.normal ?_
      have hHA := Aside0.mk H0
      go_wp2
      go_ret
      exact ⟨rfl, below_then hB9A.out hB9A.out.size hHA.out⟩
      -- END B
end Go.Proofs.Ytlgfekllkahfaaa.Walk
