/- Which lists of transactions are large. -/
import Derived.Test.YtlgfekllkahfaaaTyJ
import Derived.Test.YtlgfekllkahfaaaMCk
import Derived.Test.YtlgfekllkahfaaaTyY
set_option linter.unusedVariables false
set_option linter.unusedSimpArgs false
namespace Go.Proofs.Ytlgfekllkahfaaa.Pack
open Go.RowKit Go.Proofs.YtlgfekllkahfaaaW.PrintWords Go.Proofs.YtlgfekllkahfaaaW.PrintMore Go.Proofs.Ytlgfekllkahfaaa Go.Proofs.Ytlgfekllkahfaaa.Bits Sha ArrK ShaW
/-- a transaction's three cells in a row -/
def TrC (W : World) (t : Tr) (cs : List Value) : Prop := ∃ A1 A2 c1 c2, cs = trc t A1 A2 c1 c2 ∧ SpR0 W A1 t.sp.length t.sp ∧ CoR W A2 t.co.length t.co
theorem TrC.below {W W1 : World} {t : Tr} {cs : List Value} (h : TrC W t cs) (hb : Below W.heap.size W W1) : TrC W1 t cs := by
  obtain ⟨A1, A2, c1, c2, e, h1, h2⟩ := h
  exact ⟨A1, A2, c1, c2, e, h1.imp_ hb (fun _ _ h => h), h2.imp_ hb (fun _ _ h => h)⟩
abbrev TrR (W : World) (A : Option Addr) (n : Nat) (l : List Tr) : Prop := ReadsRow (TrC W) 3 W A n l
theorem TrR.below {W W1 : World} {A : Option Addr} {n : Nat} {l : List Tr} (h : TrR W A n l) (hb : Below W.heap.size W W1) : TrR W1 A n l := h.imp_ hb (fun _ _ h => h.below hb)
def lg : Nat → Nat → List Tr → Bool
  | _, n, [] => decide (5000 < n)
  | i, n, t :: r => if 60 < i ∨ 30 < t.sp.length ∨ 30 < t.co.length then true else lg (i + 1) (n + keys t.sp) r
def larges (l : List Tr) : Bool := lg 0 0 l
theorem lg_no : ∀ (l : List Tr) (i n : Nat), lg i n l = false → n ≤ 5000 ∧ ∀ t ∈ l, t.sp.length ≤ 30 ∧ t.co.length ≤ 30 ∧ ∀ s ∈ t.sp, s.key.size ≤ 5000
  | [], i, n, h => by simp [lg] at h; exact ⟨h, by simp⟩
  | t :: r, i, n, h => by
    rw [lg] at h
    split at h
    · cases h
    · obtain ⟨h1, h2⟩ := lg_no r _ _ h
      refine ⟨by omega, fun u hu => ?_⟩
      rcases List.mem_cons.1 hu with rfl | hu
      · exact ⟨by omega, by omega, fun s hs => by have := keys_mem u.sp s hs; omega⟩
      · exact h2 u hu
theorem larges_no {l : List Tr} (h : larges l = false) : ∀ t ∈ l, t.sp.length ≤ 30 ∧ t.co.length ≤ 30 ∧ ∀ s ∈ t.sp, s.key.size ≤ 5000 := (lg_no l 0 0 h).2
set_option maxRecDepth 100000 in
set_option maxHeartbeats 800000 in
theorem larges_calls (w : World) (A : Option Addr) (c : Nat) (ts : List Tr) (hT : TrR w A ts.length ts) : Calls Try.prog 7 #[.slice A ts.length c] w fun e w' => e = .returned (.bool (larges ts)) ∧ Below w.heap.size w w' := by
  have hTA := Aside0.mk hT
  have hlen : ts.length ≤ 9223372036854775807 := hT.2.1
  clear hT
  go_enter Try.func7, Try.ntmps7
  go_wp2_with fail
  go_loopw [10, 3] (fun i n wr => ∃ k m : Nat, k ≤ ts.length ∧ k ≤ 61 ∧ i = .int .i64 (k : Int) ∧ n = .int .i64 (m : Int) ∧ m ≤ k * 300000 ∧ larges ts = lg k m (ts.drop k) ∧ Below w.heap.size w wr) (fun i _ _ => ts.length - (intOf i).toNat)
  case atStart => exact ⟨0, 0, by omega, by omega, rfl, rfl, by omega, rfl, Below.refl _ _⟩
  case round =>
    obtain ⟨k, m, hk, hk61, rfl, rfl, hm, hlg, hB⟩ := hrel
    by_cases hlt : k < ts.length
    · obtain ⟨t, ht⟩ : ∃ t, ts[k]? = some t := ⟨_, List.getElem?_eq_getElem hlt⟩
      obtain ⟨ad, cs, rfl, ⟨A1, A2, c1, c2, rfl, hS, hC⟩, -, hcell⟩ := row_at (hTA.out.below hB) k t ht
      have hd : ts.drop k = t :: ts.drop (k + 1) := by rw [List.drop_eq_getElem_cons hlt, (List.getElem?_eq_some_iff.1 ht).2]
      obtain ⟨sp, co, firm⟩ := t
      rw [hd, lg] at hlg
      simp only at hlg hS hC
      have hcellA := Aside0.mk hcell; have hSA := Aside0.mk hS; have hBA := Aside0.mk hB; have hlgA := Aside0.mk hlg
      have hiA := Aside0.mk (info_tx ⟨sp, co, firm⟩ A1 A2 c1 c2)
      clear hcell hS hC hB hlg hd ht
      have p8 : (k : Int) < (ts.length : Int) := by omega
      have p9 : (0 : Int) ≤ (k : Int) := by omega
      have e8 : IntKind.i64.wrap ((k : Int) + 1) = (k : Int) + 1 := IntWalk.i64_in _ (by omega)
      obtain ⟨S, hSz⟩ : ∃ S, S = wr.heap.size := ⟨_, rfl⟩
      have hSzA := Aside0.mk hSz
      clear hSz
      by_cases q0 : 60 < k
      · have p0 : (60 : Int) < (k : Int) := by omega
        go_wp2_with (first | ((with_reducible refine gate_dst (N := 14) rfl ?_); (refine wpList_load_any rfl 25 (.tmp 13) rfl (ad.add (k * 3)) rfl (trc ⟨sp, co, firm⟩ A1 A2 c1 c2) _ hcellA.out Try.underlying25 rfl hiA.out ?_)))
        go_ret
        exact ⟨by rw [hlgA.out, if_pos (Or.inl q0)]; rfl, below_alloc hBA.out _⟩
      · have p0 : ¬ (60 : Int) < (k : Int) := by omega
        by_cases q1 : 30 < sp.length
        · have p1 : (30 : Int) < (sp.length : Int) := by omega
          go_wp2_with (first | ((with_reducible refine gate_dst (N := 14) rfl ?_); (refine wpList_load_any rfl 25 (.tmp 13) rfl (ad.add (k * 3)) rfl (trc ⟨sp, co, firm⟩ A1 A2 c1 c2) _ hcellA.out Try.underlying25 rfl hiA.out ?_)))
          go_ret
          exact ⟨by rw [hlgA.out, if_pos (Or.inr (Or.inl q1))]; rfl, below_alloc hBA.out _⟩
        · have p1 : ¬ (30 : Int) < (sp.length : Int) := by omega
          by_cases q2 : 30 < co.length
          · have p2 : (30 : Int) < (co.length : Int) := by omega
            go_wp2_with (first | ((with_reducible refine gate_dst (N := 14) rfl ?_); (refine wpList_load_any rfl 25 (.tmp 13) rfl (ad.add (k * 3)) rfl (trc ⟨sp, co, firm⟩ A1 A2 c1 c2) _ hcellA.out Try.underlying25 rfl hiA.out ?_)))
            go_ret
            exact ⟨by rw [hlgA.out, if_pos (Or.inr (Or.inr q2))]; rfl, below_alloc hBA.out _⟩
          · have p2 : ¬ (30 : Int) < (co.length : Int) := by omega
            go_wp2_with (first | ((with_reducible refine gate_dst (N := 14) rfl ?_); (refine wpList_load_any rfl 25 (.tmp 13) rfl (ad.add (k * 3)) rfl (trc ⟨sp, co, firm⟩ A1 A2 c1 c2) _ hcellA.out Try.underlying25 rfl hiA.out ?_)))
            go_loopw [32, 3] (fun i n wr => ∃ j : Nat, j ≤ sp.length ∧ i = .int .i64 (j : Int) ∧ n = .int .i64 ((m + keys (sp.take j) : Nat) : Int) ∧ SpR0 wr A1 sp.length sp ∧ Below w.heap.size w wr) (fun i _ _ => sp.length - (intOf i).toNat)
            case atStart => exact ⟨0, by omega, rfl, by simp [keys], hSA.out.imp_ (below_alloc (Below.refl _ _) _) (fun _ _ h => h), below_alloc hBA.out _⟩
            case round =>
              obtain ⟨j, hj, rfl, rfl, hS, hB⟩ := hrel
              clear hBA hSzA hSA
              have hBA := Aside0.mk hB
              have hSA := Aside0.mk hS
              clear hB hS
              have hkb : keys (sp.take j) ≤ 300000 := by have := keys_le (sp.take j); have h3 : (sp.take j).length ≤ 30 := by rw [List.length_take]; omega
                                                         have := Nat.mul_le_mul_right 10000 h3; omega
              have hmb : m ≤ 18300000 := by have := Nat.mul_le_mul_right 300000 hk61; omega
              by_cases hlt2 : j < sp.length
              · obtain ⟨s, hs⟩ : ∃ s, sp[j]? = some s := ⟨_, List.getElem?_eq_getElem hlt2⟩
                obtain ⟨ad2, cs, rfl, ⟨hok, rfl⟩, -, hcell⟩ := row_at hSA.out j s hs
                have hkt := keys_take sp j s hs
                have p3 : (j : Int) < (sp.length : Int) := by omega
                have p4 : (0 : Int) ≤ (j : Int) := by omega
                have e2 : IntKind.i64.wrap ((j : Int) + 1) = (j : Int) + 1 := IntWalk.i64_in _ (by omega)
                have t2 := spc_key s hok.1
                have hi := info_spend s hok.1
                have hll := spc_length s hok.1
                have hone := spc_one s
                have hks := hok.2.2.2.2
                obtain ⟨S, hSz⟩ : ∃ S, S = wr.heap.size := ⟨_, rfl⟩
                generalize keys (sp.take j) = n at *
                have hktA := Aside0.mk hkt; have t2A := Aside0.mk t2; have hiA2 := Aside0.mk hi; have hllA := Aside0.mk hll; have honeA := Aside0.mk hone; have hceA := Aside0.mk hcell; have hSzA := Aside0.mk hSz
                clear hkt t2 hi hll hone hcell hSz hs hok
                have e3 : min (s.key.size : Int) 10000 = ((min s.key.size 10000 : Nat) : Int) := by omega
                have e4 : IntKind.i64.wrap (((m + n : Nat) : Int) + ((min s.key.size 10000 : Nat) : Int)) = ((m + n + min s.key.size 10000 : Nat) : Int) := by rw [IntWalk.i64_in _ (by omega)]; omega
                generalize hmn : m + n = q at *
                go_wp2_with (first | ((with_reducible refine gate_dst (N := 35) rfl ?_); (refine wpList_load_any rfl 36 (.tmp 34) rfl (ad2.add (j * 35)) rfl (spc s) _ hceA.out Try.underlying36 rfl hiA2.out ?_)) | ((with_reducible refine gate_dst (N := 7) rfl ?_); (refine wpList_new_put rfl (N := 7) rfl rfl 36 (.tmp 35) rfl (spc s) (spc zsp) (by rw [hllA.out]; rfl) ?hr rfl rfl hiA2.out honeA.out ?_; (case hr => first | (go_simp; done) | (go_simp; rfl)); intro w2 hX2 hb2 hs2; rw [← hSzA.out] at hX2 ⊢; have g33 := hX2.get 33 _ t2A.out; have hB2A := Aside0.mk (below_then hBA.out hBA.out.size hb2); have hS2A := Aside0.mk (hSA.out.imp_ hb2 (fun _ _ h => h)); clear hX2 hb2 hs2)))
                go_roundw
                · exact ⟨j + 1, by omega, by go_num, by rw [hktA.out, ← Nat.add_assoc, hmn]; congr 1; split <;> omega, hS2A.out, hB2A.out⟩
                · simp [intOf]; omega
              · obtain rfl : j = sp.length := by omega
                have p3 : ¬ (sp.length : Int) < (sp.length : Int) := by omega
                rw [List.take_of_length_le (Nat.le_refl _)] at *
                generalize hmn : m + keys sp = q at *
                go_wp2_with fail
                go_roundw
                · exact ⟨k + 1, q, by omega, by omega, by go_num, rfl, by have := Nat.mul_le_mul_right 300000 hk61; omega, by rw [hlgA.out, if_neg (by omega)], hBA.out⟩
                · simp [intOf]; omega
    · obtain rfl : k = ts.length := by omega
      have p8 : ¬ (ts.length : Int) < (ts.length : Int) := by omega
      rw [List.drop_length] at hlg
      have hBA := Aside0.mk hB
      have hlgA := Aside0.mk hlg
      clear hB hlg
      by_cases q : 5000 < m
      · have p : (5000 : Int) < (m : Int) := by omega
        go_wp2_with fail
        go_ret
        exact ⟨by rw [hlgA.out]; simp [lg, q], hBA.out⟩
      · have p : ¬ (5000 : Int) < (m : Int) := by omega
        go_wp2_with fail
        go_ret
        exact ⟨by rw [hlgA.out]; simp [lg, q], hBA.out⟩
end Go.Proofs.Ytlgfekllkahfaaa.Pack
/- Which transactions are good, what they are worth, which are the same.
   Conditions: none. -/
set_option linter.unusedVariables false
set_option linter.unusedSimpArgs false
namespace Go.Proofs.Ytlgfekllkahfaaa.Walk
open Go.RowKit Go.Proofs.YtlgfekllkahfaaaW.PrintWords Go.Proofs.YtlgfekllkahfaaaW.PrintMore Go.Proofs.Ytlgfekllkahfaaa Go.Proofs.Ytlgfekllkahfaaa.Bits Sha ArrK ShaW Pack
open Go.Proofs.Ytlgfekllkahfaaa.InRound (op_at)
theorem alike_self {α : Type} (f : α → α → Bool) (hf : ∀ x, f x x = true) (l : List α) : alike f l l = true := by
  unfold alike
  rw [List.all_eq_true]
  intro p hp
  have : p.1 = p.2 := by
    obtain ⟨i, hi⟩ := List.mem_iff_getElem?.1 hp
    rw [List.getElem?_zip_eq_some] at hi
    exact Option.some.inj (hi.1.symm.trans hi.2)
  rw [this]; exact hf _
theorem sameT_self (t : Tr) : sameT t t = true := by
  unfold sameT
  rw [alike_self eqS (fun s => by simp [eqS]), alike_self eqC (fun c => by simp [eqC])]
  simp
theorem chkv_is (t : Tr) : chkv t = none ∨ chkv t = some 2 ∨ chkv t = some 8 ∨ chkv t = some 9 := by
  unfold chkv
  split
  · have hz : (outv t).2 = none ∨ (outv t).2 = some 9 := totl_err _ _
    rcases hz with h | h <;> rw [h]
    · simp only; split <;> simp
    · simp
  · simp
theorem num_calls (x : Option Int) (hx : x = none ∨ x = some 2 ∨ x = some 8 ∨ x = some 9) (w : World) : Calls Try.prog 13 #[Go.Proofs.Ytlgfekllkahfaaa.Q.errW x] w fun e w' => e = .returned (.int .i64 (nume x)) ∧ Below w.heap.size w w' := by
  have h := Go.Proofs.Ytlgfekllkahfaaa.R.gossamernum_Num.calls x (nume x) w (by rcases hx with rfl | rfl | rfl | rfl <;> rfl)
  have e : Go.Proofs.Ytlgfekllkahfaaa.R.errW x = Go.Proofs.Ytlgfekllkahfaaa.Q.errW x := by cases x <;> rfl
  rw [e] at h
  exact h.mono fun e w' ⟨h1, h2⟩ => ⟨h1, h2.below⟩
theorem row_two {W : World} {b : Nat} {t u : Tr} {A1 A2 B1 B2 : Option Addr} {c1 c2 d1 d2 : Nat} (hb : Blk W b 25 [.slice A1 t.sp.length c1, .slice A2 t.co.length c2, .bool t.firm, .slice B1 u.sp.length d1, .slice B2 u.co.length d2, .bool u.firm])
    (h1 : TrC W t (trc t A1 A2 c1 c2)) (h2 : TrC W u (trc u B1 B2 d1 d2)) : TrR W (some ⟨b, 0, none⟩) 2 [t, u] := by
  refine ⟨rfl, by decide, fun _ => ⟨_, rfl, fun i p hi => ?_⟩⟩
  match i, hi with
  | 0, hi =>
    obtain rfl : t = p := Option.some.inj hi
    refine ⟨_, rfl, h1, fun j x hx => ?_⟩
    rw [show 0 + j = j by omega]
    refine hb.add j x ?_
    have hj : j < 3 := (List.getElem?_eq_some_iff.1 hx).1
    match j, hj, hx with
    | 0, _, hx => exact hx
    | 1, _, hx => exact hx
    | 2, _, hx => exact hx
  | 1, hi =>
    obtain rfl : u = p := Option.some.inj hi
    refine ⟨_, rfl, h2, fun j x hx => ?_⟩
    refine hb.add (3 + j) x ?_
    have hj : j < 3 := (List.getElem?_eq_some_iff.1 hx).1
    match j, hj, hx with
    | 0, _, hx => exact hx
    | 1, _, hx => exact hx
    | 2, _, hx => exact hx
  | i + 2, hi => simp at hi
set_option maxRecDepth 100000 in
set_option maxHeartbeats 1600000 in
theorem TxChecks (t u : Tr) (A1 A2 B1 B2 : Option Addr) (c1 c2 d1 d2 : Nat) (w : World) (hS : SpR0 w A1 t.sp.length t.sp) (hC : CoR w A2 t.co.length t.co) (hS' : SpR0 w B1 u.sp.length u.sp) (hC' : CoR w B2 u.co.length u.co) (hc1 : t.sp.length ≤ c1) :
    Calls Try.prog 4 #[trv t A1 A2 c1 c2, trv u B1 B2 d1 d2] w fun e w' => e = .returned (.bool true) ∧ Below w.heap.size w w' := by
  obtain ⟨V, hV⟩ : ∃ V, V = (w.alloc (.cells (trc t A1 A2 c1 c2).toArray 25)).alloc (.cells (trc u B1 B2 d1 d2).toArray 25) := ⟨_, rfl⟩
  have hX : Blk V w.heap.size 25 (trc t A1 A2 c1 c2) := by rw [hV]; exact (Blk.new w _ _).alloc _
  have hZ : Blk V (w.heap.size + 1) 25 (trc u B1 B2 d1 d2) := by
    have := Blk.new (w.alloc (.cells (trc t A1 A2 c1 c2).toArray 25)) 25 (trc u B1 B2 d1 d2)
    rw [hV]; rwa [World.size_alloc] at this
  have hB : Below w.heap.size w V := by rw [hV]; exact below_alloc (below_alloc (Below.refl _ _) _) _
  have hAl := alive10_calls V
  have hSA := Aside0.mk hS; have hCA := Aside0.mk hC; have hSA' := Aside0.mk hS'; have hCA' := Aside0.mk hC'
  have hVA := Aside0.mk hV; have hXA := Aside0.mk hX; have hZA := Aside0.mk hZ; have hBA := Aside0.mk hB; have hAlA := Aside0.mk hAl; have hiA := Aside0.mk (info_tx t A1 A2 c1 c2); have hjA := Aside0.mk (info_tx u B1 B2 d1 d2)
  clear hV hX hZ hB hAl hS hC hS' hC'
  generalize hlg : larges [t, u] = g
  have hlA := Aside0.mk hlg
  clear hlg
  have hLgA : Aside0 (∀ W1 : World, Below w.heap.size w W1 → Calls Try.prog 7 #[.slice (some ⟨W1.heap.size, 0, none⟩) 2 2] (W1.alloc (.cells #[.slice A1 t.sp.length c1, .slice A2 t.co.length c2, .bool t.firm, .slice B1 u.sp.length d1, .slice B2 u.co.length d2, .bool u.firm] 25)) fun e w' => e = .returned (.bool (larges [t, u])) ∧ Below (W1.alloc (.cells #[.slice A1 t.sp.length c1, .slice A2 t.co.length c2, .bool t.firm, .slice B1 u.sp.length d1, .slice B2 u.co.length d2, .bool u.firm] 25)).heap.size (W1.alloc (.cells #[.slice A1 t.sp.length c1, .slice A2 t.co.length c2, .bool t.firm, .slice B1 u.sp.length d1, .slice B2 u.co.length d2, .bool u.firm] 25)) w') := Aside0.mk (fun (W1 : World) (hW : Below w.heap.size w W1) => by
    have hW2 : Below w.heap.size w (W1.alloc (.cells #[.slice A1 t.sp.length c1, .slice A2 t.co.length c2, .bool t.firm, .slice B1 u.sp.length d1, .slice B2 u.co.length d2, .bool u.firm] 25)) := below_alloc hW _
    exact larges_calls (W1.alloc (.cells #[.slice A1 t.sp.length c1, .slice A2 t.co.length c2, .bool t.firm, .slice B1 u.sp.length d1, .slice B2 u.co.length d2, .bool u.firm] 25)) (some ⟨W1.heap.size, 0, none⟩) 2 [t, u]
      (row_two (Blk.new W1 25 [.slice A1 t.sp.length c1, .slice A2 t.co.length c2, .bool t.firm, .slice B1 u.sp.length d1, .slice B2 u.co.length d2, .bool u.firm]) ⟨A1, A2, c1, c2, rfl, hSA.out.imp_ hW2 (fun _ _ h => h), hCA.out.imp_ hW2 (fun _ _ h => h)⟩ ⟨B1, B2, d1, d2, rfl, hSA'.out.imp_ hW2 (fun _ _ h => h), hCA'.out.imp_ hW2 (fun _ _ h => h)⟩))
  have e0 : (w.alloc (.cells #[.slice A1 t.sp.length c1, .slice A2 t.co.length c2, .bool t.firm] 25)).alloc (.cells #[.slice B1 u.sp.length d1, .slice B2 u.co.length d2, .bool u.firm] 25) = V := hVA.out.symm
  have e0A := Aside0.mk e0
  clear e0
  cases g
  · obtain ⟨l1, l2, l3⟩ := larges_no hlA.out t (by simp)
    obtain ⟨m1, m2, m3⟩ := larges_no hlA.out u (by simp)
    have hOu := Aside0.mk (fun (W : World) (hW : Below w.heap.size w W) => out_calls (t := t) (A1 := A1) (A2 := A2) (c1 := c1) (c2 := c2) W (hCA.out.imp_ hW (fun _ _ h => h)) (by omega))
    have hRo := Aside0.mk (fun (W : World) (hW : Below w.heap.size w W) => rout_calls (t := t) (A1 := A1) (A2 := A2) (c1 := c1) (c2 := c2) W (hCA.out.imp_ hW (fun _ _ h => h)) (by omega))
    have hCk := Aside0.mk (fun (W : World) (hW : Below w.heap.size w W) => check_calls (t := t) (A1 := A1) (A2 := A2) (c1 := c1) (c2 := c2) W (hSA.out.imp_ hW (fun _ _ h => h)) (hCA.out.imp_ hW (fun _ _ h => h)) hc1 (by omega) (by omega))
    have hRk := Aside0.mk (fun (W : World) (hW : Below w.heap.size w W) => rchk_calls (t := t) (A1 := A1) (A2 := A2) (c1 := c1) (c2 := c2) W (hSA.out.imp_ hW (fun _ _ h => h)) (hCA.out.imp_ hW (fun _ _ h => h)) (by omega) (by omega))
    have hSm := Aside0.mk (fun (W : World) (hW : Below w.heap.size w W) => txsame_calls (a := t) (b := u) (A1 := A1) (A2 := A2) (c1 := c1) (c2 := c2) (B1 := B1) (B2 := B2) (d1 := d1) (d2 := d2) W (hSA.out.imp_ hW (fun _ _ h => h)) (hCA.out.imp_ hW (fun _ _ h => h)) (hSA'.out.imp_ hW (fun _ _ h => h)) (hCA'.out.imp_ hW (fun _ _ h => h)))
    have hNt := Aside0.mk (fun (W : World) (hW : Below w.heap.size w W) => numtx_calls (a := t) (b := u) (A1 := A1) (A2 := A2) (c1 := c1) (c2 := c2) (B1 := B1) (B2 := B2) (d1 := d1) (d2 := d2) W (hSA.out.imp_ hW (fun _ _ h => h)) (hCA.out.imp_ hW (fun _ _ h => h)) (hSA'.out.imp_ hW (fun _ _ h => h)) (hCA'.out.imp_ hW (fun _ _ h => h)) (by omega) (by omega))
    have hS1 := Aside0.mk (fun (W : World) (hW : Below w.heap.size w W) => by
      have h := txsame_calls (a := t) (b := t) (A1 := A1) (A2 := A2) (c1 := c1) (c2 := c2) (B1 := A1) (B2 := A2) (d1 := c1) (d2 := c2) W (hSA.out.imp_ hW (fun _ _ h => h)) (hCA.out.imp_ hW (fun _ _ h => h)) (hSA.out.imp_ hW (fun _ _ h => h)) (hCA.out.imp_ hW (fun _ _ h => h))
      rw [sameT_self] at h
      exact h)
    have hck := chkv_is t
    have hou : (outv t).2 = none ∨ (outv t).2 = some 2 ∨ (outv t).2 = some 8 ∨ (outv t).2 = some 9 := by have := totl_err (t.co.map Co.value) 0; unfold outv; rcases this with h | h <;> simp [h]
    generalize outv t = z at *
    obtain ⟨z1, z2⟩ := z
    simp only at hou hOu hRo
    generalize chkv t = x at *
    generalize sameT t u = sm at *
    have hN1 := Aside0.mk (fun W => num_calls x hck W)
    have hN2 := Aside0.mk (fun W => num_calls z2 hou W)
    generalize nume x = nx at *
    generalize nume z2 = nz at *
    generalize Go.Proofs.Ytlgfekllkahfaaa.Q.errW x = ex at *
    generalize Go.Proofs.Ytlgfekllkahfaaa.Q.errW z2 = ez at *
    clear hck hou
    go_enter Try.func4, Try.ntmps4
    go_wp2_with (first | (go_at_call 6; (rw [e0A.out]; (with_reducible refine hAlA.out.mono ?_); rintro e w1 ⟨rfl, hb1⟩; have hXtA := Aside0.mk (hXA.out.below hb1); have hZtA := Aside0.mk (hZA.out.below hb1); have hb1A := Aside0.mk (below_then hBA.out hBA.out.size hb1); clear hb1)) | ((with_reducible refine gate_dst (N := 11) rfl ?_); (refine wpList_load_blk rfl 25 (.tmp 2) rfl w.heap.size 25 rfl (trc t A1 A2 c1 c2) _ hXtA.out Try.underlying25 rfl hiA.out ?_)) | ((with_reducible refine gate_dst (N := 12) rfl ?_); (refine wpList_load_blk rfl 25 (.tmp 3) rfl (w.heap.size + 1) 25 rfl (trc u B1 B2 d1 d2) _ hZtA.out Try.underlying25 rfl hjA.out ?_)) | (go_at_call 7; ((with_reducible refine (hLgA.out _ hb1A.out).mono ?_); rintro e w3 ⟨rfl, hb3⟩; rw [hlA.out]; have hX3A := Aside0.mk (hXtA.out.below ((below_alloc (Below.refl _ _) _).trans (hb3.mono (by simp)))); have hZ3A := Aside0.mk (hZtA.out.below ((below_alloc (Below.refl _ _) _).trans (hb3.mono (by simp)))); have hb3A := Aside0.mk (below_then hb1A.out hb1A.out.size ((below_alloc (Below.refl _ _) _).trans (hb3.mono (by simp)))); clear hb3)) | ((with_reducible refine gate_dst (N := 16) rfl ?_); (refine wpList_load_blk rfl 25 (.tmp 2) rfl w.heap.size 25 rfl (trc t A1 A2 c1 c2) _ hX3A.out Try.underlying25 rfl hiA.out ?_)) | (go_at_call 11; ((with_reducible refine (hOu.out _ hb3A.out).mono ?_); rintro e w4 ⟨rfl, hb⟩; have hX4A := Aside0.mk (hX3A.out.below hb); have hZ4A := Aside0.mk (hZ3A.out.below hb); have hb4A := Aside0.mk (below_then hb3A.out hb3A.out.size hb); clear hb)) | ((with_reducible refine gate_dst (N := 21) rfl ?_); (refine wpList_load_blk rfl 25 (.tmp 2) rfl w.heap.size 25 rfl (trc t A1 A2 c1 c2) _ hX4A.out Try.underlying25 rfl hiA.out ?_)) | (go_at_call 12; ((with_reducible refine (hRo.out _ hb4A.out).mono ?_); rintro e w5 ⟨rfl, hb⟩; have hX5A := Aside0.mk (hX4A.out.below hb); have hZ5A := Aside0.mk (hZ4A.out.below hb); have hb5A := Aside0.mk (below_then hb4A.out hb4A.out.size hb); clear hb)))
    refine wp_region_noPanic ?_
    have H0 : Below w.heap.size w w5.drew := pw_below_drewN hb5A.out 1
    have hXf : Aside0 (∀ W, Below w5.heap.size w5 W → ∀ (j : Nat) v, (trc t A1 A2 c1 c2)[j]? = some v → W.cell? ((⟨w.heap.size, 0, none⟩ : Addr).add j) = some v) := Aside0.mk (fun W hW => (hX5A.out.below hW).add)
    have hZf : Aside0 (∀ W, Below w5.heap.size w5 W → ∀ (j : Nat) v, (trc u B1 B2 d1 d2)[j]? = some v → W.cell? ((⟨w.heap.size + 1, 0, none⟩ : Addr).add j) = some v) := Aside0.mk (fun W hW => (hZ5A.out.below hW).add)
    have H0 : Below w5.heap.size w5 w5.drew := pw_below_drewN (Below.refl _ _) 1
    refine wp_region_held_drew (S := fun V1 => Below w5.heap.size w5 V1) (by kernel_rfl) H0 (fun _ => ?_)
    generalize w5.drew = V0 at *
    -- REGION A
    refine wpAnyH_take (i := 0) (v := .agg (trc t A1 A2 c1 c2).toArray) (op_at rfl) (by kernel_rfl) (by kernel_rfl) (by kernel_rfl) (fun _ _ _ h => h) (yieldsIf_load_any (by rfl) _ _ rfl ⟨w.heap.size, 0, none⟩ rfl _ _ (fun w_ hSw => hXf.out w_ hSw) Try.underlying25 rfl hiA.out) H0 ?_
    try simp only [Act.put, List.setIfInBounds_toArray, List.set_cons_zero, List.set_cons_succ]
    refine wpAnyH_take (i := 3) (v := .agg (trc t A1 A2 c1 c2).toArray) (op_at rfl) (by kernel_rfl) (by kernel_rfl) (by kernel_rfl) (fun _ _ _ h => h) (yieldsIf_load_any (by rfl) _ _ rfl ⟨w.heap.size, 0, none⟩ rfl _ _ (fun w_ hSw => hXf.out w_ hSw) Try.underlying25 rfl hiA.out) H0 ?_
    try simp only [Act.put, List.setIfInBounds_toArray, List.set_cons_zero, List.set_cons_succ]
    refine wpAnyH_ready (rs := [1]) (by kernel_rfl) (by simp) ?_
    refine AllReadyH.cons (op_at rfl) (fun K hK => ?_) AllReadyH.nil
    go_simp
    go_at_call 14
    with_reducible refine (hCk.out V0 (below_then hb5A.out hb5A.out.size H0)).mono ?_
    rintro e V1_ ⟨rfl, hb⟩
    go_wp2_with fail
    refine hK.out _ _ (below_then H0 H0.size hb) (fun H1_ => ?_)
    clear hK K hb
    try simp only [Act.put, List.setIfInBounds_toArray, List.set_cons_zero, List.set_cons_succ]
    refine wpAnyH_ready (rs := [2]) (by kernel_rfl) (by simp) ?_
    refine AllReadyH.cons (op_at rfl) (fun K hK => ?_) AllReadyH.nil
    go_simp
    go_at_call 13
    with_reducible refine (hN1.out V1_).mono ?_
    rintro e V2_ ⟨rfl, hb⟩
    go_wp2_with fail
    refine hK.out _ _ (below_then H1_ H1_.size hb) (fun H2_ => ?_)
    clear hK K hb
    try simp only [Act.put, List.setIfInBounds_toArray, List.set_cons_zero, List.set_cons_succ]
    refine wpAnyH_ready (rs := [4]) (by kernel_rfl) (by simp) ?_
    refine AllReadyH.cons (op_at rfl) (fun K hK => ?_) AllReadyH.nil
    go_simp
    go_at_call 15
    with_reducible refine (hRk.out V2_ (below_then hb5A.out hb5A.out.size H2_)).mono ?_
    rintro e V3_ ⟨rfl, hb⟩
    go_wp2_with fail
    refine hK.out _ _ (below_then H2_ H2_.size hb) (fun H3_ => ?_)
    clear hK K hb
    try simp only [Act.put, List.setIfInBounds_toArray, List.set_cons_zero, List.set_cons_succ]
    refine wpAnyH_take (i := 5) (v := .bool true) (op_at rfl) (by kernel_rfl) (by kernel_rfl) (by kernel_rfl) (fun _ _ _ h => h) (Or.inl ⟨by rfl, fun w_ hSw => ?_⟩) H3_ ?_
    · skip; go_simp
    try simp only [Act.put, List.setIfInBounds_toArray, List.set_cons_zero, List.set_cons_succ]
    refine wpAnyH_take (i := 6) (v := .bool true) (op_at rfl) (by kernel_rfl) (by kernel_rfl) (by kernel_rfl) (fun _ _ _ h => h) (Or.inl ⟨by rfl, fun w_ hSw => ?_⟩) H3_ ?_
    · skip; go_simp
    try simp only [Act.put, List.setIfInBounds_toArray, List.set_cons_zero, List.set_cons_succ]
    refine wpAnyH_take (i := 7) (v := .int .i64 z1) (op_at rfl) (by kernel_rfl) (by kernel_rfl) (by kernel_rfl) (fun _ _ _ h => h) (Or.inl ⟨by rfl, fun w_ hSw => ?_⟩) H3_ ?_
    · skip; go_simp
    try simp only [Act.put, List.setIfInBounds_toArray, List.set_cons_zero, List.set_cons_succ]
    refine wpAnyH_take (i := 8) (v := .int .i64 z1) (op_at rfl) (by kernel_rfl) (by kernel_rfl) (by kernel_rfl) (fun _ _ _ h => h) (Or.inl ⟨by rfl, fun w_ hSw => ?_⟩) H3_ ?_
    · skip; go_simp
    try simp only [Act.put, List.setIfInBounds_toArray, List.set_cons_zero, List.set_cons_succ]
    refine wpAnyH_take (i := 9) (v := .bool true) (op_at rfl) (by kernel_rfl) (by kernel_rfl) (by kernel_rfl) (fun _ _ _ h => h) (Or.inl ⟨by rfl, fun w_ hSw => ?_⟩) H3_ ?_
    · skip; go_simp
    try simp only [Act.put, List.setIfInBounds_toArray, List.set_cons_zero, List.set_cons_succ]
    refine wpAnyH_take (i := 10) (v := .bool true) (op_at rfl) (by kernel_rfl) (by kernel_rfl) (by kernel_rfl) (fun _ _ _ h => h) (Or.inl ⟨by rfl, fun w_ hSw => ?_⟩) H3_ ?_
    · skip; go_simp
    try simp only [Act.put, List.setIfInBounds_toArray, List.set_cons_zero, List.set_cons_succ]
    refine wpAnyH_take (i := 11) (v := .bool true) (op_at rfl) (by kernel_rfl) (by kernel_rfl) (by kernel_rfl) (fun _ _ _ h => h) (Or.inl ⟨by rfl, fun w_ hSw => ?_⟩) H3_ ?_
    · skip; go_simp
    try simp only [Act.put, List.setIfInBounds_toArray, List.set_cons_zero, List.set_cons_succ]
    refine wpAnyH_take (i := 12) (v := ez) (op_at rfl) (by kernel_rfl) (by kernel_rfl) (by kernel_rfl) (fun _ _ _ h => h) (Or.inl ⟨by rfl, fun w_ hSw => ?_⟩) H3_ ?_
    · skip; go_simp
    try simp only [Act.put, List.setIfInBounds_toArray, List.set_cons_zero, List.set_cons_succ]
    refine wpAnyH_take (i := 14) (v := .int .i64 nz) (op_at rfl) (by kernel_rfl) (by kernel_rfl) (by kernel_rfl) (fun _ _ _ h => h) (Or.inl ⟨by rfl, fun w_ hSw => ?_⟩) H3_ ?_
    · skip; go_simp
    try simp only [Act.put, List.setIfInBounds_toArray, List.set_cons_zero, List.set_cons_succ]
    refine wpAnyH_ready (rs := [13]) (by kernel_rfl) (by simp) ?_
    refine AllReadyH.cons (op_at rfl) (fun K hK => ?_) AllReadyH.nil
    go_simp
    go_at_call 13
    with_reducible refine (hN2.out V3_).mono ?_
    rintro e V4_ ⟨rfl, hb⟩
    go_wp2_with fail
    refine hK.out _ _ (below_then H3_ H3_.size hb) (fun H4_ => ?_)
    clear hK K hb
    try simp only [Act.put, List.setIfInBounds_toArray, List.set_cons_zero, List.set_cons_succ]
    refine wpAnyH_take (i := 15) (v := .bool true) (op_at rfl) (by kernel_rfl) (by kernel_rfl) (by kernel_rfl) (fun _ _ _ h => h) (Or.inl ⟨by rfl, fun w_ hSw => ?_⟩) H4_ ?_
    · skip; go_simp
    try simp only [Act.put, List.setIfInBounds_toArray, List.set_cons_zero, List.set_cons_succ]
    refine wpAnyH_take (i := 16) (v := .bool true) (op_at rfl) (by kernel_rfl) (by kernel_rfl) (by kernel_rfl) (fun _ _ _ h => h) (Or.inl ⟨by rfl, fun w_ hSw => ?_⟩) H4_ ?_
    · skip; go_simp
    try simp only [Act.put, List.setIfInBounds_toArray, List.set_cons_zero, List.set_cons_succ]
    refine wpAnyH_take (i := 17) (v := .bool true) (op_at rfl) (by kernel_rfl) (by kernel_rfl) (by kernel_rfl) (fun _ _ _ h => h) (Or.inl ⟨by rfl, fun w_ hSw => ?_⟩) H4_ ?_
    · skip; go_simp
    try simp only [Act.put, List.setIfInBounds_toArray, List.set_cons_zero, List.set_cons_succ]
    refine wpAnyH_take (i := 18) (v := .agg (trc t A1 A2 c1 c2).toArray) (op_at rfl) (by kernel_rfl) (by kernel_rfl) (by kernel_rfl) (fun _ _ _ h => h) (yieldsIf_load_any (by rfl) _ _ rfl ⟨w.heap.size, 0, none⟩ rfl _ _ (fun w_ hSw => hXf.out w_ hSw) Try.underlying25 rfl hiA.out) H4_ ?_
    try simp only [Act.put, List.setIfInBounds_toArray, List.set_cons_zero, List.set_cons_succ]
    refine wpAnyH_take (i := 19) (v := .agg (trc u B1 B2 d1 d2).toArray) (op_at rfl) (by kernel_rfl) (by kernel_rfl) (by kernel_rfl) (fun _ _ _ h => h) (yieldsIf_load_any (by rfl) _ _ rfl ⟨w.heap.size + 1, 0, none⟩ rfl _ _ (fun w_ hSw => hZf.out w_ hSw) Try.underlying25 rfl hjA.out) H4_ ?_
    try simp only [Act.put, List.setIfInBounds_toArray, List.set_cons_zero, List.set_cons_succ]
    refine wpAnyH_take (i := 21) (v := .agg (trc t A1 A2 c1 c2).toArray) (op_at rfl) (by kernel_rfl) (by kernel_rfl) (by kernel_rfl) (fun _ _ _ h => h) (yieldsIf_load_any (by rfl) _ _ rfl ⟨w.heap.size, 0, none⟩ rfl _ _ (fun w_ hSw => hXf.out w_ hSw) Try.underlying25 rfl hiA.out) H4_ ?_
    try simp only [Act.put, List.setIfInBounds_toArray, List.set_cons_zero, List.set_cons_succ]
    refine wpAnyH_take (i := 22) (v := .agg (trc u B1 B2 d1 d2).toArray) (op_at rfl) (by kernel_rfl) (by kernel_rfl) (by kernel_rfl) (fun _ _ _ h => h) (yieldsIf_load_any (by rfl) _ _ rfl ⟨w.heap.size + 1, 0, none⟩ rfl _ _ (fun w_ hSw => hZf.out w_ hSw) Try.underlying25 rfl hjA.out) H4_ ?_
    try simp only [Act.put, List.setIfInBounds_toArray, List.set_cons_zero, List.set_cons_succ]
    refine wpAnyH_ready (rs := [20]) (by kernel_rfl) (by simp) ?_
    refine AllReadyH.cons (op_at rfl) (fun K hK => ?_) AllReadyH.nil
    go_simp
    go_at_call 16
    with_reducible refine (hSm.out V4_ (below_then hb5A.out hb5A.out.size H4_)).mono ?_
    rintro e V5_ ⟨rfl, hb⟩
    go_wp2_with fail
    refine hK.out _ _ (below_then H4_ H4_.size hb) (fun H5_ => ?_)
    clear hK K hb
    try simp only [Act.put, List.setIfInBounds_toArray, List.set_cons_zero, List.set_cons_succ]
    refine wpAnyH_ready (rs := [23]) (by kernel_rfl) (by simp) ?_
    refine AllReadyH.cons (op_at rfl) (fun K hK => ?_) AllReadyH.nil
    go_simp
    go_at_call 10
    with_reducible refine (hNt.out V5_ (below_then hb5A.out hb5A.out.size H5_)).mono ?_
    rintro e V6_ ⟨rfl, hb⟩
    go_wp2_with fail
    refine hK.out _ _ (below_then H5_ H5_.size hb) (fun H6_ => ?_)
    clear hK K hb
    try simp only [Act.put, List.setIfInBounds_toArray, List.set_cons_zero, List.set_cons_succ]
    refine wpAnyH_take (i := 24) (v := .bool true) (op_at rfl) (by kernel_rfl) (by kernel_rfl) (by kernel_rfl) (fun _ _ _ h => h) (Or.inl ⟨by rfl, fun w_ hSw => ?_⟩) H6_ ?_
    · skip; go_simp
    try simp only [Act.put, List.setIfInBounds_toArray, List.set_cons_zero, List.set_cons_succ]
    refine wpAnyH_take (i := 25) (v := .bool true) (op_at rfl) (by kernel_rfl) (by kernel_rfl) (by kernel_rfl) (fun _ _ _ h => h) (Or.inl ⟨by rfl, fun w_ hSw => ?_⟩) H6_ ?_
    · skip; go_simp
    try simp only [Act.put, List.setIfInBounds_toArray, List.set_cons_zero, List.set_cons_succ]
    refine wpAnyH_take (i := 26) (v := .bool true) (op_at rfl) (by kernel_rfl) (by kernel_rfl) (by kernel_rfl) (fun _ _ _ h => h) (Or.inl ⟨by rfl, fun w_ hSw => ?_⟩) H6_ ?_
    · skip; go_simp
    try simp only [Act.put, List.setIfInBounds_toArray, List.set_cons_zero, List.set_cons_succ]
    refine wpAnyH_take (i := 27) (v := .agg (trc t A1 A2 c1 c2).toArray) (op_at rfl) (by kernel_rfl) (by kernel_rfl) (by kernel_rfl) (fun _ _ _ h => h) (yieldsIf_load_any (by rfl) _ _ rfl ⟨w.heap.size, 0, none⟩ rfl _ _ (fun w_ hSw => hXf.out w_ hSw) Try.underlying25 rfl hiA.out) H6_ ?_
    try simp only [Act.put, List.setIfInBounds_toArray, List.set_cons_zero, List.set_cons_succ]
    refine wpAnyH_take (i := 28) (v := .agg (trc t A1 A2 c1 c2).toArray) (op_at rfl) (by kernel_rfl) (by kernel_rfl) (by kernel_rfl) (fun _ _ _ h => h) (yieldsIf_load_any (by rfl) _ _ rfl ⟨w.heap.size, 0, none⟩ rfl _ _ (fun w_ hSw => hXf.out w_ hSw) Try.underlying25 rfl hiA.out) H6_ ?_
    try simp only [Act.put, List.setIfInBounds_toArray, List.set_cons_zero, List.set_cons_succ]
    refine wpAnyH_ready (rs := [29]) (by kernel_rfl) (by simp) ?_
    refine AllReadyH.cons (op_at rfl) (fun K hK => ?_) AllReadyH.nil
    go_simp
    go_at_call 16
    with_reducible refine (hS1.out V6_ (below_then hb5A.out hb5A.out.size H6_)).mono ?_
    rintro e V7_ ⟨rfl, hb⟩
    go_wp2_with fail
    refine hK.out _ _ (below_then H6_ H6_.size hb) (fun H7_ => ?_)
    clear hK K hb
    try simp only [Act.put, List.setIfInBounds_toArray, List.set_cons_zero, List.set_cons_succ]
    refine wpAnyH_take (i := 30) (v := .bool true) (op_at rfl) (by kernel_rfl) (by kernel_rfl) (by kernel_rfl) (fun _ _ _ h => h) (Or.inl ⟨by rfl, fun w_ hSw => ?_⟩) H7_ ?_
    · skip; go_simp
    try simp only [Act.put, List.setIfInBounds_toArray, List.set_cons_zero, List.set_cons_succ]
    refine wpAnyH_take (i := 31) (v := .bool true) (op_at rfl) (by kernel_rfl) (by kernel_rfl) (by kernel_rfl) (fun _ _ _ h => h) (Or.inl ⟨by rfl, fun w_ hSw => ?_⟩) H7_ ?_
    · skip; go_simp
    try simp only [Act.put, List.setIfInBounds_toArray, List.set_cons_zero, List.set_cons_succ]
    refine wpAnyH_done (by kernel_rfl) ?_ _
    refine NoPanic.normal ?_
    have hHA := Aside0.mk H7_
    go_wp2
    go_ret
    exact ⟨rfl, below_then hb5A.out hb5A.out.size hHA.out⟩
    -- END A
  · go_enter Try.func4, Try.ntmps4
    go_wp2_with (first | (go_at_call 6; (rw [e0A.out]; (with_reducible refine hAlA.out.mono ?_); rintro e w1 ⟨rfl, hb1⟩; have hXtA := Aside0.mk (hXA.out.below hb1); have hZtA := Aside0.mk (hZA.out.below hb1); have hb1A := Aside0.mk (below_then hBA.out hBA.out.size hb1); clear hb1)) | ((with_reducible refine gate_dst (N := 11) rfl ?_); (refine wpList_load_blk rfl 25 (.tmp 2) rfl w.heap.size 25 rfl (trc t A1 A2 c1 c2) _ hXtA.out Try.underlying25 rfl hiA.out ?_)) | ((with_reducible refine gate_dst (N := 12) rfl ?_); (refine wpList_load_blk rfl 25 (.tmp 3) rfl (w.heap.size + 1) 25 rfl (trc u B1 B2 d1 d2) _ hZtA.out Try.underlying25 rfl hjA.out ?_)) | (go_at_call 7; ((with_reducible refine (hLgA.out _ hb1A.out).mono ?_); rintro e w3 ⟨rfl, hb3⟩; rw [hlA.out]; have hX3A := Aside0.mk (hXtA.out.below ((below_alloc (Below.refl _ _) _).trans (hb3.mono (by simp)))); have hZ3A := Aside0.mk (hZtA.out.below ((below_alloc (Below.refl _ _) _).trans (hb3.mono (by simp)))); have hb3A := Aside0.mk (below_then hb1A.out hb1A.out.size ((below_alloc (Below.refl _ _) _).trans (hb3.mono (by simp)))); clear hb3)))
    go_ret
    exact ⟨rfl, hb3A.out⟩
end Go.Proofs.Ytlgfekllkahfaaa.Walk
