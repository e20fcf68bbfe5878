/- Transactions, their bytes. -/
import Derived.Test.YtlgfekllkahfaaaTyD
set_option linter.unusedVariables false
set_option linter.unusedSimpArgs false
namespace Go.Proofs.Ytlgfekllkahfaaa.Pack
open Go.RowKit Go.Proofs.YtlgfekllkahfaaaW.PrintWords Go.Proofs.YtlgfekllkahfaaaW.PrintMore Go.Proofs.Ytlgfekllkahfaaa Go.Proofs.Ytlgfekllkahfaaa.Bits Sha ArrK ShaW
/-- a transaction -/
structure Tr where
  sp : List Sp
  co : List Co
  firm : Bool
def SpOk (s : Sp) : Prop := s.tx.length = 32 ∧ Bytes s.tx ∧ 0 ≤ s.sel ∧ s.sel < 18446744073709551616 ∧ s.key.size ≤ 5000
def CoOk (c : Co) : Prop := 0 ≤ c.lock ∧ c.lock < 18446744073709551616
abbrev SpR (W : World) (A : Option Addr) (n : Nat) (l : List Sp) : Prop := ReadsRow (fun s cs => SpOk s ∧ cs = spc s) 35 W A n l
abbrev CoR (W : World) (A : Option Addr) (n : Nat) (l : List Co) : Prop := ReadsRow (fun c cs => CoOk c ∧ cs = coc c) 2 W A n l
def encS (wit : Bool) (s : Sp) : List Int := s.tx ++ (numb (IntKind.u64.wrap s.n) 4 ++ (if wit then (cnt s.key.size ++ bytesOf s.key) ++ numb s.sel 8 else []))
def encC (c : Co) : List Int := numb (IntKind.u64.wrap c.value) 8 ++ numb c.lock 8
def enc (wit : Bool) (t : Tr) : List Int := cnt t.sp.length ++ t.sp.flatMap (encS wit) ++ (cnt t.co.length ++ (t.co.flatMap encC ++ [if t.firm then 1 else 0]))
theorem encS_length (wit : Bool) (s : Sp) (h : SpOk s) : (encS wit s).length ≤ 5100 := by
  have := cnt_length s.key.size
  have h1 := h.1
  have h2 := h.2.2.2.2
  unfold encS
  cases wit
  · simp [numb_length, h1]
  · simp [numb_length, h1, bytesOf_length]; omega
theorem encC_length (c : Co) : (encC c).length = 16 := by simp [encC, numb_length]
theorem flat_length {α : Type} (f : α → List Int) (b : Nat) : ∀ l : List α, (∀ x ∈ l, (f x).length ≤ b) → (l.flatMap f).length ≤ l.length * b
  | [], _ => by simp
  | x :: r, h => by
    have h1 := flat_length f b r (fun y hy => h y (List.mem_cons_of_mem _ hy))
    have h2 := h x (List.mem_cons_self ..)
    rw [List.flatMap_cons, List.length_append, List.length_cons, Nat.add_mul]; omega
theorem flat_take {α : Type} (f : α → List Int) (l : List α) (k : Nat) (x : α) (h : l[k]? = some x) : (l.take (k + 1)).flatMap f = (l.take k).flatMap f ++ f x := by
  have hk := (List.getElem?_eq_some_iff.1 h)
  rw [List.take_succ_eq_append_getElem hk.1, List.flatMap_append, hk.2]; simp
/-- one of a row -/
theorem row_at {α : Type} {R : α → List Value → Prop} {sz : Nat} {W : World} {A : Option Addr} {L : List α} (hr : ReadsRow R sz W A L.length L) (i : Nat) (x : α) (hi : L[i]? = some x) :
    ∃ ad c, A = some ad ∧ R x c ∧ c.length = sz ∧ ∀ j u, c[j]? = some u → W.cell? ((ad.add (i * sz)).add j) = some u := by
  have hlt : i < L.length := (List.getElem?_eq_some_iff.1 hi).1
  obtain ⟨ad, e, hc⟩ := hr.2.2 (by omega)
  obtain ⟨c, hl, hK, hcell⟩ := hc i x hi
  exact ⟨ad, c, e, hK, hl, fun j u hu => by rw [Deep.add_add]; exact hcell j u hu⟩
theorem OutP.below {base B : Nat} {W W1 : World} {l : List Int} (h : OutP base W B l) (hb : Below W.heap.size W W1) : OutP base W1 B l := by
  obtain ⟨v, hX, hR⟩ := h
  exact ⟨v, hX.below hb, Kd.R_below hR hb⟩
def zsp : Sp := ⟨zero32, 0, ByteArray.empty, 0⟩
theorem spc_tx (s : Sp) (h : s.tx.length = 32) : ∀ (j : Nat) (u : Value), (nums .u8 s.tx)[j]? = some u → (spc s)[j]? = some u := fun j u hu => by
  unfold spc; rw [List.getElem?_append_left (List.getElem?_eq_some_iff.1 hu).1]; exact hu
theorem encS_true (l : List Int) (s : Sp) : l ++ encS true s = l ++ s.tx ++ numb (IntKind.u64.wrap s.n) 4 ++ (cnt s.key.size ++ bytesOf s.key) ++ numb s.sel 8 := by simp [encS]
theorem encS_false (l : List Int) (s : Sp) : l ++ encS false s = l ++ s.tx ++ numb (IntKind.u64.wrap s.n) 4 := by simp [encS]
theorem u64_in (x : Int) : 0 ≤ IntKind.u64.wrap x ∧ IntKind.u64.wrap x < 18446744073709551616 := by rw [wrap_u64]; omega
set_option maxRecDepth 100000 in
set_option maxHeartbeats 1600000 in
theorem put_calls (t : Tr) (wit : Bool) (A1 A2 : Option Addr) (c1 c2 : Nat) (w : World) (hS : SpR w A1 t.sp.length t.sp) (hC : CoR w A2 t.co.length t.co) (h1 : t.sp.length ≤ 1000) (h2 : t.co.length ≤ 1000) :
    Calls Try.prog 47 #[.agg #[.slice A1 t.sp.length c1, .slice A2 t.co.length c2, .bool t.firm], .bool wit] w fun e w' => ∃ v, e = .returned v ∧ Kd.R (Kd.int .u8) 5 w' w.heap.size (fun _ => True) v (enc wit t) ∧ Below w.heap.size w w' := by
  obtain ⟨sp, co, firm⟩ := t
  simp only at hS hC h1 h2 ⊢
  obtain ⟨V, hV⟩ : ∃ V, V = (w.alloc (.cells #[.slice A1 sp.length c1, .slice A2 co.length c2, .bool firm] 25)).alloc (.cells #[.slice none 0 0] 103) := ⟨_, rfl⟩
  have hXV : Blk V w.heap.size 25 [.slice A1 sp.length c1, .slice A2 co.length c2, .bool firm] := by rw [hV]; exact (Blk.new w 25 [.slice A1 sp.length c1, .slice A2 co.length c2, .bool firm]).alloc _
  have hBV : Below w.heap.size w V := by rw [hV]; exact below_alloc (below_alloc (Below.refl _ _) _) _
  have hOV : OutP w.heap.size V (w.heap.size + 1) [] := by
    refine ⟨.slice none 0 0, ?_, Kd.R_nil _ _ _ _ _⟩
    have := Blk.new (w.alloc (.cells #[.slice A1 sp.length c1, .slice A2 co.length c2, .bool firm] 25)) 103 [.slice none 0 0]
    rw [hV]
    rwa [World.size_alloc] at this
  have hVA := Aside0.mk hV; have hSA := Aside0.mk hS; have hCA := Aside0.mk hC; have hXVA := Aside0.mk hXV; have hBVA := Aside0.mk hBV
  have hCn := Aside0.mk (count_calls w.heap.size (w.heap.size + 1) [] sp.length V (by omega) hOV (by omega) (by simp))
  have hl0 : (cnt sp.length).length ≤ 5 := cnt_length _
  clear hV hS hC hXV hBV hOV
  show Calls _ _ _ _ (fun e w' => ∃ v, e = .returned v ∧ Kd.R (Kd.int .u8) 5 w' w.heap.size (fun _ => True) v (cnt sp.length ++ sp.flatMap (encS wit) ++ (cnt co.length ++ (co.flatMap encC ++ [if firm then 1 else 0]))) ∧ Below w.heap.size w w')
  generalize cnt sp.length = l0 at *
  go_enter Try.func47, Try.ntmps47
  go_wp2_with (go_at_call 62; (rw [← hVA.out]; (with_reducible refine hCn.out.mono ?_); rintro e w1 ⟨⟨v1, rfl⟩, hO1, hK1, hB1⟩; rw [List.nil_append] at hO1; have hX1 := hK1.blk (by omega) (by decide) hXVA.out; have g0 := hX1.get 0 _ rfl; have hF1 := Aside0.mk (And.intro hO1 (And.intro hK1 (hBVA.out.trans hB1))); clear hX1 hO1 hK1 hB1))
  go_loopw [21] (fun i wr => ∃ k : Nat, k ≤ sp.length ∧ i = .int .i64 (k : Int) ∧ OutP w.heap.size wr (w.heap.size + 1) (l0 ++ (sp.take k).flatMap (encS wit)) ∧ Kp8 (w.heap.size + 1) V wr ∧ Below w.heap.size w wr) (fun i _ => sp.length - (intOf i).toNat)
  case atStart => exact ⟨0, by omega, rfl, by simpa using hF1.out.1, hF1.out.2.1, hF1.out.2.2⟩
  case round =>
    clear hF1 g0
    obtain ⟨k, hk, rfl, hO, hK, hB⟩ := hrel
    have hOA := Aside0.mk hO; have hKA := Aside0.mk hK; have hBA := Aside0.mk hB
    clear hO hK hB
    by_cases hlt : k < sp.length
    · obtain ⟨s, hs⟩ : ∃ s, sp[k]? = some s := ⟨_, List.getElem?_eq_getElem hlt⟩
      obtain ⟨ad, cs, rfl, ⟨hok, rfl⟩, -, hcell⟩ := row_at (hSA.out.imp_ hBA.out (fun _ _ h => h)) k s hs
      have p0 : (0 : Int) ≤ (k : Int) := by omega
      have p1 : (k : Int) < (sp.length : Int) := by omega
      have e2 : IntKind.i64.wrap ((k : Int) + 1) = (k : Int) + 1 := IntWalk.i64_in _ (by omega)
      have hft := flat_take (encS wit) sp k s hs
      have hfl : (l0 ++ (sp.take k).flatMap (encS wit)).length ≤ 5200000 := by
        have := flat_length (encS wit) 5100 (sp.take k) (fun x hx => encS_length wit x (by
          obtain ⟨i, hi⟩ := List.mem_iff_getElem?.1 (List.mem_of_mem_take hx)
          exact (row_at hSA.out i x hi).choose_spec.choose_spec.2.1.1))
        rw [List.length_append]
        have h3 : (sp.take k).length ≤ 1000 := by rw [List.length_take]; omega
        have := Nat.mul_le_mul_right 5100 h3
        omega
      have hassoc : l0 ++ (sp.take (k + 1)).flatMap (encS wit) = (l0 ++ (sp.take k).flatMap (encS wit)) ++ encS wit s := by rw [hft, List.append_assoc]
      have hi := info_spend s hok.1
      have hih := info_hash s.tx hok.1
      have t0 := spc_tx s hok.1
      have t1 := spc_n s hok.1
      have t2 := spc_key s hok.1
      have t3 := spc_seal s hok.1
      have hone := spc_one s
      have hll := spc_length s hok.1
      obtain ⟨S, hSz⟩ : ∃ S, S = wr.heap.size := ⟨_, rfl⟩
      have hSB : w.heap.size + 1 < S := by rw [hSz]; obtain ⟨v, hX, _⟩ := hOA.out; exact hX.lt
      have hoA := Aside0.mk hok; have haA := Aside0.mk hassoc; have hiA := Aside0.mk hi; have hihA := Aside0.mk hih; have t0A := Aside0.mk t0; have t1A := Aside0.mk t1; have t2A := Aside0.mk t2; have t3A := Aside0.mk t3; have honeA := Aside0.mk hone; have hllA := Aside0.mk hll; have hceA := Aside0.mk hcell; have hSzA := Aside0.mk hSz; have hflA := Aside0.mk hfl
      clear hok hassoc hi hih t0 t1 t2 t3 hone hll hcell hSz hft hs hfl
      generalize l0 ++ (sp.take k).flatMap (encS wit) = lk at *
      cases wit
      all_goals
        go_wp2_with (first | ((with_reducible refine gate_dst (N := 24) rfl ?_); (refine wpList_load_any rfl 36 (.tmp 23) rfl (ad.add (k * 35)) rfl (spc s) _ hceA.out Try.underlying36 rfl hiA.out ?_)) | ((with_reducible refine gate_dst (N := 7) rfl ?_); (refine wpList_new_put rfl (N := 7) rfl rfl 36 (.tmp 24) rfl (spc s) (spc zsp) (by rw [hllA.out]; rfl) ?hr rfl rfl hiA.out honeA.out ?_; (case hr => first | (go_simp; done) | (go_simp; rfl)); intro w2 hX2 hb2 hs2; rw [← hSzA.out] at hX2 ⊢; have hX2A := Aside0.mk hX2; have hO2 := hOA.out.below hb2; have hK2A := Aside0.mk (hKA.out.below hb2); have hB2A := Aside0.mk (below_then hBA.out hBA.out.size hb2); have hH := Aside0.mk (hash_calls w.heap.size (w.heap.size + 1) lk s.tx w2 hoA.out.1 hO2 (by omega) (by have := hflA.out; omega)); clear hX2 hb2 hs2 hO2)) | ((with_reducible refine gate_dst (N := 28) rfl ?_); (refine wpList_load_any rfl 31 (.tmp 27) rfl ⟨S, 0, none⟩ rfl (nums .u8 s.tx) _ (fun j u hu => hX2A.out.add j u (t0A.out j u hu)) Try.underlying31 rfl hihA.out ?_)) | (go_at_call 63; ((with_reducible refine hH.out.mono ?_); rintro e w3 ⟨⟨v3, rfl⟩, hO3, hK3, hB3⟩; have hX3 := hK3.blk (by omega) (by decide) hX2A.out; have g32 := hX3.get 32 _ t1A.out; have hX3A := Aside0.mk hX3; have hK3A := Aside0.mk (hK2A.out.trans hK3); have hB3A := Aside0.mk (hB2A.out.trans hB3); have hN4 := Aside0.mk (num4_calls w.heap.size (w.heap.size + 1) (lk ++ s.tx) (IntKind.u64.wrap s.n) w3 (u64_in _) hO3 (by omega) (by have := hflA.out; have := hoA.out.1; rw [List.length_append]; omega)); clear hX3 hO3 hK3 hB3)) | (go_at_call 64; ((with_reducible refine hN4.out.mono ?_); rintro e w4 ⟨⟨v4, rfl⟩, hO4, hK4, hB4⟩; have hX4 := hK4.blk (by omega) (by decide) hX3A.out; clear g32; have g33 := hX4.get 33 _ t2A.out; have hX4A := Aside0.mk hX4; have hK4A := Aside0.mk (hK3A.out.trans hK4); have hB4A := Aside0.mk (hB3A.out.trans hB4); have hO4A := Aside0.mk hO4; have hT := Aside0.mk (text_calls w.heap.size (w.heap.size + 1) _ s.key w4 (by have := hoA.out.2.2.2.2; omega) hO4 (by omega) (by have := hflA.out; have := hoA.out.1; rw [List.length_append, List.length_append, numb_length]; omega)); clear hX4 hO4 hK4 hB4 hN4)) | (go_at_call 65; ((with_reducible refine hT.out.mono ?_); rintro e w5 ⟨⟨v5, rfl⟩, hO5, hK5, hB5⟩; have hX5 := hK5.blk (by omega) (by decide) hX4A.out; clear g33; have g34 := hX5.get 34 _ t3A.out; have hX5A := Aside0.mk hX5; have hK5A := Aside0.mk (hK4A.out.trans hK5); have hB5A := Aside0.mk (hB4A.out.trans hB5); have hN8 := Aside0.mk (num8_calls w.heap.size (w.heap.size + 1) _ s.sel w5 ⟨hoA.out.2.2.1, hoA.out.2.2.2.1⟩ hO5 (by omega) (by have := hflA.out; have := hoA.out.1; have := hoA.out.2.2.2.2; have := cnt_length s.key.size; simp only [List.length_append, numb_length, bytesOf_length]; omega)); clear hX5 hO5 hK5 hB5)) | (go_at_call 64; ((with_reducible refine hN8.out.mono ?_); rintro e w6 ⟨⟨v6, rfl⟩, hO6, hK6, hB6⟩; have hO6A := Aside0.mk hO6; have hK6A := Aside0.mk (hK5A.out.trans hK6); have hB6A := Aside0.mk (hB5A.out.trans hB6); clear g34 hO6 hK6 hB6)))
        go_roundw
        · first | exact ⟨k + 1, by omega, by go_num, by rw [haA.out, encS_false]; exact hO4A.out, hK4A.out, hB4A.out⟩ | exact ⟨k + 1, by omega, by go_num, by rw [haA.out, encS_true]; exact hO6A.out, hK6A.out, hB6A.out⟩
        · simp [intOf]; omega
    · obtain rfl : k = sp.length := by omega
      have p1 : ¬ (sp.length : Int) < (sp.length : Int) := by omega
      rw [List.take_of_length_le (Nat.le_refl _)] at hOA
      have hfl : (l0 ++ sp.flatMap (encS wit)).length ≤ 5200000 := by
        have := flat_length (encS wit) 5100 sp (fun x hx => encS_length wit x (by
          obtain ⟨i, hi⟩ := List.mem_iff_getElem?.1 hx
          exact (row_at hSA.out i x hi).choose_spec.choose_spec.2.1.1))
        rw [List.length_append]
        have := Nat.mul_le_mul_right 5100 h1
        omega
      obtain ⟨la, hla⟩ : ∃ la, la = l0 ++ sp.flatMap (encS wit) := ⟨_, rfl⟩
      rw [← hla] at hOA hfl
      have hlaA := Aside0.mk hla
      clear hla
      have hcl : (cnt co.length).length ≤ 5 := cnt_length _
      have hX0 := hKA.out.blk (by omega) (by decide) hXVA.out
      have g1 := hX0.get 1 _ rfl
      have hCn2 := Aside0.mk (count_calls w.heap.size (w.heap.size + 1) la co.length wr (by omega) hOA.out (by omega) (by omega))
      clear hX0
      have hl1 : (la ++ cnt co.length).length ≤ 5200005 := by rw [List.length_append]; omega
      obtain ⟨lb, hlb⟩ : ∃ lb, lb = la ++ cnt co.length := ⟨_, rfl⟩
      rw [← hlb] at hCn2 hl1
      have hlbA := Aside0.mk hlb
      clear hlb
      go_wp2_with (go_at_call 62; ((with_reducible refine hCn2.out.mono ?_); rintro e w1 ⟨⟨v1, rfl⟩, hO1, hK1, hB1⟩; have hX1 := (hKA.out.trans hK1).blk (by omega) (by decide) hXVA.out; clear g1; have g1 := hX1.get 1 _ rfl; have hF1 := Aside0.mk (And.intro hO1 (And.intro (hKA.out.trans hK1) (hBA.out.trans hB1))); clear hX1 hO1 hK1 hB1))
      go_loopw [54] (fun i wr => ∃ k : Nat, k ≤ co.length ∧ i = .int .i64 (k : Int) ∧ OutP w.heap.size wr (w.heap.size + 1) (lb ++ (co.take k).flatMap encC) ∧ Kp8 (w.heap.size + 1) V wr ∧ Below w.heap.size w wr) (fun i _ => co.length - (intOf i).toNat)
      case atStart => exact ⟨0, by omega, rfl, by simpa using hF1.out.1, hF1.out.2.1, hF1.out.2.2⟩
      case round =>
        clear hF1 g1 hOA hKA hBA
        obtain ⟨k, hk, rfl, hO, hK, hB⟩ := hrel
        have hOA := Aside0.mk hO; have hKA := Aside0.mk hK; have hBA := Aside0.mk hB
        clear hO hK hB
        by_cases hlt : k < co.length
        · obtain ⟨c, hs⟩ : ∃ c, co[k]? = some c := ⟨_, List.getElem?_eq_getElem hlt⟩
          obtain ⟨ad, cs, rfl, ⟨hok, rfl⟩, -, hcell⟩ := row_at (hCA.out.imp_ hBA.out (fun _ _ h => h)) k c hs
          have p0 : (0 : Int) ≤ (k : Int) := by omega
          have p1 : (k : Int) < (co.length : Int) := by omega
          have e2 : IntKind.i64.wrap ((k : Int) + 1) = (k : Int) + 1 := IntWalk.i64_in _ (by omega)
          have hft := flat_take encC co k c hs
          have hfl : (lb ++ (co.take k).flatMap encC).length ≤ 5300000 := by
            have := flat_length encC 16 (co.take k) (fun x hx => Nat.le_of_eq (encC_length x))
            rw [List.length_append]
            have h3 : (co.take k).length ≤ 1000 := by rw [List.length_take]; omega
            have := Nat.mul_le_mul_right 16 h3
            omega
          have hassoc : lb ++ (co.take (k + 1)).flatMap encC = (lb ++ (co.take k).flatMap encC) ++ numb (IntKind.u64.wrap c.value) 8 ++ numb c.lock 8 := by rw [hft]; simp [encC]
          have hi := info_coin c
          have hone := coc_one c
          obtain ⟨S, hSz⟩ : ∃ S, S = wr.heap.size := ⟨_, rfl⟩
          have hSB : w.heap.size + 1 < S := by rw [hSz]; obtain ⟨v, hX, _⟩ := hOA.out; exact hX.lt
          have hoA := Aside0.mk hok; have haA := Aside0.mk hassoc; have hiA := Aside0.mk hi; have honeA := Aside0.mk hone; have hceA := Aside0.mk hcell; have hSzA := Aside0.mk hSz; have hflA := Aside0.mk hfl
          clear hok hassoc hi hone hcell hSz hft hs hfl
          generalize lb ++ (co.take k).flatMap encC = lk at *
          go_wp2_with (first | ((with_reducible refine gate_dst (N := 57) rfl ?_); (refine wpList_load_any rfl 38 (.tmp 56) rfl (ad.add (k * 2)) rfl (coc c) _ hceA.out Try.underlying38 rfl hiA.out ?_)) | ((with_reducible refine gate_dst (N := 9) rfl ?_); (refine wpList_new_put rfl (N := 9) rfl rfl 38 (.tmp 57) rfl (coc c) (coc ⟨0, 0⟩) rfl ?hr rfl rfl hiA.out honeA.out ?_; (case hr => first | (go_simp; done) | (go_simp; rfl)); intro w2 hX2 hb2 hs2; rw [← hSzA.out] at hX2 ⊢; have hX2A := Aside0.mk hX2; have g0 := hX2.get 0 _ rfl; have hO2 := hOA.out.below hb2; have hK2A := Aside0.mk (hKA.out.below hb2); have hB2A := Aside0.mk (below_then hBA.out hBA.out.size hb2); have hH := Aside0.mk (num8_calls w.heap.size (w.heap.size + 1) lk (IntKind.u64.wrap c.value) w2 (u64_in _) hO2 (by omega) (by have := hflA.out; omega)); clear hX2 hb2 hs2 hO2)) | (go_at_call 64; (with_reducible refine hH.out.mono ?_); (rintro e w3 ⟨⟨v3, rfl⟩, hO3, hK3, hB3⟩; have hX3 := hK3.blk (by omega) (by decide) hX2A.out; clear g0; have g1 := hX3.get 1 _ rfl; have hK3A := Aside0.mk (hK2A.out.trans hK3); have hB3A := Aside0.mk (hB2A.out.trans hB3); have hN4 := Aside0.mk (num8_calls w.heap.size (w.heap.size + 1) (lk ++ numb (IntKind.u64.wrap c.value) 8) c.lock w3 hoA.out hO3 (by omega) (by have := hflA.out; rw [List.length_append, numb_length]; omega)); clear hX3 hO3 hK3 hB3 hH)) | (go_at_call 64; ((with_reducible refine hN4.out.mono ?_); rintro e w4 ⟨⟨v4, rfl⟩, hO4, hK4, hB4⟩; clear g1; have hK4A := Aside0.mk (hK3A.out.trans hK4); have hB4A := Aside0.mk (hB3A.out.trans hB4); have hO4A := Aside0.mk hO4; clear hO4 hK4 hB4 hN4)))
          go_roundw
          · exact ⟨k + 1, by omega, by go_num, by rw [haA.out]; exact hO4A.out, hK4A.out, hB4A.out⟩
          · simp [intOf]; omega
        · obtain rfl : k = co.length := by omega
          have p1 : ¬ (co.length : Int) < (co.length : Int) := by omega
          rw [List.take_of_length_le (Nat.le_refl _)] at hOA
          have hfl : (lb ++ co.flatMap encC).length ≤ 5300000 := by
            have := flat_length encC 16 co (fun x hx => Nat.le_of_eq (encC_length x))
            rw [List.length_append]
            have := Nat.mul_le_mul_right 16 h2
            omega
          obtain ⟨lz, hlz⟩ : ∃ lz, lz = lb ++ co.flatMap encC := ⟨_, rfl⟩
          rw [← hlz] at hOA hfl
          have hX0 := hKA.out.blk (by omega) (by decide) hXVA.out
          have g2 := hX0.get 2 _ rfl
          have hN := Aside0.mk (fun x (hx : 0 ≤ x ∧ x < 18446744073709551616) => num1_calls w.heap.size (w.heap.size + 1) lz x wr hx hOA.out (by omega) (by omega))
          have hfin : ∀ b : Int, numb b 1 = [b % 256] := fun b => by simp [numb, List.range_succ]
          have heq : ∀ d : List Int, lz ++ d = l0 ++ sp.flatMap (encS wit) ++ (cnt co.length ++ (co.flatMap encC ++ d)) := fun d => by rw [hlz, hlbA.out, hlaA.out]; simp
          have heqA := Aside0.mk heq; have hfinA := Aside0.mk hfin
          clear hX0 hlz heq hfin
          cases firm
          all_goals
            go_wp2_with (first | (go_at_call 64; ((first | with_reducible refine (hN.out 0 (by omega)).mono ?_ | with_reducible refine (hN.out 1 (by omega)).mono ?_); rintro e w4 ⟨⟨v4, rfl⟩, hO4, hK4, hB4⟩; have hB4A := Aside0.mk (hBA.out.trans hB4); have hY := Aside0.mk (bytes_calls w.heap.size (w.heap.size + 1) _ w4 hO4 (by rw [List.length_append, numb_length]; omega)); clear hO4 hK4 hB4 hN g2)) | (go_at_call 66; ((with_reducible refine hY.out.mono ?_); rintro e w5 ⟨⟨v5, rfl, hR5⟩, hB5⟩; have hR5A := Aside0.mk (Kd.R_lower hR5 hB4A.out.size); have hB5A := Aside0.mk (below_then hB4A.out hB4A.out.size hB5); clear hR5 hB5)))
            go_ret
            have h5 := hR5A.out
            rw [hfinA.out, heqA.out] at h5
            refine ⟨v5, rfl, ?_, hB5A.out⟩
            first | exact h5 | (simp only [List.append_assoc] at h5; exact h5)
end Go.Proofs.Ytlgfekllkahfaaa.Pack
