/- Transactions, their bytes. -/
import Derived.Test.YtlgfekllkahfaaaDoorMPa
set_option linter.unusedVariables false
set_option linter.unusedSimpArgs false
namespace Go.Proofs.YtlgfekllkahfaaaDoor.Pack
open Go.RowKit Go.Proofs.YtlgfekllkahfaaaDoorW.PrintWords Go.Proofs.YtlgfekllkahfaaaDoorW.PrintMore Go.Proofs.YtlgfekllkahfaaaDoor Go.Proofs.YtlgfekllkahfaaaDoor.Bits Sha ArrK ShaW
/-- a transaction -/
structure Tr where
  sp : List Sp
  co : List Co
  firm : Bool
def SpOk (s : Sp) : Prop := s.tx.length = 32 ∧ Bytes s.tx ∧ 0 ≤ s.sel ∧ s.sel < 18446744073709551616 ∧ s.key.size ≤ 5000
def CoOk (c : Co) : Prop := 0 ≤ c.lock ∧ c.lock < 18446744073709551616
abbrev SpR (W : World) (A : Option Addr) (n : Nat) (l : List Sp) : Prop := ReadsRow (fun s cs => SpOk s ∧ cs = spc s) 35 W A n l
abbrev CoR (W : World) (A : Option Addr) (n : Nat) (l : List Co) : Prop := ReadsRow (fun c cs => CoOk c ∧ cs = coc c) 2 W A n l
def encS (wit : Bool) (s : Sp) : List Int := s.tx ++ (numb (IntKind.u64.wrap s.n) 4 ++ (if wit then (cnt s.key.size ++ bytesOf s.key) ++ numb s.sel 8 else []))
def encC (c : Co) : List Int := numb (IntKind.u64.wrap c.value) 8 ++ numb c.lock 8
def enc (wit : Bool) (t : Tr) : List Int := cnt t.sp.length ++ t.sp.flatMap (encS wit) ++ (cnt t.co.length ++ (t.co.flatMap encC ++ [if t.firm then 1 else 0]))
theorem encS_length (wit : Bool) (s : Sp) (h : SpOk s) : (encS wit s).length ≤ 5100 := by
  have := cnt_length s.key.size
  have h1 := h.1
  have h2 := h.2.2.2.2
  unfold encS
  cases wit
  · simp [numb_length, h1]
  · simp [numb_length, h1, bytesOf_length]; omega
theorem encC_length (c : Co) : (encC c).length = 16 := by simp [encC, numb_length]
theorem flat_length {α : Type} (f : α → List Int) (b : Nat) : ∀ l : List α, (∀ x ∈ l, (f x).length ≤ b) → (l.flatMap f).length ≤ l.length * b
  | [], _ => by simp
  | x :: r, h => by
    have h1 := flat_length f b r (fun y hy => h y (List.mem_cons_of_mem _ hy))
    have h2 := h x (List.mem_cons_self ..)
    rw [List.flatMap_cons, List.length_append, List.length_cons, Nat.add_mul]; omega
theorem flat_take {α : Type} (f : α → List Int) (l : List α) (k : Nat) (x : α) (h : l[k]? = some x) : (l.take (k + 1)).flatMap f = (l.take k).flatMap f ++ f x := by
  have hk := (List.getElem?_eq_some_iff.1 h)
  rw [List.take_succ_eq_append_getElem hk.1, List.flatMap_append, hk.2]; simp
/-- one of a row -/
theorem row_at {α : Type} {R : α → List Value → Prop} {sz : Nat} {W : World} {A : Option Addr} {L : List α} (hr : ReadsRow R sz W A L.length L) (i : Nat) (x : α) (hi : L[i]? = some x) :
    ∃ ad c, A = some ad ∧ R x c ∧ c.length = sz ∧ ∀ j u, c[j]? = some u → W.cell? ((ad.add (i * sz)).add j) = some u := by
  have hlt : i < L.length := (List.getElem?_eq_some_iff.1 hi).1
  obtain ⟨ad, e, hc⟩ := hr.2.2 (by omega)
  obtain ⟨c, hl, hK, hcell⟩ := hc i x hi
  exact ⟨ad, c, e, hK, hl, fun j u hu => by rw [Deep.add_add]; exact hcell j u hu⟩
theorem OutP.below {base B : Nat} {W W1 : World} {l : List Int} (h : OutP base W B l) (hb : Below W.heap.size W W1) : OutP base W1 B l := by
  obtain ⟨v, hX, hR⟩ := h
  exact ⟨v, hX.below hb, Kd.R_below hR hb⟩
def zsp : Sp := ⟨zero32, 0, ByteArray.empty, 0⟩
theorem spc_tx (s : Sp) (h : s.tx.length = 32) : ∀ (j : Nat) (u : Value), (nums .u8 s.tx)[j]? = some u → (spc s)[j]? = some u := fun j u hu => by
  unfold spc; rw [List.getElem?_append_left (List.getElem?_eq_some_iff.1 hu).1]; exact hu
theorem encS_true (l : List Int) (s : Sp) : l ++ encS true s = l ++ s.tx ++ numb (IntKind.u64.wrap s.n) 4 ++ (cnt s.key.size ++ bytesOf s.key) ++ numb s.sel 8 := by simp [encS]
theorem encS_false (l : List Int) (s : Sp) : l ++ encS false s = l ++ s.tx ++ numb (IntKind.u64.wrap s.n) 4 := by simp [encS]
theorem u64_in (x : Int) : 0 ≤ IntKind.u64.wrap x ∧ IntKind.u64.wrap x < 18446744073709551616 := by rw [wrap_u64]; omega
set_option maxRecDepth 100000 in
set_option maxHeartbeats 1600000 in
theorem put_calls (t : Tr) (wit : Bool) (A1 A2 : Option Addr) (c1 c2 : Nat) (w : World) (hS : SpR w A1 t.sp.length t.sp) (hC : CoR w A2 t.co.length t.co) (h1 : t.sp.length ≤ 1000) (h2 : t.co.length ≤ 1000) :
    Calls Tryd.prog 24 #[.agg #[.slice A1 t.sp.length c1, .slice A2 t.co.length c2, .bool t.firm], .bool wit] w fun e w' => ∃ v, e = .returned v ∧ Kd.R (Kd.int .u8) 5 w' w.heap.size (fun _ => True) v (enc wit t) ∧ Below w.heap.size w w' := by
  obtain ⟨sp, co, firm⟩ := t
  simp only at hS hC h1 h2 ⊢
  obtain ⟨V, hV⟩ : ∃ V, V = (w.alloc (.cells #[.slice A1 sp.length c1, .slice A2 co.length c2, .bool firm] 25)).alloc (.cells #[.slice none 0 0] 78) := ⟨_, rfl⟩
  have hXV : Blk V w.heap.size 25 [.slice A1 sp.length c1, .slice A2 co.length c2, .bool firm] := by rw [hV]; exact (Blk.new w 25 [.slice A1 sp.length c1, .slice A2 co.length c2, .bool firm]).alloc _
  have hBV : Below w.heap.size w V := by rw [hV]; exact below_alloc (below_alloc (Below.refl _ _) _) _
  have hOV : OutP w.heap.size V (w.heap.size + 1) [] := by
    refine ⟨.slice none 0 0, ?_, Kd.R_nil _ _ _ _ _⟩
    have := Blk.new (w.alloc (.cells #[.slice A1 sp.length c1, .slice A2 co.length c2, .bool firm] 25)) 78 [.slice none 0 0]
    rw [hV]
    rwa [World.size_alloc] at this
  have hVA := Aside0.mk hV; have hSA := Aside0.mk hS; have hCA := Aside0.mk hC; have hXVA := Aside0.mk hXV; have hBVA := Aside0.mk hBV
  have hCn := Aside0.mk (count_calls w.heap.size (w.heap.size + 1) [] sp.length V (by omega) hOV (by omega) (by simp))
  have hl0 : (cnt sp.length).length ≤ 5 := cnt_length _
  clear hV hS hC hXV hBV hOV
  show Calls _ _ _ _ (fun e w' => ∃ v, e = .returned v ∧ Kd.R (Kd.int .u8) 5 w' w.heap.size (fun _ => True) v (cnt sp.length ++ sp.flatMap (encS wit) ++ (cnt co.length ++ (co.flatMap encC ++ [if firm then 1 else 0]))) ∧ Below w.heap.size w w')
  generalize cnt sp.length = l0 at *
  go_enter Tryd.func24, Tryd.ntmps24
  go_wp2_with (go_at_call 42; (rw [← hVA.out]; (with_reducible refine hCn.out.mono ?_); rintro e w1 ⟨⟨v1, rfl⟩, hO1, hK1, hB1⟩; rw [List.nil_append] at hO1; have hX1 := hK1.blk (by omega) (by decide) hXVA.out; have g0 := hX1.get 0 _ rfl; have hF1 := Aside0.mk (And.intro hO1 (And.intro hK1 (hBVA.out.trans hB1))); clear hX1 hO1 hK1 hB1))
  go_loopw [21] (fun i wr => ∃ k : Nat, k ≤ sp.length ∧ i = .int .i64 (k : Int) ∧ OutP w.heap.size wr (w.heap.size + 1) (l0 ++ (sp.take k).flatMap (encS wit)) ∧ Kp8 (w.heap.size + 1) V wr ∧ Below w.heap.size w wr) (fun i _ => sp.length - (intOf i).toNat)
  case atStart => exact ⟨0, by omega, rfl, by simpa using hF1.out.1, hF1.out.2.1, hF1.out.2.2⟩
  case round =>
    clear hF1 g0
    obtain ⟨k, hk, rfl, hO, hK, hB⟩ := hrel
    have hOA := Aside0.mk hO; have hKA := Aside0.mk hK; have hBA := Aside0.mk hB
    clear hO hK hB
    by_cases hlt : k < sp.length
    · obtain ⟨s, hs⟩ : ∃ s, sp[k]? = some s := ⟨_, List.getElem?_eq_getElem hlt⟩
      obtain ⟨ad, cs, rfl, ⟨hok, rfl⟩, -, hcell⟩ := row_at (hSA.out.imp_ hBA.out (fun _ _ h => h)) k s hs
      have p0 : (0 : Int) ≤ (k : Int) := by omega
      have p1 : (k : Int) < (sp.length : Int) := by omega
      have e2 : IntKind.i64.wrap ((k : Int) + 1) = (k : Int) + 1 := IntWalk.i64_in _ (by omega)
      have hft := flat_take (encS wit) sp k s hs
      have hfl : (l0 ++ (sp.take k).flatMap (encS wit)).length ≤ 5200000 := by
        have := flat_length (encS wit) 5100 (sp.take k) (fun x hx => encS_length wit x (by
          obtain ⟨i, hi⟩ := List.mem_iff_getElem?.1 (List.mem_of_mem_take hx)
          exact (row_at hSA.out i x hi).choose_spec.choose_spec.2.1.1))
        rw [List.length_append]
        have h3 : (sp.take k).length ≤ 1000 := by rw [List.length_take]; omega
        have := Nat.mul_le_mul_right 5100 h3
        omega
      have hassoc : l0 ++ (sp.take (k + 1)).flatMap (encS wit) = (l0 ++ (sp.take k).flatMap (encS wit)) ++ encS wit s := by rw [hft, List.append_assoc]
      have hi := info_spend s hok.1
      have hih := info_hash s.tx hok.1
      have t0 := spc_tx s hok.1
      have t1 := spc_n s hok.1
      have t2 := spc_key s hok.1
      have t3 := spc_seal s hok.1
      have hone := spc_one s
      have hll := spc_length s hok.1
      obtain ⟨S, hSz⟩ : ∃ S, S = wr.heap.size := ⟨_, rfl⟩
      have hSB : w.heap.size + 1 < S := by rw [hSz]; obtain ⟨v, hX, _⟩ := hOA.out; exact hX.lt
      have hoA := Aside0.mk hok; have haA := Aside0.mk hassoc; have hiA := Aside0.mk hi; have hihA := Aside0.mk hih; have t0A := Aside0.mk t0; have t1A := Aside0.mk t1; have t2A := Aside0.mk t2; have t3A := Aside0.mk t3; have honeA := Aside0.mk hone; have hllA := Aside0.mk hll; have hceA := Aside0.mk hcell; have hSzA := Aside0.mk hSz; have hflA := Aside0.mk hfl
      clear hok hassoc hi hih t0 t1 t2 t3 hone hll hcell hSz hft hs hfl
      generalize l0 ++ (sp.take k).flatMap (encS wit) = lk at *
      cases wit
      all_goals
        go_wp2_with (first | ((with_reducible refine gate_dst (N := 24) rfl ?_); (refine wpList_load_any rfl 38 (.tmp 23) rfl (ad.add (k * 35)) rfl (spc s) _ hceA.out Tryd.underlying38 rfl hiA.out ?_)) | ((with_reducible refine gate_dst (N := 7) rfl ?_); (refine wpList_new_put rfl (N := 7) rfl rfl 38 (.tmp 24) rfl (spc s) (spc zsp) (by rw [hllA.out]; rfl) ?hr rfl rfl hiA.out honeA.out ?_; (case hr => first | (go_simp; done) | (go_simp; rfl)); intro w2 hX2 hb2 hs2; rw [← hSzA.out] at hX2 ⊢; have hX2A := Aside0.mk hX2; have hO2 := hOA.out.below hb2; have hK2A := Aside0.mk (hKA.out.below hb2); have hB2A := Aside0.mk (below_then hBA.out hBA.out.size hb2); have hH := Aside0.mk (hash_calls w.heap.size (w.heap.size + 1) lk s.tx w2 hoA.out.1 hO2 (by omega) (by have := hflA.out; omega)); clear hX2 hb2 hs2 hO2)) | ((with_reducible refine gate_dst (N := 28) rfl ?_); (refine wpList_load_any rfl 34 (.tmp 27) rfl ⟨S, 0, none⟩ rfl (nums .u8 s.tx) _ (fun j u hu => hX2A.out.add j u (t0A.out j u hu)) Tryd.underlying34 rfl hihA.out ?_)) | (go_at_call 43; ((with_reducible refine hH.out.mono ?_); rintro e w3 ⟨⟨v3, rfl⟩, hO3, hK3, hB3⟩; have hX3 := hK3.blk (by omega) (by decide) hX2A.out; have g32 := hX3.get 32 _ t1A.out; have hX3A := Aside0.mk hX3; have hK3A := Aside0.mk (hK2A.out.trans hK3); have hB3A := Aside0.mk (hB2A.out.trans hB3); have hN4 := Aside0.mk (num4_calls w.heap.size (w.heap.size + 1) (lk ++ s.tx) (IntKind.u64.wrap s.n) w3 (u64_in _) hO3 (by omega) (by have := hflA.out; have := hoA.out.1; rw [List.length_append]; omega)); clear hX3 hO3 hK3 hB3)) | (go_at_call 44; ((with_reducible refine hN4.out.mono ?_); rintro e w4 ⟨⟨v4, rfl⟩, hO4, hK4, hB4⟩; have hX4 := hK4.blk (by omega) (by decide) hX3A.out; clear g32; have g33 := hX4.get 33 _ t2A.out; have hX4A := Aside0.mk hX4; have hK4A := Aside0.mk (hK3A.out.trans hK4); have hB4A := Aside0.mk (hB3A.out.trans hB4); have hO4A := Aside0.mk hO4; have hT := Aside0.mk (text_calls w.heap.size (w.heap.size + 1) _ s.key w4 (by have := hoA.out.2.2.2.2; omega) hO4 (by omega) (by have := hflA.out; have := hoA.out.1; rw [List.length_append, List.length_append, numb_length]; omega)); clear hX4 hO4 hK4 hB4 hN4)) | (go_at_call 45; ((with_reducible refine hT.out.mono ?_); rintro e w5 ⟨⟨v5, rfl⟩, hO5, hK5, hB5⟩; have hX5 := hK5.blk (by omega) (by decide) hX4A.out; clear g33; have g34 := hX5.get 34 _ t3A.out; have hX5A := Aside0.mk hX5; have hK5A := Aside0.mk (hK4A.out.trans hK5); have hB5A := Aside0.mk (hB4A.out.trans hB5); have hN8 := Aside0.mk (num8_calls w.heap.size (w.heap.size + 1) _ s.sel w5 ⟨hoA.out.2.2.1, hoA.out.2.2.2.1⟩ hO5 (by omega) (by have := hflA.out; have := hoA.out.1; have := hoA.out.2.2.2.2; have := cnt_length s.key.size; simp only [List.length_append, numb_length, bytesOf_length]; omega)); clear hX5 hO5 hK5 hB5)) | (go_at_call 44; ((with_reducible refine hN8.out.mono ?_); rintro e w6 ⟨⟨v6, rfl⟩, hO6, hK6, hB6⟩; have hO6A := Aside0.mk hO6; have hK6A := Aside0.mk (hK5A.out.trans hK6); have hB6A := Aside0.mk (hB5A.out.trans hB6); clear g34 hO6 hK6 hB6)))
        go_roundw
        · first | exact ⟨k + 1, by omega, by go_num, by rw [haA.out, encS_false]; exact hO4A.out, hK4A.out, hB4A.out⟩ | exact ⟨k + 1, by omega, by go_num, by rw [haA.out, encS_true]; exact hO6A.out, hK6A.out, hB6A.out⟩
        · simp [intOf]; omega
    · obtain rfl : k = sp.length := by omega
      have p1 : ¬ (sp.length : Int) < (sp.length : Int) := by omega
      rw [List.take_of_length_le (Nat.le_refl _)] at hOA
      have hfl : (l0 ++ sp.flatMap (encS wit)).length ≤ 5200000 := by
        have := flat_length (encS wit) 5100 sp (fun x hx => encS_length wit x (by
          obtain ⟨i, hi⟩ := List.mem_iff_getElem?.1 hx
          exact (row_at hSA.out i x hi).choose_spec.choose_spec.2.1.1))
        rw [List.length_append]
        have := Nat.mul_le_mul_right 5100 h1
        omega
      obtain ⟨la, hla⟩ : ∃ la, la = l0 ++ sp.flatMap (encS wit) := ⟨_, rfl⟩
      rw [← hla] at hOA hfl
      have hlaA := Aside0.mk hla
      clear hla
      have hcl : (cnt co.length).length ≤ 5 := cnt_length _
      have hX0 := hKA.out.blk (by omega) (by decide) hXVA.out
      have g1 := hX0.get 1 _ rfl
      have hCn2 := Aside0.mk (count_calls w.heap.size (w.heap.size + 1) la co.length wr (by omega) hOA.out (by omega) (by omega))
      clear hX0
      have hl1 : (la ++ cnt co.length).length ≤ 5200005 := by rw [List.length_append]; omega
      obtain ⟨lb, hlb⟩ : ∃ lb, lb = la ++ cnt co.length := ⟨_, rfl⟩
      rw [← hlb] at hCn2 hl1
      have hlbA := Aside0.mk hlb
      clear hlb
      go_wp2_with (go_at_call 42; ((with_reducible refine hCn2.out.mono ?_); rintro e w1 ⟨⟨v1, rfl⟩, hO1, hK1, hB1⟩; have hX1 := (hKA.out.trans hK1).blk (by omega) (by decide) hXVA.out; clear g1; have g1 := hX1.get 1 _ rfl; have hF1 := Aside0.mk (And.intro hO1 (And.intro (hKA.out.trans hK1) (hBA.out.trans hB1))); clear hX1 hO1 hK1 hB1))
      go_loopw [54] (fun i wr => ∃ k : Nat, k ≤ co.length ∧ i = .int .i64 (k : Int) ∧ OutP w.heap.size wr (w.heap.size + 1) (lb ++ (co.take k).flatMap encC) ∧ Kp8 (w.heap.size + 1) V wr ∧ Below w.heap.size w wr) (fun i _ => co.length - (intOf i).toNat)
      case atStart => exact ⟨0, by omega, rfl, by simpa using hF1.out.1, hF1.out.2.1, hF1.out.2.2⟩
      case round =>
        clear hF1 g1 hOA hKA hBA
        obtain ⟨k, hk, rfl, hO, hK, hB⟩ := hrel
        have hOA := Aside0.mk hO; have hKA := Aside0.mk hK; have hBA := Aside0.mk hB
        clear hO hK hB
        by_cases hlt : k < co.length
        · obtain ⟨c, hs⟩ : ∃ c, co[k]? = some c := ⟨_, List.getElem?_eq_getElem hlt⟩
          obtain ⟨ad, cs, rfl, ⟨hok, rfl⟩, -, hcell⟩ := row_at (hCA.out.imp_ hBA.out (fun _ _ h => h)) k c hs
          have p0 : (0 : Int) ≤ (k : Int) := by omega
          have p1 : (k : Int) < (co.length : Int) := by omega
          have e2 : IntKind.i64.wrap ((k : Int) + 1) = (k : Int) + 1 := IntWalk.i64_in _ (by omega)
          have hft := flat_take encC co k c hs
          have hfl : (lb ++ (co.take k).flatMap encC).length ≤ 5300000 := by
            have := flat_length encC 16 (co.take k) (fun x hx => Nat.le_of_eq (encC_length x))
            rw [List.length_append]
            have h3 : (co.take k).length ≤ 1000 := by rw [List.length_take]; omega
            have := Nat.mul_le_mul_right 16 h3
            omega
          have hassoc : lb ++ (co.take (k + 1)).flatMap encC = (lb ++ (co.take k).flatMap encC) ++ numb (IntKind.u64.wrap c.value) 8 ++ numb c.lock 8 := by rw [hft]; simp [encC]
          have hi := info_coin c
          have hone := coc_one c
          obtain ⟨S, hSz⟩ : ∃ S, S = wr.heap.size := ⟨_, rfl⟩
          have hSB : w.heap.size + 1 < S := by rw [hSz]; obtain ⟨v, hX, _⟩ := hOA.out; exact hX.lt
          have hoA := Aside0.mk hok; have haA := Aside0.mk hassoc; have hiA := Aside0.mk hi; have honeA := Aside0.mk hone; have hceA := Aside0.mk hcell; have hSzA := Aside0.mk hSz; have hflA := Aside0.mk hfl
          clear hok hassoc hi hone hcell hSz hft hs hfl
          generalize lb ++ (co.take k).flatMap encC = lk at *
          go_wp2_with (first | ((with_reducible refine gate_dst (N := 57) rfl ?_); (refine wpList_load_any rfl 52 (.tmp 56) rfl (ad.add (k * 2)) rfl (coc c) _ hceA.out Tryd.underlying52 rfl hiA.out ?_)) | ((with_reducible refine gate_dst (N := 9) rfl ?_); (refine wpList_new_put rfl (N := 9) rfl rfl 52 (.tmp 57) rfl (coc c) (coc ⟨0, 0⟩) rfl ?hr rfl rfl hiA.out honeA.out ?_; (case hr => first | (go_simp; done) | (go_simp; rfl)); intro w2 hX2 hb2 hs2; rw [← hSzA.out] at hX2 ⊢; have hX2A := Aside0.mk hX2; have g0 := hX2.get 0 _ rfl; have hO2 := hOA.out.below hb2; have hK2A := Aside0.mk (hKA.out.below hb2); have hB2A := Aside0.mk (below_then hBA.out hBA.out.size hb2); have hH := Aside0.mk (num8_calls w.heap.size (w.heap.size + 1) lk (IntKind.u64.wrap c.value) w2 (u64_in _) hO2 (by omega) (by have := hflA.out; omega)); clear hX2 hb2 hs2 hO2)) | (go_at_call 44; (with_reducible refine hH.out.mono ?_); (rintro e w3 ⟨⟨v3, rfl⟩, hO3, hK3, hB3⟩; have hX3 := hK3.blk (by omega) (by decide) hX2A.out; clear g0; have g1 := hX3.get 1 _ rfl; have hK3A := Aside0.mk (hK2A.out.trans hK3); have hB3A := Aside0.mk (hB2A.out.trans hB3); have hN4 := Aside0.mk (num8_calls w.heap.size (w.heap.size + 1) (lk ++ numb (IntKind.u64.wrap c.value) 8) c.lock w3 hoA.out hO3 (by omega) (by have := hflA.out; rw [List.length_append, numb_length]; omega)); clear hX3 hO3 hK3 hB3 hH)) | (go_at_call 44; ((with_reducible refine hN4.out.mono ?_); rintro e w4 ⟨⟨v4, rfl⟩, hO4, hK4, hB4⟩; clear g1; have hK4A := Aside0.mk (hK3A.out.trans hK4); have hB4A := Aside0.mk (hB3A.out.trans hB4); have hO4A := Aside0.mk hO4; clear hO4 hK4 hB4 hN4)))
          go_roundw
          · exact ⟨k + 1, by omega, by go_num, by rw [haA.out]; exact hO4A.out, hK4A.out, hB4A.out⟩
          · simp [intOf]; omega
        · obtain rfl : k = co.length := by omega
          have p1 : ¬ (co.length : Int) < (co.length : Int) := by omega
          rw [List.take_of_length_le (Nat.le_refl _)] at hOA
          have hfl : (lb ++ co.flatMap encC).length ≤ 5300000 := by
            have := flat_length encC 16 co (fun x hx => Nat.le_of_eq (encC_length x))
            rw [List.length_append]
            have := Nat.mul_le_mul_right 16 h2
            omega
          obtain ⟨lz, hlz⟩ : ∃ lz, lz = lb ++ co.flatMap encC := ⟨_, rfl⟩
          rw [← hlz] at hOA hfl
          have hX0 := hKA.out.blk (by omega) (by decide) hXVA.out
          have g2 := hX0.get 2 _ rfl
          have hN := Aside0.mk (fun x (hx : 0 ≤ x ∧ x < 18446744073709551616) => num1_calls w.heap.size (w.heap.size + 1) lz x wr hx hOA.out (by omega) (by omega))
          have hfin : ∀ b : Int, numb b 1 = [b % 256] := fun b => by simp [numb, List.range_succ]
          have heq : ∀ d : List Int, lz ++ d = l0 ++ sp.flatMap (encS wit) ++ (cnt co.length ++ (co.flatMap encC ++ d)) := fun d => by rw [hlz, hlbA.out, hlaA.out]; simp
          have heqA := Aside0.mk heq; have hfinA := Aside0.mk hfin
          clear hX0 hlz heq hfin
          cases firm
          all_goals
            go_wp2_with (first | (go_at_call 44; ((first | with_reducible refine (hN.out 0 (by omega)).mono ?_ | with_reducible refine (hN.out 1 (by omega)).mono ?_); rintro e w4 ⟨⟨v4, rfl⟩, hO4, hK4, hB4⟩; have hB4A := Aside0.mk (hBA.out.trans hB4); have hY := Aside0.mk (bytes_calls w.heap.size (w.heap.size + 1) _ w4 hO4 (by rw [List.length_append, numb_length]; omega)); clear hO4 hK4 hB4 hN g2)) | (go_at_call 46; ((with_reducible refine hY.out.mono ?_); rintro e w5 ⟨⟨v5, rfl, hR5⟩, hB5⟩; have hR5A := Aside0.mk (Kd.R_lower hR5 hB4A.out.size); have hB5A := Aside0.mk (below_then hB4A.out hB4A.out.size hB5); clear hR5 hB5)))
            go_ret
            have h5 := hR5A.out
            rw [hfinA.out, heqA.out] at h5
            refine ⟨v5, rfl, ?_, hB5A.out⟩
            first | exact h5 | (simp only [List.append_assoc] at h5; exact h5)
end Go.Proofs.YtlgfekllkahfaaaDoor.Pack
/- Transactions, their bytes by the document. -/
set_option linter.unusedVariables false
set_option linter.unusedSimpArgs false
namespace Go.Proofs.YtlgfekllkahfaaaDoor.Pack
open Go.RowKit Go.Proofs.YtlgfekllkahfaaaDoorW.PrintWords Go.Proofs.YtlgfekllkahfaaaDoorW.PrintMore Go.Proofs.YtlgfekllkahfaaaDoor Go.Proofs.YtlgfekllkahfaaaDoor.Bits Sha ArrK ShaW
abbrev R8 (base : Nat) (W : World) (v : Value) (l : List Int) : Prop := Kd.R (Kd.int .u8) 5 W base (fun _ => True) v l
set_option maxRecDepth 100000 in
set_option maxHeartbeats 1600000 in
theorem rput_calls (t : Tr) (wit : Bool) (A1 A2 : Option Addr) (c1 c2 : Nat) (w : World) (hS : SpR w A1 t.sp.length t.sp) (hC : CoR w A2 t.co.length t.co) (h1 : t.sp.length ≤ 1000) (h2 : t.co.length ≤ 1000) :
    Calls Tryd.prog 25 #[.agg #[.slice A1 t.sp.length c1, .slice A2 t.co.length c2, .bool t.firm], .bool wit] w fun e w' => ∃ v, e = .returned v ∧ R8 w.heap.size w' v (enc wit t) ∧ Below w.heap.size w w' := by
  obtain ⟨sp, co, firm⟩ := t
  simp only at hS hC h1 h2 ⊢
  obtain ⟨V, hV⟩ : ∃ V, V = w.alloc (.cells #[.slice A1 sp.length c1, .slice A2 co.length c2, .bool firm] 25) := ⟨_, rfl⟩
  have hXV : Blk V w.heap.size 25 [.slice A1 sp.length c1, .slice A2 co.length c2, .bool firm] := by rw [hV]; exact Blk.new w 25 [.slice A1 sp.length c1, .slice A2 co.length c2, .bool firm]
  have hBV : Below w.heap.size w V := by rw [hV]; exact below_alloc (Below.refl _ _) _
  have hVs : V.heap.size = w.heap.size + 1 := by rw [hV]; simp
  have hVA := Aside0.mk hV; have hSA := Aside0.mk hS; have hCA := Aside0.mk hC; have hXVA := Aside0.mk hXV; have hBVA := Aside0.mk hBV; have hVsA := Aside0.mk hVs
  have hCn := Aside0.mk (rcount_calls sp.length (by omega) V)
  have hl0 : (cnt sp.length).length ≤ 5 := cnt_length _
  clear hV hS hC hXV hBV hVs
  show Calls _ _ _ _ (fun e w' => ∃ v, e = .returned v ∧ R8 w.heap.size w' v (cnt sp.length ++ sp.flatMap (encS wit) ++ (cnt co.length ++ (co.flatMap encC ++ [if firm then 1 else 0]))) ∧ Below w.heap.size w w')
  generalize cnt sp.length = l0 at *
  go_enter Tryd.func25, Tryd.ntmps25
  go_wp2_with (go_at_call 47; (rw [← hVA.out]; (with_reducible refine hCn.out.mono ?_); rintro e w1 ⟨v1, rfl, hR1, hB1⟩; have hF1 := Aside0.mk (And.intro hR1 hB1); clear hR1 hB1))
  go_loopw [6, 5] (fun i u wr => ∃ k : Nat, k ≤ sp.length ∧ i = .int .i64 (k : Int) ∧ R8 V.heap.size wr u (l0 ++ (sp.take k).flatMap (encS wit)) ∧ Below V.heap.size V wr) (fun i _ _ => sp.length - (intOf i).toNat)
  case atStart => exact ⟨0, by omega, rfl, by simpa using hF1.out.1, hF1.out.2⟩
  case round =>
    clear hF1
    obtain ⟨k, hk, rfl, hR, hB⟩ := hrel
    have hX0 := hXVA.out.below hB
    have g0 := hX0.get 0 _ rfl
    have hRA := Aside0.mk hR; have hBA := Aside0.mk hB; have hBwA := Aside0.mk (below_then hBVA.out hBVA.out.size hB)
    clear hR hB hX0
    by_cases hlt : k < sp.length
    · obtain ⟨s, hs⟩ : ∃ s, sp[k]? = some s := ⟨_, List.getElem?_eq_getElem hlt⟩
      obtain ⟨ad, cs, rfl, ⟨hok, rfl⟩, -, hcell⟩ := row_at (hSA.out.imp_ hBwA.out (fun _ _ h => h)) k s hs
      have p0 : (0 : Int) ≤ (k : Int) := by omega
      have p1 : (k : Int) < (sp.length : Int) := by omega
      have e2 : IntKind.i64.wrap ((k : Int) + 1) = (k : Int) + 1 := IntWalk.i64_in _ (by omega)
      have hft := flat_take (encS wit) sp k s hs
      have hfl : (l0 ++ (sp.take k).flatMap (encS wit)).length ≤ 5200000 := by
        have := flat_length (encS wit) 5100 (sp.take k) (fun x hx => encS_length wit x (by
          obtain ⟨i, hi⟩ := List.mem_iff_getElem?.1 (List.mem_of_mem_take hx)
          exact (row_at hSA.out i x hi).choose_spec.choose_spec.2.1.1))
        rw [List.length_append]
        have h3 : (sp.take k).length ≤ 1000 := by rw [List.length_take]; omega
        have := Nat.mul_le_mul_right 5100 h3
        omega
      have hassoc : l0 ++ (sp.take (k + 1)).flatMap (encS wit) = (l0 ++ (sp.take k).flatMap (encS wit)) ++ encS wit s := by rw [hft, List.append_assoc]
      have hi := info_spend s hok.1
      have hih := info_hash s.tx hok.1
      have t0 := spc_tx s hok.1
      have t1 := spc_n s hok.1
      have t2 := spc_key s hok.1
      have t3 := spc_seal s hok.1
      have hone := spc_one s
      have hll := spc_length s hok.1
      obtain ⟨S, hSz⟩ : ∃ S, S = wr.heap.size := ⟨_, rfl⟩
      have hn4 := numb_length (IntKind.u64.wrap s.n) 4
      have hn8 := numb_length s.sel 8
      have hrhA := Aside0.mk (fun W => rhash_calls s.tx hok.1 W)
      have hrt := fun W => rtext_calls s.key (by have := hok.2.2.2.2; omega) W
      have hr4 := fun W => rnum4_calls (IntKind.u64.wrap s.n) (u64_in _) W
      have hr8 := fun W => rnum8_calls s.sel ⟨hok.2.2.1, hok.2.2.2.1⟩ W
      have hrl : (cnt s.key.size ++ bytesOf s.key).length ≤ 5100 := by rw [List.length_append, bytesOf_length]; have := cnt_length s.key.size; have := hok.2.2.2.2; omega
      have het := encS_true (l0 ++ (sp.take k).flatMap (encS wit)) s
      have hef := encS_false (l0 ++ (sp.take k).flatMap (encS wit)) s
      have hoA := Aside0.mk hok; have hiA := Aside0.mk hi; have hihA := Aside0.mk hih; have t0A := Aside0.mk t0; have t1A := Aside0.mk t1; have t2A := Aside0.mk t2; have t3A := Aside0.mk t3; have honeA := Aside0.mk hone; have hllA := Aside0.mk hll; have hceA := Aside0.mk hcell; have hSzA := Aside0.mk hSz
      clear hok hi hih t0 t1 t2 t3 hone hll hcell hSz hft hs
      generalize l0 ++ (sp.take k).flatMap (encS wit) = lk at *
      generalize cnt s.key.size ++ bytesOf s.key = tk at *
      generalize numb s.sel 8 = nk at *
      have hflA := Aside0.mk hfl; have haA := Aside0.mk hassoc; have hn4A := Aside0.mk hn4; have hn8A := Aside0.mk hn8; have hrtA := Aside0.mk hrt; have hr4A := Aside0.mk hr4; have hr8A := Aside0.mk hr8; have hrlA := Aside0.mk hrl; have hetA := Aside0.mk het; have hefA := Aside0.mk hef
      clear hfl hassoc hn4 hn8 hrt hr4 hr8 hrl het hef
      cases wit
      all_goals
        go_wp2_with (first | ((with_reducible refine gate_dst (N := 24) rfl ?_); (refine wpList_load_any rfl 38 (.tmp 23) rfl (ad.add (k * 35)) rfl (spc s) _ hceA.out Tryd.underlying38 rfl hiA.out ?_)) | ((with_reducible refine gate_dst (N := 7) rfl ?_); (refine wpList_new_put rfl (N := 7) rfl rfl 38 (.tmp 24) rfl (spc s) (spc zsp) (by rw [hllA.out]; rfl) ?hr rfl rfl hiA.out honeA.out ?_; (case hr => first | (go_simp; done) | (go_simp; rfl)); intro w2 hX2 hb2 hs2; rw [← hSzA.out] at hX2 ⊢; have hX2A := Aside0.mk hX2; have hR2A := Aside0.mk (Kd.R_below hRA.out hb2); have hB2A := Aside0.mk (below_then hBA.out hBA.out.size hb2); clear hX2 hb2 hs2 g0)) | ((with_reducible refine gate_dst (N := 28) rfl ?_); (refine wpList_load_any rfl 34 (.tmp 27) rfl ⟨S, 0, none⟩ rfl (nums .u8 s.tx) _ (fun j u hu => hX2A.out.add j u (t0A.out j u hu)) Tryd.underlying34 rfl hihA.out ?_)) | (go_at_call 48; ((with_reducible refine (hrhA.out _).mono ?_); rintro e w3 ⟨v3, rfl, hR3, hB3⟩; obtain ⟨A3, c3, rfl, hc3, hC3⟩ := Kd.R_reads hR3; have hC3A := Aside0.mk hC3; have hX3A := Aside0.mk (hX2A.out.below hB3); have hR3A := Aside0.mk (Kd.R_below hR2A.out hB3); have hB3A := Aside0.mk (below_then hB2A.out hB2A.out.size hB3); clear hR3 hB3 hC3)) | ((with_reducible refine gate_dst (N := 30) rfl ?_); at_builtin; (refine Kd.R_append_rows (Kd.int .u8) (w0 := V) V.heap.size rfl (.tmp 25) (.tmp 29) 40 5 (.int .u8 0) 1 rfl Tryd.underlying40 info_u8 rfl (by decide) (by omega) _ lk s.tx A3 _ _ (fun _ => True) (fun _ => False) rfl rfl hR3A.out hC3A.out (fun _ _ h => h) (fun _ h => h.elim) (fun _ _ => trivial) hB3A.out hB3A.out.size (by have := hflA.out; have := hoA.out.1; omega) ?_; intro v4 w4 hR4 hB4 hg4 _; have hX4 := hX3A.out.grown hg4 (Kd.R_ne hR3A.out hX3A.out (by decide)); have g32 := hX4.get 32 _ t1A.out; have hX4A := Aside0.mk hX4; have hR4A := Aside0.mk hR4; have hB4A := Aside0.mk hB4; clear hX4 hR4 hB4 hg4)) | (go_at_call 49; (with_reducible refine (hr4A.out _).mono ?_); (rintro e w5 ⟨v5, rfl, hR5, hB5⟩; obtain ⟨A5, c5, rfl, hc5, hC5⟩ := Kd.R_reads hR5; have hC5A := Aside0.mk hC5; have hX5A := Aside0.mk (hX4A.out.below hB5); have hR5A := Aside0.mk (Kd.R_below hR4A.out hB5); have hB5A := Aside0.mk (below_then hB4A.out hB4A.out.size hB5); clear hR5 hB5 hC5 g32)) | ((with_reducible refine gate_dst (N := 37) rfl ?_); at_builtin; (refine Kd.R_append_rows (Kd.int .u8) (w0 := V) V.heap.size rfl (.tmp 31) (.tmp 36) 40 5 (.int .u8 0) 1 rfl Tryd.underlying40 info_u8 rfl (by decide) (by omega) _ (lk ++ s.tx) _ A5 _ _ (fun _ => True) (fun _ => False) rfl rfl hR5A.out hC5A.out (fun _ _ h => h) (fun _ h => h.elim) (fun _ _ => trivial) hB5A.out hB5A.out.size (by have := hflA.out; have := hoA.out.1; have := hn4A.out; rw [List.length_append]; omega) ?_; intro v6 w6 hR6 hB6 hg6 _; have hX6 := hX5A.out.grown hg6 (Kd.R_ne hR5A.out hX5A.out (by decide)); have g33 := hX6.get 33 _ t2A.out; have hX6A := Aside0.mk hX6; have hR6A := Aside0.mk hR6; have hB6A := Aside0.mk hB6; clear hX6 hR6 hB6 hg6)) | (go_at_call 50; (with_reducible refine (hrtA.out _).mono ?_); (rintro e w7 ⟨v7, rfl, hR7, hB7⟩; obtain ⟨A7, c7, rfl, hc7, hC7⟩ := Kd.R_reads hR7; have hC7A := Aside0.mk hC7; have hX7A := Aside0.mk (hX6A.out.below hB7); have hR7A := Aside0.mk (Kd.R_below hR6A.out hB7); have hB7A := Aside0.mk (below_then hB6A.out hB6A.out.size hB7); clear hR7 hB7 hC7 g33)) | ((with_reducible refine gate_dst (N := 43) rfl ?_); at_builtin; (refine Kd.R_append_rows (Kd.int .u8) (w0 := V) V.heap.size rfl (.tmp 39) (.tmp 42) 40 5 (.int .u8 0) 1 rfl Tryd.underlying40 info_u8 rfl (by decide) (by omega) _ (lk ++ s.tx ++ numb (IntKind.u64.wrap s.n) 4) _ A7 _ _ (fun _ => True) (fun _ => False) rfl rfl hR7A.out hC7A.out (fun _ _ h => h) (fun _ h => h.elim) (fun _ _ => trivial) hB7A.out hB7A.out.size (by have := hflA.out; have := hoA.out.1; have := hn4A.out; have := hrlA.out; rw [List.length_append, List.length_append]; omega) ?_; intro v8 w8 hR8 hB8 hg8 _; have hX8 := hX7A.out.grown hg8 (Kd.R_ne hR7A.out hX7A.out (by decide)); have g34 := hX8.get 34 _ t3A.out; have hX8A := Aside0.mk hX8; have hR8A := Aside0.mk hR8; have hB8A := Aside0.mk hB8; clear hX8 hR8 hB8 hg8)) | (go_at_call 49; ((with_reducible refine (hr8A.out _).mono ?_); rintro e w9 ⟨v9, rfl, hR9, hB9⟩; obtain ⟨A9, c9, rfl, hc9, hC9⟩ := Kd.R_reads hR9; have hC9A := Aside0.mk hC9; have hR9A := Aside0.mk (Kd.R_below hR8A.out hB9); have hB9A := Aside0.mk (below_then hB8A.out hB8A.out.size hB9); clear hR9 hB9 hC9 g34)) | ((with_reducible refine gate_dst (N := 48) rfl ?_); at_builtin; (refine Kd.R_append_rows (Kd.int .u8) (w0 := V) V.heap.size rfl (.tmp 44) (.tmp 47) 40 5 (.int .u8 0) 1 rfl Tryd.underlying40 info_u8 rfl (by decide) (by omega) _ (lk ++ s.tx ++ numb (IntKind.u64.wrap s.n) 4 ++ tk) _ A9 _ _ (fun _ => True) (fun _ => False) rfl rfl hR9A.out hC9A.out (fun _ _ h => h) (fun _ h => h.elim) (fun _ _ => trivial) hB9A.out hB9A.out.size (by have := hflA.out; have := hoA.out.1; have := hn4A.out; have := hrlA.out; have := hn8A.out; rw [List.length_append, List.length_append, List.length_append]; omega) ?_; intro v10 w10 hR10 hB10 hg10 _; have hR10A := Aside0.mk hR10; have hB10A := Aside0.mk hB10; clear hR10 hB10 hg10)))
        go_roundw
        · first | exact ⟨k + 1, by omega, by go_num, by rw [haA.out, hefA.out]; exact hR6A.out, hB6A.out⟩ | exact ⟨k + 1, by omega, by go_num, by rw [haA.out, hetA.out]; exact hR10A.out, hB10A.out⟩
        · simp [intOf]; omega
    · obtain rfl : k = sp.length := by omega
      have p1 : ¬ (sp.length : Int) < (sp.length : Int) := by omega
      rw [List.take_of_length_le (Nat.le_refl _)] at hRA
      have hfl : (l0 ++ sp.flatMap (encS wit)).length ≤ 5200000 := by
        have := flat_length (encS wit) 5100 sp (fun x hx => encS_length wit x (by
          obtain ⟨i, hi⟩ := List.mem_iff_getElem?.1 hx
          exact (row_at hSA.out i x hi).choose_spec.choose_spec.2.1.1))
        rw [List.length_append]
        have := Nat.mul_le_mul_right 5100 h1
        omega
      obtain ⟨la, hla⟩ : ∃ la, la = l0 ++ sp.flatMap (encS wit) := ⟨_, rfl⟩
      rw [← hla] at hRA hfl
      have hlaA := Aside0.mk hla
      have hcl : (cnt co.length).length ≤ 5 := cnt_length _
      have g1 := (hXVA.out.below hBA.out).get 1 _ rfl
      have hCn2 := Aside0.mk (rcount_calls co.length (by omega) wr)
      have hflA := Aside0.mk hfl; have hclA := Aside0.mk hcl
      have heq : ∀ d : List Int, la ++ cnt co.length ++ d = l0 ++ sp.flatMap (encS wit) ++ (cnt co.length ++ d) := fun d => by rw [hla]; simp
      have heqA := Aside0.mk heq
      clear hla hfl hcl heq
      have hcoA := Aside0.mk (Eq.refl (cnt co.length))
      generalize hcd : cnt co.length = cd at hCn2 hclA hcoA heqA
      have hcdA := Aside0.mk hcd
      clear hcd
      go_wp2_with (first | (go_at_call 47; ((with_reducible refine hCn2.out.mono ?_); rintro e w1 ⟨v1, rfl, hR1, hB1⟩; obtain ⟨A1', c1', rfl, hc1, hC1⟩ := Kd.R_reads hR1; have hC1A := Aside0.mk hC1; have hR1A := Aside0.mk (Kd.R_below hRA.out hB1); have hB1A := Aside0.mk (below_then hBA.out hBA.out.size hB1); clear hR1 hB1 hC1 g1)) | ((with_reducible refine gate_dst (N := 54) rfl ?_); at_builtin; (refine Kd.R_append_rows (Kd.int .u8) (w0 := V) V.heap.size rfl (.tmp 49) (.tmp 53) 40 5 (.int .u8 0) 1 rfl Tryd.underlying40 info_u8 rfl (by decide) (by omega) _ la _ A1' _ _ (fun _ => True) (fun _ => False) rfl rfl hR1A.out hC1A.out (fun _ _ h => h) (fun _ h => h.elim) (fun _ _ => trivial) hB1A.out hB1A.out.size (by have := hflA.out; have := hclA.out; omega) ?_; intro v2 w2 hR2 hB2 _ _; have g1 := (hXVA.out.below hB2).get 1 _ rfl; have hF2 := Aside0.mk (And.intro hR2 hB2); clear hR2 hB2)))
      have hlb : (la ++ cd).length ≤ 5200005 := by have := hflA.out; have := hclA.out; rw [List.length_append]; omega
      obtain ⟨lb, hlb2⟩ : ∃ lb, lb = la ++ cd := ⟨_, rfl⟩
      rw [← hlb2] at hF2 hlb heqA
      clear hlb2 hCn2 hflA hclA
      go_loopw [8, 5] (fun i u wr => ∃ k : Nat, k ≤ co.length ∧ i = .int .i64 (k : Int) ∧ R8 V.heap.size wr u (lb ++ (co.take k).flatMap encC) ∧ Below V.heap.size V wr) (fun i _ _ => co.length - (intOf i).toNat)
      case atStart => exact ⟨0, by omega, rfl, by simpa using hF2.out.1, hF2.out.2⟩
      case round =>
        clear hF2 g1 hRA hBA hBwA
        obtain ⟨k, hk, rfl, hR, hB⟩ := hrel
        have g1 := (hXVA.out.below hB).get 1 _ rfl
        have hRA := Aside0.mk hR; have hBA := Aside0.mk hB; have hBwA := Aside0.mk (below_then hBVA.out hBVA.out.size hB)
        clear hR hB
        by_cases hlt : k < co.length
        · obtain ⟨c, hs⟩ : ∃ c, co[k]? = some c := ⟨_, List.getElem?_eq_getElem hlt⟩
          have hat := fun W (hW : Below w.heap.size w W) => row_at (hCA.out.imp_ hW (fun _ _ h => h)) k c hs
          obtain ⟨ad, cs, rfl, ⟨hok, -⟩, -, -⟩ := hat _ hBwA.out
          have hat2 : ∀ W, Below w.heap.size w W → ∀ j u, (coc c)[j]? = some u → W.cell? ((ad.add (k * 2)).add j) = some u := fun W hW => by
            obtain ⟨ad', cs', e, ⟨-, rfl⟩, -, h⟩ := hat W hW
            cases e
            exact h
          have p0 : (0 : Int) ≤ (k : Int) := by omega
          have p1 : (k : Int) < (co.length : Int) := by omega
          have e2 : IntKind.i64.wrap ((k : Int) + 1) = (k : Int) + 1 := IntWalk.i64_in _ (by omega)
          have hft := flat_take encC co k c hs
          have hfl : (lb ++ (co.take k).flatMap encC).length ≤ 5300000 := by
            have := flat_length encC 16 (co.take k) (fun x hx => Nat.le_of_eq (encC_length x))
            rw [List.length_append]
            have h3 : (co.take k).length ≤ 1000 := by rw [List.length_take]; omega
            have := Nat.mul_le_mul_right 16 h3
            omega
          have hassoc : lb ++ (co.take (k + 1)).flatMap encC = (lb ++ (co.take k).flatMap encC) ++ numb (IntKind.u64.wrap c.value) 8 ++ numb c.lock 8 := by rw [hft]; simp [encC]
          have hq0 : ∀ W, Below w.heap.size w W → W.cell? (ad.add (k * 2)) = some (.int .i64 c.value) := fun W hW => by have := hat2 W hW 0 _ rfl; rwa [Deep.add_add, Nat.add_zero] at this
          have hq1 : ∀ W, Below w.heap.size w W → W.cell? ⟨(ad.add (k * 2)).block, (ad.add (k * 2)).off + 1, none⟩ = some (.int .u64 c.lock) := fun W hW => hat2 W hW 1 _ rfl
          have q0 := hq0 _ hBwA.out
          have hq1A := Aside0.mk hq1
          have hn1 := numb_length (IntKind.u64.wrap c.value) 8
          have hn2 := numb_length c.lock 8
          have hr1A := Aside0.mk (fun W => rnum8_calls (IntKind.u64.wrap c.value) (u64_in _) W)
          have hr2A := Aside0.mk (fun W => rnum8_calls c.lock hok W)
          have hn1A := Aside0.mk hn1; have hn2A := Aside0.mk hn2; have haA := Aside0.mk hassoc; have hatA := Aside0.mk hat2; have hflA := Aside0.mk hfl
          clear hok hassoc hat hat2 hq0 hq1 hft hs hfl hn1 hn2
          generalize lb ++ (co.take k).flatMap encC = lk at *
          go_wp2_with (first | (go_at_call 49; (with_reducible refine (hr1A.out _).mono ?_); (rintro e w5 ⟨v5, rfl, hR5, hB5⟩; obtain ⟨A5, c5, rfl, hc5, hC5⟩ := Kd.R_reads hR5; have hC5A := Aside0.mk hC5; have hR5A := Aside0.mk (Kd.R_below hRA.out hB5); have hB5A := Aside0.mk (below_then hBA.out hBA.out.size hB5); clear hR5 hB5 hC5 q0 g1)) | ((with_reducible refine gate_dst (N := 71) rfl ?_); at_builtin; (refine Kd.R_append_rows (Kd.int .u8) (w0 := V) V.heap.size rfl (.tmp 62) (.tmp 70) 40 5 (.int .u8 0) 1 rfl Tryd.underlying40 info_u8 rfl (by decide) (by omega) _ lk _ A5 _ _ (fun _ => True) (fun _ => False) rfl rfl hR5A.out hC5A.out (fun _ _ h => h) (fun _ h => h.elim) (fun _ _ => trivial) hB5A.out hB5A.out.size (by have := hflA.out; have := hn1A.out; omega) ?_; intro v6 w6 hR6 hB6 _ _; have g1 := (hXVA.out.below hB6).get 1 _ rfl; have hR6A := Aside0.mk hR6; have hB6A := Aside0.mk hB6; have q1 := hq1A.out _ (below_then hBVA.out hBVA.out.size hB6);  clear hR6 hB6)) | (go_at_call 49; ((with_reducible refine (hr2A.out _).mono ?_); rintro e w9 ⟨v9, rfl, hR9, hB9⟩; obtain ⟨A9, c9, rfl, hc9, hC9⟩ := Kd.R_reads hR9; have hC9A := Aside0.mk hC9; have hR9A := Aside0.mk (Kd.R_below hR6A.out hB9); have hB9A := Aside0.mk (below_then hB6A.out hB6A.out.size hB9); clear hR9 hB9 hC9 g1 q1)) | ((with_reducible refine gate_dst (N := 80) rfl ?_); at_builtin; (refine Kd.R_append_rows (Kd.int .u8) (w0 := V) V.heap.size rfl (.tmp 72) (.tmp 79) 40 5 (.int .u8 0) 1 rfl Tryd.underlying40 info_u8 rfl (by decide) (by omega) _ (lk ++ numb (IntKind.u64.wrap c.value) 8) _ A9 _ _ (fun _ => True) (fun _ => False) rfl rfl hR9A.out hC9A.out (fun _ _ h => h) (fun _ h => h.elim) (fun _ _ => trivial) hB9A.out hB9A.out.size (by have := hflA.out; have := hn1A.out; have := hn2A.out; rw [List.length_append]; omega) ?_; intro v10 w10 hR10 hB10 _ _; have hR10A := Aside0.mk hR10; have hB10A := Aside0.mk hB10; clear hR10 hB10)))
          go_roundw
          · exact ⟨k + 1, by omega, by go_num, by rw [haA.out]; exact hR10A.out, hB10A.out⟩
          · simp [intOf]; omega
        · obtain rfl : k = co.length := by omega
          have p1 : ¬ (co.length : Int) < (co.length : Int) := by omega
          rw [List.take_of_length_le (Nat.le_refl _)] at hRA
          have hfl : (lb ++ co.flatMap encC).length ≤ 5300000 := by
            have := flat_length encC 16 co (fun x hx => Nat.le_of_eq (encC_length x))
            rw [List.length_append]
            have := Nat.mul_le_mul_right 16 h2
            omega
          have heq2 : ∀ d : List Int, lb ++ co.flatMap encC ++ d = l0 ++ sp.flatMap (encS wit) ++ (cnt co.length ++ (co.flatMap encC ++ d)) := fun d => by rw [List.append_assoc, hcdA.out]; exact heqA.out _
          have heq2A := Aside0.mk heq2
          clear heq2
          obtain ⟨lz, hlz⟩ : ∃ lz, lz = lb ++ co.flatMap encC := ⟨_, rfl⟩
          rw [← hlz] at hRA hfl heq2A
          clear hlz
          have hflA := Aside0.mk hfl
          clear hfl
          have g2 := (hXVA.out.below hBA.out).get 2 _ rfl
          cases firm
          all_goals
            go_wp2_with (first | ((with_reducible refine gate_dst (N := 84) rfl ?_); (refine Kd.R_lit (Kd.int .u8) (w0 := wr) wr.heap.size 5 rfl (N := 84) rfl (xs := ([1] : List Int)) (inner := [.int .u8 1]) (ok := fun _ => True) (okp := fun _ => True) ?hr (Reps.one (show Kd.M (Kd.int .u8) _ _ _ 1 [.int .u8 1] from rfl) (Reps.none _ _)) (fun _ hk => hk) trivial (Below.refl _ _) (Nat.le_refl _) (by simp) ?_; (case hr => go_simp); intro v3 w3 hR3 hB3 _ _; obtain ⟨A3, c3, rfl, hc3, hC3⟩ := Kd.R_reads hR3; have hC3A := Aside0.mk hC3; have hR3A := Aside0.mk (Kd.R_below hRA.out hB3); have hB3A := Aside0.mk (below_then hBA.out hBA.out.size hB3); clear hR3 hB3 hC3)) | ((with_reducible refine gate_dst (N := 87) rfl ?_); (refine Kd.R_lit (Kd.int .u8) (w0 := wr) wr.heap.size 5 rfl (N := 87) rfl (xs := ([0] : List Int)) (inner := [.int .u8 0]) (ok := fun _ => True) (okp := fun _ => True) ?hr (Reps.one (show Kd.M (Kd.int .u8) _ _ _ 0 [.int .u8 0] from rfl) (Reps.none _ _)) (fun _ hk => hk) trivial (Below.refl _ _) (Nat.le_refl _) (by simp) ?_; (case hr => go_simp); intro v3 w3 hR3 hB3 _ _; obtain ⟨A3, c3, rfl, hc3, hC3⟩ := Kd.R_reads hR3; have hC3A := Aside0.mk hC3; have hR3A := Aside0.mk (Kd.R_below hRA.out hB3); have hB3A := Aside0.mk (below_then hBA.out hBA.out.size hB3); clear hR3 hB3 hC3)) | ((with_reducible refine gate_dst (N := 85) rfl ?_); at_builtin; (refine Kd.R_append_rows (Kd.int .u8) (w0 := V) V.heap.size rfl (.tmp 83) (.tmp 84) 40 5 (.int .u8 0) 1 rfl Tryd.underlying40 info_u8 rfl (by decide) (by omega) _ lz _ A3 _ _ (fun _ => True) (fun _ => False) rfl rfl hR3A.out hC3A.out (fun _ _ h => h) (fun _ h => h.elim) (fun _ _ => trivial) hB3A.out hB3A.out.size (by have := hflA.out; simp; omega) ?_; intro v4 w4 hR4 hB4 _ _; have hR4A := Aside0.mk hR4; have hB4A := Aside0.mk (hBVA.out.trans (hB4.mono hBVA.out.size)); clear hR4 hB4)) | ((with_reducible refine gate_dst (N := 88) rfl ?_); at_builtin; (refine Kd.R_append_rows (Kd.int .u8) (w0 := V) V.heap.size rfl (.tmp 86) (.tmp 87) 40 5 (.int .u8 0) 1 rfl Tryd.underlying40 info_u8 rfl (by decide) (by omega) _ lz _ A3 _ _ (fun _ => True) (fun _ => False) rfl rfl hR3A.out hC3A.out (fun _ _ h => h) (fun _ h => h.elim) (fun _ _ => trivial) hB3A.out hB3A.out.size (by have := hflA.out; simp; omega) ?_; intro v4 w4 hR4 hB4 _ _; have hR4A := Aside0.mk hR4; have hB4A := Aside0.mk (hBVA.out.trans (hB4.mono hBVA.out.size)); clear hR4 hB4)))
            go_ret
            have h5 := hR4A.out
            rw [heq2A.out] at h5
            refine ⟨v4, rfl, ?_, hB4A.out⟩
            first | exact Kd.R_lower h5 hBVA.out.size | (simp only [List.append_assoc] at h5; exact Kd.R_lower h5 hBVA.out.size)
end Go.Proofs.YtlgfekllkahfaaaDoor.Pack
/- Transactions' ids. -/
set_option linter.unusedVariables false
set_option linter.unusedSimpArgs false
namespace Go.Proofs.YtlgfekllkahfaaaDoor.Pack
open Go.RowKit Go.Proofs.YtlgfekllkahfaaaDoorW.PrintWords Go.Proofs.YtlgfekllkahfaaaDoorW.PrintMore Go.Proofs.YtlgfekllkahfaaaDoor Go.Proofs.YtlgfekllkahfaaaDoor.Bits Sha ArrK ShaW
/-- a transaction as it lies -/
structure TrOk (W : World) (t : Tr) (A1 A2 : Option Addr) (c1 c2 : Nat) : Prop where
  sp : SpR W A1 t.sp.length t.sp
  co : CoR W A2 t.co.length t.co
  n1 : t.sp.length ≤ 1000
  n2 : t.co.length ≤ 1000
abbrev trv (t : Tr) (A1 A2 : Option Addr) (c1 c2 : Nat) : Value := .agg #[.slice A1 t.sp.length c1, .slice A2 t.co.length c2, .bool t.firm]
abbrev trc (t : Tr) (A1 A2 : Option Addr) (c1 c2 : Nat) : List Value := [.slice A1 t.sp.length c1, .slice A2 t.co.length c2, .bool t.firm]
theorem TrOk.below {W W1 : World} {t : Tr} {A1 A2 : Option Addr} {c1 c2 : Nat} (h : TrOk W t A1 A2 c1 c2) (hb : Below W.heap.size W W1) : TrOk W1 t A1 A2 c1 c2 := ⟨h.sp.imp_ hb (fun _ _ h => h), h.co.imp_ hb (fun _ _ h => h), h.n1, h.n2⟩
theorem TrOk.spok {W : World} {t : Tr} {A1 A2 : Option Addr} {c1 c2 : Nat} (h : TrOk W t A1 A2 c1 c2) : ∀ s ∈ t.sp, SpOk s := fun x hx => by
  obtain ⟨i, hi⟩ := List.mem_iff_getElem?.1 hx
  exact (row_at h.sp i x hi).choose_spec.choose_spec.2.1.1
theorem encS_bytes (wit : Bool) (s : Sp) (h : SpOk s) : Bytes (encS wit s) := by
  intro x hx
  unfold encS at hx
  rcases List.mem_append.1 hx with hx | hx
  · exact h.2.1 x hx
  · rcases List.mem_append.1 hx with hx | hx
    · exact numb_bytes _ _ x hx
    · cases wit
      · simp at hx
      · rw [if_pos rfl] at hx
        rcases List.mem_append.1 hx with hx | hx
        · rcases List.mem_append.1 hx with hx | hx
          · exact cnt_bytes _ x hx
          · exact bytes_ok _ x hx
        · exact numb_bytes _ _ x hx
theorem enc_bytes (wit : Bool) (t : Tr) (h : ∀ s ∈ t.sp, SpOk s) : Bytes (enc wit t) := by
  intro x hx
  unfold enc at hx
  rcases List.mem_append.1 hx with hx | hx
  · rcases List.mem_append.1 hx with hx | hx
    · exact cnt_bytes _ x hx
    · obtain ⟨s, hs, hx⟩ := List.mem_flatMap.1 hx
      exact encS_bytes wit s (h s hs) x hx
  · rcases List.mem_append.1 hx with hx | hx
    · exact cnt_bytes _ x hx
    · rcases List.mem_append.1 hx with hx | hx
      · obtain ⟨c, hc, hx⟩ := List.mem_flatMap.1 hx
        unfold encC at hx
        rcases List.mem_append.1 hx with hx | hx <;> exact numb_bytes _ _ x hx
      · rw [List.mem_singleton] at hx; subst hx; cases t.firm <;> simp
theorem enc_length (wit : Bool) (t : Tr) (h : ∀ s ∈ t.sp, SpOk s) (h1 : t.sp.length ≤ 1000) (h2 : t.co.length ≤ 1000) : (enc wit t).length ≤ 6000000 := by
  have e1 := flat_length (encS wit) 5100 t.sp (fun x hx => encS_length wit x (h x hx))
  have e2 := flat_length encC 16 t.co (fun x hx => Nat.le_of_eq (encC_length x))
  have e3 := Nat.mul_le_mul_right 5100 h1
  have e4 := Nat.mul_le_mul_right 16 h2
  have e5 := cnt_length t.sp.length
  have e6 := cnt_length t.co.length
  unfold enc
  simp only [List.length_append, List.length_cons, List.length_nil]
  omega
/-- the id -/
def idv (t : Tr) : List Int := dbl (enc false t)
theorem info_tx (t : Tr) (A1 A2 : Option Addr) (c1 c2 : Nat) : (Tryd.prog.info? 25).map (·.size) = some (trc t A1 A2 c1 c2).length := by show _ = some 3; kernel_rfl
section
variable {t : Tr} {A1 A2 : Option Addr} {c1 c2 : Nat}
set_option maxRecDepth 100000 in
set_option maxHeartbeats 400000 in
theorem base_calls (w : World) (h : TrOk w t A1 A2 c1 c2) : Calls Tryd.prog 9 #[trv t A1 A2 c1 c2] w fun e w' => ∃ v, e = .returned v ∧ R8 w.heap.size w' v (enc false t) ∧ Below w.heap.size w w' := by
  obtain ⟨V, hV⟩ : ∃ V, V = w.alloc (.cells (trc t A1 A2 c1 c2).toArray 25) := ⟨_, rfl⟩
  have hX : Blk V w.heap.size 25 (trc t A1 A2 c1 c2) := by rw [hV]; exact Blk.new w _ _
  have hB : Below w.heap.size w V := by rw [hV]; exact below_alloc (Below.refl _ _) _
  have h' := h.below hB
  have hP := put_calls t false A1 A2 c1 c2 V h'.sp h'.co h'.n1 h'.n2
  have hVA := Aside0.mk hV; have hXA := Aside0.mk hX; have hBA := Aside0.mk hB; have hPA := Aside0.mk hP; have hiA := Aside0.mk (info_tx t A1 A2 c1 c2)
  clear hV hX hB h h' hP
  go_enter Tryd.func9, Tryd.ntmps9
  go_wp2_with (first | ((with_reducible refine gate_dst (N := 3) rfl ?_); (rw [show (w.alloc (.cells #[.slice A1 t.sp.length c1, .slice A2 t.co.length c2, .bool t.firm] 25)) = V from hVA.out.symm]; refine wpList_load_blk rfl 25 (.tmp 1) rfl w.heap.size 25 rfl (trc t A1 A2 c1 c2) _ hXA.out Tryd.underlying25 rfl hiA.out ?_)) | (go_at_call 24; ((with_reducible refine hPA.out.mono ?_); rintro e w2 ⟨v, rfl, hR, hb⟩; have hF := Aside0.mk (And.intro (Kd.R_lower hR hBA.out.size) (below_then hBA.out hBA.out.size hb)); clear hR hb)))
  go_ret
  exact ⟨_, rfl, hF.out⟩
set_option maxRecDepth 100000 in
set_option maxHeartbeats 400000 in
theorem rbase_calls (w : World) (h : TrOk w t A1 A2 c1 c2) : Calls Tryd.prog 14 #[trv t A1 A2 c1 c2] w fun e w' => ∃ v, e = .returned v ∧ R8 w.heap.size w' v (enc false t) ∧ Below w.heap.size w w' := by
  obtain ⟨V, hV⟩ : ∃ V, V = w.alloc (.cells (trc t A1 A2 c1 c2).toArray 25) := ⟨_, rfl⟩
  have hX : Blk V w.heap.size 25 (trc t A1 A2 c1 c2) := by rw [hV]; exact Blk.new w _ _
  have hB : Below w.heap.size w V := by rw [hV]; exact below_alloc (Below.refl _ _) _
  have h' := h.below hB
  have hP := rput_calls t false A1 A2 c1 c2 V h'.sp h'.co h'.n1 h'.n2
  have hVA := Aside0.mk hV; have hXA := Aside0.mk hX; have hBA := Aside0.mk hB; have hPA := Aside0.mk hP; have hiA := Aside0.mk (info_tx t A1 A2 c1 c2)
  clear hV hX hB h h' hP
  go_enter Tryd.func14, Tryd.ntmps14
  go_wp2_with (first | ((with_reducible refine gate_dst (N := 3) rfl ?_); (rw [show (w.alloc (.cells #[.slice A1 t.sp.length c1, .slice A2 t.co.length c2, .bool t.firm] 25)) = V from hVA.out.symm]; refine wpList_load_blk rfl 25 (.tmp 1) rfl w.heap.size 25 rfl (trc t A1 A2 c1 c2) _ hXA.out Tryd.underlying25 rfl hiA.out ?_)) | (go_at_call 25; ((with_reducible refine hPA.out.mono ?_); rintro e w2 ⟨v, rfl, hR, hb⟩; have hF := Aside0.mk (And.intro (Kd.R_lower hR hBA.out.size) (below_then hBA.out hBA.out.size hb)); clear hR hb)))
  go_ret
  exact ⟨_, rfl, hF.out⟩
set_option maxRecDepth 100000 in
set_option maxHeartbeats 400000 in
theorem id_calls (w : World) (h : TrOk w t A1 A2 c1 c2) (hK : Kst w) (hBg : Bst w) : Calls Tryd.prog 8 #[trv t A1 A2 c1 c2] w fun e w' => e = .returned (hv (idv t)) ∧ Below w.heap.size w w' := by
  obtain ⟨V, hV⟩ : ∃ V, V = (w.alloc (.cells (trc t A1 A2 c1 c2).toArray 25)).alloc (.cells (nums .u8 zero32).toArray 34) := ⟨_, rfl⟩
  have hX : Blk V w.heap.size 25 (trc t A1 A2 c1 c2) := by rw [hV]; exact (Blk.new w _ _).alloc _
  have hZ : Blk V (w.heap.size + 1) 34 (nums .u8 zero32) := by
    have := Blk.new (w.alloc (.cells (trc t A1 A2 c1 c2).toArray 25)) 34 (nums .u8 zero32)
    rw [hV]; rwa [World.size_alloc] at this
  have hB : Below w.heap.size w V := by rw [hV]; exact below_alloc (below_alloc (Below.refl _ _) _) _
  have h' := h.below hB
  have hP := base_calls V h'
  have hby := enc_bytes false t h.spok
  have hln := enc_length false t h.spok h.n1 h.n2
  unfold idv
  generalize enc false t = l at *
  have hdl : (dbl l).length = 32 := sum_length _
  have hVA := Aside0.mk hV; have hXA := Aside0.mk hX; have hBA := Aside0.mk hB; have hZA := Aside0.mk hZ; have hPA := Aside0.mk hP; have hiA := Aside0.mk (info_tx t A1 A2 c1 c2); have hKA := Aside0.mk hK; have hBgA := Aside0.mk hBg; have hbyA := Aside0.mk hby; have hlnA := Aside0.mk hln; have hdlA := Aside0.mk hdl
  clear hV hX hB h h' hP hZ hK hBg hby hln hdl
  go_enter Tryd.func8, Tryd.ntmps8
  go_wp2_with (first | ((with_reducible refine gate_dst (N := 3) rfl ?_); (rw [show ((w.alloc (.cells #[.slice A1 t.sp.length c1, .slice A2 t.co.length c2, .bool t.firm] 25)).alloc (.cells #[.int .u8 0, .int .u8 0, .int .u8 0, .int .u8 0, .int .u8 0, .int .u8 0, .int .u8 0, .int .u8 0, .int .u8 0, .int .u8 0, .int .u8 0, .int .u8 0, .int .u8 0, .int .u8 0, .int .u8 0, .int .u8 0, .int .u8 0, .int .u8 0, .int .u8 0, .int .u8 0, .int .u8 0, .int .u8 0, .int .u8 0, .int .u8 0, .int .u8 0, .int .u8 0, .int .u8 0, .int .u8 0, .int .u8 0, .int .u8 0, .int .u8 0, .int .u8 0] 34)) = V from hVA.out.symm]; refine wpList_load_blk rfl 25 (.tmp 1) rfl w.heap.size 25 rfl (trc t A1 A2 c1 c2) _ hXA.out Tryd.underlying25 rfl hiA.out ?_)) | (go_at_call 9; ((with_reducible refine hPA.out.mono ?_); rintro e w2 ⟨v, rfl, hR, hb⟩; obtain ⟨A, c, rfl, hc, hC⟩ := Kd.R_reads hR; have hB2 := Aside0.mk (below_then hBA.out hBA.out.size hb); have hZ2 := Aside0.mk (hZA.out.below hb); have hD := Aside0.mk (double_lit1 w2 A c l hC hc (hKA.out.below hB2.out) (hBgA.out.below hB2.out) (by have := hlnA.out; omega) hbyA.out); clear hR hb hC)) | (go_at_call 23; ((with_reducible refine hD.out.mono ?_); rintro e w3 ⟨rfl, hb3⟩; have hB3 := Aside0.mk (below_then hB2.out hB2.out.size hb3); have hZ3 := Aside0.mk (hZ2.out.below hb3); clear hb3)) | ((refine wpList_put_blk rfl 34 (.tmp 2) (.tmp 6) rfl (w.heap.size + 1) 34 (nums .u8 (dbl l)) (nums .u8 zero32) (by simp only [nums, List.length_map, hdlA.out]; rfl) rfl rfl hZ3.out (info_hash _ hdlA.out) (u8_one _) ?_; intro w4 hW4 hg4 hs4)))
  have hi2 : (Tryd.prog.info? 34).map (·.size) = some (nums .u8 (dbl l)).toArray.size := by rw [List.size_toArray]; exact info_hash _ hdlA.out
  exact bodyPost_ret (results_cell_row rfl _ _ (w.heap.size + 1) 34 (nums .u8 (dbl l)).toArray (0, 0) _ rfl hW4 Tryd.underlying34 rfl hi2) rfl ⟨rfl, hB3.out.grown hg4 hB3.out.size (fun k e => by cases e; omega)⟩
set_option maxRecDepth 100000 in
set_option maxHeartbeats 400000 in
theorem rid_calls (w : World) (h : TrOk w t A1 A2 c1 c2) (hK : Rst w) : Calls Tryd.prog 15 #[trv t A1 A2 c1 c2] w fun e w' => e = .returned (hv (idv t)) ∧ Below w.heap.size w w' := by
  obtain ⟨V, hV⟩ : ∃ V, V = (w.alloc (.cells (trc t A1 A2 c1 c2).toArray 25)).alloc (.cells (nums .u8 zero32).toArray 34) := ⟨_, rfl⟩
  have hX : Blk V w.heap.size 25 (trc t A1 A2 c1 c2) := by rw [hV]; exact (Blk.new w _ _).alloc _
  have hZ : Blk V (w.heap.size + 1) 34 (nums .u8 zero32) := by
    have := Blk.new (w.alloc (.cells (trc t A1 A2 c1 c2).toArray 25)) 34 (nums .u8 zero32)
    rw [hV]; rwa [World.size_alloc] at this
  have hB : Below w.heap.size w V := by rw [hV]; exact below_alloc (below_alloc (Below.refl _ _) _) _
  have h' := h.below hB
  have hP := rbase_calls V h'
  have hby := enc_bytes false t h.spok
  have hln := enc_length false t h.spok h.n1 h.n2
  unfold idv
  generalize enc false t = l at *
  have hdl : (dbl l).length = 32 := sum_length _
  have hVA := Aside0.mk hV; have hXA := Aside0.mk hX; have hBA := Aside0.mk hB; have hZA := Aside0.mk hZ; have hPA := Aside0.mk hP; have hiA := Aside0.mk (info_tx t A1 A2 c1 c2); have hKA := Aside0.mk hK; have hbyA := Aside0.mk hby; have hlnA := Aside0.mk hln; have hdlA := Aside0.mk hdl
  clear hV hX hB h h' hP hZ hK hby hln hdl
  go_enter Tryd.func15, Tryd.ntmps15
  go_wp2_with (first | ((with_reducible refine gate_dst (N := 3) rfl ?_); (rw [show ((w.alloc (.cells #[.slice A1 t.sp.length c1, .slice A2 t.co.length c2, .bool t.firm] 25)).alloc (.cells #[.int .u8 0, .int .u8 0, .int .u8 0, .int .u8 0, .int .u8 0, .int .u8 0, .int .u8 0, .int .u8 0, .int .u8 0, .int .u8 0, .int .u8 0, .int .u8 0, .int .u8 0, .int .u8 0, .int .u8 0, .int .u8 0, .int .u8 0, .int .u8 0, .int .u8 0, .int .u8 0, .int .u8 0, .int .u8 0, .int .u8 0, .int .u8 0, .int .u8 0, .int .u8 0, .int .u8 0, .int .u8 0, .int .u8 0, .int .u8 0, .int .u8 0, .int .u8 0] 34)) = V from hVA.out.symm]; refine wpList_load_blk rfl 25 (.tmp 1) rfl w.heap.size 25 rfl (trc t A1 A2 c1 c2) _ hXA.out Tryd.underlying25 rfl hiA.out ?_)) | (go_at_call 14; ((with_reducible refine hPA.out.mono ?_); rintro e w2 ⟨v, rfl, hR, hb⟩; obtain ⟨A, c, rfl, hc, hC⟩ := Kd.R_reads hR; have hB2 := Aside0.mk (below_then hBA.out hBA.out.size hb); have hZ2 := Aside0.mk (hZA.out.below hb); have hD := Aside0.mk (rdouble_calls l A c w2 hbyA.out (hKA.out.below hB2.out) hC hc (by have := hlnA.out; omega)); clear hR hb hC)) | (go_at_call 26; ((with_reducible refine hD.out.mono ?_); rintro e w3 ⟨rfl, hb3⟩; have hB3 := Aside0.mk (below_then hB2.out hB2.out.size hb3); have hZ3 := Aside0.mk (hZ2.out.below hb3); clear hb3)) | ((refine wpList_put_blk rfl 34 (.tmp 2) (.tmp 5) rfl (w.heap.size + 1) 34 (nums .u8 (dbl l)) (nums .u8 zero32) (by simp only [nums, List.length_map, hdlA.out]; rfl) rfl rfl hZ3.out (info_hash _ hdlA.out) (u8_one _) ?_; intro w4 hW4 hg4 hs4)))
  have hi2 : (Tryd.prog.info? 34).map (·.size) = some (nums .u8 (dbl l)).toArray.size := by rw [List.size_toArray]; exact info_hash _ hdlA.out
  exact bodyPost_ret (results_cell_row rfl _ _ (w.heap.size + 1) 34 (nums .u8 (dbl l)).toArray (0, 0) _ rfl hW4 Tryd.underlying34 rfl hi2) rfl ⟨rfl, hB3.out.grown hg4 hB3.out.size (fun k e => by cases e; omega)⟩
end
end Go.Proofs.YtlgfekllkahfaaaDoor.Pack
/- Which transactions are large; errors as numbers. -/
set_option linter.unusedVariables false
set_option linter.unusedSimpArgs false
namespace Go.Proofs.YtlgfekllkahfaaaDoor.Pack
open Go.RowKit Go.Proofs.YtlgfekllkahfaaaDoorW.PrintWords Go.Proofs.YtlgfekllkahfaaaDoorW.PrintMore Go.Proofs.YtlgfekllkahfaaaDoor Go.Proofs.YtlgfekllkahfaaaDoor.Bits Sha ArrK ShaW
/-- a spend of any key -/
def SpO (s : Sp) : Prop := s.tx.length = 32 ∧ Bytes s.tx ∧ 0 ≤ s.sel ∧ s.sel < 18446744073709551616 ∧ s.key.size ≤ 9223372036854775807
abbrev SpR0 (W : World) (A : Option Addr) (n : Nat) (l : List Sp) : Prop := ReadsRow (fun s cs => SpO s ∧ cs = spc s) 35 W A n l
def keys (l : List Sp) : Nat := (l.map fun s => min s.key.size 10000).sum
theorem keys_take (l : List Sp) (k : Nat) (s : Sp) (h : l[k]? = some s) : keys (l.take (k + 1)) = keys (l.take k) + min s.key.size 10000 := by
  have hk := (List.getElem?_eq_some_iff.1 h)
  unfold keys
  rw [List.take_succ_eq_append_getElem hk.1, List.map_append, List.sum_append, hk.2]; simp
theorem keys_le : ∀ l : List Sp, keys l ≤ l.length * 10000
  | [] => by simp [keys]
  | s :: r => by have := keys_le r; unfold keys at this ⊢; simp only [List.map_cons, List.sum_cons, List.length_cons]; omega
theorem keys_mem : ∀ (l : List Sp) (s : Sp), s ∈ l → min s.key.size 10000 ≤ keys l
  | x :: r, s, h => by
    unfold keys
    simp only [List.map_cons, List.sum_cons]
    rcases List.mem_cons.1 h with rfl | h
    · omega
    · have := keys_mem r s h; unfold keys at this; omega
def large (t : Tr) : Bool := decide (30 < t.sp.length) || decide (30 < t.co.length) || decide (5000 < keys t.sp)
theorem SpR0.small {W : World} {A : Option Addr} {n : Nat} {l : List Sp} (h : SpR0 W A n l) (hk : ∀ s ∈ l, s.key.size ≤ 5000) : SpR W A n l :=
  ⟨h.1, h.2.1, fun hn => by
    obtain ⟨ad, e, hc⟩ := h.2.2 hn
    refine ⟨ad, e, fun j p hj => ?_⟩
    obtain ⟨c, h1, ⟨h2, h4⟩, h3⟩ := hc j p hj
    exact ⟨c, h1, ⟨⟨h2.1, h2.2.1, h2.2.2.1, h2.2.2.2.1, hk p (List.mem_of_getElem? hj)⟩, h4⟩, h3⟩⟩
theorem large_no {t : Tr} (h : large t = false) : t.sp.length ≤ 30 ∧ t.co.length ≤ 30 ∧ ∀ s ∈ t.sp, s.key.size ≤ 5000 := by
  simp only [large, Bool.or_eq_false_iff, decide_eq_false_iff_not] at h
  refine ⟨by omega, by omega, fun s hs => ?_⟩
  have := keys_mem t.sp s hs
  omega
section
variable {t : Tr} {A1 A2 : Option Addr} {c1 c2 : Nat}
set_option maxRecDepth 100000 in
set_option maxHeartbeats 400000 in
theorem large_calls (w : World) (b : Nat) (hb : Blk w b 25 (trc t A1 A2 c1 c2)) (hS : SpR0 w A1 t.sp.length t.sp) : Calls Tryd.prog 6 #[.slice (some ⟨b, 0, none⟩) 1 1] w fun e w' => e = .returned (.bool (large t)) ∧ Below w.heap.size w w' := by
  obtain ⟨sp, co, firm⟩ := t
  simp only at hb hS ⊢
  have hbA := Aside0.mk hb; have hSA := Aside0.mk hS
  clear hb hS
  go_enter Tryd.func6, Tryd.ntmps6
  go_wp2_with fail
  go_loopw [10, 3] (fun i n wr => ((i = .int .i64 0 ∧ n = .int .i64 0) ∨ (i = .int .i64 1 ∧ n = .int .i64 (keys sp : Nat) ∧ sp.length ≤ 30 ∧ co.length ≤ 30)) ∧ Below w.heap.size w wr) (fun i _ _ => 1 - (intOf i).toNat)
  case atStart => exact ⟨.inl ⟨rfl, rfl⟩, Below.refl _ _⟩
  case round =>
    obtain ⟨h | h, hB⟩ := hrel
    · obtain ⟨rfl, rfl⟩ := h
      have hX := hbA.out.below hB
      have hat : ∀ j u, (trc ⟨sp, co, firm⟩ A1 A2 c1 c2)[j]? = some u → wr.cell? ((⟨b, 0, none⟩ : Addr).add j) = some u := hX.add
      have hatA := Aside0.mk hat; have hBA := Aside0.mk hB
      have hiA := Aside0.mk (info_tx ⟨sp, co, firm⟩ A1 A2 c1 c2)
      obtain ⟨S, hSz⟩ : ∃ S, S = wr.heap.size := ⟨_, rfl⟩
      have hSzA := Aside0.mk hSz
      clear hX hat hB hSz
      by_cases q1 : 30 < sp.length
      · have p1 : (30 : Int) < (sp.length : Int) := by omega
        go_wp2_with (first | ((with_reducible refine gate_dst (N := 14) rfl ?_); (refine wpList_load_any rfl 25 (.tmp 13) rfl ⟨b, 0, none⟩ rfl (trc ⟨sp, co, firm⟩ A1 A2 c1 c2) _ hatA.out Tryd.underlying25 rfl hiA.out ?_)))
        go_ret
        exact ⟨by simp [large, q1], below_alloc hBA.out _⟩
      · have p1 : ¬ (30 : Int) < (sp.length : Int) := by omega
        by_cases q2 : 30 < co.length
        · have p2 : (30 : Int) < (co.length : Int) := by omega
          go_wp2_with (first | ((with_reducible refine gate_dst (N := 14) rfl ?_); (refine wpList_load_any rfl 25 (.tmp 13) rfl ⟨b, 0, none⟩ rfl (trc ⟨sp, co, firm⟩ A1 A2 c1 c2) _ hatA.out Tryd.underlying25 rfl hiA.out ?_)))
          go_ret
          exact ⟨by simp [large, q1, q2], below_alloc hBA.out _⟩
        · have p2 : ¬ (30 : Int) < (co.length : Int) := by omega
          go_wp2_with (first | ((with_reducible refine gate_dst (N := 14) rfl ?_); (refine wpList_load_any rfl 25 (.tmp 13) rfl ⟨b, 0, none⟩ rfl (trc ⟨sp, co, firm⟩ A1 A2 c1 c2) _ hatA.out Tryd.underlying25 rfl hiA.out ?_)))
          go_loopw [32, 3] (fun i n wr => ∃ j : Nat, j ≤ sp.length ∧ i = .int .i64 (j : Int) ∧ n = .int .i64 (keys (sp.take j) : Nat) ∧ Below w.heap.size w wr) (fun i _ _ => sp.length - (intOf i).toNat)
          case atStart => exact ⟨0, by omega, rfl, by simp [keys], below_alloc hBA.out _⟩
          case round =>
            obtain ⟨j, hj, rfl, rfl, hB⟩ := hrel
            clear hatA hBA hSzA
            have hBA := Aside0.mk hB
            clear hB
            have hkb : keys (sp.take j) ≤ 300000 := by have := keys_le (sp.take j); have h3 : (sp.take j).length ≤ 30 := by rw [List.length_take]; omega
                                                       have := Nat.mul_le_mul_right 10000 h3; omega
            by_cases hlt : j < sp.length
            · obtain ⟨s, hs⟩ : ∃ s, sp[j]? = some s := ⟨_, List.getElem?_eq_getElem hlt⟩
              obtain ⟨ad, cs, rfl, ⟨hok, rfl⟩, -, hcell⟩ := row_at (hSA.out.imp_ hBA.out (fun _ _ h => h)) j s hs
              have hkt := keys_take sp j s hs
              have p3 : (j : Int) < (sp.length : Int) := by omega
              have p0 : (0 : Int) ≤ (j : Int) := by omega
              have e2 : IntKind.i64.wrap ((j : Int) + 1) = (j : Int) + 1 := IntWalk.i64_in _ (by omega)
              have t2 := spc_key s hok.1
              have hi := info_spend s hok.1
              have hll := spc_length s hok.1
              have hone := spc_one s
              have hks := hok.2.2.2.2
              obtain ⟨S, hSz⟩ : ∃ S, S = wr.heap.size := ⟨_, rfl⟩
              generalize keys (sp.take j) = n at *
              have hktA := Aside0.mk hkt; have t2A := Aside0.mk t2; have hiA2 := Aside0.mk hi; have hllA := Aside0.mk hll; have honeA := Aside0.mk hone; have hceA := Aside0.mk hcell; have hSzA := Aside0.mk hSz
              clear hkt t2 hi hll hone hcell hSz hs hok
              have e3 : min (s.key.size : Int) 10000 = ((min s.key.size 10000 : Nat) : Int) := by omega
              have e4 : IntKind.i64.wrap ((n : Int) + ((min s.key.size 10000 : Nat) : Int)) = ((n + min s.key.size 10000 : Nat) : Int) := by rw [IntWalk.i64_in _ (by omega)]; omega
              go_wp2_with (first | ((with_reducible refine gate_dst (N := 35) rfl ?_); (refine wpList_load_any rfl 38 (.tmp 34) rfl (ad.add (j * 35)) rfl (spc s) _ hceA.out Tryd.underlying38 rfl hiA2.out ?_)) | ((with_reducible refine gate_dst (N := 7) rfl ?_); (refine wpList_new_put rfl (N := 7) rfl rfl 38 (.tmp 35) rfl (spc s) (spc zsp) (by rw [hllA.out]; rfl) ?hr rfl rfl hiA2.out honeA.out ?_; (case hr => first | (go_simp; done) | (go_simp; rfl)); intro w2 hX2 hb2 hs2; rw [← hSzA.out] at hX2 ⊢; have g33 := hX2.get 33 _ t2A.out; have hB2A := Aside0.mk (below_then hBA.out hBA.out.size hb2); clear hX2 hb2 hs2)))
              go_roundw
              · exact ⟨j + 1, by omega, by go_num, by rw [hktA.out]; congr 1; split <;> omega, hB2A.out⟩
              · simp [intOf]; omega
            · obtain rfl : j = sp.length := by omega
              have p3 : ¬ (sp.length : Int) < (sp.length : Int) := by omega
              rw [List.take_of_length_le (Nat.le_refl _)] at *
              go_wp2_with fail
              go_roundw
              · exact ⟨.inr ⟨rfl, rfl, by omega, by omega⟩, hBA.out⟩
              · simp [intOf]
    · obtain ⟨rfl, rfl, l1, l2⟩ := h
      have hkb : keys sp ≤ 300000 := by have := keys_le sp; have := Nat.mul_le_mul_right 10000 l1; omega
      have hBA := Aside0.mk hB
      clear hB
      by_cases q : 5000 < keys sp
      · have p : (5000 : Int) < ((keys sp : Nat) : Int) := by omega
        go_wp2_with fail
        go_ret
        exact ⟨by simp [large, q], hBA.out⟩
      · have p : ¬ (5000 : Int) < ((keys sp : Nat) : Int) := by omega
        have q1 : ¬ 30 < sp.length := by omega
        have q2 : ¬ 30 < co.length := by omega
        go_wp2_with fail
        go_ret
        exact ⟨by simp [large, q, q1, q2], hBA.out⟩
end
end Go.Proofs.YtlgfekllkahfaaaDoor.Pack
/- The bytes with all that is witness, and the wide id (tx.Bytes, tx.Wide, and the document's). -/
set_option linter.unusedVariables false
set_option linter.unusedSimpArgs false
namespace Go.Proofs.YtlgfekllkahfaaaDoor.Pack
open Go.RowKit Go.Proofs.YtlgfekllkahfaaaDoorW.PrintWords Go.Proofs.YtlgfekllkahfaaaDoorW.PrintMore Go.Proofs.YtlgfekllkahfaaaDoor Go.Proofs.YtlgfekllkahfaaaDoor.Bits Sha ArrK ShaW
/-- the wide id -/
def wdv (t : Tr) : List Int := dbl (enc true t)
section
variable {t : Tr} {A1 A2 : Option Addr} {c1 c2 : Nat}
set_option maxRecDepth 100000 in
set_option maxHeartbeats 400000 in
theorem bytesT_calls (w : World) (h : TrOk w t A1 A2 c1 c2) : Calls Tryd.prog 11 #[trv t A1 A2 c1 c2] w fun e w' => ∃ v, e = .returned v ∧ R8 w.heap.size w' v (enc true t) ∧ Below w.heap.size w w' := by
  obtain ⟨V, hV⟩ : ∃ V, V = w.alloc (.cells (trc t A1 A2 c1 c2).toArray 25) := ⟨_, rfl⟩
  have hX : Blk V w.heap.size 25 (trc t A1 A2 c1 c2) := by rw [hV]; exact Blk.new w _ _
  have hB : Below w.heap.size w V := by rw [hV]; exact below_alloc (Below.refl _ _) _
  have h' := h.below hB
  have hP := put_calls t true A1 A2 c1 c2 V h'.sp h'.co h'.n1 h'.n2
  have hVA := Aside0.mk hV; have hXA := Aside0.mk hX; have hBA := Aside0.mk hB; have hPA := Aside0.mk hP; have hiA := Aside0.mk (info_tx t A1 A2 c1 c2)
  clear hV hX hB h h' hP
  go_enter Tryd.func11, Tryd.ntmps11
  go_wp2_with (first | ((with_reducible refine gate_dst (N := 3) rfl ?_); (rw [show (w.alloc (.cells #[.slice A1 t.sp.length c1, .slice A2 t.co.length c2, .bool t.firm] 25)) = V from hVA.out.symm]; refine wpList_load_blk rfl 25 (.tmp 1) rfl w.heap.size 25 rfl (trc t A1 A2 c1 c2) _ hXA.out Tryd.underlying25 rfl hiA.out ?_)) | (go_at_call 24; ((with_reducible refine hPA.out.mono ?_); rintro e w2 ⟨v, rfl, hR, hb⟩; have hF := Aside0.mk (And.intro (Kd.R_lower hR hBA.out.size) (below_then hBA.out hBA.out.size hb)); clear hR hb)))
  go_ret
  exact ⟨_, rfl, hF.out⟩
set_option maxRecDepth 100000 in
set_option maxHeartbeats 400000 in
theorem rbytesT_calls (w : World) (h : TrOk w t A1 A2 c1 c2) : Calls Tryd.prog 13 #[trv t A1 A2 c1 c2] w fun e w' => ∃ v, e = .returned v ∧ R8 w.heap.size w' v (enc true t) ∧ Below w.heap.size w w' := by
  obtain ⟨V, hV⟩ : ∃ V, V = w.alloc (.cells (trc t A1 A2 c1 c2).toArray 25) := ⟨_, rfl⟩
  have hX : Blk V w.heap.size 25 (trc t A1 A2 c1 c2) := by rw [hV]; exact Blk.new w _ _
  have hB : Below w.heap.size w V := by rw [hV]; exact below_alloc (Below.refl _ _) _
  have h' := h.below hB
  have hP := rput_calls t true A1 A2 c1 c2 V h'.sp h'.co h'.n1 h'.n2
  have hVA := Aside0.mk hV; have hXA := Aside0.mk hX; have hBA := Aside0.mk hB; have hPA := Aside0.mk hP; have hiA := Aside0.mk (info_tx t A1 A2 c1 c2)
  clear hV hX hB h h' hP
  go_enter Tryd.func13, Tryd.ntmps13
  go_wp2_with (first | ((with_reducible refine gate_dst (N := 3) rfl ?_); (rw [show (w.alloc (.cells #[.slice A1 t.sp.length c1, .slice A2 t.co.length c2, .bool t.firm] 25)) = V from hVA.out.symm]; refine wpList_load_blk rfl 25 (.tmp 1) rfl w.heap.size 25 rfl (trc t A1 A2 c1 c2) _ hXA.out Tryd.underlying25 rfl hiA.out ?_)) | (go_at_call 25; ((with_reducible refine hPA.out.mono ?_); rintro e w2 ⟨v, rfl, hR, hb⟩; have hF := Aside0.mk (And.intro (Kd.R_lower hR hBA.out.size) (below_then hBA.out hBA.out.size hb)); clear hR hb)))
  go_ret
  exact ⟨_, rfl, hF.out⟩
set_option maxRecDepth 100000 in
set_option maxHeartbeats 400000 in
theorem wide_calls (w : World) (h : TrOk w t A1 A2 c1 c2) (hK : Kst w) (hBg : Bst w) : Calls Tryd.prog 12 #[trv t A1 A2 c1 c2] w fun e w' => e = .returned (hv (wdv t)) ∧ Below w.heap.size w w' := by
  obtain ⟨V, hV⟩ : ∃ V, V = (w.alloc (.cells (trc t A1 A2 c1 c2).toArray 25)).alloc (.cells (nums .u8 zero32).toArray 34) := ⟨_, rfl⟩
  have hX : Blk V w.heap.size 25 (trc t A1 A2 c1 c2) := by rw [hV]; exact (Blk.new w _ _).alloc _
  have hZ : Blk V (w.heap.size + 1) 34 (nums .u8 zero32) := by
    have := Blk.new (w.alloc (.cells (trc t A1 A2 c1 c2).toArray 25)) 34 (nums .u8 zero32)
    rw [hV]; rwa [World.size_alloc] at this
  have hB : Below w.heap.size w V := by rw [hV]; exact below_alloc (below_alloc (Below.refl _ _) _) _
  have h' := h.below hB
  have hP := bytesT_calls V h'
  have hby := enc_bytes true t h.spok
  have hln := enc_length true t h.spok h.n1 h.n2
  unfold wdv
  generalize enc true t = l at *
  have hdl : (dbl l).length = 32 := sum_length _
  have hVA := Aside0.mk hV; have hXA := Aside0.mk hX; have hBA := Aside0.mk hB; have hZA := Aside0.mk hZ; have hPA := Aside0.mk hP; have hiA := Aside0.mk (info_tx t A1 A2 c1 c2); have hKA := Aside0.mk hK; have hBgA := Aside0.mk hBg; have hbyA := Aside0.mk hby; have hlnA := Aside0.mk hln; have hdlA := Aside0.mk hdl
  clear hV hX hB h h' hP hZ hK hBg hby hln hdl
  go_enter Tryd.func12, Tryd.ntmps12
  go_wp2_with (first | ((with_reducible refine gate_dst (N := 3) rfl ?_); (rw [show ((w.alloc (.cells #[.slice A1 t.sp.length c1, .slice A2 t.co.length c2, .bool t.firm] 25)).alloc (.cells #[.int .u8 0, .int .u8 0, .int .u8 0, .int .u8 0, .int .u8 0, .int .u8 0, .int .u8 0, .int .u8 0, .int .u8 0, .int .u8 0, .int .u8 0, .int .u8 0, .int .u8 0, .int .u8 0, .int .u8 0, .int .u8 0, .int .u8 0, .int .u8 0, .int .u8 0, .int .u8 0, .int .u8 0, .int .u8 0, .int .u8 0, .int .u8 0, .int .u8 0, .int .u8 0, .int .u8 0, .int .u8 0, .int .u8 0, .int .u8 0, .int .u8 0, .int .u8 0] 34)) = V from hVA.out.symm]; refine wpList_load_blk rfl 25 (.tmp 1) rfl w.heap.size 25 rfl (trc t A1 A2 c1 c2) _ hXA.out Tryd.underlying25 rfl hiA.out ?_)) | (go_at_call 11; ((with_reducible refine hPA.out.mono ?_); rintro e w2 ⟨v, rfl, hR, hb⟩; obtain ⟨A, c, rfl, hc, hC⟩ := Kd.R_reads hR; have hB2 := Aside0.mk (below_then hBA.out hBA.out.size hb); have hZ2 := Aside0.mk (hZA.out.below hb); have hD := Aside0.mk (double_lit1 w2 A c l hC hc (hKA.out.below hB2.out) (hBgA.out.below hB2.out) (by have := hlnA.out; omega) hbyA.out); clear hR hb hC)) | (go_at_call 23; ((with_reducible refine hD.out.mono ?_); rintro e w3 ⟨rfl, hb3⟩; have hB3 := Aside0.mk (below_then hB2.out hB2.out.size hb3); have hZ3 := Aside0.mk (hZ2.out.below hb3); clear hb3)) | ((refine wpList_put_blk rfl 34 (.tmp 2) (.tmp 6) rfl (w.heap.size + 1) 34 (nums .u8 (dbl l)) (nums .u8 zero32) (by simp only [nums, List.length_map, hdlA.out]; rfl) rfl rfl hZ3.out (info_hash _ hdlA.out) (u8_one _) ?_; intro w4 hW4 hg4 hs4)))
  have hi2 : (Tryd.prog.info? 34).map (·.size) = some (nums .u8 (dbl l)).toArray.size := by rw [List.size_toArray]; exact info_hash _ hdlA.out
  exact bodyPost_ret (results_cell_row rfl _ _ (w.heap.size + 1) 34 (nums .u8 (dbl l)).toArray (0, 0) _ rfl hW4 Tryd.underlying34 rfl hi2) rfl ⟨rfl, hB3.out.grown hg4 hB3.out.size (fun k e => by cases e; omega)⟩
set_option maxRecDepth 100000 in
set_option maxHeartbeats 400000 in
theorem rwide_calls (w : World) (h : TrOk w t A1 A2 c1 c2) (hK : Rst w) : Calls Tryd.prog 16 #[trv t A1 A2 c1 c2] w fun e w' => e = .returned (hv (wdv t)) ∧ Below w.heap.size w w' := by
  obtain ⟨V, hV⟩ : ∃ V, V = (w.alloc (.cells (trc t A1 A2 c1 c2).toArray 25)).alloc (.cells (nums .u8 zero32).toArray 34) := ⟨_, rfl⟩
  have hX : Blk V w.heap.size 25 (trc t A1 A2 c1 c2) := by rw [hV]; exact (Blk.new w _ _).alloc _
  have hZ : Blk V (w.heap.size + 1) 34 (nums .u8 zero32) := by
    have := Blk.new (w.alloc (.cells (trc t A1 A2 c1 c2).toArray 25)) 34 (nums .u8 zero32)
    rw [hV]; rwa [World.size_alloc] at this
  have hB : Below w.heap.size w V := by rw [hV]; exact below_alloc (below_alloc (Below.refl _ _) _) _
  have h' := h.below hB
  have hP := rbytesT_calls V h'
  have hby := enc_bytes true t h.spok
  have hln := enc_length true t h.spok h.n1 h.n2
  unfold wdv
  generalize enc true t = l at *
  have hdl : (dbl l).length = 32 := sum_length _
  have hVA := Aside0.mk hV; have hXA := Aside0.mk hX; have hBA := Aside0.mk hB; have hZA := Aside0.mk hZ; have hPA := Aside0.mk hP; have hiA := Aside0.mk (info_tx t A1 A2 c1 c2); have hKA := Aside0.mk hK; have hbyA := Aside0.mk hby; have hlnA := Aside0.mk hln; have hdlA := Aside0.mk hdl
  clear hV hX hB h h' hP hZ hK hby hln hdl
  go_enter Tryd.func16, Tryd.ntmps16
  go_wp2_with (first | ((with_reducible refine gate_dst (N := 3) rfl ?_); (rw [show ((w.alloc (.cells #[.slice A1 t.sp.length c1, .slice A2 t.co.length c2, .bool t.firm] 25)).alloc (.cells #[.int .u8 0, .int .u8 0, .int .u8 0, .int .u8 0, .int .u8 0, .int .u8 0, .int .u8 0, .int .u8 0, .int .u8 0, .int .u8 0, .int .u8 0, .int .u8 0, .int .u8 0, .int .u8 0, .int .u8 0, .int .u8 0, .int .u8 0, .int .u8 0, .int .u8 0, .int .u8 0, .int .u8 0, .int .u8 0, .int .u8 0, .int .u8 0, .int .u8 0, .int .u8 0, .int .u8 0, .int .u8 0, .int .u8 0, .int .u8 0, .int .u8 0, .int .u8 0] 34)) = V from hVA.out.symm]; refine wpList_load_blk rfl 25 (.tmp 1) rfl w.heap.size 25 rfl (trc t A1 A2 c1 c2) _ hXA.out Tryd.underlying25 rfl hiA.out ?_)) | (go_at_call 13; ((with_reducible refine hPA.out.mono ?_); rintro e w2 ⟨v, rfl, hR, hb⟩; obtain ⟨A, c, rfl, hc, hC⟩ := Kd.R_reads hR; have hB2 := Aside0.mk (below_then hBA.out hBA.out.size hb); have hZ2 := Aside0.mk (hZA.out.below hb); have hD := Aside0.mk (rdouble_calls l A c w2 hbyA.out (hKA.out.below hB2.out) hC hc (by have := hlnA.out; omega)); clear hR hb hC)) | (go_at_call 26; ((with_reducible refine hD.out.mono ?_); rintro e w3 ⟨rfl, hb3⟩; have hB3 := Aside0.mk (below_then hB2.out hB2.out.size hb3); have hZ3 := Aside0.mk (hZ2.out.below hb3); clear hb3)) | ((refine wpList_put_blk rfl 34 (.tmp 2) (.tmp 5) rfl (w.heap.size + 1) 34 (nums .u8 (dbl l)) (nums .u8 zero32) (by simp only [nums, List.length_map, hdlA.out]; rfl) rfl rfl hZ3.out (info_hash _ hdlA.out) (u8_one _) ?_; intro w4 hW4 hg4 hs4)))
  have hi2 : (Tryd.prog.info? 34).map (·.size) = some (nums .u8 (dbl l)).toArray.size := by rw [List.size_toArray]; exact info_hash _ hdlA.out
  exact bodyPost_ret (results_cell_row rfl _ _ (w.heap.size + 1) 34 (nums .u8 (dbl l)).toArray (0, 0) _ rfl hW4 Tryd.underlying34 rfl hi2) rfl ⟨rfl, hB3.out.grown hg4 hB3.out.size (fun k e => by cases e; omega)⟩
end
end Go.Proofs.YtlgfekllkahfaaaDoor.Pack
