/- Two transactions compared. -/
import Derived.Test.YtlgfekllkahfaaaTyE
set_option linter.unusedVariables false
set_option linter.unusedSimpArgs false
namespace Go.Proofs.Ytlgfekllkahfaaa.Pack
open Go.RowKit Go.Proofs.YtlgfekllkahfaaaW.PrintWords Go.Proofs.YtlgfekllkahfaaaW.PrintMore Go.Proofs.Ytlgfekllkahfaaa Go.Proofs.Ytlgfekllkahfaaa.Bits Sha ArrK ShaW
open Go.Proofs.Ytlgfekllkahfaaa.InRound (op_at)
def eqS (s s' : Sp) : Bool := (decide (s.tx = s'.tx) && (s.n == s'.n)) && ((s.key.toList == s'.key.toList) && (s.sel == s'.sel))
def eqC (c c' : Co) : Bool := (c.value == c'.value) && (c.lock == c'.lock)
def alike {α : Type} (f : α → α → Bool) (l l' : List α) : Bool := (l.zip l').all fun p => f p.1 p.2
theorem alike_take {α : Type} (f : α → α → Bool) (l l' : List α) (k : Nat) (s s' : α) (hs : l[k]? = some s) (hs' : l'[k]? = some s') : ((l.zip l').take (k + 1)).all (fun p => f p.1 p.2) = (((l.zip l').take k).all (fun p => f p.1 p.2) && f s s') := by
  have hz : (l.zip l')[k]? = some (s, s') := by rw [List.getElem?_zip_eq_some]; exact ⟨hs, hs'⟩
  have hk := (List.getElem?_eq_some_iff.1 hz)
  rw [List.take_succ_eq_append_getElem hk.1, List.all_append, hk.2]; simp
theorem alike_no {α : Type} (f : α → α → Bool) (l l' : List α) (k : Nat) (s s' : α) (hs : l[k]? = some s) (hs' : l'[k]? = some s') (ho : f s s' = false) : alike f l l' = false := by
  have hz : (l.zip l')[k]? = some (s, s') := by rw [List.getElem?_zip_eq_some]; exact ⟨hs, hs'⟩
  unfold alike
  rw [List.all_eq_false]
  exact ⟨(s, s'), List.mem_of_getElem? hz, by simp [ho]⟩
theorem exec_neq_spend {a : Act} {o : Oper} (x y : Operand) {tt : TypeId} (ho : o.op = .binOp .neq 36 x y tt) (s s' : Sp) (hx : a.eval x = spv s) (hy : a.eval y = spv s') (h1 : s.tx.length = 32) (h2 : s'.tx.length = 32) (w : World) :
    (execOp a.eval o).run Try.prog w = .ok (.value (.bool (!eqS s s'))) w := by
  have hE : ∀ W, (Op.equalIn 10000 36 (spv s) (spv s')).run Try.prog W = .ok (eqS s s') W := fun W => eq_spend 9996 s s' h1 h2 W
  unfold execOp
  simp only [ho, hx, hy]
  go_simp
theorem exec_neq_coin {a : Act} {o : Oper} (x y : Operand) {tt : TypeId} (ho : o.op = .binOp .neq 38 x y tt) (s s' : Co) (hx : a.eval x = cov s) (hy : a.eval y = cov s') (w : World) :
    (execOp a.eval o).run Try.prog w = .ok (.value (.bool (!eqC s s'))) w := by
  have hE : ∀ W, (Op.equalIn 10000 38 (cov s) (cov s')).run Try.prog W = .ok (eqC s s') W := fun W => eq_coin 9998 s s' W
  unfold execOp
  simp only [ho, hx, hy]
  go_simp
set_option maxRecDepth 100000 in
set_option maxHeartbeats 1600000 in
/-- transactions of as many spends, as many coins -/
theorem same_calls (w : World) (sp sp' : List Sp) (co co' : List Co) (firm : Bool) (A1 A2 B1 B2 : Option Addr) (c1 c2 d1 d2 : Nat) (hS : SpR0 w A1 sp.length sp) (hC : CoR w A2 co.length co) (hS' : SpR0 w B1 sp.length sp') (hC' : CoR w B2 co.length co') (h1 : sp.length ≤ 1000) (h2 : co.length ≤ 1000) :
    Calls Try.prog 10 #[.agg #[.slice A1 sp.length c1, .slice A2 co.length c2, .bool firm], .agg #[.slice B1 sp.length d1, .slice B2 co.length d2, .bool firm]] w fun e w' => e = .returned (.bool (alike eqS sp sp' && alike eqC co co')) ∧ Below w.heap.size w w' := by
  have hl1 : sp'.length = sp.length := hS'.1
  have hl2 : co'.length = co.length := hC'.1
  obtain ⟨V, hV⟩ : ∃ V, V = (w.alloc (.cells #[.slice A1 sp.length c1, .slice A2 co.length c2, .bool firm] 25)).alloc (.cells #[.slice B1 sp.length d1, .slice B2 co.length d2, .bool firm] 25) := ⟨_, rfl⟩
  have hX : Blk V w.heap.size 25 [.slice A1 sp.length c1, .slice A2 co.length c2, .bool firm] := by rw [hV]; exact (Blk.new w 25 [.slice A1 sp.length c1, .slice A2 co.length c2, .bool firm]).alloc _
  have hZ : Blk V (w.heap.size + 1) 25 [.slice B1 sp.length d1, .slice B2 co.length d2, .bool firm] := by
    have := Blk.new (w.alloc (.cells #[.slice A1 sp.length c1, .slice A2 co.length c2, .bool firm] 25)) 25 [.slice B1 sp.length d1, .slice B2 co.length d2, .bool firm]
    rw [hV]; rwa [World.size_alloc] at this
  have hB : Below w.heap.size w V := by rw [hV]; exact below_alloc (below_alloc (Below.refl _ _) _) _
  have x0 := hX.get 0 _ rfl
  have x1 := hX.get 1 _ rfl
  have x2 := hX.get 2 _ rfl
  have z0 := hZ.get 0 _ rfl
  have z1 := hZ.get 1 _ rfl
  have z2 := hZ.get 2 _ rfl
  have hVA := Aside0.mk hV; have hXA := Aside0.mk hX; have hZA := Aside0.mk hZ; have hBA := Aside0.mk hB; have hSA := Aside0.mk hS; have hCA := Aside0.mk hC; have hSA' := Aside0.mk hS'; have hCA' := Aside0.mk hC'; have hl1A := Aside0.mk hl1; have hl2A := Aside0.mk hl2
  clear hV hX hZ hB hS hC hS' hC' hl1 hl2
  go_enter Try.func10, Try.ntmps10
  go_wp2_with ((with_reducible refine gate_dst (N := 7) rfl ?_); rw [← hVA.out])
  go_loopw [33] (fun i wr => ∃ k : Nat, k ≤ sp.length ∧ i = .int .i64 (k : Int) ∧ ((sp.zip sp').take k).all (fun p => eqS p.1 p.2) = true ∧ Below V.heap.size V wr) (fun i _ => sp.length - (intOf i).toNat)
  case atStart => exact ⟨0, by omega, rfl, by simp, Below.refl _ _⟩
  case round =>
    obtain ⟨k, hk, rfl, hall, hB2⟩ := hrel
    have hB2A := Aside0.mk hB2
    clear hB2
    by_cases hlt : k < sp.length
    · obtain ⟨s, hs⟩ : ∃ s, sp[k]? = some s := ⟨_, List.getElem?_eq_getElem hlt⟩
      obtain ⟨s', hs'⟩ : ∃ s', sp'[k]? = some s' := ⟨_, List.getElem?_eq_getElem (by have := hl1A.out; omega)⟩
      have hS2 : SpR0 w B1 sp'.length sp' := by rw [hl1A.out]; exact hSA'.out
      obtain ⟨ad, cc, rfl, ⟨hok, -⟩, -, -⟩ := row_at hSA.out k s hs
      obtain ⟨ad', cc', rfl, ⟨hok', -⟩, -, -⟩ := row_at hS2 k s' hs'
      have haA : Aside0 (∀ W, Below V.heap.size V W → ∀ (j : Nat) u, (spc s)[j]? = some u → W.cell? ((ad.add (k * 35)).add j) = some u) := Aside0.mk (fun W hW => by
        obtain ⟨_, _, e, ⟨-, rfl⟩, -, h⟩ := row_at (hSA.out.imp_ (below_then hBA.out hBA.out.size hW) (fun _ _ h => h)) k s hs
        cases e
        exact h)
      have hbA : Aside0 (∀ W, Below V.heap.size V W → ∀ (j : Nat) u, (spc s')[j]? = some u → W.cell? ((ad'.add (k * 35)).add j) = some u) := Aside0.mk (fun W hW => by
        obtain ⟨_, _, e, ⟨-, rfl⟩, -, h⟩ := row_at (hS2.imp_ (below_then hBA.out hBA.out.size hW) (fun _ _ h => h)) k s' hs'
        cases e
        exact h)
      have gaA := Aside0.mk (fun W (hW : Below V.heap.size V W) => (hXA.out.below hW).get 0 _ rfl)
      have gbA := Aside0.mk (fun W (hW : Below V.heap.size V W) => (hZA.out.below hW).get 0 _ rfl)
      have p0 : (0 : Int) ≤ (k : Int) := by omega
      have p1 : (k : Int) < (sp.length : Int) := by omega
      have e2 : IntKind.i64.wrap ((k : Int) + 1) = (k : Int) + 1 := IntWalk.i64_in _ (by omega)
      have hnx := alike_take eqS sp sp' k s s' hs hs'
      have hno := alike_no eqS sp sp' k s s' hs hs'
      rw [hall, Bool.true_and] at hnx
      obtain ⟨o, ho⟩ : ∃ o, eqS s s' = o := ⟨_, rfl⟩
      rw [ho] at hnx hno
      have hnxA := Aside0.mk hnx; have hnoA := Aside0.mk hno; have hoA := Aside0.mk ho; have hokA := Aside0.mk hok; have hokA' := Aside0.mk hok'
      clear hnx hno ho hok hok' hs hs' hall hS2 x0 x1 x2 z0 z1 z2
      go_wp2_with fail
      refine wp_region_noPanic ?_
      have H0 : Below V.heap.size V wr.drew := pw_below_drewN hB2A.out 1
      refine wp_region_held_drew (S := fun V1 => Below V.heap.size V V1) (by kernel_rfl) H0 (fun _ => ?_)
      generalize wr.drew = V0 at *
      -- REGION S
      refine wpAnyH_take (i := 0) (v := .pointer (some ⟨w.heap.size, 0, none⟩)) (op_at rfl) (by kernel_rfl) (by kernel_rfl) (by kernel_rfl) (fun _ _ _ h => h) (Or.inl ⟨by rfl, fun w_ hSw => ?_⟩) H0 ?_
      · skip; go_simp
      try simp only [Act.put, List.setIfInBounds_toArray, List.set_cons_zero, List.set_cons_succ]
      refine wpAnyH_take (i := 1) (v := .slice (some ad) sp.length c1) (op_at rfl) (by kernel_rfl) (by kernel_rfl) (by kernel_rfl) (fun _ _ _ h => h) (Or.inl ⟨by rfl, fun w_ hSw => ?_⟩) H0 ?_
      · have hc_ := gaA.out w_ hSw; go_simp
      try simp only [Act.put, List.setIfInBounds_toArray, List.set_cons_zero, List.set_cons_succ]
      refine wpAnyH_take (i := 2) (v := .int .i64 (k : Int)) (op_at rfl) (by kernel_rfl) (by kernel_rfl) (by kernel_rfl) (fun _ _ _ h => h) (Or.inl ⟨by rfl, fun w_ hSw => ?_⟩) H0 ?_
      · skip; go_simp
      try simp only [Act.put, List.setIfInBounds_toArray, List.set_cons_zero, List.set_cons_succ]
      refine wpAnyH_take (i := 3) (v := .pointer (some (ad.add (k * 35)))) (op_at rfl) (by kernel_rfl) (by kernel_rfl) (by kernel_rfl) (fun _ _ _ h => h) (Or.inl ⟨by rfl, fun w_ hSw => ?_⟩) H0 ?_
      · skip; go_simp
      try simp only [Act.put, List.setIfInBounds_toArray, List.set_cons_zero, List.set_cons_succ]
      refine wpAnyH_take (i := 4) (v := .agg (spc s).toArray) (op_at rfl) (by kernel_rfl) (by kernel_rfl) (by kernel_rfl) (fun _ _ _ h => h) (yieldsIf_load_any (by rfl) _ _ rfl (ad.add (k * 35)) rfl _ _ (fun w_ hSw => haA.out w_ hSw) Try.underlying36 rfl (info_spend s (by first | exact hokA.out.1 | exact hokA'.out.1))) H0 ?_
      try simp only [Act.put, List.setIfInBounds_toArray, List.set_cons_zero, List.set_cons_succ]
      refine wpAnyH_take (i := 5) (v := .pointer (some ⟨w.heap.size + 1, 0, none⟩)) (op_at rfl) (by kernel_rfl) (by kernel_rfl) (by kernel_rfl) (fun _ _ _ h => h) (Or.inl ⟨by rfl, fun w_ hSw => ?_⟩) H0 ?_
      · skip; go_simp
      try simp only [Act.put, List.setIfInBounds_toArray, List.set_cons_zero, List.set_cons_succ]
      refine wpAnyH_take (i := 6) (v := .slice (some ad') sp.length d1) (op_at rfl) (by kernel_rfl) (by kernel_rfl) (by kernel_rfl) (fun _ _ _ h => h) (Or.inl ⟨by rfl, fun w_ hSw => ?_⟩) H0 ?_
      · have hc_ := gbA.out w_ hSw; go_simp
      try simp only [Act.put, List.setIfInBounds_toArray, List.set_cons_zero, List.set_cons_succ]
      refine wpAnyH_take (i := 7) (v := .int .i64 (k : Int)) (op_at rfl) (by kernel_rfl) (by kernel_rfl) (by kernel_rfl) (fun _ _ _ h => h) (Or.inl ⟨by rfl, fun w_ hSw => ?_⟩) H0 ?_
      · skip; go_simp
      try simp only [Act.put, List.setIfInBounds_toArray, List.set_cons_zero, List.set_cons_succ]
      refine wpAnyH_take (i := 8) (v := .pointer (some (ad'.add (k * 35)))) (op_at rfl) (by kernel_rfl) (by kernel_rfl) (by kernel_rfl) (fun _ _ _ h => h) (Or.inl ⟨by rfl, fun w_ hSw => ?_⟩) H0 ?_
      · skip; go_simp
      try simp only [Act.put, List.setIfInBounds_toArray, List.set_cons_zero, List.set_cons_succ]
      refine wpAnyH_take (i := 9) (v := .agg (spc s').toArray) (op_at rfl) (by kernel_rfl) (by kernel_rfl) (by kernel_rfl) (fun _ _ _ h => h) (yieldsIf_load_any (by rfl) _ _ rfl (ad'.add (k * 35)) rfl _ _ (fun w_ hSw => hbA.out w_ hSw) Try.underlying36 rfl (info_spend s' (by first | exact hokA.out.1 | exact hokA'.out.1))) H0 ?_
      try simp only [Act.put, List.setIfInBounds_toArray, List.set_cons_zero, List.set_cons_succ]
      refine wpAnyH_take (i := 10) (v := .bool (!o)) (op_at rfl) (by kernel_rfl) (by kernel_rfl) (by kernel_rfl) (fun _ _ _ h => h) (Or.inl ⟨by rfl, fun w_ hSw => (by rw [← hoA.out]; exact exec_neq_spend (.tmp 40) (.tmp 45) rfl s s' rfl rfl hokA.out.1 hokA'.out.1 w_)⟩) H0 ?_
      try simp only [Act.put, List.setIfInBounds_toArray, List.set_cons_zero, List.set_cons_succ]
      refine wpAnyH_done (by kernel_rfl) ?_ _
      refine NoPanic.normal ?_
      cases o
      · go_wp2
        go_ret
        exact ⟨by rw [hnoA.out (by trivial)]; rfl, below_then hBA.out hBA.out.size H0⟩
      · go_wp2
        go_roundw
        · exact ⟨k + 1, by omega, by go_num, hnxA.out, H0⟩
        · simp [intOf]; omega
      -- END S
    · obtain rfl : k = sp.length := by omega
      have p1 : ¬ (sp.length : Int) < (sp.length : Int) := by omega
      have hfin : alike eqS sp sp' = true := by
        unfold alike
        rw [List.take_of_length_le (by rw [List.length_zip]; omega)] at hall
        exact hall
      have hfinA := Aside0.mk hfin
      clear hfin hall x0 x1 x2 z0 z1 z2
      have g1 := (hXA.out.below hB2A.out).get 1 _ rfl
      go_wp2_with fail
      go_loopw [51] (fun i wr => ∃ k : Nat, k ≤ co.length ∧ i = .int .i64 (k : Int) ∧ ((co.zip co').take k).all (fun p => eqC p.1 p.2) = true ∧ Below V.heap.size V wr) (fun i _ => co.length - (intOf i).toNat)
      case atStart => exact ⟨0, by omega, rfl, by simp, hB2A.out⟩
      case round =>
        clear g1 hB2A
        obtain ⟨k, hk, rfl, hall, hB2⟩ := hrel
        have hB2A := Aside0.mk hB2
        clear hB2
        by_cases hlt : k < co.length
        · obtain ⟨s, hs⟩ : ∃ s, co[k]? = some s := ⟨_, List.getElem?_eq_getElem hlt⟩
          obtain ⟨s', hs'⟩ : ∃ s', co'[k]? = some s' := ⟨_, List.getElem?_eq_getElem (by have := hl2A.out; omega)⟩
          have hS2 : CoR w B2 co'.length co' := by rw [hl2A.out]; exact hCA'.out
          obtain ⟨ad, cc, rfl, ⟨hok, -⟩, -, -⟩ := row_at hCA.out k s hs
          obtain ⟨ad', cc', rfl, ⟨hok', -⟩, -, -⟩ := row_at hS2 k s' hs'
          have haA : Aside0 (∀ W, Below V.heap.size V W → ∀ (j : Nat) u, (coc s)[j]? = some u → W.cell? ((ad.add (k * 2)).add j) = some u) := Aside0.mk (fun W hW => by
            obtain ⟨_, _, e, ⟨-, rfl⟩, -, h⟩ := row_at (hCA.out.imp_ (below_then hBA.out hBA.out.size hW) (fun _ _ h => h)) k s hs
            cases e
            exact h)
          have hbA : Aside0 (∀ W, Below V.heap.size V W → ∀ (j : Nat) u, (coc s')[j]? = some u → W.cell? ((ad'.add (k * 2)).add j) = some u) := Aside0.mk (fun W hW => by
            obtain ⟨_, _, e, ⟨-, rfl⟩, -, h⟩ := row_at (hS2.imp_ (below_then hBA.out hBA.out.size hW) (fun _ _ h => h)) k s' hs'
            cases e
            exact h)
          have gaA := Aside0.mk (fun W (hW : Below V.heap.size V W) => (hXA.out.below hW).get 1 _ rfl)
          have gbA := Aside0.mk (fun W (hW : Below V.heap.size V W) => (hZA.out.below hW).get 1 _ rfl)
          have p0 : (0 : Int) ≤ (k : Int) := by omega
          have p2 : (k : Int) < (co.length : Int) := by omega
          have e2 : IntKind.i64.wrap ((k : Int) + 1) = (k : Int) + 1 := IntWalk.i64_in _ (by omega)
          have hnx := alike_take eqC co co' k s s' hs hs'
          have hno := alike_no eqC co co' k s s' hs hs'
          rw [hall, Bool.true_and] at hnx
          obtain ⟨o, ho⟩ : ∃ o, eqC s s' = o := ⟨_, rfl⟩
          rw [ho] at hnx hno
          have hnxA := Aside0.mk hnx; have hnoA := Aside0.mk hno; have hoA := Aside0.mk ho
          clear hnx hno ho hok hok' hs hs' hall hS2
          go_wp2_with fail
          refine wp_region_noPanic ?_
          have H0 : Below V.heap.size V wr.drew := pw_below_drewN hB2A.out 1
          refine wp_region_held_drew (S := fun V1 => Below V.heap.size V V1) (by kernel_rfl) H0 (fun _ => ?_)
          generalize wr.drew = V0 at *
          -- REGION C
          refine wpAnyH_take (i := 0) (v := .pointer (some ⟨w.heap.size, 1, none⟩)) (op_at rfl) (by kernel_rfl) (by kernel_rfl) (by kernel_rfl) (fun _ _ _ h => h) (Or.inl ⟨by rfl, fun w_ hSw => ?_⟩) H0 ?_
          · skip; go_simp
          try simp only [Act.put, List.setIfInBounds_toArray, List.set_cons_zero, List.set_cons_succ]
          refine wpAnyH_take (i := 1) (v := .slice (some ad) co.length c2) (op_at rfl) (by kernel_rfl) (by kernel_rfl) (by kernel_rfl) (fun _ _ _ h => h) (Or.inl ⟨by rfl, fun w_ hSw => ?_⟩) H0 ?_
          · have hc_ := gaA.out w_ hSw; go_simp
          try simp only [Act.put, List.setIfInBounds_toArray, List.set_cons_zero, List.set_cons_succ]
          refine wpAnyH_take (i := 2) (v := .int .i64 (k : Int)) (op_at rfl) (by kernel_rfl) (by kernel_rfl) (by kernel_rfl) (fun _ _ _ h => h) (Or.inl ⟨by rfl, fun w_ hSw => ?_⟩) H0 ?_
          · skip; go_simp
          try simp only [Act.put, List.setIfInBounds_toArray, List.set_cons_zero, List.set_cons_succ]
          refine wpAnyH_take (i := 3) (v := .pointer (some (ad.add (k * 2)))) (op_at rfl) (by kernel_rfl) (by kernel_rfl) (by kernel_rfl) (fun _ _ _ h => h) (Or.inl ⟨by rfl, fun w_ hSw => ?_⟩) H0 ?_
          · skip; go_simp
          try simp only [Act.put, List.setIfInBounds_toArray, List.set_cons_zero, List.set_cons_succ]
          refine wpAnyH_take (i := 4) (v := .agg (coc s).toArray) (op_at rfl) (by kernel_rfl) (by kernel_rfl) (by kernel_rfl) (fun _ _ _ h => h) (yieldsIf_load_any (by rfl) _ _ rfl (ad.add (k * 2)) rfl _ _ (fun w_ hSw => haA.out w_ hSw) Try.underlying38 rfl (info_coin s)) H0 ?_
          try simp only [Act.put, List.setIfInBounds_toArray, List.set_cons_zero, List.set_cons_succ]
          refine wpAnyH_take (i := 5) (v := .pointer (some ⟨w.heap.size + 1, 1, none⟩)) (op_at rfl) (by kernel_rfl) (by kernel_rfl) (by kernel_rfl) (fun _ _ _ h => h) (Or.inl ⟨by rfl, fun w_ hSw => ?_⟩) H0 ?_
          · skip; go_simp
          try simp only [Act.put, List.setIfInBounds_toArray, List.set_cons_zero, List.set_cons_succ]
          refine wpAnyH_take (i := 6) (v := .slice (some ad') co.length d2) (op_at rfl) (by kernel_rfl) (by kernel_rfl) (by kernel_rfl) (fun _ _ _ h => h) (Or.inl ⟨by rfl, fun w_ hSw => ?_⟩) H0 ?_
          · have hc_ := gbA.out w_ hSw; go_simp
          try simp only [Act.put, List.setIfInBounds_toArray, List.set_cons_zero, List.set_cons_succ]
          refine wpAnyH_take (i := 7) (v := .int .i64 (k : Int)) (op_at rfl) (by kernel_rfl) (by kernel_rfl) (by kernel_rfl) (fun _ _ _ h => h) (Or.inl ⟨by rfl, fun w_ hSw => ?_⟩) H0 ?_
          · skip; go_simp
          try simp only [Act.put, List.setIfInBounds_toArray, List.set_cons_zero, List.set_cons_succ]
          refine wpAnyH_take (i := 8) (v := .pointer (some (ad'.add (k * 2)))) (op_at rfl) (by kernel_rfl) (by kernel_rfl) (by kernel_rfl) (fun _ _ _ h => h) (Or.inl ⟨by rfl, fun w_ hSw => ?_⟩) H0 ?_
          · skip; go_simp
          try simp only [Act.put, List.setIfInBounds_toArray, List.set_cons_zero, List.set_cons_succ]
          refine wpAnyH_take (i := 9) (v := .agg (coc s').toArray) (op_at rfl) (by kernel_rfl) (by kernel_rfl) (by kernel_rfl) (fun _ _ _ h => h) (yieldsIf_load_any (by rfl) _ _ rfl (ad'.add (k * 2)) rfl _ _ (fun w_ hSw => hbA.out w_ hSw) Try.underlying38 rfl (info_coin s')) H0 ?_
          try simp only [Act.put, List.setIfInBounds_toArray, List.set_cons_zero, List.set_cons_succ]
          refine wpAnyH_take (i := 10) (v := .bool (!o)) (op_at rfl) (by kernel_rfl) (by kernel_rfl) (by kernel_rfl) (fun _ _ _ h => h) (Or.inl ⟨by rfl, fun w_ hSw => (by rw [← hoA.out]; exact exec_neq_coin (.tmp 58) (.tmp 63) rfl s s' rfl rfl w_)⟩) H0 ?_
          try simp only [Act.put, List.setIfInBounds_toArray, List.set_cons_zero, List.set_cons_succ]
          refine wpAnyH_done (by kernel_rfl) ?_ _
          refine NoPanic.normal ?_
          cases o
          · go_wp2
            go_ret
            exact ⟨by rw [hnoA.out (by trivial), Bool.and_false]; rfl, below_then hBA.out hBA.out.size H0⟩
          · go_wp2
            go_roundw
            · exact ⟨k + 1, by omega, by go_num, hnxA.out, H0⟩
            · simp [intOf]; omega
          -- END C
        · obtain rfl : k = co.length := by omega
          have p2 : ¬ (co.length : Int) < (co.length : Int) := by omega
          have hfin : alike eqC co co' = true := by
            unfold alike
            rw [List.take_of_length_le (by rw [List.length_zip]; omega)] at hall
            exact hall
          have hfin2A := Aside0.mk hfin
          clear hfin hall
          go_wp2_with fail
          go_ret
          exact ⟨by rw [hfinA.out, hfin2A.out]; rfl, below_then hBA.out hBA.out.size hB2A.out⟩
end Go.Proofs.Ytlgfekllkahfaaa.Pack
