/- Is there a spend of which a function value says yes? -/
import Derived.Test.YtlgfekllkahfaaaDoorMPb
import Derived.Shelf.Abstract
import Derived.Test.YtlgfekllkahfaaaDoorQx1
set_option linter.unusedVariables false
set_option linter.unusedSimpArgs false
namespace Go.Proofs.YtlgfekllkahfaaaDoor.Pack
open Go.RowKit Go.Proofs.YtlgfekllkahfaaaDoorW.PrintWords Go.Proofs.YtlgfekllkahfaaaDoorW.PrintMore Go.Proofs.YtlgfekllkahfaaaDoor Go.Proofs.YtlgfekllkahfaaaDoor.Bits Sha ArrK ShaW
theorem any_take (p : Sp → Bool) (l : List Sp) (k : Nat) (s : Sp) (h : l[k]? = some s) : (l.take (k + 1)).any p = ((l.take k).any p || p s) := by
  have hk := (List.getElem?_eq_some_iff.1 h)
  rw [List.take_succ_eq_append_getElem hk.1, List.any_append, hk.2]; simp
set_option maxRecDepth 100000 in
set_option maxHeartbeats 800000 in
theorem index_calls (w : World) (A : Option Addr) (c : Nat) (ss : List Sp) (g : Nat) (lb : Array Value) (eg : ∀ args w, (callFunc g args).run Tryd.prog w = .ok (.enter g args) w) (p : Sp → Bool) (hS : SpR0 w A ss.length ss) (hn : ss.length ≤ 1000)
    (hp : ∀ W s, s ∈ ss → Below w.heap.size w W → Calls Tryd.prog g (#[spv s] ++ lb) W fun e w' => e = .returned (.bool (p s)) ∧ Below w.heap.size w w') :
    Calls Tryd.prog 61 #[.slice A ss.length c, .func (.func g) #[] lb] w fun e w' => (∃ z : Int, e = .returned (.int .i64 z) ∧ decide (0 ≤ z) = ss.any p) ∧ Below w.heap.size w w' := by
  have hSA := Aside0.mk hS; have hpA := Aside0.mk hp
  clear hS hp
  go_enter Tryd.func61, Tryd.ntmps61
  go_wp2_with fail
  go_loopw [8] (fun i wr => ∃ k : Nat, k ≤ ss.length ∧ i = .int .i64 (k : Int) ∧ (ss.take k).any p = false ∧ Below w.heap.size w wr) (fun i _ => ss.length - (intOf i).toNat)
  case atStart => exact ⟨0, by omega, rfl, by simp, Below.refl _ _⟩
  case round =>
    obtain ⟨k, hk, rfl, hno, hB⟩ := hrel
    have hBA := Aside0.mk hB; have hnoA := Aside0.mk hno
    clear hB hno
    by_cases hlt : k < ss.length
    · obtain ⟨s, hs⟩ : ∃ s, ss[k]? = some s := ⟨_, List.getElem?_eq_getElem hlt⟩
      obtain ⟨ad, cc, rfl, ⟨hok, rfl⟩, -, hcell⟩ := row_at (hSA.out.imp_ hBA.out (fun _ _ h => h)) k s hs
      have p0 : (0 : Int) ≤ (k : Int) := by omega
      have p1 : (k : Int) < (ss.length : Int) := by omega
      have e2 : IntKind.i64.wrap ((k : Int) + 1) = (k : Int) + 1 := IntWalk.i64_in _ (by omega)
      have hnx := any_take p ss k s hs
      rw [hnoA.out, Bool.false_or] at hnx
      have hcall := hpA.out wr s (List.mem_of_getElem? hs) hBA.out
      have hmem := List.mem_of_getElem? hs
      have hany : p s = true → ss.any p = true := fun h => List.any_eq_true.2 ⟨s, hmem, h⟩
      generalize p s = o at *
      have hiA := Aside0.mk (info_spend s hok.1); have hceA := Aside0.mk hcell; have hnxA := Aside0.mk hnx; have hcA := Aside0.mk hcall; have hanyA := Aside0.mk hany
      clear hok hcell hnx hcall hany hs hmem
      cases o
      · go_wp2_with (first | ((with_reducible refine gate_dst (N := 15) rfl ?_); (refine wpList_load_any rfl 38 (.tmp 14) rfl (ad.add (k * 35)) rfl (spc s) _ hceA.out Tryd.underlying38 rfl hiA.out ?_)) | (go_at_fn g; refine hcA.out.mono ?_; rintro e w2 ⟨rfl, hb2⟩; have hb2A := Aside0.mk hb2; clear hb2))
        go_roundw
        · exact ⟨k + 1, by omega, by go_num, hnxA.out, hb2A.out⟩
        · simp [intOf]; omega
      · go_wp2_with (first | ((with_reducible refine gate_dst (N := 15) rfl ?_); (refine wpList_load_any rfl 38 (.tmp 14) rfl (ad.add (k * 35)) rfl (spc s) _ hceA.out Tryd.underlying38 rfl hiA.out ?_)) | (go_at_fn g; refine hcA.out.mono ?_; rintro e w2 ⟨rfl, hb2⟩; have hb2A := Aside0.mk hb2; clear hb2))
        go_ret
        exact ⟨⟨_, rfl, by rw [hanyA.out (by trivial), decide_eq_true_iff]; omega⟩, hb2A.out⟩
    · obtain rfl : k = ss.length := by omega
      have p1 : ¬ (ss.length : Int) < (ss.length : Int) := by omega
      rw [List.take_of_length_le (Nat.le_refl _)] at hnoA
      go_wp2_with fail
      go_ret
      exact ⟨⟨-1, rfl, by rw [hnoA.out]; rfl⟩, hBA.out⟩
set_option maxRecDepth 100000 in
set_option maxHeartbeats 800000 in
theorem contains_calls (w : World) (A : Option Addr) (c : Nat) (ss : List Sp) (g : Nat) (lb : Array Value) (eg : ∀ args w, (callFunc g args).run Tryd.prog w = .ok (.enter g args) w) (p : Sp → Bool) (hS : SpR0 w A ss.length ss) (hn : ss.length ≤ 1000)
    (hp : ∀ W s, s ∈ ss → Below w.heap.size w W → Calls Tryd.prog g (#[spv s] ++ lb) W fun e w' => e = .returned (.bool (p s)) ∧ Below w.heap.size w w') :
    Calls Tryd.prog 32 #[.slice A ss.length c, .func (.func g) #[] lb] w fun e w' => e = .returned (.bool (ss.any p)) ∧ Below w.heap.size w w' := by
  have hI := Aside0.mk (index_calls w A c ss g lb eg p hS hn hp)
  clear hS hp
  go_enter Tryd.func32, Tryd.ntmps32
  go_wp2_with (go_at_call 61; (with_reducible refine hI.out.mono ?_); rintro e w2 ⟨⟨z, rfl, hz⟩, hb2⟩; have hF := Aside0.mk (And.intro hz hb2); clear hz hb2)
  go_ret
  exact ⟨by rw [← hF.out.1]; rfl, hF.out.2⟩
end Go.Proofs.YtlgfekllkahfaaaDoor.Pack
/- Is a transaction shaped? What its coins are worth. -/
set_option linter.unusedVariables false
set_option linter.unusedSimpArgs false
namespace Go.Proofs.YtlgfekllkahfaaaDoor.Pack
open Go.RowKit Go.Proofs.YtlgfekllkahfaaaDoorW.PrintWords Go.Proofs.YtlgfekllkahfaaaDoorW.PrintMore Go.Proofs.YtlgfekllkahfaaaDoor Go.Proofs.YtlgfekllkahfaaaDoor.Bits Sha ArrK ShaW
/-- a spend that has no form -/
def odd (s : Sp) : Bool := decide (s.key.size > 32) || (decide (s.n < 0) || decide (s.n ≥ 8))
theorem shut_enters (args : Array Value) (w : World) : (callFunc 63 args).run Tryd.prog w = .ok (.enter 63 args) w := Go.Proofs.enters_of Tryd.func63 (by kernel_rfl) rfl args w
set_option maxRecDepth 100000 in
set_option maxHeartbeats 800000 in
theorem odd_calls (s : Sp) (hs : s.tx.length = 32) (W : World) : Calls Tryd.prog 63 #[spv s] W fun e w' => e = .returned (.bool (odd s)) ∧ Below W.heap.size W w' := by
  obtain ⟨V, hV⟩ : ∃ V, V = W.alloc (.cells (spc s).toArray 38) := ⟨_, rfl⟩
  have hX : Blk V W.heap.size 38 (spc s) := by rw [hV]; exact Blk.new W _ _
  have hB : Below W.heap.size W V := by rw [hV]; exact below_alloc (Below.refl _ _) _
  have g33 := hX.get 33 _ (spc_key s hs)
  have g32 := hX.get 32 _ (spc_n s hs)
  have hVA := Aside0.mk hV; have hBA := Aside0.mk hB
  clear hV hX hB
  unfold odd
  generalize s.key = y at *
  generalize s.n = n at *
  by_cases q1 : y.size > 32
  · have p1 : (32 : Int) < (y.size : Int) := by omega
    go_enter Tryd.func63, Tryd.ntmps63
    go_wp2_with ((with_reducible refine gate_dst (N := 3) rfl ?_); rw [← hVA.out])
    go_ret
    exact ⟨by simp [q1], hBA.out⟩
  · have p1 : ¬ (32 : Int) < (y.size : Int) := by omega
    by_cases q2 : n < 0
    · go_enter Tryd.func63, Tryd.ntmps63
      go_wp2_with ((with_reducible refine gate_dst (N := 3) rfl ?_); rw [← hVA.out])
      go_ret
      exact ⟨by simp [q1, q2], hBA.out⟩
    · go_enter Tryd.func63, Tryd.ntmps63
      go_wp2_with ((with_reducible refine gate_dst (N := 3) rfl ?_); rw [← hVA.out])
      go_ret
      exact ⟨by simp [q1, q2]; try omega, hBA.out⟩
/-- is it shaped? -/
def shaped (t : Tr) : Bool := decide (1 ≤ t.sp.length) && (decide (t.sp.length ≤ 8) && (decide (1 ≤ t.co.length) && (decide (t.co.length ≤ 8) && !t.sp.any odd)))
theorem shaped_no {t : Tr} (h : t.sp.length < 1 ∨ 8 < t.sp.length ∨ t.co.length < 1 ∨ 8 < t.co.length) : shaped t = false := by
  unfold shaped
  rcases h with h | h | h | h
  · simp [show ¬ 1 ≤ t.sp.length by omega]
  · simp [show ¬ t.sp.length ≤ 8 by omega]
  · simp [show ¬ 1 ≤ t.co.length by omega]
  · simp [show ¬ t.co.length ≤ 8 by omega]
theorem shaped_if {t : Tr} (h1 : 1 ≤ t.sp.length) (h2 : t.sp.length ≤ 8) (h3 : 1 ≤ t.co.length) (h4 : t.co.length ≤ 8) : shaped t = !t.sp.any odd := by simp [shaped, h1, h2, h3, h4]
section
variable {t : Tr} {A1 A2 : Option Addr} {c1 c2 : Nat}
set_option maxRecDepth 100000 in
set_option maxHeartbeats 1600000 in
theorem shaped_calls (w : World) (hS : SpR0 w A1 t.sp.length t.sp) : Calls Tryd.prog 38 #[trv t A1 A2 c1 c2] w fun e w' => e = .returned (.bool (shaped t)) ∧ Below w.heap.size w w' := by
  obtain ⟨V, hV⟩ : ∃ V, V = w.alloc (.cells (trc t A1 A2 c1 c2).toArray 25) := ⟨_, rfl⟩
  have hX : Blk V w.heap.size 25 (trc t A1 A2 c1 c2) := by rw [hV]; exact Blk.new w _ _
  have hB : Below w.heap.size w V := by rw [hV]; exact below_alloc (Below.refl _ _) _
  have g0 := hX.get 0 _ rfl
  have g1 := hX.get 1 _ rfl
  have hVA := Aside0.mk hV; have hBA := Aside0.mk hB; have hSA := Aside0.mk hS
  clear hV hX hB hS
  by_cases q1 : t.sp.length < 1
  · have p1 : (t.sp.length : Int) < 1 := by omega
    rw [shaped_no (.inl q1)]
    go_enter Tryd.func38, Tryd.ntmps38
    go_wp2_with ((with_reducible refine gate_dst (N := 3) rfl ?_); rw [show (w.alloc (.cells #[.slice A1 t.sp.length c1, .slice A2 t.co.length c2, .bool t.firm] 25)) = V from hVA.out.symm])
    go_ret
    exact ⟨rfl, hBA.out⟩
  by_cases q2 : 8 < t.sp.length
  · have p1 : ¬ (t.sp.length : Int) < 1 := by omega
    have p2 : (8 : Int) < (t.sp.length : Int) := by omega
    rw [shaped_no (.inr (.inl q2))]
    go_enter Tryd.func38, Tryd.ntmps38
    go_wp2_with ((with_reducible refine gate_dst (N := 3) rfl ?_); rw [show (w.alloc (.cells #[.slice A1 t.sp.length c1, .slice A2 t.co.length c2, .bool t.firm] 25)) = V from hVA.out.symm])
    go_ret
    exact ⟨rfl, hBA.out⟩
  by_cases q3 : t.co.length < 1
  · have p1 : ¬ (t.sp.length : Int) < 1 := by omega
    have p2 : ¬ (8 : Int) < (t.sp.length : Int) := by omega
    have p3 : (t.co.length : Int) < 1 := by omega
    rw [shaped_no (.inr (.inr (.inl q3)))]
    go_enter Tryd.func38, Tryd.ntmps38
    go_wp2_with ((with_reducible refine gate_dst (N := 3) rfl ?_); rw [show (w.alloc (.cells #[.slice A1 t.sp.length c1, .slice A2 t.co.length c2, .bool t.firm] 25)) = V from hVA.out.symm])
    go_ret
    exact ⟨rfl, hBA.out⟩
  by_cases q4 : 8 < t.co.length
  · have p1 : ¬ (t.sp.length : Int) < 1 := by omega
    have p2 : ¬ (8 : Int) < (t.sp.length : Int) := by omega
    have p3 : ¬ (t.co.length : Int) < 1 := by omega
    have p4 : (8 : Int) < (t.co.length : Int) := by omega
    rw [shaped_no (.inr (.inr (.inr q4)))]
    go_enter Tryd.func38, Tryd.ntmps38
    go_wp2_with ((with_reducible refine gate_dst (N := 3) rfl ?_); rw [show (w.alloc (.cells #[.slice A1 t.sp.length c1, .slice A2 t.co.length c2, .bool t.firm] 25)) = V from hVA.out.symm])
    go_ret
    exact ⟨rfl, hBA.out⟩
  rw [shaped_if (by omega) (by omega) (by omega) (by omega)]
  have hCo := Aside0.mk (contains_calls V A1 c1 t.sp 63 #[] shut_enters odd (hSA.out.imp_ hBA.out (fun _ _ h => h)) (by omega) (fun W s hs hb => by
    have hok : s.tx.length = 32 := by
      obtain ⟨i, hi⟩ := List.mem_iff_getElem?.1 hs
      exact (row_at hSA.out i s hi).choose_spec.choose_spec.2.1.1.1
    exact (odd_calls s hok W).mono fun e w' ⟨a, b⟩ => ⟨a, below_then hb hb.size b⟩))
  have p1 : ¬ (t.sp.length : Int) < 1 := by omega
  have p2 : ¬ (8 : Int) < (t.sp.length : Int) := by omega
  have p3 : ¬ (t.co.length : Int) < 1 := by omega
  have p4 : ¬ (8 : Int) < (t.co.length : Int) := by omega
  go_enter Tryd.func38, Tryd.ntmps38
  go_wp2_with (first | ((with_reducible refine gate_dst (N := 3) rfl ?_); rw [show (w.alloc (.cells #[.slice A1 t.sp.length c1, .slice A2 t.co.length c2, .bool t.firm] 25)) = V from hVA.out.symm]) | (go_at_call 32; (with_reducible refine hCo.out.mono ?_); rintro e w2 ⟨rfl, hb2⟩; have hb2A := Aside0.mk (below_then hBA.out hBA.out.size hb2); clear hb2))
  go_ret
  exact ⟨rfl, hb2A.out⟩
end
end Go.Proofs.YtlgfekllkahfaaaDoor.Pack
/- What a transaction's coins are worth. -/
set_option linter.unusedVariables false
set_option linter.unusedSimpArgs false
namespace Go.Proofs.YtlgfekllkahfaaaDoor.Pack
open Go.RowKit Go.Proofs.YtlgfekllkahfaaaDoorW.PrintWords Go.Proofs.YtlgfekllkahfaaaDoorW.PrintMore Go.Proofs.YtlgfekllkahfaaaDoor Go.Proofs.YtlgfekllkahfaaaDoor.Bits Sha ArrK ShaW
def good (x : Int) : Bool := decide (0 ≤ x) && decide (x ≤ 2100000000000000)
/-- a checked sum -/
def totl : Int → List Int → Int × Option Int
  | s, [] => (s, none)
  | s, x :: r => if good x = true ∧ good (s + x) = true then totl (s + x) r else (0, some 9)
theorem good_f (x : Int) : Go.Proofs.YtlgfekllkahfaaaDoor.Q.amount_Good.f x = some (good x) := by
  unfold Go.Proofs.YtlgfekllkahfaaaDoor.Q.amount_Good.f good
  by_cases h : 0 ≤ x
  · rw [if_pos h]; simp [h]
  · rw [if_neg h]; simp [h]
theorem good_is {x : Int} (h : good x = true) : 0 ≤ x ∧ x ≤ 2100000000000000 := by simpa [good] using h
theorem total_l0 (l : List Int) : ∀ (m i : Nat) (s : Int), l.length - i ≤ m → l.length ≤ 1000000 → i ≤ l.length → good s = true → Go.Proofs.YtlgfekllkahfaaaDoor.Q.amount_Total.l0 (m + 1) s l (l.length : Int) (i : Int) = some (totl s (l.drop i)) := by
  intro m
  induction m with
  | zero =>
    intro i s hm hl hi hs
    have : i = l.length := by omega
    subst this
    rw [Go.Proofs.YtlgfekllkahfaaaDoor.Q.amount_Total.l0, if_neg (by omega), List.drop_length]; rfl
  | succ m ih =>
    intro i s hm hl hi hs
    rw [Go.Proofs.YtlgfekllkahfaaaDoor.Q.amount_Total.l0]
    by_cases h : i < l.length
    · rw [if_pos (by omega), if_pos (by omega), if_pos (by omega)]
      have hd : l.drop i = rd l (i : Int) :: l.drop (i + 1) := by
        rw [List.drop_eq_getElem_cons h]
        unfold rd; rw [Int.toNat_natCast, List.getD_eq_getElem?_getD, List.getElem?_eq_getElem h]; rfl
      rw [hd]
      generalize rd l (i : Int) = x
      rw [good_f, Option.bind_some, totl]
      by_cases g1 : good x = true
      · have h1 := good_is g1
        have h2 := good_is hs
        have hw : wrap64 (s + x) = s + x := by unfold wrap64; omega
        have hw2 : wrap64 ((i : Int) + 1) = ((i + 1 : Nat) : Int) := by unfold wrap64; omega
        rw [if_pos g1, hw, good_f, Option.bind_some, hw2]
        by_cases g2 : good (s + x) = true
        · rw [if_pos g2, if_pos ⟨g1, g2⟩]
          exact ih (i + 1) (s + x) (by omega) hl (by omega) g2
        · rw [if_neg g2, if_neg (fun h => g2 h.2)]
      · rw [if_neg g1, if_neg (fun h => g1 h.1)]
    · have : i = l.length := by omega
      subst this
      rw [if_neg (by omega), List.drop_length]; rfl
theorem total_f (l : List Int) (hl : l.length ≤ 1000000) : Go.Proofs.YtlgfekllkahfaaaDoor.Q.amount_Total.f (l.length + 1) l = some (totl 0 l) := by
  unfold Go.Proofs.YtlgfekllkahfaaaDoor.Q.amount_Total.f
  have := total_l0 l l.length 0 0 (by omega) hl (by omega) (by decide)
  exact this
/-- what its coins are worth -/
def outv (t : Tr) : Int × Option Int := totl 0 (t.co.map Co.value)
section
variable {t : Tr} {A1 A2 : Option Addr} {c1 c2 : Nat}
set_option maxRecDepth 100000 in
set_option maxHeartbeats 1600000 in
theorem out_calls (w : World) (hC : CoR w A2 t.co.length t.co) (hn : t.co.length ≤ 1000) : Calls Tryd.prog 39 #[trv t A1 A2 c1 c2] w fun e w' => e = .returned (.tuple #[.int .i64 (outv t).1, Go.Proofs.YtlgfekllkahfaaaDoor.Q.errW (outv t).2]) ∧ Below w.heap.size w w' := by
  obtain ⟨V, hV⟩ : ∃ V, V = w.alloc (.cells (trc t A1 A2 c1 c2).toArray 25) := ⟨_, rfl⟩
  have hX : Blk V w.heap.size 25 (trc t A1 A2 c1 c2) := by rw [hV]; exact Blk.new w _ _
  have hB : Below w.heap.size w V := by rw [hV]; exact below_alloc (Below.refl _ _) _
  have g1 := hX.get 1 _ rfl
  obtain ⟨sp, co, firm⟩ := t
  unfold outv
  simp only at g1 hC hn ⊢
  have hVA := Aside0.mk hV; have hBA := Aside0.mk hB; have hCA := Aside0.mk hC
  clear hV hX hB hC
  go_enter Tryd.func39, Tryd.ntmps39
  go_wp2_with ((with_reducible refine gate_dst (N := 7) rfl ?_); rw [show (w.alloc (.cells #[.slice A1 sp.length c1, .slice A2 co.length c2, .bool firm] 25)) = V from hVA.out.symm])
  go_loopw [10, 4] (fun i u wr => ∃ k : Nat, k ≤ co.length ∧ i = .int .i64 (k : Int) ∧ Kd.R (Kd.int .i64) 3 wr w.heap.size (fun _ => True) u ((co.map Co.value).take k) ∧ Below w.heap.size w wr) (fun i _ _ => co.length - (intOf i).toNat)
  case atStart => exact ⟨0, by omega, rfl, Kd.R_nil _ _ _ _ _, hBA.out⟩
  case round =>
    clear g1
    obtain ⟨k, hk, rfl, hR, hB⟩ := hrel
    have hBA := Aside0.mk hB; have hRA := Aside0.mk hR
    clear hB hR
    by_cases hlt : k < co.length
    · obtain ⟨c, hs⟩ : ∃ c, co[k]? = some c := ⟨_, List.getElem?_eq_getElem hlt⟩
      obtain ⟨ad, cc, rfl, ⟨hok, rfl⟩, -, hcell⟩ := row_at (hCA.out.imp_ hBA.out (fun _ _ h => h)) k c hs
      have p0 : (0 : Int) ≤ (k : Int) := by omega
      have p1 : (k : Int) < (co.length : Int) := by omega
      have e2 : IntKind.i64.wrap ((k : Int) + 1) = (k : Int) + 1 := IntWalk.i64_in _ (by omega)
      have htk : (co.map Co.value).take (k + 1) = (co.map Co.value).take k ++ [c.value] := by
        have h : (co.map Co.value)[k]? = some c.value := by rw [List.getElem?_map, hs]; rfl
        rw [List.take_succ_eq_append_getElem (List.getElem?_eq_some_iff.1 h).1, (List.getElem?_eq_some_iff.1 h).2]
      have hll : ((co.map Co.value).take k).length ≤ 1000 := by rw [List.length_take]; omega
      have hi := info_coin c
      have hone := coc_one c
      obtain ⟨S, hSz⟩ : ∃ S, S = wr.heap.size := ⟨_, rfl⟩
      have hiA := Aside0.mk hi; have honeA := Aside0.mk hone; have hceA := Aside0.mk hcell; have hSzA := Aside0.mk hSz; have htkA := Aside0.mk htk; have hllA := Aside0.mk hll
      clear hok hi hone hcell hSz htk hll hs
      generalize (co.map Co.value).take k = l at *
      go_wp2_with (first | ((with_reducible refine gate_dst (N := 13) rfl ?_); (refine wpList_load_any rfl 52 (.tmp 12) rfl (ad.add (k * 2)) rfl (coc c) _ hceA.out Tryd.underlying52 rfl hiA.out ?_)) | ((with_reducible refine gate_dst (N := 6) rfl ?_); (refine wpList_new_put rfl (N := 6) rfl rfl 52 (.tmp 13) rfl (coc c) (coc ⟨0, 0⟩) rfl ?hr rfl rfl hiA.out honeA.out ?_; (case hr => first | (go_simp; done) | (go_simp; rfl)); intro w2 hX2 hb2 hs2; rw [← hSzA.out] at hX2 ⊢; have g0 := hX2.get 0 _ rfl; have hR2A := Aside0.mk (Kd.R_below hRA.out hb2); have hB2A := Aside0.mk (below_then hBA.out hBA.out.size hb2); clear hX2 hb2 hs2)) | ((with_reducible refine gate_dst (N := 18) rfl ?_); at_builtin; (refine Kd.R_append (Kd.int .i64) (w0 := w) w.heap.size rfl (.tmp 14) (.tmp 17) 88 3 (.int .i64 0) 8 rfl Tryd.underlying88 (by kernel_rfl) rfl (by decide) (by omega) _ l c.value [.int .i64 c.value] (fun _ => True) (fun _ => False) rfl rfl rfl (fun _ hk => hk.elim) (fun _ _ => trivial) hR2A.out hB2A.out hB2A.out.size (by have := hllA.out; omega) ?_; intro v3 w3 hR3 hB3 _ _; have hR3A := Aside0.mk hR3; have hB3A := Aside0.mk hB3; clear hR3 hB3 g0)))
      go_roundw
      · exact ⟨k + 1, by omega, by go_num, by rw [htkA.out]; exact hR3A.out, hB3A.out⟩
      · simp [intOf]; omega
    · obtain rfl : k = co.length := by omega
      have p1 : ¬ (co.length : Int) < (co.length : Int) := by omega
      rw [List.take_of_length_le (by rw [List.length_map]; exact Nat.le_refl _)] at hRA
      have hlm : (co.map Co.value).length ≤ 1000 := by rw [List.length_map]; exact hn
      obtain ⟨l, hl⟩ : ∃ l, l = co.map Co.value := ⟨_, rfl⟩
      rw [← hl] at hRA hlm
      have hlA := Aside0.mk hl
      clear hl
      obtain ⟨A, c, rfl, hc, hCl⟩ := Kd.R_reads hRA.out
      have hT := Aside0.mk (Go.Proofs.YtlgfekllkahfaaaDoor.Q.amount_Total.calls (l.length + 1) A c l (totl 0 l).1 (totl 0 l).2 wr hCl hc (total_f l (by omega)))
      obtain ⟨r, hr⟩ : ∃ r, r = totl 0 l := ⟨_, rfl⟩
      rw [← hr] at hT
      have hrA := Aside0.mk hr
      clear hr
      clear hRA hCl
      go_wp2_with (go_at_call 64; ((with_reducible refine hT.out.mono ?_); rintro e w2 ⟨rfl, hb2⟩; have hb2A := Aside0.mk hb2; clear hb2))
      go_ret2
      exact ⟨by rw [← hlA.out, ← hrA.out]; rfl, below_then hBA.out hBA.out.size hb2A.out.below⟩
end
end Go.Proofs.YtlgfekllkahfaaaDoor.Pack
/- A transaction's weight. -/
set_option linter.unusedVariables false
set_option linter.unusedSimpArgs false
namespace Go.Proofs.YtlgfekllkahfaaaDoor.Pack
open Go.RowKit Go.Proofs.YtlgfekllkahfaaaDoorW.PrintWords Go.Proofs.YtlgfekllkahfaaaDoorW.PrintMore Go.Proofs.YtlgfekllkahfaaaDoor Go.Proofs.YtlgfekllkahfaaaDoor.Bits Sha ArrK ShaW
open Go.Proofs.YtlgfekllkahfaaaDoor.InRound (op_at)
section
variable {t : Tr} {A1 A2 : Option Addr} {c1 c2 : Nat}
set_option maxRecDepth 100000 in
set_option maxHeartbeats 400000 in
theorem weight_calls (w : World) (h : TrOk w t A1 A2 c1 c2) : Calls Tryd.prog 17 #[trv t A1 A2 c1 c2] w fun e w' => e = .returned (.int .i64 ((3 * (enc false t).length + (enc true t).length : Nat) : Int)) ∧ Below w.heap.size w w' := by
  obtain ⟨V, hV⟩ : ∃ V, V = w.alloc (.cells (trc t A1 A2 c1 c2).toArray 25) := ⟨_, rfl⟩
  have hX : Blk V w.heap.size 25 (trc t A1 A2 c1 c2) := by rw [hV]; exact Blk.new w _ _
  have hB : Below w.heap.size w V := by rw [hV]; exact below_alloc (Below.refl _ _) _
  have h' := h.below hB
  have hBa : ∀ W, Below V.heap.size V W → Calls Tryd.prog 9 #[trv t A1 A2 c1 c2] W fun e w' => (∃ A c, e = .returned (.slice A (enc false t).length c)) ∧ Below W.heap.size W w' := fun W hW => (base_calls W (h'.below hW)).mono fun e w' ⟨v, e1, hR, hb⟩ => by
    obtain ⟨A, c, rfl⟩ := Kd.R_slice hR
    exact ⟨⟨A, c, e1⟩, hb⟩
  have hBy : ∀ W, Below V.heap.size V W → Calls Tryd.prog 11 #[trv t A1 A2 c1 c2] W fun e w' => (∃ A c, e = .returned (.slice A (enc true t).length c)) ∧ Below W.heap.size W w' := fun W hW => (bytesT_calls W (h'.below hW)).mono fun e w' ⟨v, e1, hR, hb⟩ => by
    obtain ⟨A, c, rfl⟩ := Kd.R_slice hR
    exact ⟨⟨A, c, e1⟩, hb⟩
  have l1 := enc_length false t h.spok h.n1 h.n2
  have l2 := enc_length true t h.spok h.n1 h.n2
  generalize (enc false t).length = n1 at *
  generalize (enc true t).length = n2 at *
  have e3 : IntKind.i64.wrap (3 * (n1 : Int)) = ((3 * n1 : Nat) : Int) := by rw [IntWalk.i64_in _ (by omega)]; omega
  have e4 : IntKind.i64.wrap (3 * (n1 : Int) + (n2 : Int)) = 3 * (n1 : Int) + (n2 : Int) := IntWalk.i64_in _ (by omega)
  have hVA := Aside0.mk hV; have hBA := Aside0.mk hB; have hBaA := Aside0.mk hBa; have hByA := Aside0.mk hBy; have hiA := Aside0.mk (info_tx t A1 A2 c1 c2)
  have hXA : Aside0 (∀ W, Below V.heap.size V W → ∀ (j : Nat) u, (trc t A1 A2 c1 c2)[j]? = some u → W.cell? ((⟨w.heap.size, 0, none⟩ : Addr).add j) = some u) := Aside0.mk (fun W hW => (hX.below hW).add)
  clear hV hX hB hBa hBy h h'
  go_enter Tryd.func17, Tryd.ntmps17
  go_wp2_with fail
  rw [show (w.alloc (.cells #[.slice A1 t.sp.length c1, .slice A2 t.co.length c2, .bool t.firm] 25)) = V from hVA.out.symm]
  refine wp_region_noPanic ?_
  have H0 : Below V.heap.size V V.drew := pw_below_drewN (Below.refl _ _) 1
  refine wp_region_held_drew (S := fun V1 => Below V.heap.size V V1) (by kernel_rfl) H0 (fun _ => ?_)
  generalize V.drew = V0 at *
  -- REGION A
  refine wpAnyH_take (i := 0) (v := .agg (trc t A1 A2 c1 c2).toArray) (op_at rfl) (by kernel_rfl) (by kernel_rfl) (by kernel_rfl) (fun _ _ _ h => h) (yieldsIf_load_any (by rfl) _ _ rfl ⟨w.heap.size, 0, none⟩ rfl _ _ (fun w_ hSw => hXA.out w_ hSw) Tryd.underlying25 rfl hiA.out) H0 ?_
  try simp only [Act.put, List.setIfInBounds_toArray, List.set_cons_zero, List.set_cons_succ]
  refine wpAnyH_take (i := 4) (v := .agg (trc t A1 A2 c1 c2).toArray) (op_at rfl) (by kernel_rfl) (by kernel_rfl) (by kernel_rfl) (fun _ _ _ h => h) (yieldsIf_load_any (by rfl) _ _ rfl ⟨w.heap.size, 0, none⟩ rfl _ _ (fun w_ hSw => hXA.out w_ hSw) Tryd.underlying25 rfl hiA.out) H0 ?_
  try simp only [Act.put, List.setIfInBounds_toArray, List.set_cons_zero, List.set_cons_succ]
  refine wpAnyH_ready (rs := [1]) (by kernel_rfl) (by simp) ?_
  refine AllReadyH.cons (op_at rfl) (fun K hK => ?_) AllReadyH.nil
  go_simp
  go_at_call 9
  with_reducible refine (hBaA.out V0 H0).mono ?_
  rintro e V1_ ⟨⟨A_, c_, rfl⟩, hb⟩
  go_wp2_with fail
  refine hK.out _ _ (below_then H0 H0.size hb) (fun H1_ => ?_)
  clear hK K hb
  try simp only [Act.put, List.setIfInBounds_toArray, List.set_cons_zero, List.set_cons_succ]
  refine wpAnyH_take (i := 2) (v := .int .i64 (n1 : Int)) (op_at rfl) (by kernel_rfl) (by kernel_rfl) (by kernel_rfl) (fun _ _ _ h => h) (Or.inl ⟨by rfl, fun w_ hSw => ?_⟩) H1_ ?_
  · skip; go_simp
  try simp only [Act.put, List.setIfInBounds_toArray, List.set_cons_zero, List.set_cons_succ]
  refine wpAnyH_take (i := 3) (v := .int .i64 ((3 * n1 : Nat) : Int)) (op_at rfl) (by kernel_rfl) (by kernel_rfl) (by kernel_rfl) (fun _ _ _ h => h) (Or.inl ⟨by rfl, fun w_ hSw => ?_⟩) H1_ ?_
  · have e_ := e3; go_simp
  try simp only [Act.put, List.setIfInBounds_toArray, List.set_cons_zero, List.set_cons_succ]
  refine wpAnyH_ready (rs := [5]) (by kernel_rfl) (by simp) ?_
  refine AllReadyH.cons (op_at rfl) (fun K hK => ?_) AllReadyH.nil
  go_simp
  go_at_call 11
  with_reducible refine (hByA.out V1_ H1_).mono ?_
  rintro e V2_ ⟨⟨A'_, c'_, rfl⟩, hb⟩
  go_wp2_with fail
  refine hK.out _ _ (below_then H1_ H1_.size hb) (fun H2_ => ?_)
  clear hK K hb
  try simp only [Act.put, List.setIfInBounds_toArray, List.set_cons_zero, List.set_cons_succ]
  refine wpAnyH_take (i := 6) (v := .int .i64 (n2 : Int)) (op_at rfl) (by kernel_rfl) (by kernel_rfl) (by kernel_rfl) (fun _ _ _ h => h) (Or.inl ⟨by rfl, fun w_ hSw => ?_⟩) H2_ ?_
  · skip; go_simp
  try simp only [Act.put, List.setIfInBounds_toArray, List.set_cons_zero, List.set_cons_succ]
  refine wpAnyH_take (i := 7) (v := .int .i64 ((3 * n1 + n2 : Nat) : Int)) (op_at rfl) (by kernel_rfl) (by kernel_rfl) (by kernel_rfl) (fun _ _ _ h => h) (Or.inl ⟨by rfl, fun w_ hSw => ?_⟩) H2_ ?_
  · have e_ := e4; go_simp
  try simp only [Act.put, List.setIfInBounds_toArray, List.set_cons_zero, List.set_cons_succ]
  refine wpAnyH_take (i := 8) (v := .int .i64 ((3 * n1 + n2 : Nat) : Int)) (op_at rfl) (by kernel_rfl) (by kernel_rfl) (by kernel_rfl) (fun _ _ _ h => h) (Or.inl ⟨by rfl, fun w_ hSw => ?_⟩) H2_ ?_
  · skip; go_simp
  try simp only [Act.put, List.setIfInBounds_toArray, List.set_cons_zero, List.set_cons_succ]
  refine wpAnyH_done (by kernel_rfl) ?_ _
  refine NoPanic.normal ?_
  have hHA := Aside0.mk H2_
  go_wp2
  go_ret
  exact ⟨rfl, below_then hBA.out hBA.out.size hHA.out⟩
  -- END A
end
end Go.Proofs.YtlgfekllkahfaaaDoor.Pack
/- A good transaction of one spend. -/
set_option linter.unusedVariables false
set_option linter.unusedSimpArgs false
namespace Go.Proofs.YtlgfekllkahfaaaDoor.Pack
open Go.RowKit Go.Proofs.YtlgfekllkahfaaaDoorW.PrintWords Go.Proofs.YtlgfekllkahfaaaDoorW.PrintMore Go.Proofs.YtlgfekllkahfaaaDoor Go.Proofs.YtlgfekllkahfaaaDoor.Bits Sha ArrK ShaW
theorem twice_enters (args : Array Value) (w : World) : (callFunc 65 args).run Tryd.prog w = .ok (.enter 65 args) w := Go.Proofs.enters_of Tryd.func65 (by kernel_rfl) rfl args w
theorem contains_nil (w : World) (A : Option Addr) (c : Nat) (lb : Array Value) : Calls Tryd.prog 32 #[.slice A 0 c, .func (.func 65) #[] lb] w fun e w' => e = .returned (.bool false) ∧ Below w.heap.size w w' :=
  contains_calls w A c [] 65 lb twice_enters (fun _ => false) ⟨rfl, Nat.zero_le _, fun h => absurd h (Nat.lt_irrefl _)⟩ (Nat.zero_le _) (fun W s hs => absurd hs List.not_mem_nil)
section
variable {s : Sp} {co : List Co} {firm : Bool} {ad : Addr} {A2 : Option Addr} {c1 c2 : Nat}
set_option maxRecDepth 100000 in
set_option maxHeartbeats 800000 in
theorem twice1_calls (w : World) (hc1 : 1 ≤ c1) (hok : s.tx.length = 32) (hat : ∀ (W : World), Below w.heap.size w W → ∀ (j : Nat) u, (spc s)[j]? = some u → W.cell? (ad.add j) = some u) : Calls Tryd.prog 40 #[.agg #[.slice (some ad) 1 c1, .slice A2 co.length c2, .bool firm]] w fun e w' => e = .returned (.bool false) ∧ Below w.heap.size w w' := by
  obtain ⟨V, hV⟩ : ∃ V, V = w.alloc (.cells #[.slice (some ad) 1 c1, .slice A2 co.length c2, .bool firm] 25) := ⟨_, rfl⟩
  have hX : Blk V w.heap.size 25 [.slice (some ad) 1 c1, .slice A2 co.length c2, .bool firm] := by rw [hV]; exact Blk.new w _ [.slice (some ad) 1 c1, .slice A2 co.length c2, .bool firm]
  have hB : Below w.heap.size w V := by rw [hV]; exact below_alloc (Below.refl _ _) _
  have g0 := hX.get 0 _ rfl
  have hVA := Aside0.mk hV; have hBA := Aside0.mk hB; have hXA := Aside0.mk hX; have hcA := Aside0.mk hat; have hiA := Aside0.mk (info_spend s hok); have honeA := Aside0.mk (spc_one s); have hllA := Aside0.mk (spc_length s hok)
  clear hV hX hB hat
  go_enter Tryd.func40, Tryd.ntmps40
  go_wp2_with ((with_reducible refine gate_dst (N := 5) rfl ?_); rw [← hVA.out])
  go_loopw [8] (fun i wr => ((i = .int .i64 0 ∧ wr = V) ∨ i = .int .i64 1) ∧ Below V.heap.size V wr) (fun i _ => 1 - (intOf i).toNat)
  case atStart => exact ⟨.inl ⟨rfl, rfl⟩, Below.refl _ _⟩
  case round =>
    obtain ⟨h | rfl, hB2⟩ := hrel
    · obtain ⟨rfl, rfl⟩ := h
      go_wp2_with (first | ((with_reducible refine gate_dst (N := 12) rfl ?_); (refine wpList_load_any rfl 38 (.tmp 11) rfl ad rfl (spc s) _ (hcA.out _ hBA.out) Tryd.underlying38 rfl hiA.out ?_)) | (go_at_call 32; (with_reducible refine (contains_nil _ _ _ _).mono ?_); rintro e w5 ⟨rfl, hb5⟩; have hb5A := Aside0.mk (hb4A.out.trans (hb5.mono hb4A.out.size)); clear hb5) | (refine wpList_put_blk rfl 38 (.tmp 4) (.tmp 12) rfl wr.heap.size 38 (spc s) (spc zsp) (by rw [hllA.out]; rfl) rfl rfl (Blk.new wr 38 (spc zsp)) hiA.out honeA.out ?_; intro w4 hX4 hg4 hs4; have hb4 : Below wr.heap.size wr w4 := (below_alloc (Below.refl _ _) (.cells (spc zsp).toArray 38)).grown hg4 (by simp) (fun k e => by cases e; exact Nat.le_refl _); have g00 := (hXA.out.below hb4).get 0 _ rfl; have hb4A := Aside0.mk hb4; clear hX4 hg4 hs4 hb4))
      go_roundw
      · exact ⟨.inr rfl, hb5A.out⟩
      · simp [intOf]
    · go_wp2_with fail
      go_ret
      exact ⟨rfl, below_then hBA.out hBA.out.size hB2⟩
set_option maxRecDepth 100000 in
set_option maxHeartbeats 800000 in
theorem check1_calls (w : World) (hc1 : 1 ≤ c1) (hok : s.tx.length = 32) (hS : SpR0 w (some ad) [s].length [s]) (hat : ∀ (W : World), Below w.heap.size w W → ∀ (j : Nat) u, (spc s)[j]? = some u → W.cell? (ad.add j) = some u) (hC : CoR w A2 co.length co) (hn : co.length ≤ 1000) (hsh : shaped ⟨[s], co, firm⟩ = true) (x : Int) (hx : outv ⟨[s], co, firm⟩ = (x, none)) :
    Calls Tryd.prog 22 #[.agg #[.slice (some ad) 1 c1, .slice A2 co.length c2, .bool firm]] w fun e w' => e = .returned .nilIface ∧ Below w.heap.size w w' := by
  obtain ⟨V, hV⟩ : ∃ V, V = w.alloc (.cells #[.slice (some ad) 1 c1, .slice A2 co.length c2, .bool firm] 25) := ⟨_, rfl⟩
  have hX : Blk V w.heap.size 25 [.slice (some ad) 1 c1, .slice A2 co.length c2, .bool firm] := by rw [hV]; exact Blk.new w _ [.slice (some ad) 1 c1, .slice A2 co.length c2, .bool firm]
  have hB : Below w.heap.size w V := by rw [hV]; exact below_alloc (Below.refl _ _) _
  have h1 := fun (W : World) (hW : Below w.heap.size w W) => shaped_calls (t := ⟨[s], co, firm⟩) (A1 := some ad) (A2 := A2) (c1 := c1) (c2 := c2) W (hS.imp_ hW (fun _ _ h => h))
  have h2 := fun (W : World) (hW : Below w.heap.size w W) => out_calls (t := ⟨[s], co, firm⟩) (A1 := some ad) (A2 := A2) (c1 := c1) (c2 := c2) W (hC.imp_ hW (fun _ _ h => h)) hn
  have h3 := fun (W : World) (hW : Below w.heap.size w W) => twice1_calls (s := s) (co := co) (firm := firm) (ad := ad) (A2 := A2) (c1 := c1) (c2 := c2) W hc1 hok (fun W' hW' => hat W' (below_then hW hW.size hW'))
  rw [hsh] at h1
  rw [hx] at h2
  have hVA := Aside0.mk hV; have hBA := Aside0.mk hB; have hXA := Aside0.mk hX; have h1A := Aside0.mk h1; have h2A := Aside0.mk h2; have h3A := Aside0.mk h3
  have hiA := Aside0.mk (show (Tryd.prog.info? 25).map (·.size) = some 3 by kernel_rfl)
  clear hV hX hB h1 h2 h3 hS hat hC
  go_enter Tryd.func22, Tryd.ntmps22
  go_wp2_with (first | ((with_reducible refine gate_dst (N := 5) rfl ?_); (rw [← hVA.out]; refine wpList_load_blk rfl 25 (.tmp 1) rfl w.heap.size 25 rfl [.slice (some ad) 1 c1, .slice A2 co.length c2, .bool firm] _ hXA.out Tryd.underlying25 rfl hiA.out ?_)) | (go_at_call 38; (refine (h1A.out _ hBA.out).mono ?_; rintro e w2 ⟨rfl, hb⟩; have hX2A := Aside0.mk (hXA.out.below hb); have hb2A := Aside0.mk (below_then hBA.out hBA.out.size hb); clear hb)) | ((with_reducible refine gate_dst (N := 10) rfl ?_); (refine wpList_load_blk rfl 25 (.tmp 1) rfl w.heap.size 25 rfl [.slice (some ad) 1 c1, .slice A2 co.length c2, .bool firm] _ hX2A.out Tryd.underlying25 rfl hiA.out ?_)) | (go_at_call 39; (refine (h2A.out _ hb2A.out).mono ?_; rintro e w3 ⟨rfl, hb⟩; have hX3A := Aside0.mk (hX2A.out.below hb); have hb3A := Aside0.mk (below_then hb2A.out hb2A.out.size hb); clear hb; simp only [Go.Proofs.YtlgfekllkahfaaaDoor.Q.errW_none])) | ((with_reducible refine gate_dst (N := 17) rfl ?_); (refine wpList_load_blk rfl 25 (.tmp 1) rfl w.heap.size 25 rfl [.slice (some ad) 1 c1, .slice A2 co.length c2, .bool firm] _ hX3A.out Tryd.underlying25 rfl hiA.out ?_)) | (go_at_call 40; (refine (h3A.out _ hb3A.out).mono ?_; rintro e w4 ⟨rfl, hb⟩; have hb4A := Aside0.mk (below_then hb3A.out hb3A.out.size hb); clear hb)))
  go_ret
  exact ⟨rfl, hb4A.out⟩
end
end Go.Proofs.YtlgfekllkahfaaaDoor.Pack
/- The chapter's example. -/
set_option linter.unusedVariables false
set_option linter.unusedSimpArgs false
namespace Go.Proofs.YtlgfekllkahfaaaDoor.Pack
open Go.RowKit Go.Proofs.YtlgfekllkahfaaaDoorW.PrintWords Go.Proofs.YtlgfekllkahfaaaDoorW.PrintMore Go.Proofs.YtlgfekllkahfaaaDoor Go.Proofs.YtlgfekllkahfaaaDoor.Bits Sha ArrK ShaW
theorem row_one {α : Type} {R : α → List Value → Prop} {sz : Nat} {W : World} {b t : Nat} {cs : List Value} {x : α} (hb : Blk W b t cs) (hx : R x cs) (hl : cs.length = sz) : ReadsRow R sz W (some ⟨b, 0, none⟩) [x].length [x] := by
  refine ⟨rfl, by show 1 ≤ _; decide, fun _ => ⟨_, rfl, fun j p hp => ?_⟩⟩
  match j, hp with
  | 0, hp =>
    cases hp
    exact ⟨cs, hl, hx, fun i u hu => by rw [Nat.zero_mul, Nat.zero_add]; exact hb.add i u hu⟩
def zco : Co := ⟨0, 0⟩
def ztr : Tr := ⟨[zsp], [zco], false⟩
theorem zsp_ok : SpOk zsp := ⟨rfl, by intro x hx; simp [zsp] at hx; omega, by decide, by decide, by decide⟩
theorem zsp_o : SpO zsp := ⟨rfl, zsp_ok.2.1, by decide, by decide, by decide⟩
theorem zco_ok : CoOk zco := ⟨by decide, by decide⟩
theorem cnt_one : cnt 1 = [1] := by decide
theorem cnt_zero : cnt 0 = [0] := by decide
theorem zenc_false : (enc false ztr).length = 55 := by
  simp [enc, ztr, encS, encC, numb_length, cnt_one, zsp]
theorem zenc_true : (enc true ztr).length = 64 := by
  simp [enc, ztr, encS, encC, numb_length, cnt_one, cnt_zero, zsp, bytesOf_length]
theorem zshaped : shaped ztr = true := by decide
theorem zout : outv ztr = (0, none) := by decide
set_option maxRecDepth 100000 in
set_option maxHeartbeats 800000 in
theorem alive10_calls (w : World) : Calls Tryd.prog 5 #[] w fun e w' => e = .returned (.bool true) ∧ Below w.heap.size w w' := by
  obtain ⟨V, hV⟩ : ∃ V, V = ((w.alloc (.cells (spc zsp).toArray 38)).alloc (.cells (coc zco).toArray 52)).alloc (.cells (trc ztr (some ⟨w.heap.size, 0, none⟩) (some ⟨w.heap.size + 1, 0, none⟩) 1 1).toArray 25) := ⟨_, rfl⟩
  have hB : Below w.heap.size w V := by rw [hV]; exact below_alloc (below_alloc (below_alloc (Below.refl _ _) _) _) _
  have hX0 : Blk V w.heap.size 38 (spc zsp) := by rw [hV]; exact ((Blk.new w _ _).alloc _).alloc _
  have hX1 : Blk V (w.heap.size + 1) 52 (coc zco) := by
    have := (Blk.new (w.alloc (.cells (spc zsp).toArray 38)) 52 (coc zco)).alloc (.cells (trc ztr (some ⟨w.heap.size, 0, none⟩) (some ⟨w.heap.size + 1, 0, none⟩) 1 1).toArray 25)
    rw [hV]; rwa [World.size_alloc] at this
  have hX2 : Blk V (w.heap.size + 1 + 1) 25 (trc ztr (some ⟨w.heap.size, 0, none⟩) (some ⟨w.heap.size + 1, 0, none⟩) 1 1) := by
    have := Blk.new ((w.alloc (.cells (spc zsp).toArray 38)).alloc (.cells (coc zco).toArray 52)) 25 (trc ztr (some ⟨w.heap.size, 0, none⟩) (some ⟨w.heap.size + 1, 0, none⟩) 1 1)
    rw [hV]; rwa [World.size_alloc, World.size_alloc] at this
  have hT : TrOk V ztr (some ⟨w.heap.size, 0, none⟩) (some ⟨w.heap.size + 1, 0, none⟩) 1 1 := ⟨row_one hX0 ⟨zsp_ok, rfl⟩ rfl, row_one hX1 ⟨zco_ok, rfl⟩ rfl, by decide, by decide⟩
  have hW := weight_calls V hT
  rw [zenc_false, zenc_true] at hW
  have hBs := fun (W : World) (h : Below V.heap.size V W) => base_calls W (hT.below h)
  replace hW : Calls Tryd.prog 17 #[trv ztr (some ⟨w.heap.size, 0, none⟩) (some ⟨w.heap.size + 1, 0, none⟩) 1 1] V fun e w' => e = .returned (.int .i64 229) ∧ Below V.heap.size V w' := hW
  have hCk := fun (W : World) (h : Below V.heap.size V W) => check1_calls (s := zsp) (co := [zco]) (firm := false) (ad := ⟨w.heap.size, 0, none⟩) (A2 := some ⟨w.heap.size + 1, 0, none⟩) (c1 := 1) (c2 := 1) W (Nat.le_refl _) rfl (row_one (hX0.below h) ⟨zsp_o, rfl⟩ rfl) (fun W' h' => ((hX0.below h).below h').add) (row_one (hX1.below h) ⟨zco_ok, rfl⟩ rfl) (by decide) zshaped 0 zout
  have hl := zenc_false
  generalize enc false ztr = l at *
  have hVA := Aside0.mk hV; have hBA := Aside0.mk hB; have hX2A := Aside0.mk hX2; have hWA := Aside0.mk hW; have hBsA := Aside0.mk hBs; have hCkA := Aside0.mk hCk; have hlA := Aside0.mk hl
  clear hV hB hX0 hX1 hX2 hT hW hBs hCk hl
  go_enter Tryd.func5, Tryd.ntmps5
  go_wp2_with (first | (go_at_call 17; (rw [show (((w.alloc (.cells #[.int .u8 0, .int .u8 0, .int .u8 0, .int .u8 0, .int .u8 0, .int .u8 0, .int .u8 0, .int .u8 0, .int .u8 0, .int .u8 0, .int .u8 0, .int .u8 0, .int .u8 0, .int .u8 0, .int .u8 0, .int .u8 0, .int .u8 0, .int .u8 0, .int .u8 0, .int .u8 0, .int .u8 0, .int .u8 0, .int .u8 0, .int .u8 0, .int .u8 0, .int .u8 0, .int .u8 0, .int .u8 0, .int .u8 0, .int .u8 0, .int .u8 0, .int .u8 0, .int .i64 0, .string ⟨#[]⟩, .int .u64 0] 38)).alloc (.cells #[.int .i64 0, .int .u64 0] 52)).alloc (.cells #[.slice (some ⟨w.heap.size, 0, none⟩) 1 1, .slice (some ⟨w.heap.size + 1, 0, none⟩) 1 1, .bool false] 25)) = V from hVA.out.symm]; refine hWA.out.mono ?_; rintro e w2 ⟨rfl, hb⟩; have hX3 := hX2A.out.below hb; have g0 := hX3.get 0 _ rfl; have g1 := hX3.get 1 _ rfl; have g2 := hX3.get 2 _ rfl; have hb2A := Aside0.mk hb; have hX3A := Aside0.mk hX3; clear hX3 hb)) | (go_at_call 9; (refine (hBsA.out _ hb2A.out).mono ?_; rintro e w3 ⟨v, rfl, hR, hb⟩; obtain ⟨A, c, rfl, -, -⟩ := Kd.R_reads hR; rw [hlA.out]; clear g0 g1 g2; have hX4 := hX3A.out.below hb; have g0 := hX4.get 0 _ rfl; have g1 := hX4.get 1 _ rfl; have g2 := hX4.get 2 _ rfl; have hb3A := Aside0.mk (below_then hb2A.out hb2A.out.size hb); clear hX4 hb hR)) | (go_at_call 22; (refine (hCkA.out _ hb3A.out).mono ?_; rintro e w4 ⟨rfl, hb⟩; have hb4A := Aside0.mk (below_then hBA.out hBA.out.size (below_then hb3A.out hb3A.out.size hb)); clear hb)))
  go_ret
  exact ⟨rfl, hb4A.out⟩
end Go.Proofs.YtlgfekllkahfaaaDoor.Pack
