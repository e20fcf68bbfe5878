/- What a transaction's coins are worth. -/
import Derived.Test.YtlgfekllkahfaaaTyS
set_option linter.unusedVariables false
set_option linter.unusedSimpArgs false
namespace Go.Proofs.Ytlgfekllkahfaaa.Pack
open Go.RowKit Go.Proofs.YtlgfekllkahfaaaW.PrintWords Go.Proofs.YtlgfekllkahfaaaW.PrintMore Go.Proofs.Ytlgfekllkahfaaa Go.Proofs.Ytlgfekllkahfaaa.Bits Sha ArrK ShaW
def good (x : Int) : Bool := decide (0 ≤ x) && decide (x ≤ 2100000000000000)
/-- a checked sum -/
def totl : Int → List Int → Int × Option Int
  | s, [] => (s, none)
  | s, x :: r => if good x = true ∧ good (s + x) = true then totl (s + x) r else (0, some 9)
theorem good_f (x : Int) : Go.Proofs.Ytlgfekllkahfaaa.Q.amount_Good.f x = some (good x) := by
  unfold Go.Proofs.Ytlgfekllkahfaaa.Q.amount_Good.f good
  by_cases h : 0 ≤ x
  · rw [if_pos h]; simp [h]
  · rw [if_neg h]; simp [h]
theorem good_is {x : Int} (h : good x = true) : 0 ≤ x ∧ x ≤ 2100000000000000 := by simpa [good] using h
theorem total_l0 (l : List Int) : ∀ (m i : Nat) (s : Int), l.length - i ≤ m → l.length ≤ 1000000 → i ≤ l.length → good s = true → Go.Proofs.Ytlgfekllkahfaaa.Q.amount_Total.l0 (m + 1) s l (l.length : Int) (i : Int) = some (totl s (l.drop i)) := by
  intro m
  induction m with
  | zero =>
    intro i s hm hl hi hs
    have : i = l.length := by omega
    subst this
    rw [Go.Proofs.Ytlgfekllkahfaaa.Q.amount_Total.l0, if_neg (by omega), List.drop_length]; rfl
  | succ m ih =>
    intro i s hm hl hi hs
    rw [Go.Proofs.Ytlgfekllkahfaaa.Q.amount_Total.l0]
    by_cases h : i < l.length
    · rw [if_pos (by omega), if_pos (by omega), if_pos (by omega)]
      have hd : l.drop i = rd l (i : Int) :: l.drop (i + 1) := by
        rw [List.drop_eq_getElem_cons h]
        unfold rd; rw [Int.toNat_natCast, List.getD_eq_getElem?_getD, List.getElem?_eq_getElem h]; rfl
      rw [hd]
      generalize rd l (i : Int) = x
      rw [good_f, Option.bind_some, totl]
      by_cases g1 : good x = true
      · have h1 := good_is g1
        have h2 := good_is hs
        have hw : wrap64 (s + x) = s + x := by unfold wrap64; omega
        have hw2 : wrap64 ((i : Int) + 1) = ((i + 1 : Nat) : Int) := by unfold wrap64; omega
        rw [if_pos g1, hw, good_f, Option.bind_some, hw2]
        by_cases g2 : good (s + x) = true
        · rw [if_pos g2, if_pos ⟨g1, g2⟩]
          exact ih (i + 1) (s + x) (by omega) hl (by omega) g2
        · rw [if_neg g2, if_neg (fun h => g2 h.2)]
      · rw [if_neg g1, if_neg (fun h => g1 h.1)]
    · have : i = l.length := by omega
      subst this
      rw [if_neg (by omega), List.drop_length]; rfl
theorem total_f (l : List Int) (hl : l.length ≤ 1000000) : Go.Proofs.Ytlgfekllkahfaaa.Q.amount_Total.f (l.length + 1) l = some (totl 0 l) := by
  unfold Go.Proofs.Ytlgfekllkahfaaa.Q.amount_Total.f
  have := total_l0 l l.length 0 0 (by omega) hl (by omega) (by decide)
  exact this
/-- what its coins are worth -/
def outv (t : Tr) : Int × Option Int := totl 0 (t.co.map Co.value)
section
variable {t : Tr} {A1 A2 : Option Addr} {c1 c2 : Nat}
set_option maxRecDepth 100000 in
set_option maxHeartbeats 1600000 in
theorem out_calls (w : World) (hC : CoR w A2 t.co.length t.co) (hn : t.co.length ≤ 1000) : Calls Try.prog 11 #[trv t A1 A2 c1 c2] w fun e w' => e = .returned (.tuple #[.int .i64 (outv t).1, Go.Proofs.Ytlgfekllkahfaaa.Q.errW (outv t).2]) ∧ Below w.heap.size w w' := by
  obtain ⟨V, hV⟩ : ∃ V, V = w.alloc (.cells (trc t A1 A2 c1 c2).toArray 25) := ⟨_, rfl⟩
  have hX : Blk V w.heap.size 25 (trc t A1 A2 c1 c2) := by rw [hV]; exact Blk.new w _ _
  have hB : Below w.heap.size w V := by rw [hV]; exact below_alloc (Below.refl _ _) _
  have g1 := hX.get 1 _ rfl
  obtain ⟨sp, co, firm⟩ := t
  unfold outv
  simp only at g1 hC hn ⊢
  have hVA := Aside0.mk hV; have hBA := Aside0.mk hB; have hCA := Aside0.mk hC
  clear hV hX hB hC
  go_enter Try.func11, Try.ntmps11
  go_wp2_with ((with_reducible refine gate_dst (N := 7) rfl ?_); rw [show (w.alloc (.cells #[.slice A1 sp.length c1, .slice A2 co.length c2, .bool firm] 25)) = V from hVA.out.symm])
  go_loopw [10, 4] (fun i u wr => ∃ k : Nat, k ≤ co.length ∧ i = .int .i64 (k : Int) ∧ Kd.R (Kd.int .i64) 3 wr w.heap.size (fun _ => True) u ((co.map Co.value).take k) ∧ Below w.heap.size w wr) (fun i _ _ => co.length - (intOf i).toNat)
  case atStart => exact ⟨0, by omega, rfl, Kd.R_nil _ _ _ _ _, hBA.out⟩
  case round =>
    clear g1
    obtain ⟨k, hk, rfl, hR, hB⟩ := hrel
    have hBA := Aside0.mk hB; have hRA := Aside0.mk hR
    clear hB hR
    by_cases hlt : k < co.length
    · obtain ⟨c, hs⟩ : ∃ c, co[k]? = some c := ⟨_, List.getElem?_eq_getElem hlt⟩
      obtain ⟨ad, cc, rfl, ⟨hok, rfl⟩, -, hcell⟩ := row_at (hCA.out.imp_ hBA.out (fun _ _ h => h)) k c hs
      have p0 : (0 : Int) ≤ (k : Int) := by omega
      have p1 : (k : Int) < (co.length : Int) := by omega
      have e2 : IntKind.i64.wrap ((k : Int) + 1) = (k : Int) + 1 := IntWalk.i64_in _ (by omega)
      have htk : (co.map Co.value).take (k + 1) = (co.map Co.value).take k ++ [c.value] := by
        have h : (co.map Co.value)[k]? = some c.value := by rw [List.getElem?_map, hs]; rfl
        rw [List.take_succ_eq_append_getElem (List.getElem?_eq_some_iff.1 h).1, (List.getElem?_eq_some_iff.1 h).2]
      have hll : ((co.map Co.value).take k).length ≤ 1000 := by rw [List.length_take]; omega
      have hi := info_coin c
      have hone := coc_one c
      obtain ⟨S, hSz⟩ : ∃ S, S = wr.heap.size := ⟨_, rfl⟩
      have hiA := Aside0.mk hi; have honeA := Aside0.mk hone; have hceA := Aside0.mk hcell; have hSzA := Aside0.mk hSz; have htkA := Aside0.mk htk; have hllA := Aside0.mk hll
      clear hok hi hone hcell hSz htk hll hs
      generalize (co.map Co.value).take k = l at *
      go_wp2_with (first | ((with_reducible refine gate_dst (N := 13) rfl ?_); (refine wpList_load_any rfl 38 (.tmp 12) rfl (ad.add (k * 2)) rfl (coc c) _ hceA.out Try.underlying38 rfl hiA.out ?_)) | ((with_reducible refine gate_dst (N := 6) rfl ?_); (refine wpList_new_put rfl (N := 6) rfl rfl 38 (.tmp 13) rfl (coc c) (coc ⟨0, 0⟩) rfl ?hr rfl rfl hiA.out honeA.out ?_; (case hr => first | (go_simp; done) | (go_simp; rfl)); intro w2 hX2 hb2 hs2; rw [← hSzA.out] at hX2 ⊢; have g0 := hX2.get 0 _ rfl; have hR2A := Aside0.mk (Kd.R_below hRA.out hb2); have hB2A := Aside0.mk (below_then hBA.out hBA.out.size hb2); clear hX2 hb2 hs2)) | ((with_reducible refine gate_dst (N := 18) rfl ?_); at_builtin; (refine Kd.R_append (Kd.int .i64) (w0 := w) w.heap.size rfl (.tmp 14) (.tmp 17) 61 3 (.int .i64 0) 8 rfl Try.underlying61 (by kernel_rfl) rfl (by decide) (by omega) _ l c.value [.int .i64 c.value] (fun _ => True) (fun _ => False) rfl rfl rfl (fun _ hk => hk.elim) (fun _ _ => trivial) hR2A.out hB2A.out hB2A.out.size (by have := hllA.out; omega) ?_; intro v3 w3 hR3 hB3 _ _; have hR3A := Aside0.mk hR3; have hB3A := Aside0.mk hB3; clear hR3 hB3 g0)))
      go_roundw
      · exact ⟨k + 1, by omega, by go_num, by rw [htkA.out]; exact hR3A.out, hB3A.out⟩
      · simp [intOf]; omega
    · obtain rfl : k = co.length := by omega
      have p1 : ¬ (co.length : Int) < (co.length : Int) := by omega
      rw [List.take_of_length_le (by rw [List.length_map]; exact Nat.le_refl _)] at hRA
      have hlm : (co.map Co.value).length ≤ 1000 := by rw [List.length_map]; exact hn
      obtain ⟨l, hl⟩ : ∃ l, l = co.map Co.value := ⟨_, rfl⟩
      rw [← hl] at hRA hlm
      have hlA := Aside0.mk hl
      clear hl
      obtain ⟨A, c, rfl, hc, hCl⟩ := Kd.R_reads hRA.out
      have hT := Aside0.mk (Go.Proofs.Ytlgfekllkahfaaa.Q.amount_Total.calls (l.length + 1) A c l (totl 0 l).1 (totl 0 l).2 wr hCl hc (total_f l (by omega)))
      obtain ⟨r, hr⟩ : ∃ r, r = totl 0 l := ⟨_, rfl⟩
      rw [← hr] at hT
      have hrA := Aside0.mk hr
      clear hr
      clear hRA hCl
      go_wp2_with (go_at_call 25; ((with_reducible refine hT.out.mono ?_); rintro e w2 ⟨rfl, hb2⟩; have hb2A := Aside0.mk hb2; clear hb2))
      go_ret2
      exact ⟨by rw [← hlA.out, ← hrA.out]; rfl, below_then hBA.out hBA.out.size hb2A.out.below⟩
end
end Go.Proofs.Ytlgfekllkahfaaa.Pack
