/- The document's numbers read. -/
import Derived.Test.YtlgfekllkahfaaaMRa
import Derived.Test.YtlgfekllkahfaaaTyD
set_option linter.unusedVariables false
set_option linter.unusedSimpArgs false
namespace Go.Proofs.Ytlgfekllkahfaaa.Pack
open Go.RowKit Go.Proofs.YtlgfekllkahfaaaW.PrintWords Go.Proofs.YtlgfekllkahfaaaW.PrintMore Go.Proofs.Ytlgfekllkahfaaa Go.Proofs.Ytlgfekllkahfaaa.Bits Sha ArrK ShaW
open Go.Proofs.Ytlgfekllkahfaaa.InRound (op_at)
/-- the document's reader, a value; ok: the blocks in which it reads -/
def DR (ok : Nat → Prop) (w : World) (v : Value) : Rd → Prop
  | some l => ∃ A c, v = .agg #[.slice A l.length c, .bool false] ∧ l.length ≤ c ∧ Kd.F (Kd.int .u8) w ok A l.length l ∧ Bytes l
  | none => ∃ A c, v = .agg #[.slice A 0 c, .bool true]
theorem DR.step {ok : Nat → Prop} {w w' : World} {v : Value} {r : Rd} (h : DR ok w v r) (hm : ∀ k, ok k → k < w.heap.size → w'.heap[k]? = w.heap[k]?) : DR ok w' v r := by
  cases r with
  | none => exact h
  | some l => obtain ⟨A, c, h1, h2, h3, h4⟩ := h; exact ⟨A, c, h1, h2, Kd.F_step h3 hm, h4⟩
theorem DR.below {ok : Nat → Prop} {w w' : World} {v : Value} {r : Rd} (h : DR ok w v r) (hb : Below w.heap.size w w') : DR ok w' v r := h.step (fun k _ hk => hb.block k hk)
theorem DR.grown {ok : Nat → Prop} {w w' : World} {v : Value} {r : Rd} (h : DR ok w v r) {row : Option Nat} (hg : w.grownBy w' row) (hr : ∀ k, ok k → some k ≠ row) : DR ok w' v r := h.step (fun k ho hk => hg.block k hk (hr k ho))
theorem DR.mono {ok ok' : Nat → Prop} {w : World} {v : Value} {r : Rd} (h : DR ok w v r) (hm : ∀ k, ok k → k < w.heap.size → ok' k) : DR ok' w v r := by
  cases r with
  | none => exact h
  | some l => obtain ⟨A, c, h1, h2, h3, h4⟩ := h; exact ⟨A, c, h1, h2, Kd.F_mono (Kd.F_bound h3) (fun k hk => hm k hk.1 hk.2), h4⟩
theorem DR.rb {ok : Nat → Prop} {w : World} {v : Value} {r : Rd} (h : DR ok w v r) : RB r := by
  cases r with
  | none => exact rb_none
  | some l => obtain ⟨_, _, _, _, _, h4⟩ := h; exact fun m hm => by cases hm; exact h4
theorem DR.two {ok : Nat → Prop} {w : World} {v : Value} {r : Rd} (h : DR ok w v r) : ∃ l A c, v = .agg #[.slice A l.length c, .bool r.isNone] ∧ l.length ≤ c ∧ Kd.F (Kd.int .u8) w ok A l.length l ∧ Bytes l ∧ (∀ m, r = some m → m = l) ∧ (r = none → l = []) := by
  cases r with
  | none =>
    obtain ⟨A, c, rfl⟩ := h
    exact ⟨[], A, c, rfl, Nat.zero_le _, fun W' _ => ⟨rfl, Nat.zero_le _, fun h => absurd h (Nat.lt_irrefl _)⟩, fun x hx => by simp at hx, (fun m h => by cases h), fun _ => rfl⟩
  | some l => obtain ⟨A, c, rfl, h2, h3, h4⟩ := h; exact ⟨l, A, c, rfl, h2, h3, h4, (fun m h => by cases h; rfl), (fun h => by cases h)⟩
theorem le_drop_step (l : List Int) (i : Nat) (hi : i < l.length) : le (l.drop i) = l[i] + 256 * le (l.drop (i + 1)) := by rw [List.drop_eq_getElem_cons hi]; rfl
theorem rn_l0 (l : List Int) (hb : Bytes l) (n : Nat) (hn : n ≤ 8) (hl : n ≤ l.length) : ∀ (i m : Nat), i ≤ n → i < m →
    Go.Proofs.Ytlgfekllkahfaaa.V.gossamerref08_ReadNum.l0 m (n : Int) (le ((l.take n).drop i)) ((i : Int) - 1) l false = some (l.drop n, false, le (l.take n)) := by
  intro i
  induction i with
  | zero =>
    intro m _ hm
    obtain ⟨m, rfl⟩ : ∃ k, m = k + 1 := ⟨m - 1, by omega⟩
    rw [Go.Proofs.Ytlgfekllkahfaaa.V.gossamerref08_ReadNum.l0, if_neg (by omega), if_pos (by omega), if_pos (by omega)]
    simp
  | succ i ih =>
    intro m hi hm
    obtain ⟨m, rfl⟩ : ∃ k, m = k + 1 := ⟨m - 1, by omega⟩
    have e1 : ((i + 1 : Nat) : Int) - 1 = (i : Int) := by omega
    rw [e1, Go.Proofs.Ytlgfekllkahfaaa.V.gossamerref08_ReadNum.l0, if_pos (by omega), if_pos (by omega), if_pos (by omega)]
    have hlt : (l.take n).length = n := by rw [List.length_take]; omega
    have hbt : Bytes (l.take n) := fun x hx => hb x (List.mem_of_mem_take hx)
    have hr : rd l (i : Int) = (l.take n)[i]'(by omega) := by
      unfold rd; rw [Int.toNat_natCast, List.getD_eq_getElem?_getD, List.getElem?_eq_getElem (by omega), List.getElem_take]; rfl
    have hx := hbt ((l.take n)[i]'(by omega)) (List.getElem_mem _)
    have hs := le_drop_step (l.take n) i (by omega)
    have hd := le_bound ((l.take n).drop (i + 1)) (fun x hx => hbt x (List.mem_of_mem_drop hx))
    have hp : (256 : Int) ^ ((l.take n).drop (i + 1)).length ≤ 256 ^ 7 := by
      have h1 : ((l.take n).drop (i + 1)).length ≤ 7 := by rw [List.length_drop]; omega
      have h2 := Nat.pow_le_pow_right (show 0 < 256 by decide) h1
      have h4 : ((256 ^ ((l.take n).drop (i + 1)).length : Nat) : Int) ≤ ((256 ^ 7 : Nat) : Int) := by omega
      simpa using h4
    have e2 : IntKind.u64.wrap (IntKind.u64.wrap (256 * le ((l.take n).drop (i + 1))) + IntKind.u64.wrap (rd l (i : Int))) = le ((l.take n).drop i) := by
      rw [hr, hs, wrap_u64, wrap_u64, wrap_u64]; omega
    have e3 : wrap64 ((i : Int) - 1) = (i : Int) - 1 := wrap64_small (by omega) (by omega)
    rw [e2, e3]
    exact ih m (by omega) (by omega)
theorem rn_f (l : List Int) (hb : Bytes l) (n : Nat) (hn : n = 1 ∨ n = 2 ∨ n = 4 ∨ n = 8) (r : Rd) (h1 : ∀ m, r = some m → m = l) (h2 : r = none → l = []) :
    Go.Proofs.Ytlgfekllkahfaaa.V.gossamerref08_ReadNum.f 20 l r.isNone (n : Int) = some ((rdNum n r).2.getD [], (rdNum n r).2.isNone, (rdNum n r).1) := by
  cases r with
  | none => rfl
  | some m =>
    obtain rfl := h1 m rfl
    have hN : ∃ t, Go.Proofs.Ytlgfekllkahfaaa.V.gossamerref08_Num.f 20 0 (n : Int) = some t ∧ ¬ (t.length : Int) = 0 := by
      rcases hn with rfl | rfl | rfl | rfl
      · exact ⟨[0], by kernel_rfl, by decide⟩
      · exact ⟨[0, 0], by kernel_rfl, by decide⟩
      · exact ⟨[0, 0, 0, 0], by kernel_rfl, by decide⟩
      · exact ⟨[0, 0, 0, 0, 0, 0, 0, 0], by kernel_rfl, by decide⟩
    obtain ⟨t, e, ht⟩ := hN
    unfold Go.Proofs.Ytlgfekllkahfaaa.V.gossamerref08_ReadNum.f
    rw [if_neg (by simp), e, Option.bind_some, if_neg ht]
    unfold rdNum
    by_cases q : n ≤ m.length
    · rw [show rdNext n (some m) = (m.take n, some (m.drop n)) by rw [rdNext, if_pos q], show decide ((n : Int) > (m.length : Int)) = false by simp; omega, Go.Proofs.Ytlgfekllkahfaaa.V.gossamerref08_ReadNum.j0, if_neg (by simp)]
      have h0 := rn_l0 m hb n (by omega) q n 19 (Nat.le_refl _) (by omega)
      rw [List.drop_of_length_le (by rw [List.length_take]; omega)] at h0
      rw [wrap64_small (by omega) (by omega)]
      exact h0
    · rw [show rdNext n (some m) = ([], none) by rw [rdNext, if_neg q], show decide ((n : Int) > (m.length : Int)) = true by simp; omega, Go.Proofs.Ytlgfekllkahfaaa.V.gossamerref08_ReadNum.j0, if_pos rfl]
      rfl
theorem dnum_at {ok : Nat → Prop} {w : World} {v : Value} {r : Rd} (n : Nat) (z : Int) (hz : (n : Int) = z) (hn : n = 1 ∨ n = 2 ∨ n = 4 ∨ n = 8) (h : DR ok w v r) :
    Calls Try.prog 43 #[v, .int .i64 z] w fun e w' => (∃ v', e = .returned (.tuple #[v', .int .u64 (rdNum n r).1]) ∧ DR (fun k => ok k ∨ w.heap.size ≤ k) w' v' (rdNum n r).2) ∧ Below w.heap.size w w' := by
  subst hz
  have hrb : RB (rdNum n r).2 := rb_num h.rb
  obtain ⟨l, A, c, rfl, hc, hC, hb, h1, h2⟩ := h.two
  refine (Go.Proofs.Ytlgfekllkahfaaa.V.gossamerref08_ReadNum.calls 20 ok A c l r.isNone (n : Int) _ _ _ w (Kd.V_mk hc hC) (rn_f l hb n hn r h1 h2)).mono ?_
  rintro e w' ⟨v0, rfl, hV, hB⟩
  obtain ⟨A', c', rfl⟩ := Kd.V_slice hV
  obtain ⟨-, hc', -⟩ := Kd.V_reads' hV
  have hF' := Kd.V_F hV
  refine ⟨⟨_, rfl, ?_⟩, hB⟩
  generalize (rdNum n r).2 = r' at *
  cases r' with
  | none => exact ⟨A', c', rfl⟩
  | some m => exact ⟨A', c', rfl, hc', hF', hrb m rfl⟩
end Go.Proofs.Ytlgfekllkahfaaa.Pack
/- The document's counts read. -/
set_option linter.unusedVariables false
set_option linter.unusedSimpArgs false
namespace Go.Proofs.Ytlgfekllkahfaaa.Pack
open Go.RowKit Go.Proofs.YtlgfekllkahfaaaW.PrintWords Go.Proofs.YtlgfekllkahfaaaW.PrintMore Go.Proofs.Ytlgfekllkahfaaa Go.Proofs.Ytlgfekllkahfaaa.Bits Sha ArrK ShaW
open Go.Proofs.Ytlgfekllkahfaaa.InRound (op_at)
open Go.Proofs.Ytlgfekllkahfaaa.V (gossamerref08_Num.f gossamerref08_Count.f)
theorem info_in2 (x y : Value) : (Try.prog.info? 79).map (·.size) = some [x, y].length := by show _ = some 2; kernel_rfl
theorem dnumf (x k : Int) (hk : k = 1 ∨ k = 2 ∨ k = 4 ∨ k = 8) : ∃ t, gossamerref08_Num.f 20 x k = some t ∧ (t.length : Int) = k := by
  rcases hk with rfl | rfl | rfl | rfl
  · exact ⟨[(Int.tmod x 256) % 256], by kernel_rfl, rfl⟩
  · exact ⟨[(Int.tmod x 256) % 256, (Int.tmod (IntKind.u64.wrap (Int.tdiv x 256)) 256) % 256], by kernel_rfl, rfl⟩
  · exact ⟨[(Int.tmod x 256) % 256, (Int.tmod (IntKind.u64.wrap (Int.tdiv x 256)) 256) % 256, (Int.tmod (IntKind.u64.wrap (Int.tdiv (IntKind.u64.wrap (Int.tdiv x 256)) 256)) 256) % 256, (Int.tmod (IntKind.u64.wrap (Int.tdiv (IntKind.u64.wrap (Int.tdiv (IntKind.u64.wrap (Int.tdiv x 256)) 256)) 256)) 256) % 256], by kernel_rfl, rfl⟩
  · exact ⟨[(Int.tmod x 256) % 256, (Int.tmod (IntKind.u64.wrap (Int.tdiv x 256)) 256) % 256, (Int.tmod (IntKind.u64.wrap (Int.tdiv (IntKind.u64.wrap (Int.tdiv x 256)) 256)) 256) % 256, (Int.tmod (IntKind.u64.wrap (Int.tdiv (IntKind.u64.wrap (Int.tdiv (IntKind.u64.wrap (Int.tdiv x 256)) 256)) 256)) 256) % 256, (Int.tmod (IntKind.u64.wrap (Int.tdiv (IntKind.u64.wrap (Int.tdiv (IntKind.u64.wrap (Int.tdiv (IntKind.u64.wrap (Int.tdiv x 256)) 256)) 256)) 256)) 256) % 256, (Int.tmod (IntKind.u64.wrap (Int.tdiv (IntKind.u64.wrap (Int.tdiv (IntKind.u64.wrap (Int.tdiv (IntKind.u64.wrap (Int.tdiv (IntKind.u64.wrap (Int.tdiv x 256)) 256)) 256)) 256)) 256)) 256) % 256, (Int.tmod (IntKind.u64.wrap (Int.tdiv (IntKind.u64.wrap (Int.tdiv (IntKind.u64.wrap (Int.tdiv (IntKind.u64.wrap (Int.tdiv (IntKind.u64.wrap (Int.tdiv (IntKind.u64.wrap (Int.tdiv x 256)) 256)) 256)) 256)) 256)) 256)) 256) % 256, (Int.tmod (IntKind.u64.wrap (Int.tdiv (IntKind.u64.wrap (Int.tdiv (IntKind.u64.wrap (Int.tdiv (IntKind.u64.wrap (Int.tdiv (IntKind.u64.wrap (Int.tdiv (IntKind.u64.wrap (Int.tdiv (IntKind.u64.wrap (Int.tdiv x 256)) 256)) 256)) 256)) 256)) 256)) 256)) 256) % 256], by kernel_rfl, rfl⟩
/-- what is left is not too long -/
def RL (r : Rd) : Prop := ∀ l, r = some l → l.length ≤ 1000000000
theorem rl_none : RL none := fun _ h => by cases h
theorem rl_next {n : Nat} {r : Rd} (h : RL r) : RL (rdNext n r).2 := by
  cases r with
  | none => exact rl_none
  | some m =>
    rw [rdNext]; split
    · intro l e; cases e; have := h m rfl; rw [List.length_drop]; omega
    · exact rl_none
theorem rl_num {n : Nat} {r : Rd} (h : RL r) : RL (rdNum n r).2 := rl_next h
theorem rl_cnt {r : Rd} (h : RL r) : RL (rdCnt r).2 := by
  unfold rdCnt
  split
  · show RL (if _ then _ else _)
    split
    · exact rl_num (rl_num h)
    · exact rl_none
  · exact rl_num h
theorem rl_count {most : Nat} {r : Rd} (h : RL r) : RL (rdCount most r).2 := by
  unfold rdCount
  split
  · exact rl_none
  · exact rl_cnt h
theorem rl_text {most : Nat} {r : Rd} (h : RL r) : RL (rdText most r).2 := rl_next (rl_count h)
theorem rl_hash {r : Rd} (h : RL r) : RL (rdHash r).2 := rl_next h
theorem rl_list {α : Type} {f : Rd → α × Rd} (hf : ∀ r, RL r → RL (f r).2) : ∀ (k : Nat) {r : Rd}, RL r → RL (rdList f k r).2
  | 0, _, h => h
  | k + 1, _, h => hf _ (rl_list hf k h)
theorem rl_spend (r : Rd) (h : RL r) : RL (rdSpend r).2 := rl_num (rl_text (rl_num (rl_hash h)))
theorem rl_coin (r : Rd) (h : RL r) : RL (rdCoin r).2 := rl_num (rl_num h)
/-- how long a count is -/
def cntl (n : Nat) : Nat := if n < 253 then 1 else if n ≤ 65535 then 3 else 5
theorem dcountf (n : Nat) (hn : n ≤ 1000000) : ∃ t, gossamerref08_Count.f 20 (n : Int) = some t ∧ t.length = cntl n := by
  unfold gossamerref08_Count.f cntl
  rw [if_neg (by omega)]
  by_cases h1 : n < 253
  · obtain ⟨t, e, ht⟩ := dnumf (IntKind.u64.wrap (n : Int)) 1 (by simp)
    rw [if_pos (by omega), e, if_pos h1]; exact ⟨t, rfl, by omega⟩
  · rw [if_neg (by omega), if_neg h1]
    by_cases h2 : n ≤ 65535
    · obtain ⟨t, e, ht⟩ := dnumf (IntKind.u64.wrap (n : Int)) 2 (by simp)
      rw [if_pos (by omega), e, if_pos h2, Option.bind_some, Option.bind_some, if_pos (by simp; omega)]; exact ⟨_, rfl, by simp; omega⟩
    · obtain ⟨t, e, ht⟩ := dnumf (IntKind.u64.wrap (n : Int)) 4 (by simp)
      rw [if_neg (by omega), if_pos (by omega), e, if_neg h2, Option.bind_some, Option.bind_some, if_pos (by simp; omega)]; exact ⟨_, rfl, by simp; omega⟩
theorem dcount_calls (n : Nat) (z : Int) (hz : (n : Int) = z) (hn : n ≤ 1000000) (L : Nat) (hL : cntl n = L) (w : World) : Calls Try.prog 59 #[.int .i64 z] w fun e w' => (∃ A c, e = .returned (.slice A L c)) ∧ Below w.heap.size w w' := by
  subst hz; subst hL
  obtain ⟨t, e, ht⟩ := dcountf n hn
  refine (Go.Proofs.Ytlgfekllkahfaaa.V.gossamerref08_Count.calls 20 (n : Int) t w e).mono ?_
  rintro e w' ⟨v, rfl, hR, hb⟩
  obtain ⟨A, c, rfl⟩ := Kd.R_slice hR
  exact ⟨⟨A, c, by rw [ht]⟩, hb⟩
theorem dwrong_calls (w : World) : Calls Try.prog 60 #[] w fun e w' => (∃ A c, e = .returned (.agg #[.slice A 0 c, .bool true])) ∧ Below w.heap.size w w' := by
  refine (Go.Proofs.Ytlgfekllkahfaaa.V.gossamerref08_wrong.calls [] true w rfl).mono ?_
  rintro e w' ⟨v, rfl, hR, hb⟩
  obtain ⟨A, c, rfl⟩ := Kd.R_slice hR
  exact ⟨⟨A, c, rfl⟩, hb⟩
theorem num_len {n : Nat} {r r' : Rd} {l l' : List Int} (h : (rdNum n r).2 = some l') (h1 : ∀ m, r = some m → m = l) : l.length = n + l'.length := by
  unfold rdNum at h
  cases r with
  | none => cases h
  | some m =>
    obtain rfl := h1 m rfl
    rw [rdNext] at h
    split at h
    · cases h; rw [List.length_drop]; omega
    · cases h
theorem num_none {n : Nat} : rdNum n none = (0, none) := rfl
theorem mark_len2 (m : Nat) (hm : m ≤ 1000000) : mark (m : Int) = 253 ↔ cntl m = 3 := by
  unfold mark cntl
  by_cases h1 : m < 253
  · rw [if_pos (by omega), if_pos h1]; decide
  · rw [if_neg (by omega), if_neg h1]
    by_cases h2 : m ≤ 65535
    · rw [if_pos (by omega), if_pos h2]; simp
    · rw [if_neg (by omega), if_neg h2, if_pos (by omega)]; decide
theorem mark_len4 (m : Nat) (hm : m ≤ 1000000) : mark (m : Int) = 254 ↔ cntl m = 5 := by
  unfold mark cntl
  by_cases h1 : m < 253
  · rw [if_pos (by omega), if_pos h1]; decide
  · rw [if_neg (by omega), if_neg h1]
    by_cases h2 : m ≤ 65535
    · rw [if_pos (by omega), if_pos h2]; decide
    · rw [if_neg (by omega), if_neg h2, if_pos (by omega)]; simp
theorem mark_len8 (m : Nat) (hm : m ≤ 1000000) : ¬ mark (m : Int) = 255 ∧ ¬ cntl m = 9 := by
  unfold mark cntl
  by_cases h1 : m < 253
  · rw [if_pos (by omega), if_pos h1]; decide
  · rw [if_neg (by omega), if_neg h1]
    by_cases h2 : m ≤ 65535
    · rw [if_pos (by omega), if_pos h2]; decide
    · rw [if_neg (by omega), if_neg h2, if_pos (by omega)]; decide
theorem num_zero {n : Nat} {r : Rd} (h : (rdNum n r).2 = none) : (rdNum n r).1 = 0 := by
  unfold rdNum at h ⊢
  cases r with
  | none => rfl
  | some m =>
    rw [rdNext] at h ⊢
    split at h
    · cases h
    · rename_i q; rw [if_neg q]; rfl
theorem dcount_small {most : Nat} {r r1 : Rd} {n : Int} (h : rdNum 1 r = (n, r1)) (hn : n < 253) : rdCount most r = if r1 = none ∨ (most : Int) < n then (0, none) else (n.toNat, r1) := by
  have hk : szk n = 0 := by unfold szk; rw [if_neg (by omega), if_neg (by omega), if_neg (by omega)]
  have hc : rdCnt r = (n, r1) := by unfold rdCnt; rw [h]; simp only [hk]; rfl
  unfold rdCount; rw [hc]
theorem cnt_wide {r r1 r2 : Rd} {n m : Int} {k : Nat} (h : rdNum 1 r = (n, r1)) (hk : szk n = k) (hk0 : 0 < k) (h2 : rdNum k r1 = (m, r2)) : rdCnt r = (m, if mark m = n then r2 else none) := by
  unfold rdCnt; rw [h]; simp only [hk, h2]; rw [if_pos hk0]
theorem count_wide_bad {most : Nat} {r r1 r2 : Rd} {n m : Int} {k : Nat} (h : rdNum 1 r = (n, r1)) (hk : szk n = k) (hk0 : 0 < k) (h2 : rdNum k r1 = (m, r2)) (hb : ¬ mark m = n ∨ r2 = none ∨ (most : Int) < m) : rdCount most r = (0, none) := by
  unfold rdCount; rw [cnt_wide h hk hk0 h2]
  simp only
  rcases hb with hb | hb | hb
  · rw [if_neg hb, if_pos (Or.inl rfl)]
  · rw [hb, if_pos (Or.inl (by split <;> rfl))]
  · rw [if_pos (Or.inr hb)]
theorem count_wide_ok {most : Nat} {r r1 : Rd} {l2 : List Int} {n m : Int} {k : Nat} (h : rdNum 1 r = (n, r1)) (hk : szk n = k) (hk0 : 0 < k) (h2 : rdNum k r1 = (m, some l2)) (hm : mark m = n) (hb : ¬ (most : Int) < m) : rdCount most r = (m.toNat, some l2) := by
  unfold rdCount; rw [cnt_wide h hk hk0 h2]
  simp only
  rw [if_pos hm, if_neg (by rintro (h | h); cases h; exact hb h)]
section
variable {ok : Nat → Prop} {w : World} {v : Value} {r : Rd}
set_option maxRecDepth 100000 in
set_option maxHeartbeats 6400000 in
theorem dcnt_at (most : Nat) (z : Int) (hz : (most : Int) = z) (hm : most ≤ 1000000) (hlen : RL r) (h : DR ok w v r) :
    Calls Try.prog 41 #[v, .int .i64 z] w fun e w' => (∃ v', e = .returned (.tuple #[v', .int .i64 ((rdCount most r).1 : Int)]) ∧ DR (fun k => ok k ∨ w.heap.size ≤ k) w' v' (rdCount most r).2) ∧ Below w.heap.size w w' := by
  have hrb : RB r := h.rb
  have hb1 := num_bound (n := 1) hrb
  have hrb1 : RB (rdNum 1 r).2 := rb_num hrb
  have hq : DR (fun k => ok k ∧ k < w.heap.size) w v r := h.mono (fun k h1 h2 => ⟨h1, h2⟩)
  obtain ⟨l, A, c, rfl, hc, hC, hbl, hl1, hl2⟩ := h.two
  obtain ⟨V, hV⟩ : ∃ V, V = (w.alloc (.cells #[.slice A l.length c, .bool r.isNone] 79)).alloc (.cells #[.slice none 0 0, .bool false] 79) := ⟨_, rfl⟩
  have hX : Blk V w.heap.size 79 [.slice A l.length c, .bool r.isNone] := by rw [hV]; exact (Blk.new w 79 [.slice A l.length c, .bool r.isNone]).alloc _
  have hZ : Blk V (w.heap.size + 1) 79 [.slice none 0 0, .bool false] := by
    have := Blk.new (w.alloc (.cells #[.slice A l.length c, .bool r.isNone] 79)) 79 [.slice none 0 0, .bool false]
    rw [hV]; rwa [World.size_alloc] at this
  have hB : Below w.heap.size w V := by rw [hV]; exact below_alloc (below_alloc (Below.refl _ _) _) _
  have hVs : w.heap.size + 2 = V.heap.size := by rw [hV]; simp
  have hnl := fun l' (e : (rdNum 1 r).2 = some l') => num_len (r' := none) e hl1
  have x0 := hX.get 0 _ rfl
  have x1 := hX.get 1 _ rfl
  have hcA := Aside0.mk (dnum_at 1 1 rfl (.inl rfl) (hq.below hB))
  have hm2 : IntKind.u64.wrap z = z := by rw [wrap_u64]; omega
  have pm : ¬ z < 0 := by omega
  have hl9 : l.length ≤ 1000000000 := by
    cases r with
    | none => rw [hl2 rfl]; simp
    | some m => rw [← hl1 m rfl]; exact hlen m rfl
  clear hlen
  have e7 : IntKind.i64.wrap (l.length : Int) = (l.length : Int) := IntWalk.i64_in _ (by omega)
  have hl8 : ∀ l' (e : (rdNum 1 r).2 = some l'), (l.length : Int) = 1 + (l'.length : Int) := fun l' e => by have := hnl l' e; omega
  have hn0 := num_zero (n := 1) (r := r)
  clear hrb h hl1 hl2 hnl hq
  obtain ⟨n, hn⟩ : ∃ n, (rdNum 1 r).1 = n := ⟨_, rfl⟩
  obtain ⟨r1, hr1⟩ : ∃ r1, (rdNum 1 r).2 = r1 := ⟨_, rfl⟩
  have hz1 : rdNum 1 r = (n, r1) := by rw [← hn, ← hr1]
  rw [hn] at hb1 hcA hn0
  rw [hr1] at hrb1 hcA hl8 hn0
  have hVA := Aside0.mk hV; have hXA := Aside0.mk hX; have hZA := Aside0.mk hZ; have hBA := Aside0.mk hB; have hz1A := Aside0.mk hz1; have hrb1A := Aside0.mk hrb1
  clear hV hX hZ hB hC hbl hn hr1 hz1 hrb1
  cases r1 with
  | none =>
    obtain rfl : n = 0 := hn0 rfl
    rw [dcount_small hz1A.out (by omega), if_pos (Or.inl rfl)]
    clear hl8 hn0
    go_enter Try.func41, Try.ntmps41
    go_wp2_with (first | ((with_reducible refine gate_dst (N := 9) rfl ?_); rw [show (w.alloc (.cells #[.slice A l.length c, .bool r.isNone] 79)).alloc (.cells #[.slice none 0 0, .bool false] 79) = V from hVA.out.symm]) | (go_at_call 43; ((with_reducible refine hcA.out.mono ?_); rintro e w3 ⟨⟨v1, rfl, hD⟩, hb⟩; obtain ⟨A1, c1, rfl⟩ := hD; have hD3 := True.intro; have hS3 : w.heap.size + 2 ≤ w3.heap.size := (by have := hb.size; omega); have hX3A := Aside0.mk (hXA.out.below hb); have hZ3A := Aside0.mk (hZA.out.below hb); have hb3A := Aside0.mk (below_then hBA.out hBA.out.size hb); have hD3A := Aside0.mk hD3; clear hb hD3 x0 x1)) | (refine wpList_put_blk rfl 79 (.tmp 2) (.tmp 14) rfl w.heap.size 79 [.slice A1 0 c1, .bool true] [.slice A l.length c, .bool r.isNone] rfl rfl rfl hX3A.out (info_in2 _ _) (by intro u hu; simp at hu; rcases hu with rfl | rfl <;> rfl) ?_; intro w4 hX4 hg4 hs4; have x0 := hX4.get 0 _ rfl; have x1 := hX4.get 1 _ rfl; have hX4A := Aside0.mk hX4; have hZ4A := Aside0.mk (hZ3A.out.grown hg4 (by intro e; have := Option.some.inj e; omega)); have hb4A := Aside0.mk (hb3A.out.grown hg4 hb3A.out.size (fun k e => by have := Option.some.inj e; omega)); have hD4A := Aside0.mk (True.intro); clear hg4 hX4))
    refine wp_region_noPanic ?_
    have hx0A := Aside0.mk (fun W' (hW : Below w4.heap.size w4 W') => (hX4A.out.below hW).get 0 _ rfl)
    have hx1A := Aside0.mk (fun W' (hW : Below w4.heap.size w4 W') => (hX4A.out.below hW).get 1 _ rfl)
    clear x0 x1
    have H0 : Below w4.heap.size w4 w4.drew := pw_below_drewN (Below.refl _ _) 1
    refine wp_region_held_drew (S := fun V1 => Below w4.heap.size w4 V1) (by kernel_rfl) H0 (fun _ => ?_)
    generalize w4.drew = V0 at *
    refine wpAnyH_take (i := 0) (v := .pointer (some ⟨w.heap.size, 1, none⟩)) (op_at rfl) (by kernel_rfl) (by kernel_rfl) (by kernel_rfl) (fun _ _ _ h => h) (Or.inl ⟨by rfl, fun w_ hSw => ?_⟩) H0 ?_
    · skip; go_simp
    try simp only [Act.put, List.setIfInBounds_toArray, List.set_cons_zero, List.set_cons_succ]
    refine wpAnyH_take (i := 1) (v := .bool true) (op_at rfl) (by kernel_rfl) (by kernel_rfl) (by kernel_rfl) (fun _ _ _ h => h) (Or.inl ⟨by rfl, fun w_ hSw => ?_⟩) H0 ?_
    · have hc_ := hx1A.out w_ hSw; go_simp
    try simp only [Act.put, List.setIfInBounds_toArray, List.set_cons_zero, List.set_cons_succ]
    refine wpAnyH_take (i := 2) (v := .bool true) (op_at rfl) (by kernel_rfl) (by kernel_rfl) (by kernel_rfl) (fun _ _ _ h => h) (Or.inl ⟨by rfl, fun w_ hSw => ?_⟩) H0 ?_
    · skip; go_simp
    try simp only [Act.put, List.setIfInBounds_toArray, List.set_cons_zero, List.set_cons_succ]
    refine wpAnyH_take (i := 3) (v := undef) (op_at rfl) (by kernel_rfl) (by kernel_rfl) (by kernel_rfl) (fun _ _ _ h => h) (Or.inr ⟨by rfl, rfl⟩) H0 ?_
    try simp only [Act.put, List.setIfInBounds_toArray, List.set_cons_zero, List.set_cons_succ]
    refine wpAnyH_take (i := 4) (v := undef) (op_at rfl) (by kernel_rfl) (by kernel_rfl) (by kernel_rfl) (fun _ _ _ h => h) (Or.inr ⟨by rfl, rfl⟩) H0 ?_
    try simp only [Act.put, List.setIfInBounds_toArray, List.set_cons_zero, List.set_cons_succ]
    refine wpAnyH_take (i := 5) (v := .bool true) (op_at rfl) (by kernel_rfl) (by kernel_rfl) (by kernel_rfl) (fun _ _ _ h => h) (Or.inl ⟨by rfl, fun w_ hSw => ?_⟩) H0 ?_
    · skip; go_simp
    try simp only [Act.put, List.setIfInBounds_toArray, List.set_cons_zero, List.set_cons_succ]
    refine wpAnyH_take (i := 6) (v := .bool true) (op_at rfl) (by kernel_rfl) (by kernel_rfl) (by kernel_rfl) (fun _ _ _ h => h) (Or.inl ⟨by rfl, fun w_ hSw => ?_⟩) H0 ?_
    · skip; go_simp
    try simp only [Act.put, List.setIfInBounds_toArray, List.set_cons_zero, List.set_cons_succ]
    refine wpAnyH_take (i := 7) (v := undef) (op_at rfl) (by kernel_rfl) (by kernel_rfl) (by kernel_rfl) (fun _ _ _ h => h) (Or.inr ⟨by rfl, rfl⟩) H0 ?_
    try simp only [Act.put, List.setIfInBounds_toArray, List.set_cons_zero, List.set_cons_succ]
    refine wpAnyH_take (i := 8) (v := undef) (op_at rfl) (by kernel_rfl) (by kernel_rfl) (by kernel_rfl) (fun _ _ _ h => h) (Or.inr ⟨by rfl, rfl⟩) H0 ?_
    try simp only [Act.put, List.setIfInBounds_toArray, List.set_cons_zero, List.set_cons_succ]
    refine wpAnyH_take (i := 9) (v := undef) (op_at rfl) (by kernel_rfl) (by kernel_rfl) (by kernel_rfl) (fun _ _ _ h => h) (Or.inr ⟨by rfl, rfl⟩) H0 ?_
    try simp only [Act.put, List.setIfInBounds_toArray, List.set_cons_zero, List.set_cons_succ]
    refine wpAnyH_take (i := 10) (v := undef) (op_at rfl) (by kernel_rfl) (by kernel_rfl) (by kernel_rfl) (fun _ _ _ h => h) (Or.inr ⟨by rfl, rfl⟩) H0 ?_
    try simp only [Act.put, List.setIfInBounds_toArray, List.set_cons_zero, List.set_cons_succ]
    refine wpAnyH_take (i := 11) (v := .bool true) (op_at rfl) (by kernel_rfl) (by kernel_rfl) (by kernel_rfl) (fun _ _ _ h => h) (Or.inl ⟨by rfl, fun w_ hSw => ?_⟩) H0 ?_
    · skip; go_simp
    try simp only [Act.put, List.setIfInBounds_toArray, List.set_cons_zero, List.set_cons_succ]
    refine wpAnyH_take (i := 12) (v := .bool true) (op_at rfl) (by kernel_rfl) (by kernel_rfl) (by kernel_rfl) (fun _ _ _ h => h) (Or.inl ⟨by rfl, fun w_ hSw => ?_⟩) H0 ?_
    · skip; go_simp
    try simp only [Act.put, List.setIfInBounds_toArray, List.set_cons_zero, List.set_cons_succ]
    refine wpAnyH_take (i := 13) (v := undef) (op_at rfl) (by kernel_rfl) (by kernel_rfl) (by kernel_rfl) (fun _ _ _ h => h) (Or.inr ⟨by rfl, rfl⟩) H0 ?_
    try simp only [Act.put, List.setIfInBounds_toArray, List.set_cons_zero, List.set_cons_succ]
    refine wpAnyH_take (i := 14) (v := undef) (op_at rfl) (by kernel_rfl) (by kernel_rfl) (by kernel_rfl) (fun _ _ _ h => h) (Or.inr ⟨by rfl, rfl⟩) H0 ?_
    try simp only [Act.put, List.setIfInBounds_toArray, List.set_cons_zero, List.set_cons_succ]
    refine wpAnyH_take (i := 15) (v := undef) (op_at rfl) (by kernel_rfl) (by kernel_rfl) (by kernel_rfl) (fun _ _ _ h => h) (Or.inr ⟨by rfl, rfl⟩) H0 ?_
    try simp only [Act.put, List.setIfInBounds_toArray, List.set_cons_zero, List.set_cons_succ]
    refine wpAnyH_take (i := 16) (v := undef) (op_at rfl) (by kernel_rfl) (by kernel_rfl) (by kernel_rfl) (fun _ _ _ h => h) (Or.inr ⟨by rfl, rfl⟩) H0 ?_
    try simp only [Act.put, List.setIfInBounds_toArray, List.set_cons_zero, List.set_cons_succ]
    refine wpAnyH_take (i := 17) (v := undef) (op_at rfl) (by kernel_rfl) (by kernel_rfl) (by kernel_rfl) (fun _ _ _ h => h) (Or.inr ⟨by rfl, rfl⟩) H0 ?_
    try simp only [Act.put, List.setIfInBounds_toArray, List.set_cons_zero, List.set_cons_succ]
    refine wpAnyH_take (i := 18) (v := undef) (op_at rfl) (by kernel_rfl) (by kernel_rfl) (by kernel_rfl) (fun _ _ _ h => h) (Or.inr ⟨by rfl, rfl⟩) H0 ?_
    try simp only [Act.put, List.setIfInBounds_toArray, List.set_cons_zero, List.set_cons_succ]
    refine wpAnyH_take (i := 19) (v := undef) (op_at rfl) (by kernel_rfl) (by kernel_rfl) (by kernel_rfl) (fun _ _ _ h => h) (Or.inr ⟨by rfl, rfl⟩) H0 ?_
    try simp only [Act.put, List.setIfInBounds_toArray, List.set_cons_zero, List.set_cons_succ]
    refine wpAnyH_take (i := 20) (v := undef) (op_at rfl) (by kernel_rfl) (by kernel_rfl) (by kernel_rfl) (fun _ _ _ h => h) (Or.inr ⟨by rfl, rfl⟩) H0 ?_
    try simp only [Act.put, List.setIfInBounds_toArray, List.set_cons_zero, List.set_cons_succ]
    refine wpAnyH_take (i := 21) (v := undef) (op_at rfl) (by kernel_rfl) (by kernel_rfl) (by kernel_rfl) (fun _ _ _ h => h) (Or.inr ⟨by rfl, rfl⟩) H0 ?_
    try simp only [Act.put, List.setIfInBounds_toArray, List.set_cons_zero, List.set_cons_succ]
    refine wpAnyH_take (i := 22) (v := undef) (op_at rfl) (by kernel_rfl) (by kernel_rfl) (by kernel_rfl) (fun _ _ _ h => h) (Or.inr ⟨by rfl, rfl⟩) H0 ?_
    try simp only [Act.put, List.setIfInBounds_toArray, List.set_cons_zero, List.set_cons_succ]
    refine wpAnyH_take (i := 23) (v := undef) (op_at rfl) (by kernel_rfl) (by kernel_rfl) (by kernel_rfl) (fun _ _ _ h => h) (Or.inr ⟨by rfl, rfl⟩) H0 ?_
    try simp only [Act.put, List.setIfInBounds_toArray, List.set_cons_zero, List.set_cons_succ]
    refine wpAnyH_take (i := 24) (v := .bool true) (op_at rfl) (by kernel_rfl) (by kernel_rfl) (by kernel_rfl) (fun _ _ _ h => h) (Or.inl ⟨by rfl, fun w_ hSw => ?_⟩) H0 ?_
    · skip; go_simp
    try simp only [Act.put, List.setIfInBounds_toArray, List.set_cons_zero, List.set_cons_succ]
    refine wpAnyH_done (by kernel_rfl) ?_ _
    refine NoPanic.normal ?_
    have hHA := Aside0.mk H0
    go_wp2_with (first | (go_at_call 60; ((with_reducible refine (dwrong_calls _).mono ?_); rintro e w8 ⟨⟨A8, c8, rfl⟩, hb⟩; have hZ8A := Aside0.mk ((hZ4A.out.below hHA.out).below hb); have hb8A := Aside0.mk (below_then (below_then hb4A.out hb4A.out.size hHA.out) (below_then hb4A.out hb4A.out.size hHA.out).size hb); clear hb)) | (refine wpList_put_blk rfl 79 (.tmp 4) (.tmp 53) rfl (w.heap.size + 1) 79 [.slice A8 0 c8, .bool true] [.slice none 0 0, .bool false] rfl rfl rfl hZ8A.out (info_in2 _ _) (by intro u hu; simp at hu; rcases hu with rfl | rfl <;> rfl) ?_; intro w9 hZ9 hg9 hs9))
    exact bodyPost_ret (results_ct rfl _ _ (w.heap.size + 1) 79 #[.slice A8 0 c8, .bool true] (0, 0) _ rfl hZ9 Try.underlying79 rfl (info_in2 _ _)) rfl ⟨⟨_, rfl, A8, c8, rfl⟩, hb8A.out.grown hg9 hb8A.out.size (fun k e => by have := Option.some.inj e; omega)⟩
  | some l1 =>
    have hl := hl8 l1 rfl
    clear hl8 hn0
    by_cases q : n < 253
    · have p1 : ¬ 253 ≤ n := by omega
      by_cases q2 : z < n
      · rw [dcount_small hz1A.out q, if_pos (Or.inr (by omega))]
        clear hl
        go_enter Try.func41, Try.ntmps41
        go_wp2_with (first | ((with_reducible refine gate_dst (N := 9) rfl ?_); rw [show (w.alloc (.cells #[.slice A l.length c, .bool r.isNone] 79)).alloc (.cells #[.slice none 0 0, .bool false] 79) = V from hVA.out.symm]) | (go_at_call 43; ((with_reducible refine hcA.out.mono ?_); rintro e w3 ⟨⟨v1, rfl, hD⟩, hb⟩; obtain ⟨A1, c1, rfl, hc1, hF1, hBy1⟩ := hD; have hD3 : DR (fun k => (ok k ∧ k < w.heap.size) ∨ V.heap.size ≤ k) w3 (.agg #[.slice A1 l1.length c1, .bool false]) (some l1) := ⟨A1, c1, rfl, hc1, hF1, hBy1⟩; have hS3 : w.heap.size + 2 ≤ w3.heap.size := (by have := hb.size; omega); have hX3A := Aside0.mk (hXA.out.below hb); have hZ3A := Aside0.mk (hZA.out.below hb); have hb3A := Aside0.mk (below_then hBA.out hBA.out.size hb); have hD3A := Aside0.mk hD3; clear hb hD3 x0 x1)) | (refine wpList_put_blk rfl 79 (.tmp 2) (.tmp 14) rfl w.heap.size 79 [.slice A1 l1.length c1, .bool false] [.slice A l.length c, .bool r.isNone] rfl rfl rfl hX3A.out (info_in2 _ _) (by intro u hu; simp at hu; rcases hu with rfl | rfl <;> rfl) ?_; intro w4 hX4 hg4 hs4; have x0 := hX4.get 0 _ rfl; have x1 := hX4.get 1 _ rfl; have hX4A := Aside0.mk hX4; have hZ4A := Aside0.mk (hZ3A.out.grown hg4 (by intro e; have := Option.some.inj e; omega)); have hb4A := Aside0.mk (hb3A.out.grown hg4 hb3A.out.size (fun k e => by have := Option.some.inj e; omega)); have hD4A := Aside0.mk (hD3A.out.grown hg4 (by intro k hk e; have := Option.some.inj e; rcases hk with hk | hk <;> omega)); clear hg4 hX4))
        refine wp_region_noPanic ?_
        have hx0A := Aside0.mk (fun W' (hW : Below w4.heap.size w4 W') => (hX4A.out.below hW).get 0 _ rfl)
        have hx1A := Aside0.mk (fun W' (hW : Below w4.heap.size w4 W') => (hX4A.out.below hW).get 1 _ rfl)
        clear x0 x1
        have H0 : Below w4.heap.size w4 w4.drew := pw_below_drewN (Below.refl _ _) 1
        refine wp_region_held_drew (S := fun V1 => Below w4.heap.size w4 V1) (by kernel_rfl) H0 (fun _ => ?_)
        generalize w4.drew = V0 at *
        refine wpAnyH_take (i := 0) (v := .pointer (some ⟨w.heap.size, 1, none⟩)) (op_at rfl) (by kernel_rfl) (by kernel_rfl) (by kernel_rfl) (fun _ _ _ h => h) (Or.inl ⟨by rfl, fun w_ hSw => ?_⟩) H0 ?_
        · skip; go_simp
        try simp only [Act.put, List.setIfInBounds_toArray, List.set_cons_zero, List.set_cons_succ]
        refine wpAnyH_take (i := 1) (v := .bool false) (op_at rfl) (by kernel_rfl) (by kernel_rfl) (by kernel_rfl) (fun _ _ _ h => h) (Or.inl ⟨by rfl, fun w_ hSw => ?_⟩) H0 ?_
        · have hc_ := hx1A.out w_ hSw; go_simp
        try simp only [Act.put, List.setIfInBounds_toArray, List.set_cons_zero, List.set_cons_succ]
        refine wpAnyH_take (i := 2) (v := .bool false) (op_at rfl) (by kernel_rfl) (by kernel_rfl) (by kernel_rfl) (fun _ _ _ h => h) (Or.inl ⟨by rfl, fun w_ hSw => ?_⟩) H0 ?_
        · skip; go_simp
        try simp only [Act.put, List.setIfInBounds_toArray, List.set_cons_zero, List.set_cons_succ]
        refine wpAnyH_take (i := 3) (v := .int .i64 z) (op_at rfl) (by kernel_rfl) (by kernel_rfl) (by kernel_rfl) (fun _ _ _ h => h) (Or.inl ⟨by rfl, fun w_ hSw => ?_⟩) H0 ?_
        · skip; go_simp
        try simp only [Act.put, List.setIfInBounds_toArray, List.set_cons_zero, List.set_cons_succ]
        refine wpAnyH_take (i := 4) (v := .bool false) (op_at rfl) (by kernel_rfl) (by kernel_rfl) (by kernel_rfl) (fun _ _ _ h => h) (Or.inl ⟨by rfl, fun w_ hSw => ?_⟩) H0 ?_
        · skip; go_simp
        try simp only [Act.put, List.setIfInBounds_toArray, List.set_cons_zero, List.set_cons_succ]
        refine wpAnyH_take (i := 5) (v := .bool false) (op_at rfl) (by kernel_rfl) (by kernel_rfl) (by kernel_rfl) (fun _ _ _ h => h) (Or.inl ⟨by rfl, fun w_ hSw => ?_⟩) H0 ?_
        · skip; go_simp
        try simp only [Act.put, List.setIfInBounds_toArray, List.set_cons_zero, List.set_cons_succ]
        refine wpAnyH_take (i := 6) (v := .bool false) (op_at rfl) (by kernel_rfl) (by kernel_rfl) (by kernel_rfl) (fun _ _ _ h => h) (Or.inl ⟨by rfl, fun w_ hSw => ?_⟩) H0 ?_
        · skip; go_simp
        try simp only [Act.put, List.setIfInBounds_toArray, List.set_cons_zero, List.set_cons_succ]
        refine wpAnyH_take (i := 7) (v := .int .u64 n) (op_at rfl) (by kernel_rfl) (by kernel_rfl) (by kernel_rfl) (fun _ _ _ h => h) (Or.inl ⟨by rfl, fun w_ hSw => ?_⟩) H0 ?_
        · skip; go_simp
        try simp only [Act.put, List.setIfInBounds_toArray, List.set_cons_zero, List.set_cons_succ]
        refine wpAnyH_take (i := 8) (v := .int .i64 z) (op_at rfl) (by kernel_rfl) (by kernel_rfl) (by kernel_rfl) (fun _ _ _ h => h) (Or.inl ⟨by rfl, fun w_ hSw => ?_⟩) H0 ?_
        · skip; go_simp
        try simp only [Act.put, List.setIfInBounds_toArray, List.set_cons_zero, List.set_cons_succ]
        refine wpAnyH_take (i := 9) (v := .int .u64 z) (op_at rfl) (by kernel_rfl) (by kernel_rfl) (by kernel_rfl) (fun _ _ _ h => h) (Or.inl ⟨by rfl, fun w_ hSw => ?_⟩) H0 ?_
        · skip; go_simp
        try simp only [Act.put, List.setIfInBounds_toArray, List.set_cons_zero, List.set_cons_succ]
        refine wpAnyH_take (i := 10) (v := .bool true) (op_at rfl) (by kernel_rfl) (by kernel_rfl) (by kernel_rfl) (fun _ _ _ h => h) (Or.inl ⟨by rfl, fun w_ hSw => ?_⟩) H0 ?_
        · skip; go_simp
        try simp only [Act.put, List.setIfInBounds_toArray, List.set_cons_zero, List.set_cons_succ]
        refine wpAnyH_take (i := 11) (v := .bool true) (op_at rfl) (by kernel_rfl) (by kernel_rfl) (by kernel_rfl) (fun _ _ _ h => h) (Or.inl ⟨by rfl, fun w_ hSw => ?_⟩) H0 ?_
        · skip; go_simp
        try simp only [Act.put, List.setIfInBounds_toArray, List.set_cons_zero, List.set_cons_succ]
        refine wpAnyH_take (i := 12) (v := .bool true) (op_at rfl) (by kernel_rfl) (by kernel_rfl) (by kernel_rfl) (fun _ _ _ h => h) (Or.inl ⟨by rfl, fun w_ hSw => ?_⟩) H0 ?_
        · skip; go_simp
        try simp only [Act.put, List.setIfInBounds_toArray, List.set_cons_zero, List.set_cons_succ]
        refine wpAnyH_take (i := 13) (v := undef) (op_at rfl) (by kernel_rfl) (by kernel_rfl) (by kernel_rfl) (fun _ _ _ h => h) (Or.inr ⟨by rfl, rfl⟩) H0 ?_
        try simp only [Act.put, List.setIfInBounds_toArray, List.set_cons_zero, List.set_cons_succ]
        refine wpAnyH_take (i := 14) (v := undef) (op_at rfl) (by kernel_rfl) (by kernel_rfl) (by kernel_rfl) (fun _ _ _ h => h) (Or.inr ⟨by rfl, rfl⟩) H0 ?_
        try simp only [Act.put, List.setIfInBounds_toArray, List.set_cons_zero, List.set_cons_succ]
        refine wpAnyH_take (i := 15) (v := undef) (op_at rfl) (by kernel_rfl) (by kernel_rfl) (by kernel_rfl) (fun _ _ _ h => h) (Or.inr ⟨by rfl, rfl⟩) H0 ?_
        try simp only [Act.put, List.setIfInBounds_toArray, List.set_cons_zero, List.set_cons_succ]
        refine wpAnyH_take (i := 16) (v := undef) (op_at rfl) (by kernel_rfl) (by kernel_rfl) (by kernel_rfl) (fun _ _ _ h => h) (Or.inr ⟨by rfl, rfl⟩) H0 ?_
        try simp only [Act.put, List.setIfInBounds_toArray, List.set_cons_zero, List.set_cons_succ]
        refine wpAnyH_take (i := 17) (v := undef) (op_at rfl) (by kernel_rfl) (by kernel_rfl) (by kernel_rfl) (fun _ _ _ h => h) (Or.inr ⟨by rfl, rfl⟩) H0 ?_
        try simp only [Act.put, List.setIfInBounds_toArray, List.set_cons_zero, List.set_cons_succ]
        refine wpAnyH_take (i := 18) (v := undef) (op_at rfl) (by kernel_rfl) (by kernel_rfl) (by kernel_rfl) (fun _ _ _ h => h) (Or.inr ⟨by rfl, rfl⟩) H0 ?_
        try simp only [Act.put, List.setIfInBounds_toArray, List.set_cons_zero, List.set_cons_succ]
        refine wpAnyH_take (i := 19) (v := undef) (op_at rfl) (by kernel_rfl) (by kernel_rfl) (by kernel_rfl) (fun _ _ _ h => h) (Or.inr ⟨by rfl, rfl⟩) H0 ?_
        try simp only [Act.put, List.setIfInBounds_toArray, List.set_cons_zero, List.set_cons_succ]
        refine wpAnyH_take (i := 20) (v := undef) (op_at rfl) (by kernel_rfl) (by kernel_rfl) (by kernel_rfl) (fun _ _ _ h => h) (Or.inr ⟨by rfl, rfl⟩) H0 ?_
        try simp only [Act.put, List.setIfInBounds_toArray, List.set_cons_zero, List.set_cons_succ]
        refine wpAnyH_take (i := 21) (v := undef) (op_at rfl) (by kernel_rfl) (by kernel_rfl) (by kernel_rfl) (fun _ _ _ h => h) (Or.inr ⟨by rfl, rfl⟩) H0 ?_
        try simp only [Act.put, List.setIfInBounds_toArray, List.set_cons_zero, List.set_cons_succ]
        refine wpAnyH_take (i := 22) (v := undef) (op_at rfl) (by kernel_rfl) (by kernel_rfl) (by kernel_rfl) (fun _ _ _ h => h) (Or.inr ⟨by rfl, rfl⟩) H0 ?_
        try simp only [Act.put, List.setIfInBounds_toArray, List.set_cons_zero, List.set_cons_succ]
        refine wpAnyH_take (i := 23) (v := undef) (op_at rfl) (by kernel_rfl) (by kernel_rfl) (by kernel_rfl) (fun _ _ _ h => h) (Or.inr ⟨by rfl, rfl⟩) H0 ?_
        try simp only [Act.put, List.setIfInBounds_toArray, List.set_cons_zero, List.set_cons_succ]
        refine wpAnyH_take (i := 24) (v := .bool true) (op_at rfl) (by kernel_rfl) (by kernel_rfl) (by kernel_rfl) (fun _ _ _ h => h) (Or.inl ⟨by rfl, fun w_ hSw => ?_⟩) H0 ?_
        · skip; go_simp
        try simp only [Act.put, List.setIfInBounds_toArray, List.set_cons_zero, List.set_cons_succ]
        refine wpAnyH_done (by kernel_rfl) ?_ _
        refine NoPanic.normal ?_
        have hHA := Aside0.mk H0
        go_wp2_with (first | (go_at_call 60; ((with_reducible refine (dwrong_calls _).mono ?_); rintro e w8 ⟨⟨A8, c8, rfl⟩, hb⟩; have hZ8A := Aside0.mk ((hZ4A.out.below hHA.out).below hb); have hb8A := Aside0.mk (below_then (below_then hb4A.out hb4A.out.size hHA.out) (below_then hb4A.out hb4A.out.size hHA.out).size hb); clear hb)) | (refine wpList_put_blk rfl 79 (.tmp 4) (.tmp 53) rfl (w.heap.size + 1) 79 [.slice A8 0 c8, .bool true] [.slice none 0 0, .bool false] rfl rfl rfl hZ8A.out (info_in2 _ _) (by intro u hu; simp at hu; rcases hu with rfl | rfl <;> rfl) ?_; intro w9 hZ9 hg9 hs9))
        exact bodyPost_ret (results_ct rfl _ _ (w.heap.size + 1) 79 #[.slice A8 0 c8, .bool true] (0, 0) _ rfl hZ9 Try.underlying79 rfl (info_in2 _ _)) rfl ⟨⟨_, rfl, A8, c8, rfl⟩, hb8A.out.grown hg9 hb8A.out.size (fun k e => by have := Option.some.inj e; omega)⟩
      · rw [dcount_small hz1A.out q, if_neg (by rintro (h | h); cases h; omega)]
        have enA : Aside0 (((n.toNat : Nat) : Int) = n) := Aside0.mk (by omega)
        have hcnA := Aside0.mk (fun W => dcount_calls n.toNat n (by omega) (by omega) 1 (by unfold cntl; rw [if_pos (by omega)]) W)
        have e9 : IntKind.i64.wrap n = n := IntWalk.i64_in _ (by omega)
        have e8 : IntKind.i64.wrap (1 + (l1.length : Int)) = 1 + (l1.length : Int) := IntWalk.i64_in _ (by omega)
        have p3 : (1 + (l1.length : Int)) = (l.length : Int) := by omega
        clear hl
        go_enter Try.func41, Try.ntmps41
        go_wp2_with (first | ((with_reducible refine gate_dst (N := 9) rfl ?_); rw [show (w.alloc (.cells #[.slice A l.length c, .bool r.isNone] 79)).alloc (.cells #[.slice none 0 0, .bool false] 79) = V from hVA.out.symm]) | (go_at_call 43; ((with_reducible refine hcA.out.mono ?_); rintro e w3 ⟨⟨v1, rfl, hD⟩, hb⟩; obtain ⟨A1, c1, rfl, hc1, hF1, hBy1⟩ := hD; have hD3 : DR (fun k => (ok k ∧ k < w.heap.size) ∨ V.heap.size ≤ k) w3 (.agg #[.slice A1 l1.length c1, .bool false]) (some l1) := ⟨A1, c1, rfl, hc1, hF1, hBy1⟩; have hS3 : w.heap.size + 2 ≤ w3.heap.size := (by have := hb.size; omega); have hX3A := Aside0.mk (hXA.out.below hb); have hZ3A := Aside0.mk (hZA.out.below hb); have hb3A := Aside0.mk (below_then hBA.out hBA.out.size hb); have hD3A := Aside0.mk hD3; clear hb hD3 x0 x1)) | (refine wpList_put_blk rfl 79 (.tmp 2) (.tmp 14) rfl w.heap.size 79 [.slice A1 l1.length c1, .bool false] [.slice A l.length c, .bool r.isNone] rfl rfl rfl hX3A.out (info_in2 _ _) (by intro u hu; simp at hu; rcases hu with rfl | rfl <;> rfl) ?_; intro w4 hX4 hg4 hs4; have x0 := hX4.get 0 _ rfl; have x1 := hX4.get 1 _ rfl; have hX4A := Aside0.mk hX4; have hZ4A := Aside0.mk (hZ3A.out.grown hg4 (by intro e; have := Option.some.inj e; omega)); have hb4A := Aside0.mk (hb3A.out.grown hg4 hb3A.out.size (fun k e => by have := Option.some.inj e; omega)); have hD4A := Aside0.mk (hD3A.out.grown hg4 (by intro k hk e; have := Option.some.inj e; rcases hk with hk | hk <;> omega)); clear hg4 hX4))
        refine wp_region_noPanic ?_
        have hx0A := Aside0.mk (fun W' (hW : Below w4.heap.size w4 W') => (hX4A.out.below hW).get 0 _ rfl)
        have hx1A := Aside0.mk (fun W' (hW : Below w4.heap.size w4 W') => (hX4A.out.below hW).get 1 _ rfl)
        clear x0 x1
        have H0 : Below w4.heap.size w4 w4.drew := pw_below_drewN (Below.refl _ _) 1
        refine wp_region_held_drew (S := fun V1 => Below w4.heap.size w4 V1) (by kernel_rfl) H0 (fun _ => ?_)
        generalize w4.drew = V0 at *
        refine wpAnyH_take (i := 0) (v := .pointer (some ⟨w.heap.size, 1, none⟩)) (op_at rfl) (by kernel_rfl) (by kernel_rfl) (by kernel_rfl) (fun _ _ _ h => h) (Or.inl ⟨by rfl, fun w_ hSw => ?_⟩) H0 ?_
        · skip; go_simp
        try simp only [Act.put, List.setIfInBounds_toArray, List.set_cons_zero, List.set_cons_succ]
        refine wpAnyH_take (i := 1) (v := .bool false) (op_at rfl) (by kernel_rfl) (by kernel_rfl) (by kernel_rfl) (fun _ _ _ h => h) (Or.inl ⟨by rfl, fun w_ hSw => ?_⟩) H0 ?_
        · have hc_ := hx1A.out w_ hSw; go_simp
        try simp only [Act.put, List.setIfInBounds_toArray, List.set_cons_zero, List.set_cons_succ]
        refine wpAnyH_take (i := 2) (v := .bool false) (op_at rfl) (by kernel_rfl) (by kernel_rfl) (by kernel_rfl) (fun _ _ _ h => h) (Or.inl ⟨by rfl, fun w_ hSw => ?_⟩) H0 ?_
        · skip; go_simp
        try simp only [Act.put, List.setIfInBounds_toArray, List.set_cons_zero, List.set_cons_succ]
        refine wpAnyH_take (i := 3) (v := .int .i64 z) (op_at rfl) (by kernel_rfl) (by kernel_rfl) (by kernel_rfl) (fun _ _ _ h => h) (Or.inl ⟨by rfl, fun w_ hSw => ?_⟩) H0 ?_
        · skip; go_simp
        try simp only [Act.put, List.setIfInBounds_toArray, List.set_cons_zero, List.set_cons_succ]
        refine wpAnyH_take (i := 4) (v := .bool false) (op_at rfl) (by kernel_rfl) (by kernel_rfl) (by kernel_rfl) (fun _ _ _ h => h) (Or.inl ⟨by rfl, fun w_ hSw => ?_⟩) H0 ?_
        · skip; go_simp
        try simp only [Act.put, List.setIfInBounds_toArray, List.set_cons_zero, List.set_cons_succ]
        refine wpAnyH_take (i := 5) (v := .bool false) (op_at rfl) (by kernel_rfl) (by kernel_rfl) (by kernel_rfl) (fun _ _ _ h => h) (Or.inl ⟨by rfl, fun w_ hSw => ?_⟩) H0 ?_
        · skip; go_simp
        try simp only [Act.put, List.setIfInBounds_toArray, List.set_cons_zero, List.set_cons_succ]
        refine wpAnyH_take (i := 6) (v := .bool false) (op_at rfl) (by kernel_rfl) (by kernel_rfl) (by kernel_rfl) (fun _ _ _ h => h) (Or.inl ⟨by rfl, fun w_ hSw => ?_⟩) H0 ?_
        · skip; go_simp
        try simp only [Act.put, List.setIfInBounds_toArray, List.set_cons_zero, List.set_cons_succ]
        refine wpAnyH_take (i := 7) (v := .int .u64 n) (op_at rfl) (by kernel_rfl) (by kernel_rfl) (by kernel_rfl) (fun _ _ _ h => h) (Or.inl ⟨by rfl, fun w_ hSw => ?_⟩) H0 ?_
        · skip; go_simp
        try simp only [Act.put, List.setIfInBounds_toArray, List.set_cons_zero, List.set_cons_succ]
        refine wpAnyH_take (i := 8) (v := .int .i64 z) (op_at rfl) (by kernel_rfl) (by kernel_rfl) (by kernel_rfl) (fun _ _ _ h => h) (Or.inl ⟨by rfl, fun w_ hSw => ?_⟩) H0 ?_
        · skip; go_simp
        try simp only [Act.put, List.setIfInBounds_toArray, List.set_cons_zero, List.set_cons_succ]
        refine wpAnyH_take (i := 9) (v := .int .u64 z) (op_at rfl) (by kernel_rfl) (by kernel_rfl) (by kernel_rfl) (fun _ _ _ h => h) (Or.inl ⟨by rfl, fun w_ hSw => ?_⟩) H0 ?_
        · skip; go_simp
        try simp only [Act.put, List.setIfInBounds_toArray, List.set_cons_zero, List.set_cons_succ]
        refine wpAnyH_take (i := 10) (v := .bool false) (op_at rfl) (by kernel_rfl) (by kernel_rfl) (by kernel_rfl) (fun _ _ _ h => h) (Or.inl ⟨by rfl, fun w_ hSw => ?_⟩) H0 ?_
        · skip; go_simp
        try simp only [Act.put, List.setIfInBounds_toArray, List.set_cons_zero, List.set_cons_succ]
        refine wpAnyH_take (i := 11) (v := .bool false) (op_at rfl) (by kernel_rfl) (by kernel_rfl) (by kernel_rfl) (fun _ _ _ h => h) (Or.inl ⟨by rfl, fun w_ hSw => ?_⟩) H0 ?_
        · skip; go_simp
        try simp only [Act.put, List.setIfInBounds_toArray, List.set_cons_zero, List.set_cons_succ]
        refine wpAnyH_take (i := 12) (v := .bool false) (op_at rfl) (by kernel_rfl) (by kernel_rfl) (by kernel_rfl) (fun _ _ _ h => h) (Or.inl ⟨by rfl, fun w_ hSw => ?_⟩) H0 ?_
        · skip; go_simp
        try simp only [Act.put, List.setIfInBounds_toArray, List.set_cons_zero, List.set_cons_succ]
        refine wpAnyH_take (i := 13) (v := .int .u64 n) (op_at rfl) (by kernel_rfl) (by kernel_rfl) (by kernel_rfl) (fun _ _ _ h => h) (Or.inl ⟨by rfl, fun w_ hSw => ?_⟩) H0 ?_
        · skip; go_simp
        try simp only [Act.put, List.setIfInBounds_toArray, List.set_cons_zero, List.set_cons_succ]
        refine wpAnyH_take (i := 14) (v := .int .i64 n) (op_at rfl) (by kernel_rfl) (by kernel_rfl) (by kernel_rfl) (fun _ _ _ h => h) (Or.inl ⟨by rfl, fun w_ hSw => ?_⟩) H0 ?_
        · skip; go_simp
        try simp only [Act.put, List.setIfInBounds_toArray, List.set_cons_zero, List.set_cons_succ]
        refine wpAnyH_take (i := 17) (v := .pointer (some ⟨w.heap.size, 0, none⟩)) (op_at rfl) (by kernel_rfl) (by kernel_rfl) (by kernel_rfl) (fun _ _ _ h => h) (Or.inl ⟨by rfl, fun w_ hSw => ?_⟩) H0 ?_
        · skip; go_simp
        try simp only [Act.put, List.setIfInBounds_toArray, List.set_cons_zero, List.set_cons_succ]
        refine wpAnyH_take (i := 18) (v := .slice A1 l1.length c1) (op_at rfl) (by kernel_rfl) (by kernel_rfl) (by kernel_rfl) (fun _ _ _ h => h) (Or.inl ⟨by rfl, fun w_ hSw => ?_⟩) H0 ?_
        · have hc_ := hx0A.out w_ hSw; go_simp
        try simp only [Act.put, List.setIfInBounds_toArray, List.set_cons_zero, List.set_cons_succ]
        refine wpAnyH_take (i := 19) (v := .int .i64 (l1.length : Int)) (op_at rfl) (by kernel_rfl) (by kernel_rfl) (by kernel_rfl) (fun _ _ _ h => h) (Or.inl ⟨by rfl, fun w_ hSw => ?_⟩) H0 ?_
        · skip; go_simp
        try simp only [Act.put, List.setIfInBounds_toArray, List.set_cons_zero, List.set_cons_succ]
        refine wpAnyH_take (i := 21) (v := .slice A l.length c) (op_at rfl) (by kernel_rfl) (by kernel_rfl) (by kernel_rfl) (fun _ _ _ h => h) (Or.inl ⟨by rfl, fun w_ hSw => ?_⟩) H0 ?_
        · skip; go_simp
        try simp only [Act.put, List.setIfInBounds_toArray, List.set_cons_zero, List.set_cons_succ]
        refine wpAnyH_take (i := 22) (v := .int .i64 (l.length : Int)) (op_at rfl) (by kernel_rfl) (by kernel_rfl) (by kernel_rfl) (fun _ _ _ h => h) (Or.inl ⟨by rfl, fun w_ hSw => ?_⟩) H0 ?_
        · skip; go_simp
        try simp only [Act.put, List.setIfInBounds_toArray, List.set_cons_zero, List.set_cons_succ]
        refine wpAnyH_ready (rs := [15]) (by kernel_rfl) (by simp) ?_
        refine AllReadyH.cons (op_at rfl) (fun K hK => ?_) AllReadyH.nil
        go_simp
        go_at_call 59
        with_reducible refine (hcnA.out V0).mono ?_
        rintro e V1_ ⟨⟨A_, c_, rfl⟩, hb⟩
        go_wp2_with fail
        refine hK.out _ _ (below_then H0 H0.size hb) (fun H1_ => ?_)
        clear hK K hb
        try simp only [Act.put, List.setIfInBounds_toArray, List.set_cons_zero, List.set_cons_succ]
        refine wpAnyH_take (i := 16) (v := .int .i64 (1 : Int)) (op_at rfl) (by kernel_rfl) (by kernel_rfl) (by kernel_rfl) (fun _ _ _ h => h) (Or.inl ⟨by rfl, fun w_ hSw => ?_⟩) H1_ ?_
        · skip; go_simp
        try simp only [Act.put, List.setIfInBounds_toArray, List.set_cons_zero, List.set_cons_succ]
        refine wpAnyH_take (i := 20) (v := .int .i64 ((1 : Int) + (l1.length : Int))) (op_at rfl) (by kernel_rfl) (by kernel_rfl) (by kernel_rfl) (fun _ _ _ h => h) (Or.inl ⟨by rfl, fun w_ hSw => ?_⟩) H1_ ?_
        · skip; go_simp
        try simp only [Act.put, List.setIfInBounds_toArray, List.set_cons_zero, List.set_cons_succ]
        refine wpAnyH_take (i := 23) (v := .bool false) (op_at rfl) (by kernel_rfl) (by kernel_rfl) (by kernel_rfl) (fun _ _ _ h => h) (Or.inl ⟨by rfl, fun w_ hSw => ?_⟩) H1_ ?_
        · skip; go_simp
        try simp only [Act.put, List.setIfInBounds_toArray, List.set_cons_zero, List.set_cons_succ]
        refine wpAnyH_take (i := 24) (v := .bool false) (op_at rfl) (by kernel_rfl) (by kernel_rfl) (by kernel_rfl) (fun _ _ _ h => h) (Or.inl ⟨by rfl, fun w_ hSw => ?_⟩) H1_ ?_
        · skip; go_simp
        try simp only [Act.put, List.setIfInBounds_toArray, List.set_cons_zero, List.set_cons_succ]
        refine wpAnyH_done (by kernel_rfl) ?_ _
        refine NoPanic.normal ?_
        have hHA := Aside0.mk H1_
        have e64 : IntKind.i64.wrap n = n := IntWalk.i64_in _ (by omega)
        go_wp2_with (first | ((with_reducible refine gate_dst (N := 54) rfl ?_); refine wpList_load_blk rfl 79 (.tmp 2) rfl w.heap.size 79 rfl [.slice A1 l1.length c1, .bool false] _ (hX4A.out.below hHA.out) Try.underlying79 rfl (info_in2 _ _) ?_) | (refine wpList_put_blk rfl 79 (.tmp 4) (.tmp 54) rfl (w.heap.size + 1) 79 [.slice A1 l1.length c1, .bool false] [.slice none 0 0, .bool false] rfl rfl rfl (hZ4A.out.below hHA.out) (info_in2 _ _) (by intro u hu; simp at hu; rcases hu with rfl | rfl <;> rfl) ?_; intro w9 hZ9 hg9 hs9))
        exact bodyPost_ret (results_ct rfl _ _ (w.heap.size + 1) 79 #[.slice A1 l1.length c1, .bool false] (0, 0) _ rfl hZ9 Try.underlying79 rfl (info_in2 _ _)) rfl ⟨⟨_, by rw [enA.out]; rfl, ((hD4A.out.below hHA.out).grown hg9 (by intro k hk e; have := Option.some.inj e; rcases hk with hk | hk <;> omega)).mono (fun k h1 h2 => by rcases h1 with h1 | h1; exact .inl h1.1; all_goals exact .inr (by omega))⟩, (below_then hb4A.out hb4A.out.size hHA.out).grown hg9 (below_then hb4A.out hb4A.out.size hHA.out).size (fun k e => by have := Option.some.inj e; omega)⟩
    · have hn3 : n = 253 ∨ n = 254 ∨ n = 255 := by omega
      have hrl : RB (some l1) := hrb1A.out
      rcases hn3 with rfl | rfl | rfl
      · have hb2 := num_bound (n := 2) hrl
        have hn0 := num_zero (n := 2) (r := some l1)
        have hl8 : ∀ l', (rdNum 2 (some l1)).2 = some l' → (l1.length : Int) = 2 + (l'.length : Int) := fun l' e => by have := num_len (r' := none) e (fun m h => by cases h; rfl); omega
        have hc2A := Aside0.mk (fun W (u : Value) (h : DR (fun k => (ok k ∧ k < w.heap.size) ∨ V.heap.size ≤ k) W u (some l1)) => dnum_at 2 2 rfl (by simp) h)
        obtain ⟨m, hm1⟩ : ∃ m, (rdNum 2 (some l1)).1 = m := ⟨_, rfl⟩
        obtain ⟨r2, hr2⟩ : ∃ r2, (rdNum 2 (some l1)).2 = r2 := ⟨_, rfl⟩
        have hz2 : rdNum 2 (some l1) = (m, r2) := by rw [← hm1, ← hr2]
        rw [hm1] at hb2 hc2A hn0
        rw [hr2] at hc2A hl8 hn0
        have hz2A := Aside0.mk hz2
        clear hm1 hr2 hz2
        cases r2 with
        | none =>
          obtain rfl : m = 0 := hn0 rfl
          rw [count_wide_bad hz1A.out (k := 2) rfl (by decide) hz2A.out (.inr (.inl rfl))]
          clear hl8 hn0 hl
          go_enter Try.func41, Try.ntmps41
          go_wp2_with (first | ((with_reducible refine gate_dst (N := 9) rfl ?_); rw [show (w.alloc (.cells #[.slice A l.length c, .bool r.isNone] 79)).alloc (.cells #[.slice none 0 0, .bool false] 79) = V from hVA.out.symm]) | (go_at_call 43; first | ((with_reducible refine hcA.out.mono ?_); rintro e w3 ⟨⟨v1, rfl, hD⟩, hb⟩; obtain ⟨A1, c1, rfl, hc1, hF1, hBy1⟩ := hD; have hD3 : DR (fun k => (ok k ∧ k < w.heap.size) ∨ V.heap.size ≤ k) w3 (.agg #[.slice A1 l1.length c1, .bool false]) (some l1) := ⟨A1, c1, rfl, hc1, hF1, hBy1⟩; have hS3 : w.heap.size + 2 ≤ w3.heap.size := (by have := hb.size; omega); have hX3A := Aside0.mk (hXA.out.below hb); have hZ3A := Aside0.mk (hZA.out.below hb); have hb3A := Aside0.mk (below_then hBA.out hBA.out.size hb); have hD3A := Aside0.mk hD3; clear hb hD3 x0 x1) | ((with_reducible refine (hc2A.out _ _ hD4A.out).mono ?_); rintro e w5 ⟨⟨v1, rfl, hD⟩, hb⟩; obtain ⟨A2, c2, rfl⟩ := hD; have hD5 := True.intro; have hX5A := Aside0.mk (hX4A.out.below hb); have hZ5A := Aside0.mk (hZ4A.out.below hb); have hb5A := Aside0.mk (below_then hb4A.out hb4A.out.size hb); have hD5A := Aside0.mk hD5; clear hb hD5 x0 x1)) | (refine wpList_put_blk rfl 79 (.tmp 2) (.tmp 14) rfl w.heap.size 79 [.slice A1 l1.length c1, .bool false] [.slice A l.length c, .bool r.isNone] rfl rfl rfl hX3A.out (info_in2 _ _) (by intro u hu; simp at hu; rcases hu with rfl | rfl <;> rfl) ?_; intro w4 hX4 hg4 hs4; have x0 := hX4.get 0 _ rfl; have x1 := hX4.get 1 _ rfl; have hX4A := Aside0.mk hX4; have hZ4A := Aside0.mk (hZ3A.out.grown hg4 (by intro e; have := Option.some.inj e; omega)); have hb4A := Aside0.mk (hb3A.out.grown hg4 hb3A.out.size (fun k e => by have := Option.some.inj e; omega)); have hD4A := Aside0.mk (hD3A.out.grown hg4 (by intro k hk e; have := Option.some.inj e; rcases hk with hk | hk <;> omega)); clear hg4 hX4) | (refine wpList_put_blk rfl 79 (.tmp 2) (.tmp 26) rfl w.heap.size 79 [.slice A2 0 c2, .bool true] [.slice A1 l1.length c1, .bool false] rfl rfl rfl hX5A.out (info_in2 _ _) (by intro u hu; simp at hu; rcases hu with rfl | rfl <;> rfl) ?_; intro w6 hX6 hg6 hs6; have x0 := hX6.get 0 _ rfl; have x1 := hX6.get 1 _ rfl; have hX6A := Aside0.mk hX6; have hZ6A := Aside0.mk (hZ5A.out.grown hg6 (by intro e; have := Option.some.inj e; omega)); have hb6A := Aside0.mk (hb5A.out.grown hg6 hb5A.out.size (fun k e => by have := Option.some.inj e; omega)); have hD6A := Aside0.mk (True.intro); clear hg6 hX6))
          refine wp_region_noPanic ?_
          have hx0A := Aside0.mk (fun W' (hW : Below w6.heap.size w6 W') => (hX6A.out.below hW).get 0 _ rfl)
          have hx1A := Aside0.mk (fun W' (hW : Below w6.heap.size w6 W') => (hX6A.out.below hW).get 1 _ rfl)
          clear x0 x1
          have H0 : Below w6.heap.size w6 w6.drew := pw_below_drewN (Below.refl _ _) 1
          refine wp_region_held_drew (S := fun V1 => Below w6.heap.size w6 V1) (by kernel_rfl) H0 (fun _ => ?_)
          generalize w6.drew = V0 at *
          refine wpAnyH_take (i := 0) (v := .pointer (some ⟨w.heap.size, 1, none⟩)) (op_at rfl) (by kernel_rfl) (by kernel_rfl) (by kernel_rfl) (fun _ _ _ h => h) (Or.inl ⟨by rfl, fun w_ hSw => ?_⟩) H0 ?_
          · skip; go_simp
          try simp only [Act.put, List.setIfInBounds_toArray, List.set_cons_zero, List.set_cons_succ]
          refine wpAnyH_take (i := 1) (v := .bool true) (op_at rfl) (by kernel_rfl) (by kernel_rfl) (by kernel_rfl) (fun _ _ _ h => h) (Or.inl ⟨by rfl, fun w_ hSw => ?_⟩) H0 ?_
          · have hc_ := hx1A.out w_ hSw; go_simp
          try simp only [Act.put, List.setIfInBounds_toArray, List.set_cons_zero, List.set_cons_succ]
          refine wpAnyH_take (i := 2) (v := .bool true) (op_at rfl) (by kernel_rfl) (by kernel_rfl) (by kernel_rfl) (fun _ _ _ h => h) (Or.inl ⟨by rfl, fun w_ hSw => ?_⟩) H0 ?_
          · skip; go_simp
          try simp only [Act.put, List.setIfInBounds_toArray, List.set_cons_zero, List.set_cons_succ]
          refine wpAnyH_take (i := 3) (v := undef) (op_at rfl) (by kernel_rfl) (by kernel_rfl) (by kernel_rfl) (fun _ _ _ h => h) (Or.inr ⟨by rfl, rfl⟩) H0 ?_
          try simp only [Act.put, List.setIfInBounds_toArray, List.set_cons_zero, List.set_cons_succ]
          refine wpAnyH_take (i := 4) (v := undef) (op_at rfl) (by kernel_rfl) (by kernel_rfl) (by kernel_rfl) (fun _ _ _ h => h) (Or.inr ⟨by rfl, rfl⟩) H0 ?_
          try simp only [Act.put, List.setIfInBounds_toArray, List.set_cons_zero, List.set_cons_succ]
          refine wpAnyH_take (i := 5) (v := .bool true) (op_at rfl) (by kernel_rfl) (by kernel_rfl) (by kernel_rfl) (fun _ _ _ h => h) (Or.inl ⟨by rfl, fun w_ hSw => ?_⟩) H0 ?_
          · skip; go_simp
          try simp only [Act.put, List.setIfInBounds_toArray, List.set_cons_zero, List.set_cons_succ]
          refine wpAnyH_take (i := 6) (v := .bool true) (op_at rfl) (by kernel_rfl) (by kernel_rfl) (by kernel_rfl) (fun _ _ _ h => h) (Or.inl ⟨by rfl, fun w_ hSw => ?_⟩) H0 ?_
          · skip; go_simp
          try simp only [Act.put, List.setIfInBounds_toArray, List.set_cons_zero, List.set_cons_succ]
          refine wpAnyH_take (i := 7) (v := undef) (op_at rfl) (by kernel_rfl) (by kernel_rfl) (by kernel_rfl) (fun _ _ _ h => h) (Or.inr ⟨by rfl, rfl⟩) H0 ?_
          try simp only [Act.put, List.setIfInBounds_toArray, List.set_cons_zero, List.set_cons_succ]
          refine wpAnyH_take (i := 8) (v := undef) (op_at rfl) (by kernel_rfl) (by kernel_rfl) (by kernel_rfl) (fun _ _ _ h => h) (Or.inr ⟨by rfl, rfl⟩) H0 ?_
          try simp only [Act.put, List.setIfInBounds_toArray, List.set_cons_zero, List.set_cons_succ]
          refine wpAnyH_take (i := 9) (v := undef) (op_at rfl) (by kernel_rfl) (by kernel_rfl) (by kernel_rfl) (fun _ _ _ h => h) (Or.inr ⟨by rfl, rfl⟩) H0 ?_
          try simp only [Act.put, List.setIfInBounds_toArray, List.set_cons_zero, List.set_cons_succ]
          refine wpAnyH_take (i := 10) (v := undef) (op_at rfl) (by kernel_rfl) (by kernel_rfl) (by kernel_rfl) (fun _ _ _ h => h) (Or.inr ⟨by rfl, rfl⟩) H0 ?_
          try simp only [Act.put, List.setIfInBounds_toArray, List.set_cons_zero, List.set_cons_succ]
          refine wpAnyH_take (i := 11) (v := .bool true) (op_at rfl) (by kernel_rfl) (by kernel_rfl) (by kernel_rfl) (fun _ _ _ h => h) (Or.inl ⟨by rfl, fun w_ hSw => ?_⟩) H0 ?_
          · skip; go_simp
          try simp only [Act.put, List.setIfInBounds_toArray, List.set_cons_zero, List.set_cons_succ]
          refine wpAnyH_take (i := 12) (v := .bool true) (op_at rfl) (by kernel_rfl) (by kernel_rfl) (by kernel_rfl) (fun _ _ _ h => h) (Or.inl ⟨by rfl, fun w_ hSw => ?_⟩) H0 ?_
          · skip; go_simp
          try simp only [Act.put, List.setIfInBounds_toArray, List.set_cons_zero, List.set_cons_succ]
          refine wpAnyH_take (i := 13) (v := undef) (op_at rfl) (by kernel_rfl) (by kernel_rfl) (by kernel_rfl) (fun _ _ _ h => h) (Or.inr ⟨by rfl, rfl⟩) H0 ?_
          try simp only [Act.put, List.setIfInBounds_toArray, List.set_cons_zero, List.set_cons_succ]
          refine wpAnyH_take (i := 14) (v := undef) (op_at rfl) (by kernel_rfl) (by kernel_rfl) (by kernel_rfl) (fun _ _ _ h => h) (Or.inr ⟨by rfl, rfl⟩) H0 ?_
          try simp only [Act.put, List.setIfInBounds_toArray, List.set_cons_zero, List.set_cons_succ]
          refine wpAnyH_take (i := 15) (v := undef) (op_at rfl) (by kernel_rfl) (by kernel_rfl) (by kernel_rfl) (fun _ _ _ h => h) (Or.inr ⟨by rfl, rfl⟩) H0 ?_
          try simp only [Act.put, List.setIfInBounds_toArray, List.set_cons_zero, List.set_cons_succ]
          refine wpAnyH_take (i := 16) (v := undef) (op_at rfl) (by kernel_rfl) (by kernel_rfl) (by kernel_rfl) (fun _ _ _ h => h) (Or.inr ⟨by rfl, rfl⟩) H0 ?_
          try simp only [Act.put, List.setIfInBounds_toArray, List.set_cons_zero, List.set_cons_succ]
          refine wpAnyH_take (i := 17) (v := undef) (op_at rfl) (by kernel_rfl) (by kernel_rfl) (by kernel_rfl) (fun _ _ _ h => h) (Or.inr ⟨by rfl, rfl⟩) H0 ?_
          try simp only [Act.put, List.setIfInBounds_toArray, List.set_cons_zero, List.set_cons_succ]
          refine wpAnyH_take (i := 18) (v := undef) (op_at rfl) (by kernel_rfl) (by kernel_rfl) (by kernel_rfl) (fun _ _ _ h => h) (Or.inr ⟨by rfl, rfl⟩) H0 ?_
          try simp only [Act.put, List.setIfInBounds_toArray, List.set_cons_zero, List.set_cons_succ]
          refine wpAnyH_take (i := 19) (v := undef) (op_at rfl) (by kernel_rfl) (by kernel_rfl) (by kernel_rfl) (fun _ _ _ h => h) (Or.inr ⟨by rfl, rfl⟩) H0 ?_
          try simp only [Act.put, List.setIfInBounds_toArray, List.set_cons_zero, List.set_cons_succ]
          refine wpAnyH_take (i := 20) (v := undef) (op_at rfl) (by kernel_rfl) (by kernel_rfl) (by kernel_rfl) (fun _ _ _ h => h) (Or.inr ⟨by rfl, rfl⟩) H0 ?_
          try simp only [Act.put, List.setIfInBounds_toArray, List.set_cons_zero, List.set_cons_succ]
          refine wpAnyH_take (i := 21) (v := undef) (op_at rfl) (by kernel_rfl) (by kernel_rfl) (by kernel_rfl) (fun _ _ _ h => h) (Or.inr ⟨by rfl, rfl⟩) H0 ?_
          try simp only [Act.put, List.setIfInBounds_toArray, List.set_cons_zero, List.set_cons_succ]
          refine wpAnyH_take (i := 22) (v := undef) (op_at rfl) (by kernel_rfl) (by kernel_rfl) (by kernel_rfl) (fun _ _ _ h => h) (Or.inr ⟨by rfl, rfl⟩) H0 ?_
          try simp only [Act.put, List.setIfInBounds_toArray, List.set_cons_zero, List.set_cons_succ]
          refine wpAnyH_take (i := 23) (v := undef) (op_at rfl) (by kernel_rfl) (by kernel_rfl) (by kernel_rfl) (fun _ _ _ h => h) (Or.inr ⟨by rfl, rfl⟩) H0 ?_
          try simp only [Act.put, List.setIfInBounds_toArray, List.set_cons_zero, List.set_cons_succ]
          refine wpAnyH_take (i := 24) (v := .bool true) (op_at rfl) (by kernel_rfl) (by kernel_rfl) (by kernel_rfl) (fun _ _ _ h => h) (Or.inl ⟨by rfl, fun w_ hSw => ?_⟩) H0 ?_
          · skip; go_simp
          try simp only [Act.put, List.setIfInBounds_toArray, List.set_cons_zero, List.set_cons_succ]
          refine wpAnyH_done (by kernel_rfl) ?_ _
          refine NoPanic.normal ?_
          have hHA := Aside0.mk H0
          go_wp2_with (first | (go_at_call 60; ((with_reducible refine (dwrong_calls _).mono ?_); rintro e w8 ⟨⟨A8, c8, rfl⟩, hb⟩; have hZ8A := Aside0.mk ((hZ6A.out.below hHA.out).below hb); have hb8A := Aside0.mk (below_then (below_then hb6A.out hb6A.out.size hHA.out) (below_then hb6A.out hb6A.out.size hHA.out).size hb); clear hb)) | (refine wpList_put_blk rfl 79 (.tmp 4) (.tmp 53) rfl (w.heap.size + 1) 79 [.slice A8 0 c8, .bool true] [.slice none 0 0, .bool false] rfl rfl rfl hZ8A.out (info_in2 _ _) (by intro u hu; simp at hu; rcases hu with rfl | rfl <;> rfl) ?_; intro w9 hZ9 hg9 hs9))
          exact bodyPost_ret (results_ct rfl _ _ (w.heap.size + 1) 79 #[.slice A8 0 c8, .bool true] (0, 0) _ rfl hZ9 Try.underlying79 rfl (info_in2 _ _)) rfl ⟨⟨_, rfl, A8, c8, rfl⟩, hb8A.out.grown hg9 hb8A.out.size (fun k e => by have := Option.some.inj e; omega)⟩
        | some l2 =>
          have hl3 := hl8 l2 rfl
          clear hl8 hn0
          by_cases q2 : z < m
          · rw [count_wide_bad hz1A.out (k := 2) rfl (by decide) hz2A.out (.inr (.inr (by omega)))]
            clear hl hl3
            go_enter Try.func41, Try.ntmps41
            go_wp2_with (first | ((with_reducible refine gate_dst (N := 9) rfl ?_); rw [show (w.alloc (.cells #[.slice A l.length c, .bool r.isNone] 79)).alloc (.cells #[.slice none 0 0, .bool false] 79) = V from hVA.out.symm]) | (go_at_call 43; first | ((with_reducible refine hcA.out.mono ?_); rintro e w3 ⟨⟨v1, rfl, hD⟩, hb⟩; obtain ⟨A1, c1, rfl, hc1, hF1, hBy1⟩ := hD; have hD3 : DR (fun k => (ok k ∧ k < w.heap.size) ∨ V.heap.size ≤ k) w3 (.agg #[.slice A1 l1.length c1, .bool false]) (some l1) := ⟨A1, c1, rfl, hc1, hF1, hBy1⟩; have hS3 : w.heap.size + 2 ≤ w3.heap.size := (by have := hb.size; omega); have hX3A := Aside0.mk (hXA.out.below hb); have hZ3A := Aside0.mk (hZA.out.below hb); have hb3A := Aside0.mk (below_then hBA.out hBA.out.size hb); have hD3A := Aside0.mk hD3; clear hb hD3 x0 x1) | ((with_reducible refine (hc2A.out _ _ hD4A.out).mono ?_); rintro e w5 ⟨⟨v1, rfl, hD⟩, hb⟩; obtain ⟨A2, c2, rfl, hc2, hF2, hBy2⟩ := hD; have hD5 : DR (fun k => ((ok k ∧ k < w.heap.size) ∨ V.heap.size ≤ k) ∨ w4.heap.size ≤ k) w5 (.agg #[.slice A2 l2.length c2, .bool false]) (some l2) := ⟨A2, c2, rfl, hc2, hF2, hBy2⟩; have hX5A := Aside0.mk (hX4A.out.below hb); have hZ5A := Aside0.mk (hZ4A.out.below hb); have hb5A := Aside0.mk (below_then hb4A.out hb4A.out.size hb); have hD5A := Aside0.mk hD5; clear hb hD5 x0 x1)) | (refine wpList_put_blk rfl 79 (.tmp 2) (.tmp 14) rfl w.heap.size 79 [.slice A1 l1.length c1, .bool false] [.slice A l.length c, .bool r.isNone] rfl rfl rfl hX3A.out (info_in2 _ _) (by intro u hu; simp at hu; rcases hu with rfl | rfl <;> rfl) ?_; intro w4 hX4 hg4 hs4; have x0 := hX4.get 0 _ rfl; have x1 := hX4.get 1 _ rfl; have hX4A := Aside0.mk hX4; have hZ4A := Aside0.mk (hZ3A.out.grown hg4 (by intro e; have := Option.some.inj e; omega)); have hb4A := Aside0.mk (hb3A.out.grown hg4 hb3A.out.size (fun k e => by have := Option.some.inj e; omega)); have hD4A := Aside0.mk (hD3A.out.grown hg4 (by intro k hk e; have := Option.some.inj e; rcases hk with hk | hk <;> omega)); clear hg4 hX4) | (refine wpList_put_blk rfl 79 (.tmp 2) (.tmp 26) rfl w.heap.size 79 [.slice A2 l2.length c2, .bool false] [.slice A1 l1.length c1, .bool false] rfl rfl rfl hX5A.out (info_in2 _ _) (by intro u hu; simp at hu; rcases hu with rfl | rfl <;> rfl) ?_; intro w6 hX6 hg6 hs6; have x0 := hX6.get 0 _ rfl; have x1 := hX6.get 1 _ rfl; have hX6A := Aside0.mk hX6; have hZ6A := Aside0.mk (hZ5A.out.grown hg6 (by intro e; have := Option.some.inj e; omega)); have hb6A := Aside0.mk (hb5A.out.grown hg6 hb5A.out.size (fun k e => by have := Option.some.inj e; omega)); have hD6A := Aside0.mk (hD5A.out.grown hg6 (by intro k hk e; have := Option.some.inj e; rcases hk with (hk | hk) | hk <;> omega)); clear hg6 hX6))
            refine wp_region_noPanic ?_
            have hx0A := Aside0.mk (fun W' (hW : Below w6.heap.size w6 W') => (hX6A.out.below hW).get 0 _ rfl)
            have hx1A := Aside0.mk (fun W' (hW : Below w6.heap.size w6 W') => (hX6A.out.below hW).get 1 _ rfl)
            clear x0 x1
            have H0 : Below w6.heap.size w6 w6.drew := pw_below_drewN (Below.refl _ _) 1
            refine wp_region_held_drew (S := fun V1 => Below w6.heap.size w6 V1) (by kernel_rfl) H0 (fun _ => ?_)
            generalize w6.drew = V0 at *
            refine wpAnyH_take (i := 0) (v := .pointer (some ⟨w.heap.size, 1, none⟩)) (op_at rfl) (by kernel_rfl) (by kernel_rfl) (by kernel_rfl) (fun _ _ _ h => h) (Or.inl ⟨by rfl, fun w_ hSw => ?_⟩) H0 ?_
            · skip; go_simp
            try simp only [Act.put, List.setIfInBounds_toArray, List.set_cons_zero, List.set_cons_succ]
            refine wpAnyH_take (i := 1) (v := .bool false) (op_at rfl) (by kernel_rfl) (by kernel_rfl) (by kernel_rfl) (fun _ _ _ h => h) (Or.inl ⟨by rfl, fun w_ hSw => ?_⟩) H0 ?_
            · have hc_ := hx1A.out w_ hSw; go_simp
            try simp only [Act.put, List.setIfInBounds_toArray, List.set_cons_zero, List.set_cons_succ]
            refine wpAnyH_take (i := 2) (v := .bool false) (op_at rfl) (by kernel_rfl) (by kernel_rfl) (by kernel_rfl) (fun _ _ _ h => h) (Or.inl ⟨by rfl, fun w_ hSw => ?_⟩) H0 ?_
            · skip; go_simp
            try simp only [Act.put, List.setIfInBounds_toArray, List.set_cons_zero, List.set_cons_succ]
            refine wpAnyH_take (i := 3) (v := .int .i64 z) (op_at rfl) (by kernel_rfl) (by kernel_rfl) (by kernel_rfl) (fun _ _ _ h => h) (Or.inl ⟨by rfl, fun w_ hSw => ?_⟩) H0 ?_
            · skip; go_simp
            try simp only [Act.put, List.setIfInBounds_toArray, List.set_cons_zero, List.set_cons_succ]
            refine wpAnyH_take (i := 4) (v := .bool false) (op_at rfl) (by kernel_rfl) (by kernel_rfl) (by kernel_rfl) (fun _ _ _ h => h) (Or.inl ⟨by rfl, fun w_ hSw => ?_⟩) H0 ?_
            · skip; go_simp
            try simp only [Act.put, List.setIfInBounds_toArray, List.set_cons_zero, List.set_cons_succ]
            refine wpAnyH_take (i := 5) (v := .bool false) (op_at rfl) (by kernel_rfl) (by kernel_rfl) (by kernel_rfl) (fun _ _ _ h => h) (Or.inl ⟨by rfl, fun w_ hSw => ?_⟩) H0 ?_
            · skip; go_simp
            try simp only [Act.put, List.setIfInBounds_toArray, List.set_cons_zero, List.set_cons_succ]
            refine wpAnyH_take (i := 6) (v := .bool false) (op_at rfl) (by kernel_rfl) (by kernel_rfl) (by kernel_rfl) (fun _ _ _ h => h) (Or.inl ⟨by rfl, fun w_ hSw => ?_⟩) H0 ?_
            · skip; go_simp
            try simp only [Act.put, List.setIfInBounds_toArray, List.set_cons_zero, List.set_cons_succ]
            refine wpAnyH_take (i := 7) (v := .int .u64 m) (op_at rfl) (by kernel_rfl) (by kernel_rfl) (by kernel_rfl) (fun _ _ _ h => h) (Or.inl ⟨by rfl, fun w_ hSw => ?_⟩) H0 ?_
            · skip; go_simp
            try simp only [Act.put, List.setIfInBounds_toArray, List.set_cons_zero, List.set_cons_succ]
            refine wpAnyH_take (i := 8) (v := .int .i64 z) (op_at rfl) (by kernel_rfl) (by kernel_rfl) (by kernel_rfl) (fun _ _ _ h => h) (Or.inl ⟨by rfl, fun w_ hSw => ?_⟩) H0 ?_
            · skip; go_simp
            try simp only [Act.put, List.setIfInBounds_toArray, List.set_cons_zero, List.set_cons_succ]
            refine wpAnyH_take (i := 9) (v := .int .u64 z) (op_at rfl) (by kernel_rfl) (by kernel_rfl) (by kernel_rfl) (fun _ _ _ h => h) (Or.inl ⟨by rfl, fun w_ hSw => ?_⟩) H0 ?_
            · skip; go_simp
            try simp only [Act.put, List.setIfInBounds_toArray, List.set_cons_zero, List.set_cons_succ]
            refine wpAnyH_take (i := 10) (v := .bool true) (op_at rfl) (by kernel_rfl) (by kernel_rfl) (by kernel_rfl) (fun _ _ _ h => h) (Or.inl ⟨by rfl, fun w_ hSw => ?_⟩) H0 ?_
            · skip; go_simp
            try simp only [Act.put, List.setIfInBounds_toArray, List.set_cons_zero, List.set_cons_succ]
            refine wpAnyH_take (i := 11) (v := .bool true) (op_at rfl) (by kernel_rfl) (by kernel_rfl) (by kernel_rfl) (fun _ _ _ h => h) (Or.inl ⟨by rfl, fun w_ hSw => ?_⟩) H0 ?_
            · skip; go_simp
            try simp only [Act.put, List.setIfInBounds_toArray, List.set_cons_zero, List.set_cons_succ]
            refine wpAnyH_take (i := 12) (v := .bool true) (op_at rfl) (by kernel_rfl) (by kernel_rfl) (by kernel_rfl) (fun _ _ _ h => h) (Or.inl ⟨by rfl, fun w_ hSw => ?_⟩) H0 ?_
            · skip; go_simp
            try simp only [Act.put, List.setIfInBounds_toArray, List.set_cons_zero, List.set_cons_succ]
            refine wpAnyH_take (i := 13) (v := undef) (op_at rfl) (by kernel_rfl) (by kernel_rfl) (by kernel_rfl) (fun _ _ _ h => h) (Or.inr ⟨by rfl, rfl⟩) H0 ?_
            try simp only [Act.put, List.setIfInBounds_toArray, List.set_cons_zero, List.set_cons_succ]
            refine wpAnyH_take (i := 14) (v := undef) (op_at rfl) (by kernel_rfl) (by kernel_rfl) (by kernel_rfl) (fun _ _ _ h => h) (Or.inr ⟨by rfl, rfl⟩) H0 ?_
            try simp only [Act.put, List.setIfInBounds_toArray, List.set_cons_zero, List.set_cons_succ]
            refine wpAnyH_take (i := 15) (v := undef) (op_at rfl) (by kernel_rfl) (by kernel_rfl) (by kernel_rfl) (fun _ _ _ h => h) (Or.inr ⟨by rfl, rfl⟩) H0 ?_
            try simp only [Act.put, List.setIfInBounds_toArray, List.set_cons_zero, List.set_cons_succ]
            refine wpAnyH_take (i := 16) (v := undef) (op_at rfl) (by kernel_rfl) (by kernel_rfl) (by kernel_rfl) (fun _ _ _ h => h) (Or.inr ⟨by rfl, rfl⟩) H0 ?_
            try simp only [Act.put, List.setIfInBounds_toArray, List.set_cons_zero, List.set_cons_succ]
            refine wpAnyH_take (i := 17) (v := undef) (op_at rfl) (by kernel_rfl) (by kernel_rfl) (by kernel_rfl) (fun _ _ _ h => h) (Or.inr ⟨by rfl, rfl⟩) H0 ?_
            try simp only [Act.put, List.setIfInBounds_toArray, List.set_cons_zero, List.set_cons_succ]
            refine wpAnyH_take (i := 18) (v := undef) (op_at rfl) (by kernel_rfl) (by kernel_rfl) (by kernel_rfl) (fun _ _ _ h => h) (Or.inr ⟨by rfl, rfl⟩) H0 ?_
            try simp only [Act.put, List.setIfInBounds_toArray, List.set_cons_zero, List.set_cons_succ]
            refine wpAnyH_take (i := 19) (v := undef) (op_at rfl) (by kernel_rfl) (by kernel_rfl) (by kernel_rfl) (fun _ _ _ h => h) (Or.inr ⟨by rfl, rfl⟩) H0 ?_
            try simp only [Act.put, List.setIfInBounds_toArray, List.set_cons_zero, List.set_cons_succ]
            refine wpAnyH_take (i := 20) (v := undef) (op_at rfl) (by kernel_rfl) (by kernel_rfl) (by kernel_rfl) (fun _ _ _ h => h) (Or.inr ⟨by rfl, rfl⟩) H0 ?_
            try simp only [Act.put, List.setIfInBounds_toArray, List.set_cons_zero, List.set_cons_succ]
            refine wpAnyH_take (i := 21) (v := undef) (op_at rfl) (by kernel_rfl) (by kernel_rfl) (by kernel_rfl) (fun _ _ _ h => h) (Or.inr ⟨by rfl, rfl⟩) H0 ?_
            try simp only [Act.put, List.setIfInBounds_toArray, List.set_cons_zero, List.set_cons_succ]
            refine wpAnyH_take (i := 22) (v := undef) (op_at rfl) (by kernel_rfl) (by kernel_rfl) (by kernel_rfl) (fun _ _ _ h => h) (Or.inr ⟨by rfl, rfl⟩) H0 ?_
            try simp only [Act.put, List.setIfInBounds_toArray, List.set_cons_zero, List.set_cons_succ]
            refine wpAnyH_take (i := 23) (v := undef) (op_at rfl) (by kernel_rfl) (by kernel_rfl) (by kernel_rfl) (fun _ _ _ h => h) (Or.inr ⟨by rfl, rfl⟩) H0 ?_
            try simp only [Act.put, List.setIfInBounds_toArray, List.set_cons_zero, List.set_cons_succ]
            refine wpAnyH_take (i := 24) (v := .bool true) (op_at rfl) (by kernel_rfl) (by kernel_rfl) (by kernel_rfl) (fun _ _ _ h => h) (Or.inl ⟨by rfl, fun w_ hSw => ?_⟩) H0 ?_
            · skip; go_simp
            try simp only [Act.put, List.setIfInBounds_toArray, List.set_cons_zero, List.set_cons_succ]
            refine wpAnyH_done (by kernel_rfl) ?_ _
            refine NoPanic.normal ?_
            have hHA := Aside0.mk H0
            go_wp2_with (first | (go_at_call 60; ((with_reducible refine (dwrong_calls _).mono ?_); rintro e w8 ⟨⟨A8, c8, rfl⟩, hb⟩; have hZ8A := Aside0.mk ((hZ6A.out.below hHA.out).below hb); have hb8A := Aside0.mk (below_then (below_then hb6A.out hb6A.out.size hHA.out) (below_then hb6A.out hb6A.out.size hHA.out).size hb); clear hb)) | (refine wpList_put_blk rfl 79 (.tmp 4) (.tmp 53) rfl (w.heap.size + 1) 79 [.slice A8 0 c8, .bool true] [.slice none 0 0, .bool false] rfl rfl rfl hZ8A.out (info_in2 _ _) (by intro u hu; simp at hu; rcases hu with rfl | rfl <;> rfl) ?_; intro w9 hZ9 hg9 hs9))
            exact bodyPost_ret (results_ct rfl _ _ (w.heap.size + 1) 79 #[.slice A8 0 c8, .bool true] (0, 0) _ rfl hZ9 Try.underlying79 rfl (info_in2 _ _)) rfl ⟨⟨_, rfl, A8, c8, rfl⟩, hb8A.out.grown hg9 hb8A.out.size (fun k e => by have := Option.some.inj e; omega)⟩
          · have hm0 : ((m.toNat : Nat) : Int) = m := by omega
            obtain ⟨L, hL⟩ : ∃ L, cntl m.toNat = L := ⟨_, rfl⟩
            have hL5 : L ≤ 5 := by rw [← hL]; unfold cntl; split; decide; split <;> decide
            have hcnA := Aside0.mk (fun W => dcount_calls m.toNat m hm0 (by omega) L hL W)
            have e9 : IntKind.i64.wrap m = m := IntWalk.i64_in _ (by omega)
            have e8 : IntKind.i64.wrap ((L : Int) + (l2.length : Int)) = (L : Int) + (l2.length : Int) := IntWalk.i64_in _ (by omega)
            have hmk := mark_len2 m.toNat (by omega)
            rw [hm0, hL] at hmk
            by_cases q3 : mark m = 253
            · rw [count_wide_ok hz1A.out (k := 2) rfl (by decide) hz2A.out q3 (by omega)]
              have hL2 := hmk.1 q3
              have enA : Aside0 (((m.toNat : Nat) : Int) = m) := Aside0.mk hm0
              have p3 : ((L : Int) + (l2.length : Int)) = (l.length : Int) := by omega
              clear hmk q3 hL hm0 hL2 hl hl3 hL5
              go_enter Try.func41, Try.ntmps41
              go_wp2_with (first | ((with_reducible refine gate_dst (N := 9) rfl ?_); rw [show (w.alloc (.cells #[.slice A l.length c, .bool r.isNone] 79)).alloc (.cells #[.slice none 0 0, .bool false] 79) = V from hVA.out.symm]) | (go_at_call 43; first | ((with_reducible refine hcA.out.mono ?_); rintro e w3 ⟨⟨v1, rfl, hD⟩, hb⟩; obtain ⟨A1, c1, rfl, hc1, hF1, hBy1⟩ := hD; have hD3 : DR (fun k => (ok k ∧ k < w.heap.size) ∨ V.heap.size ≤ k) w3 (.agg #[.slice A1 l1.length c1, .bool false]) (some l1) := ⟨A1, c1, rfl, hc1, hF1, hBy1⟩; have hS3 : w.heap.size + 2 ≤ w3.heap.size := (by have := hb.size; omega); have hX3A := Aside0.mk (hXA.out.below hb); have hZ3A := Aside0.mk (hZA.out.below hb); have hb3A := Aside0.mk (below_then hBA.out hBA.out.size hb); have hD3A := Aside0.mk hD3; clear hb hD3 x0 x1) | ((with_reducible refine (hc2A.out _ _ hD4A.out).mono ?_); rintro e w5 ⟨⟨v1, rfl, hD⟩, hb⟩; obtain ⟨A2, c2, rfl, hc2, hF2, hBy2⟩ := hD; have hD5 : DR (fun k => ((ok k ∧ k < w.heap.size) ∨ V.heap.size ≤ k) ∨ w4.heap.size ≤ k) w5 (.agg #[.slice A2 l2.length c2, .bool false]) (some l2) := ⟨A2, c2, rfl, hc2, hF2, hBy2⟩; have hX5A := Aside0.mk (hX4A.out.below hb); have hZ5A := Aside0.mk (hZ4A.out.below hb); have hb5A := Aside0.mk (below_then hb4A.out hb4A.out.size hb); have hD5A := Aside0.mk hD5; clear hb hD5 x0 x1)) | (refine wpList_put_blk rfl 79 (.tmp 2) (.tmp 14) rfl w.heap.size 79 [.slice A1 l1.length c1, .bool false] [.slice A l.length c, .bool r.isNone] rfl rfl rfl hX3A.out (info_in2 _ _) (by intro u hu; simp at hu; rcases hu with rfl | rfl <;> rfl) ?_; intro w4 hX4 hg4 hs4; have x0 := hX4.get 0 _ rfl; have x1 := hX4.get 1 _ rfl; have hX4A := Aside0.mk hX4; have hZ4A := Aside0.mk (hZ3A.out.grown hg4 (by intro e; have := Option.some.inj e; omega)); have hb4A := Aside0.mk (hb3A.out.grown hg4 hb3A.out.size (fun k e => by have := Option.some.inj e; omega)); have hD4A := Aside0.mk (hD3A.out.grown hg4 (by intro k hk e; have := Option.some.inj e; rcases hk with hk | hk <;> omega)); clear hg4 hX4) | (refine wpList_put_blk rfl 79 (.tmp 2) (.tmp 26) rfl w.heap.size 79 [.slice A2 l2.length c2, .bool false] [.slice A1 l1.length c1, .bool false] rfl rfl rfl hX5A.out (info_in2 _ _) (by intro u hu; simp at hu; rcases hu with rfl | rfl <;> rfl) ?_; intro w6 hX6 hg6 hs6; have x0 := hX6.get 0 _ rfl; have x1 := hX6.get 1 _ rfl; have hX6A := Aside0.mk hX6; have hZ6A := Aside0.mk (hZ5A.out.grown hg6 (by intro e; have := Option.some.inj e; omega)); have hb6A := Aside0.mk (hb5A.out.grown hg6 hb5A.out.size (fun k e => by have := Option.some.inj e; omega)); have hD6A := Aside0.mk (hD5A.out.grown hg6 (by intro k hk e; have := Option.some.inj e; rcases hk with (hk | hk) | hk <;> omega)); clear hg6 hX6))
              refine wp_region_noPanic ?_
              have hx0A := Aside0.mk (fun W' (hW : Below w6.heap.size w6 W') => (hX6A.out.below hW).get 0 _ rfl)
              have hx1A := Aside0.mk (fun W' (hW : Below w6.heap.size w6 W') => (hX6A.out.below hW).get 1 _ rfl)
              clear x0 x1
              have H0 : Below w6.heap.size w6 w6.drew := pw_below_drewN (Below.refl _ _) 1
              refine wp_region_held_drew (S := fun V1 => Below w6.heap.size w6 V1) (by kernel_rfl) H0 (fun _ => ?_)
              generalize w6.drew = V0 at *
              refine wpAnyH_take (i := 0) (v := .pointer (some ⟨w.heap.size, 1, none⟩)) (op_at rfl) (by kernel_rfl) (by kernel_rfl) (by kernel_rfl) (fun _ _ _ h => h) (Or.inl ⟨by rfl, fun w_ hSw => ?_⟩) H0 ?_
              · skip; go_simp
              try simp only [Act.put, List.setIfInBounds_toArray, List.set_cons_zero, List.set_cons_succ]
              refine wpAnyH_take (i := 1) (v := .bool false) (op_at rfl) (by kernel_rfl) (by kernel_rfl) (by kernel_rfl) (fun _ _ _ h => h) (Or.inl ⟨by rfl, fun w_ hSw => ?_⟩) H0 ?_
              · have hc_ := hx1A.out w_ hSw; go_simp
              try simp only [Act.put, List.setIfInBounds_toArray, List.set_cons_zero, List.set_cons_succ]
              refine wpAnyH_take (i := 2) (v := .bool false) (op_at rfl) (by kernel_rfl) (by kernel_rfl) (by kernel_rfl) (fun _ _ _ h => h) (Or.inl ⟨by rfl, fun w_ hSw => ?_⟩) H0 ?_
              · skip; go_simp
              try simp only [Act.put, List.setIfInBounds_toArray, List.set_cons_zero, List.set_cons_succ]
              refine wpAnyH_take (i := 3) (v := .int .i64 z) (op_at rfl) (by kernel_rfl) (by kernel_rfl) (by kernel_rfl) (fun _ _ _ h => h) (Or.inl ⟨by rfl, fun w_ hSw => ?_⟩) H0 ?_
              · skip; go_simp
              try simp only [Act.put, List.setIfInBounds_toArray, List.set_cons_zero, List.set_cons_succ]
              refine wpAnyH_take (i := 4) (v := .bool false) (op_at rfl) (by kernel_rfl) (by kernel_rfl) (by kernel_rfl) (fun _ _ _ h => h) (Or.inl ⟨by rfl, fun w_ hSw => ?_⟩) H0 ?_
              · skip; go_simp
              try simp only [Act.put, List.setIfInBounds_toArray, List.set_cons_zero, List.set_cons_succ]
              refine wpAnyH_take (i := 5) (v := .bool false) (op_at rfl) (by kernel_rfl) (by kernel_rfl) (by kernel_rfl) (fun _ _ _ h => h) (Or.inl ⟨by rfl, fun w_ hSw => ?_⟩) H0 ?_
              · skip; go_simp
              try simp only [Act.put, List.setIfInBounds_toArray, List.set_cons_zero, List.set_cons_succ]
              refine wpAnyH_take (i := 6) (v := .bool false) (op_at rfl) (by kernel_rfl) (by kernel_rfl) (by kernel_rfl) (fun _ _ _ h => h) (Or.inl ⟨by rfl, fun w_ hSw => ?_⟩) H0 ?_
              · skip; go_simp
              try simp only [Act.put, List.setIfInBounds_toArray, List.set_cons_zero, List.set_cons_succ]
              refine wpAnyH_take (i := 7) (v := .int .u64 m) (op_at rfl) (by kernel_rfl) (by kernel_rfl) (by kernel_rfl) (fun _ _ _ h => h) (Or.inl ⟨by rfl, fun w_ hSw => ?_⟩) H0 ?_
              · skip; go_simp
              try simp only [Act.put, List.setIfInBounds_toArray, List.set_cons_zero, List.set_cons_succ]
              refine wpAnyH_take (i := 8) (v := .int .i64 z) (op_at rfl) (by kernel_rfl) (by kernel_rfl) (by kernel_rfl) (fun _ _ _ h => h) (Or.inl ⟨by rfl, fun w_ hSw => ?_⟩) H0 ?_
              · skip; go_simp
              try simp only [Act.put, List.setIfInBounds_toArray, List.set_cons_zero, List.set_cons_succ]
              refine wpAnyH_take (i := 9) (v := .int .u64 z) (op_at rfl) (by kernel_rfl) (by kernel_rfl) (by kernel_rfl) (fun _ _ _ h => h) (Or.inl ⟨by rfl, fun w_ hSw => ?_⟩) H0 ?_
              · skip; go_simp
              try simp only [Act.put, List.setIfInBounds_toArray, List.set_cons_zero, List.set_cons_succ]
              refine wpAnyH_take (i := 10) (v := .bool false) (op_at rfl) (by kernel_rfl) (by kernel_rfl) (by kernel_rfl) (fun _ _ _ h => h) (Or.inl ⟨by rfl, fun w_ hSw => ?_⟩) H0 ?_
              · skip; go_simp
              try simp only [Act.put, List.setIfInBounds_toArray, List.set_cons_zero, List.set_cons_succ]
              refine wpAnyH_take (i := 11) (v := .bool false) (op_at rfl) (by kernel_rfl) (by kernel_rfl) (by kernel_rfl) (fun _ _ _ h => h) (Or.inl ⟨by rfl, fun w_ hSw => ?_⟩) H0 ?_
              · skip; go_simp
              try simp only [Act.put, List.setIfInBounds_toArray, List.set_cons_zero, List.set_cons_succ]
              refine wpAnyH_take (i := 12) (v := .bool false) (op_at rfl) (by kernel_rfl) (by kernel_rfl) (by kernel_rfl) (fun _ _ _ h => h) (Or.inl ⟨by rfl, fun w_ hSw => ?_⟩) H0 ?_
              · skip; go_simp
              try simp only [Act.put, List.setIfInBounds_toArray, List.set_cons_zero, List.set_cons_succ]
              refine wpAnyH_take (i := 13) (v := .int .u64 m) (op_at rfl) (by kernel_rfl) (by kernel_rfl) (by kernel_rfl) (fun _ _ _ h => h) (Or.inl ⟨by rfl, fun w_ hSw => ?_⟩) H0 ?_
              · skip; go_simp
              try simp only [Act.put, List.setIfInBounds_toArray, List.set_cons_zero, List.set_cons_succ]
              refine wpAnyH_take (i := 14) (v := .int .i64 m) (op_at rfl) (by kernel_rfl) (by kernel_rfl) (by kernel_rfl) (fun _ _ _ h => h) (Or.inl ⟨by rfl, fun w_ hSw => ?_⟩) H0 ?_
              · skip; go_simp
              try simp only [Act.put, List.setIfInBounds_toArray, List.set_cons_zero, List.set_cons_succ]
              refine wpAnyH_take (i := 17) (v := .pointer (some ⟨w.heap.size, 0, none⟩)) (op_at rfl) (by kernel_rfl) (by kernel_rfl) (by kernel_rfl) (fun _ _ _ h => h) (Or.inl ⟨by rfl, fun w_ hSw => ?_⟩) H0 ?_
              · skip; go_simp
              try simp only [Act.put, List.setIfInBounds_toArray, List.set_cons_zero, List.set_cons_succ]
              refine wpAnyH_take (i := 18) (v := .slice A2 l2.length c2) (op_at rfl) (by kernel_rfl) (by kernel_rfl) (by kernel_rfl) (fun _ _ _ h => h) (Or.inl ⟨by rfl, fun w_ hSw => ?_⟩) H0 ?_
              · have hc_ := hx0A.out w_ hSw; go_simp
              try simp only [Act.put, List.setIfInBounds_toArray, List.set_cons_zero, List.set_cons_succ]
              refine wpAnyH_take (i := 19) (v := .int .i64 (l2.length : Int)) (op_at rfl) (by kernel_rfl) (by kernel_rfl) (by kernel_rfl) (fun _ _ _ h => h) (Or.inl ⟨by rfl, fun w_ hSw => ?_⟩) H0 ?_
              · skip; go_simp
              try simp only [Act.put, List.setIfInBounds_toArray, List.set_cons_zero, List.set_cons_succ]
              refine wpAnyH_take (i := 21) (v := .slice A l.length c) (op_at rfl) (by kernel_rfl) (by kernel_rfl) (by kernel_rfl) (fun _ _ _ h => h) (Or.inl ⟨by rfl, fun w_ hSw => ?_⟩) H0 ?_
              · skip; go_simp
              try simp only [Act.put, List.setIfInBounds_toArray, List.set_cons_zero, List.set_cons_succ]
              refine wpAnyH_take (i := 22) (v := .int .i64 (l.length : Int)) (op_at rfl) (by kernel_rfl) (by kernel_rfl) (by kernel_rfl) (fun _ _ _ h => h) (Or.inl ⟨by rfl, fun w_ hSw => ?_⟩) H0 ?_
              · skip; go_simp
              try simp only [Act.put, List.setIfInBounds_toArray, List.set_cons_zero, List.set_cons_succ]
              refine wpAnyH_ready (rs := [15]) (by kernel_rfl) (by simp) ?_
              refine AllReadyH.cons (op_at rfl) (fun K hK => ?_) AllReadyH.nil
              go_simp
              go_at_call 59
              with_reducible refine (hcnA.out V0).mono ?_
              rintro e V1_ ⟨⟨A_, c_, rfl⟩, hb⟩
              go_wp2_with fail
              refine hK.out _ _ (below_then H0 H0.size hb) (fun H1_ => ?_)
              clear hK K hb
              try simp only [Act.put, List.setIfInBounds_toArray, List.set_cons_zero, List.set_cons_succ]
              refine wpAnyH_take (i := 16) (v := .int .i64 (L : Int)) (op_at rfl) (by kernel_rfl) (by kernel_rfl) (by kernel_rfl) (fun _ _ _ h => h) (Or.inl ⟨by rfl, fun w_ hSw => ?_⟩) H1_ ?_
              · skip; go_simp
              try simp only [Act.put, List.setIfInBounds_toArray, List.set_cons_zero, List.set_cons_succ]
              refine wpAnyH_take (i := 20) (v := .int .i64 ((L : Int) + (l2.length : Int))) (op_at rfl) (by kernel_rfl) (by kernel_rfl) (by kernel_rfl) (fun _ _ _ h => h) (Or.inl ⟨by rfl, fun w_ hSw => ?_⟩) H1_ ?_
              · skip; go_simp
              try simp only [Act.put, List.setIfInBounds_toArray, List.set_cons_zero, List.set_cons_succ]
              refine wpAnyH_take (i := 23) (v := .bool false) (op_at rfl) (by kernel_rfl) (by kernel_rfl) (by kernel_rfl) (fun _ _ _ h => h) (Or.inl ⟨by rfl, fun w_ hSw => ?_⟩) H1_ ?_
              · skip; go_simp
              try simp only [Act.put, List.setIfInBounds_toArray, List.set_cons_zero, List.set_cons_succ]
              refine wpAnyH_take (i := 24) (v := .bool false) (op_at rfl) (by kernel_rfl) (by kernel_rfl) (by kernel_rfl) (fun _ _ _ h => h) (Or.inl ⟨by rfl, fun w_ hSw => ?_⟩) H1_ ?_
              · skip; go_simp
              try simp only [Act.put, List.setIfInBounds_toArray, List.set_cons_zero, List.set_cons_succ]
              refine wpAnyH_done (by kernel_rfl) ?_ _
              refine NoPanic.normal ?_
              have hHA := Aside0.mk H1_
              have e64 : IntKind.i64.wrap m = m := IntWalk.i64_in _ (by omega)
              go_wp2_with (first | ((with_reducible refine gate_dst (N := 54) rfl ?_); refine wpList_load_blk rfl 79 (.tmp 2) rfl w.heap.size 79 rfl [.slice A2 l2.length c2, .bool false] _ (hX6A.out.below hHA.out) Try.underlying79 rfl (info_in2 _ _) ?_) | (refine wpList_put_blk rfl 79 (.tmp 4) (.tmp 54) rfl (w.heap.size + 1) 79 [.slice A2 l2.length c2, .bool false] [.slice none 0 0, .bool false] rfl rfl rfl (hZ6A.out.below hHA.out) (info_in2 _ _) (by intro u hu; simp at hu; rcases hu with rfl | rfl <;> rfl) ?_; intro w9 hZ9 hg9 hs9))
              exact bodyPost_ret (results_ct rfl _ _ (w.heap.size + 1) 79 #[.slice A2 l2.length c2, .bool false] (0, 0) _ rfl hZ9 Try.underlying79 rfl (info_in2 _ _)) rfl ⟨⟨_, by rw [enA.out]; rfl, ((hD6A.out.below hHA.out).grown hg9 (by intro k hk e; have := Option.some.inj e; rcases hk with (hk | hk) | hk <;> omega)).mono (fun k h1 h2 => by rcases h1 with (h1 | h1) | h1; exact .inl h1.1; all_goals exact .inr (by omega))⟩, (below_then hb6A.out hb6A.out.size hHA.out).grown hg9 (below_then hb6A.out hb6A.out.size hHA.out).size (fun k e => by have := Option.some.inj e; omega)⟩
            · rw [count_wide_bad hz1A.out (k := 2) rfl (by decide) hz2A.out (.inl q3)]
              have hL2 : ¬ L = 3 := fun h => q3 (hmk.2 h)
              have p3 : ¬ ((L : Int) + (l2.length : Int)) = (l.length : Int) := by omega
              clear hmk q3 hL hm0 hL2 hl hl3 hL5
              go_enter Try.func41, Try.ntmps41
              go_wp2_with (first | ((with_reducible refine gate_dst (N := 9) rfl ?_); rw [show (w.alloc (.cells #[.slice A l.length c, .bool r.isNone] 79)).alloc (.cells #[.slice none 0 0, .bool false] 79) = V from hVA.out.symm]) | (go_at_call 43; first | ((with_reducible refine hcA.out.mono ?_); rintro e w3 ⟨⟨v1, rfl, hD⟩, hb⟩; obtain ⟨A1, c1, rfl, hc1, hF1, hBy1⟩ := hD; have hD3 : DR (fun k => (ok k ∧ k < w.heap.size) ∨ V.heap.size ≤ k) w3 (.agg #[.slice A1 l1.length c1, .bool false]) (some l1) := ⟨A1, c1, rfl, hc1, hF1, hBy1⟩; have hS3 : w.heap.size + 2 ≤ w3.heap.size := (by have := hb.size; omega); have hX3A := Aside0.mk (hXA.out.below hb); have hZ3A := Aside0.mk (hZA.out.below hb); have hb3A := Aside0.mk (below_then hBA.out hBA.out.size hb); have hD3A := Aside0.mk hD3; clear hb hD3 x0 x1) | ((with_reducible refine (hc2A.out _ _ hD4A.out).mono ?_); rintro e w5 ⟨⟨v1, rfl, hD⟩, hb⟩; obtain ⟨A2, c2, rfl, hc2, hF2, hBy2⟩ := hD; have hD5 : DR (fun k => ((ok k ∧ k < w.heap.size) ∨ V.heap.size ≤ k) ∨ w4.heap.size ≤ k) w5 (.agg #[.slice A2 l2.length c2, .bool false]) (some l2) := ⟨A2, c2, rfl, hc2, hF2, hBy2⟩; have hX5A := Aside0.mk (hX4A.out.below hb); have hZ5A := Aside0.mk (hZ4A.out.below hb); have hb5A := Aside0.mk (below_then hb4A.out hb4A.out.size hb); have hD5A := Aside0.mk hD5; clear hb hD5 x0 x1)) | (refine wpList_put_blk rfl 79 (.tmp 2) (.tmp 14) rfl w.heap.size 79 [.slice A1 l1.length c1, .bool false] [.slice A l.length c, .bool r.isNone] rfl rfl rfl hX3A.out (info_in2 _ _) (by intro u hu; simp at hu; rcases hu with rfl | rfl <;> rfl) ?_; intro w4 hX4 hg4 hs4; have x0 := hX4.get 0 _ rfl; have x1 := hX4.get 1 _ rfl; have hX4A := Aside0.mk hX4; have hZ4A := Aside0.mk (hZ3A.out.grown hg4 (by intro e; have := Option.some.inj e; omega)); have hb4A := Aside0.mk (hb3A.out.grown hg4 hb3A.out.size (fun k e => by have := Option.some.inj e; omega)); have hD4A := Aside0.mk (hD3A.out.grown hg4 (by intro k hk e; have := Option.some.inj e; rcases hk with hk | hk <;> omega)); clear hg4 hX4) | (refine wpList_put_blk rfl 79 (.tmp 2) (.tmp 26) rfl w.heap.size 79 [.slice A2 l2.length c2, .bool false] [.slice A1 l1.length c1, .bool false] rfl rfl rfl hX5A.out (info_in2 _ _) (by intro u hu; simp at hu; rcases hu with rfl | rfl <;> rfl) ?_; intro w6 hX6 hg6 hs6; have x0 := hX6.get 0 _ rfl; have x1 := hX6.get 1 _ rfl; have hX6A := Aside0.mk hX6; have hZ6A := Aside0.mk (hZ5A.out.grown hg6 (by intro e; have := Option.some.inj e; omega)); have hb6A := Aside0.mk (hb5A.out.grown hg6 hb5A.out.size (fun k e => by have := Option.some.inj e; omega)); have hD6A := Aside0.mk (hD5A.out.grown hg6 (by intro k hk e; have := Option.some.inj e; rcases hk with (hk | hk) | hk <;> omega)); clear hg6 hX6))
              refine wp_region_noPanic ?_
              have hx0A := Aside0.mk (fun W' (hW : Below w6.heap.size w6 W') => (hX6A.out.below hW).get 0 _ rfl)
              have hx1A := Aside0.mk (fun W' (hW : Below w6.heap.size w6 W') => (hX6A.out.below hW).get 1 _ rfl)
              clear x0 x1
              have H0 : Below w6.heap.size w6 w6.drew := pw_below_drewN (Below.refl _ _) 1
              refine wp_region_held_drew (S := fun V1 => Below w6.heap.size w6 V1) (by kernel_rfl) H0 (fun _ => ?_)
              generalize w6.drew = V0 at *
              refine wpAnyH_take (i := 0) (v := .pointer (some ⟨w.heap.size, 1, none⟩)) (op_at rfl) (by kernel_rfl) (by kernel_rfl) (by kernel_rfl) (fun _ _ _ h => h) (Or.inl ⟨by rfl, fun w_ hSw => ?_⟩) H0 ?_
              · skip; go_simp
              try simp only [Act.put, List.setIfInBounds_toArray, List.set_cons_zero, List.set_cons_succ]
              refine wpAnyH_take (i := 1) (v := .bool false) (op_at rfl) (by kernel_rfl) (by kernel_rfl) (by kernel_rfl) (fun _ _ _ h => h) (Or.inl ⟨by rfl, fun w_ hSw => ?_⟩) H0 ?_
              · have hc_ := hx1A.out w_ hSw; go_simp
              try simp only [Act.put, List.setIfInBounds_toArray, List.set_cons_zero, List.set_cons_succ]
              refine wpAnyH_take (i := 2) (v := .bool false) (op_at rfl) (by kernel_rfl) (by kernel_rfl) (by kernel_rfl) (fun _ _ _ h => h) (Or.inl ⟨by rfl, fun w_ hSw => ?_⟩) H0 ?_
              · skip; go_simp
              try simp only [Act.put, List.setIfInBounds_toArray, List.set_cons_zero, List.set_cons_succ]
              refine wpAnyH_take (i := 3) (v := .int .i64 z) (op_at rfl) (by kernel_rfl) (by kernel_rfl) (by kernel_rfl) (fun _ _ _ h => h) (Or.inl ⟨by rfl, fun w_ hSw => ?_⟩) H0 ?_
              · skip; go_simp
              try simp only [Act.put, List.setIfInBounds_toArray, List.set_cons_zero, List.set_cons_succ]
              refine wpAnyH_take (i := 4) (v := .bool false) (op_at rfl) (by kernel_rfl) (by kernel_rfl) (by kernel_rfl) (fun _ _ _ h => h) (Or.inl ⟨by rfl, fun w_ hSw => ?_⟩) H0 ?_
              · skip; go_simp
              try simp only [Act.put, List.setIfInBounds_toArray, List.set_cons_zero, List.set_cons_succ]
              refine wpAnyH_take (i := 5) (v := .bool false) (op_at rfl) (by kernel_rfl) (by kernel_rfl) (by kernel_rfl) (fun _ _ _ h => h) (Or.inl ⟨by rfl, fun w_ hSw => ?_⟩) H0 ?_
              · skip; go_simp
              try simp only [Act.put, List.setIfInBounds_toArray, List.set_cons_zero, List.set_cons_succ]
              refine wpAnyH_take (i := 6) (v := .bool false) (op_at rfl) (by kernel_rfl) (by kernel_rfl) (by kernel_rfl) (fun _ _ _ h => h) (Or.inl ⟨by rfl, fun w_ hSw => ?_⟩) H0 ?_
              · skip; go_simp
              try simp only [Act.put, List.setIfInBounds_toArray, List.set_cons_zero, List.set_cons_succ]
              refine wpAnyH_take (i := 7) (v := .int .u64 m) (op_at rfl) (by kernel_rfl) (by kernel_rfl) (by kernel_rfl) (fun _ _ _ h => h) (Or.inl ⟨by rfl, fun w_ hSw => ?_⟩) H0 ?_
              · skip; go_simp
              try simp only [Act.put, List.setIfInBounds_toArray, List.set_cons_zero, List.set_cons_succ]
              refine wpAnyH_take (i := 8) (v := .int .i64 z) (op_at rfl) (by kernel_rfl) (by kernel_rfl) (by kernel_rfl) (fun _ _ _ h => h) (Or.inl ⟨by rfl, fun w_ hSw => ?_⟩) H0 ?_
              · skip; go_simp
              try simp only [Act.put, List.setIfInBounds_toArray, List.set_cons_zero, List.set_cons_succ]
              refine wpAnyH_take (i := 9) (v := .int .u64 z) (op_at rfl) (by kernel_rfl) (by kernel_rfl) (by kernel_rfl) (fun _ _ _ h => h) (Or.inl ⟨by rfl, fun w_ hSw => ?_⟩) H0 ?_
              · skip; go_simp
              try simp only [Act.put, List.setIfInBounds_toArray, List.set_cons_zero, List.set_cons_succ]
              refine wpAnyH_take (i := 10) (v := .bool false) (op_at rfl) (by kernel_rfl) (by kernel_rfl) (by kernel_rfl) (fun _ _ _ h => h) (Or.inl ⟨by rfl, fun w_ hSw => ?_⟩) H0 ?_
              · skip; go_simp
              try simp only [Act.put, List.setIfInBounds_toArray, List.set_cons_zero, List.set_cons_succ]
              refine wpAnyH_take (i := 11) (v := .bool false) (op_at rfl) (by kernel_rfl) (by kernel_rfl) (by kernel_rfl) (fun _ _ _ h => h) (Or.inl ⟨by rfl, fun w_ hSw => ?_⟩) H0 ?_
              · skip; go_simp
              try simp only [Act.put, List.setIfInBounds_toArray, List.set_cons_zero, List.set_cons_succ]
              refine wpAnyH_take (i := 12) (v := .bool false) (op_at rfl) (by kernel_rfl) (by kernel_rfl) (by kernel_rfl) (fun _ _ _ h => h) (Or.inl ⟨by rfl, fun w_ hSw => ?_⟩) H0 ?_
              · skip; go_simp
              try simp only [Act.put, List.setIfInBounds_toArray, List.set_cons_zero, List.set_cons_succ]
              refine wpAnyH_take (i := 13) (v := .int .u64 m) (op_at rfl) (by kernel_rfl) (by kernel_rfl) (by kernel_rfl) (fun _ _ _ h => h) (Or.inl ⟨by rfl, fun w_ hSw => ?_⟩) H0 ?_
              · skip; go_simp
              try simp only [Act.put, List.setIfInBounds_toArray, List.set_cons_zero, List.set_cons_succ]
              refine wpAnyH_take (i := 14) (v := .int .i64 m) (op_at rfl) (by kernel_rfl) (by kernel_rfl) (by kernel_rfl) (fun _ _ _ h => h) (Or.inl ⟨by rfl, fun w_ hSw => ?_⟩) H0 ?_
              · skip; go_simp
              try simp only [Act.put, List.setIfInBounds_toArray, List.set_cons_zero, List.set_cons_succ]
              refine wpAnyH_take (i := 17) (v := .pointer (some ⟨w.heap.size, 0, none⟩)) (op_at rfl) (by kernel_rfl) (by kernel_rfl) (by kernel_rfl) (fun _ _ _ h => h) (Or.inl ⟨by rfl, fun w_ hSw => ?_⟩) H0 ?_
              · skip; go_simp
              try simp only [Act.put, List.setIfInBounds_toArray, List.set_cons_zero, List.set_cons_succ]
              refine wpAnyH_take (i := 18) (v := .slice A2 l2.length c2) (op_at rfl) (by kernel_rfl) (by kernel_rfl) (by kernel_rfl) (fun _ _ _ h => h) (Or.inl ⟨by rfl, fun w_ hSw => ?_⟩) H0 ?_
              · have hc_ := hx0A.out w_ hSw; go_simp
              try simp only [Act.put, List.setIfInBounds_toArray, List.set_cons_zero, List.set_cons_succ]
              refine wpAnyH_take (i := 19) (v := .int .i64 (l2.length : Int)) (op_at rfl) (by kernel_rfl) (by kernel_rfl) (by kernel_rfl) (fun _ _ _ h => h) (Or.inl ⟨by rfl, fun w_ hSw => ?_⟩) H0 ?_
              · skip; go_simp
              try simp only [Act.put, List.setIfInBounds_toArray, List.set_cons_zero, List.set_cons_succ]
              refine wpAnyH_take (i := 21) (v := .slice A l.length c) (op_at rfl) (by kernel_rfl) (by kernel_rfl) (by kernel_rfl) (fun _ _ _ h => h) (Or.inl ⟨by rfl, fun w_ hSw => ?_⟩) H0 ?_
              · skip; go_simp
              try simp only [Act.put, List.setIfInBounds_toArray, List.set_cons_zero, List.set_cons_succ]
              refine wpAnyH_take (i := 22) (v := .int .i64 (l.length : Int)) (op_at rfl) (by kernel_rfl) (by kernel_rfl) (by kernel_rfl) (fun _ _ _ h => h) (Or.inl ⟨by rfl, fun w_ hSw => ?_⟩) H0 ?_
              · skip; go_simp
              try simp only [Act.put, List.setIfInBounds_toArray, List.set_cons_zero, List.set_cons_succ]
              refine wpAnyH_ready (rs := [15]) (by kernel_rfl) (by simp) ?_
              refine AllReadyH.cons (op_at rfl) (fun K hK => ?_) AllReadyH.nil
              go_simp
              go_at_call 59
              with_reducible refine (hcnA.out V0).mono ?_
              rintro e V1_ ⟨⟨A_, c_, rfl⟩, hb⟩
              go_wp2_with fail
              refine hK.out _ _ (below_then H0 H0.size hb) (fun H1_ => ?_)
              clear hK K hb
              try simp only [Act.put, List.setIfInBounds_toArray, List.set_cons_zero, List.set_cons_succ]
              refine wpAnyH_take (i := 16) (v := .int .i64 (L : Int)) (op_at rfl) (by kernel_rfl) (by kernel_rfl) (by kernel_rfl) (fun _ _ _ h => h) (Or.inl ⟨by rfl, fun w_ hSw => ?_⟩) H1_ ?_
              · skip; go_simp
              try simp only [Act.put, List.setIfInBounds_toArray, List.set_cons_zero, List.set_cons_succ]
              refine wpAnyH_take (i := 20) (v := .int .i64 ((L : Int) + (l2.length : Int))) (op_at rfl) (by kernel_rfl) (by kernel_rfl) (by kernel_rfl) (fun _ _ _ h => h) (Or.inl ⟨by rfl, fun w_ hSw => ?_⟩) H1_ ?_
              · skip; go_simp
              try simp only [Act.put, List.setIfInBounds_toArray, List.set_cons_zero, List.set_cons_succ]
              refine wpAnyH_take (i := 23) (v := .bool true) (op_at rfl) (by kernel_rfl) (by kernel_rfl) (by kernel_rfl) (fun _ _ _ h => h) (Or.inl ⟨by rfl, fun w_ hSw => ?_⟩) H1_ ?_
              · skip; go_simp
              try simp only [Act.put, List.setIfInBounds_toArray, List.set_cons_zero, List.set_cons_succ]
              refine wpAnyH_take (i := 24) (v := .bool true) (op_at rfl) (by kernel_rfl) (by kernel_rfl) (by kernel_rfl) (fun _ _ _ h => h) (Or.inl ⟨by rfl, fun w_ hSw => ?_⟩) H1_ ?_
              · skip; go_simp
              try simp only [Act.put, List.setIfInBounds_toArray, List.set_cons_zero, List.set_cons_succ]
              refine wpAnyH_done (by kernel_rfl) ?_ _
              refine NoPanic.normal ?_
              have hHA := Aside0.mk H1_
              go_wp2_with (first | (go_at_call 60; ((with_reducible refine (dwrong_calls _).mono ?_); rintro e w8 ⟨⟨A8, c8, rfl⟩, hb⟩; have hZ8A := Aside0.mk ((hZ6A.out.below hHA.out).below hb); have hb8A := Aside0.mk (below_then (below_then hb6A.out hb6A.out.size hHA.out) (below_then hb6A.out hb6A.out.size hHA.out).size hb); clear hb)) | (refine wpList_put_blk rfl 79 (.tmp 4) (.tmp 53) rfl (w.heap.size + 1) 79 [.slice A8 0 c8, .bool true] [.slice none 0 0, .bool false] rfl rfl rfl hZ8A.out (info_in2 _ _) (by intro u hu; simp at hu; rcases hu with rfl | rfl <;> rfl) ?_; intro w9 hZ9 hg9 hs9))
              exact bodyPost_ret (results_ct rfl _ _ (w.heap.size + 1) 79 #[.slice A8 0 c8, .bool true] (0, 0) _ rfl hZ9 Try.underlying79 rfl (info_in2 _ _)) rfl ⟨⟨_, rfl, A8, c8, rfl⟩, hb8A.out.grown hg9 hb8A.out.size (fun k e => by have := Option.some.inj e; omega)⟩
      · have hb2 := num_bound (n := 4) hrl
        have hn0 := num_zero (n := 4) (r := some l1)
        have hl8 : ∀ l', (rdNum 4 (some l1)).2 = some l' → (l1.length : Int) = 4 + (l'.length : Int) := fun l' e => by have := num_len (r' := none) e (fun m h => by cases h; rfl); omega
        have hc2A := Aside0.mk (fun W (u : Value) (h : DR (fun k => (ok k ∧ k < w.heap.size) ∨ V.heap.size ≤ k) W u (some l1)) => dnum_at 4 4 rfl (by simp) h)
        obtain ⟨m, hm1⟩ : ∃ m, (rdNum 4 (some l1)).1 = m := ⟨_, rfl⟩
        obtain ⟨r2, hr2⟩ : ∃ r2, (rdNum 4 (some l1)).2 = r2 := ⟨_, rfl⟩
        have hz2 : rdNum 4 (some l1) = (m, r2) := by rw [← hm1, ← hr2]
        rw [hm1] at hb2 hc2A hn0
        rw [hr2] at hc2A hl8 hn0
        have hz2A := Aside0.mk hz2
        clear hm1 hr2 hz2
        cases r2 with
        | none =>
          obtain rfl : m = 0 := hn0 rfl
          rw [count_wide_bad hz1A.out (k := 4) rfl (by decide) hz2A.out (.inr (.inl rfl))]
          clear hl8 hn0 hl
          go_enter Try.func41, Try.ntmps41
          go_wp2_with (first | ((with_reducible refine gate_dst (N := 9) rfl ?_); rw [show (w.alloc (.cells #[.slice A l.length c, .bool r.isNone] 79)).alloc (.cells #[.slice none 0 0, .bool false] 79) = V from hVA.out.symm]) | (go_at_call 43; first | ((with_reducible refine hcA.out.mono ?_); rintro e w3 ⟨⟨v1, rfl, hD⟩, hb⟩; obtain ⟨A1, c1, rfl, hc1, hF1, hBy1⟩ := hD; have hD3 : DR (fun k => (ok k ∧ k < w.heap.size) ∨ V.heap.size ≤ k) w3 (.agg #[.slice A1 l1.length c1, .bool false]) (some l1) := ⟨A1, c1, rfl, hc1, hF1, hBy1⟩; have hS3 : w.heap.size + 2 ≤ w3.heap.size := (by have := hb.size; omega); have hX3A := Aside0.mk (hXA.out.below hb); have hZ3A := Aside0.mk (hZA.out.below hb); have hb3A := Aside0.mk (below_then hBA.out hBA.out.size hb); have hD3A := Aside0.mk hD3; clear hb hD3 x0 x1) | ((with_reducible refine (hc2A.out _ _ hD4A.out).mono ?_); rintro e w5 ⟨⟨v1, rfl, hD⟩, hb⟩; obtain ⟨A2, c2, rfl⟩ := hD; have hD5 := True.intro; have hX5A := Aside0.mk (hX4A.out.below hb); have hZ5A := Aside0.mk (hZ4A.out.below hb); have hb5A := Aside0.mk (below_then hb4A.out hb4A.out.size hb); have hD5A := Aside0.mk hD5; clear hb hD5 x0 x1)) | (refine wpList_put_blk rfl 79 (.tmp 2) (.tmp 14) rfl w.heap.size 79 [.slice A1 l1.length c1, .bool false] [.slice A l.length c, .bool r.isNone] rfl rfl rfl hX3A.out (info_in2 _ _) (by intro u hu; simp at hu; rcases hu with rfl | rfl <;> rfl) ?_; intro w4 hX4 hg4 hs4; have x0 := hX4.get 0 _ rfl; have x1 := hX4.get 1 _ rfl; have hX4A := Aside0.mk hX4; have hZ4A := Aside0.mk (hZ3A.out.grown hg4 (by intro e; have := Option.some.inj e; omega)); have hb4A := Aside0.mk (hb3A.out.grown hg4 hb3A.out.size (fun k e => by have := Option.some.inj e; omega)); have hD4A := Aside0.mk (hD3A.out.grown hg4 (by intro k hk e; have := Option.some.inj e; rcases hk with hk | hk <;> omega)); clear hg4 hX4) | (refine wpList_put_blk rfl 79 (.tmp 2) (.tmp 26) rfl w.heap.size 79 [.slice A2 0 c2, .bool true] [.slice A1 l1.length c1, .bool false] rfl rfl rfl hX5A.out (info_in2 _ _) (by intro u hu; simp at hu; rcases hu with rfl | rfl <;> rfl) ?_; intro w6 hX6 hg6 hs6; have x0 := hX6.get 0 _ rfl; have x1 := hX6.get 1 _ rfl; have hX6A := Aside0.mk hX6; have hZ6A := Aside0.mk (hZ5A.out.grown hg6 (by intro e; have := Option.some.inj e; omega)); have hb6A := Aside0.mk (hb5A.out.grown hg6 hb5A.out.size (fun k e => by have := Option.some.inj e; omega)); have hD6A := Aside0.mk (True.intro); clear hg6 hX6))
          refine wp_region_noPanic ?_
          have hx0A := Aside0.mk (fun W' (hW : Below w6.heap.size w6 W') => (hX6A.out.below hW).get 0 _ rfl)
          have hx1A := Aside0.mk (fun W' (hW : Below w6.heap.size w6 W') => (hX6A.out.below hW).get 1 _ rfl)
          clear x0 x1
          have H0 : Below w6.heap.size w6 w6.drew := pw_below_drewN (Below.refl _ _) 1
          refine wp_region_held_drew (S := fun V1 => Below w6.heap.size w6 V1) (by kernel_rfl) H0 (fun _ => ?_)
          generalize w6.drew = V0 at *
          refine wpAnyH_take (i := 0) (v := .pointer (some ⟨w.heap.size, 1, none⟩)) (op_at rfl) (by kernel_rfl) (by kernel_rfl) (by kernel_rfl) (fun _ _ _ h => h) (Or.inl ⟨by rfl, fun w_ hSw => ?_⟩) H0 ?_
          · skip; go_simp
          try simp only [Act.put, List.setIfInBounds_toArray, List.set_cons_zero, List.set_cons_succ]
          refine wpAnyH_take (i := 1) (v := .bool true) (op_at rfl) (by kernel_rfl) (by kernel_rfl) (by kernel_rfl) (fun _ _ _ h => h) (Or.inl ⟨by rfl, fun w_ hSw => ?_⟩) H0 ?_
          · have hc_ := hx1A.out w_ hSw; go_simp
          try simp only [Act.put, List.setIfInBounds_toArray, List.set_cons_zero, List.set_cons_succ]
          refine wpAnyH_take (i := 2) (v := .bool true) (op_at rfl) (by kernel_rfl) (by kernel_rfl) (by kernel_rfl) (fun _ _ _ h => h) (Or.inl ⟨by rfl, fun w_ hSw => ?_⟩) H0 ?_
          · skip; go_simp
          try simp only [Act.put, List.setIfInBounds_toArray, List.set_cons_zero, List.set_cons_succ]
          refine wpAnyH_take (i := 3) (v := undef) (op_at rfl) (by kernel_rfl) (by kernel_rfl) (by kernel_rfl) (fun _ _ _ h => h) (Or.inr ⟨by rfl, rfl⟩) H0 ?_
          try simp only [Act.put, List.setIfInBounds_toArray, List.set_cons_zero, List.set_cons_succ]
          refine wpAnyH_take (i := 4) (v := undef) (op_at rfl) (by kernel_rfl) (by kernel_rfl) (by kernel_rfl) (fun _ _ _ h => h) (Or.inr ⟨by rfl, rfl⟩) H0 ?_
          try simp only [Act.put, List.setIfInBounds_toArray, List.set_cons_zero, List.set_cons_succ]
          refine wpAnyH_take (i := 5) (v := .bool true) (op_at rfl) (by kernel_rfl) (by kernel_rfl) (by kernel_rfl) (fun _ _ _ h => h) (Or.inl ⟨by rfl, fun w_ hSw => ?_⟩) H0 ?_
          · skip; go_simp
          try simp only [Act.put, List.setIfInBounds_toArray, List.set_cons_zero, List.set_cons_succ]
          refine wpAnyH_take (i := 6) (v := .bool true) (op_at rfl) (by kernel_rfl) (by kernel_rfl) (by kernel_rfl) (fun _ _ _ h => h) (Or.inl ⟨by rfl, fun w_ hSw => ?_⟩) H0 ?_
          · skip; go_simp
          try simp only [Act.put, List.setIfInBounds_toArray, List.set_cons_zero, List.set_cons_succ]
          refine wpAnyH_take (i := 7) (v := undef) (op_at rfl) (by kernel_rfl) (by kernel_rfl) (by kernel_rfl) (fun _ _ _ h => h) (Or.inr ⟨by rfl, rfl⟩) H0 ?_
          try simp only [Act.put, List.setIfInBounds_toArray, List.set_cons_zero, List.set_cons_succ]
          refine wpAnyH_take (i := 8) (v := undef) (op_at rfl) (by kernel_rfl) (by kernel_rfl) (by kernel_rfl) (fun _ _ _ h => h) (Or.inr ⟨by rfl, rfl⟩) H0 ?_
          try simp only [Act.put, List.setIfInBounds_toArray, List.set_cons_zero, List.set_cons_succ]
          refine wpAnyH_take (i := 9) (v := undef) (op_at rfl) (by kernel_rfl) (by kernel_rfl) (by kernel_rfl) (fun _ _ _ h => h) (Or.inr ⟨by rfl, rfl⟩) H0 ?_
          try simp only [Act.put, List.setIfInBounds_toArray, List.set_cons_zero, List.set_cons_succ]
          refine wpAnyH_take (i := 10) (v := undef) (op_at rfl) (by kernel_rfl) (by kernel_rfl) (by kernel_rfl) (fun _ _ _ h => h) (Or.inr ⟨by rfl, rfl⟩) H0 ?_
          try simp only [Act.put, List.setIfInBounds_toArray, List.set_cons_zero, List.set_cons_succ]
          refine wpAnyH_take (i := 11) (v := .bool true) (op_at rfl) (by kernel_rfl) (by kernel_rfl) (by kernel_rfl) (fun _ _ _ h => h) (Or.inl ⟨by rfl, fun w_ hSw => ?_⟩) H0 ?_
          · skip; go_simp
          try simp only [Act.put, List.setIfInBounds_toArray, List.set_cons_zero, List.set_cons_succ]
          refine wpAnyH_take (i := 12) (v := .bool true) (op_at rfl) (by kernel_rfl) (by kernel_rfl) (by kernel_rfl) (fun _ _ _ h => h) (Or.inl ⟨by rfl, fun w_ hSw => ?_⟩) H0 ?_
          · skip; go_simp
          try simp only [Act.put, List.setIfInBounds_toArray, List.set_cons_zero, List.set_cons_succ]
          refine wpAnyH_take (i := 13) (v := undef) (op_at rfl) (by kernel_rfl) (by kernel_rfl) (by kernel_rfl) (fun _ _ _ h => h) (Or.inr ⟨by rfl, rfl⟩) H0 ?_
          try simp only [Act.put, List.setIfInBounds_toArray, List.set_cons_zero, List.set_cons_succ]
          refine wpAnyH_take (i := 14) (v := undef) (op_at rfl) (by kernel_rfl) (by kernel_rfl) (by kernel_rfl) (fun _ _ _ h => h) (Or.inr ⟨by rfl, rfl⟩) H0 ?_
          try simp only [Act.put, List.setIfInBounds_toArray, List.set_cons_zero, List.set_cons_succ]
          refine wpAnyH_take (i := 15) (v := undef) (op_at rfl) (by kernel_rfl) (by kernel_rfl) (by kernel_rfl) (fun _ _ _ h => h) (Or.inr ⟨by rfl, rfl⟩) H0 ?_
          try simp only [Act.put, List.setIfInBounds_toArray, List.set_cons_zero, List.set_cons_succ]
          refine wpAnyH_take (i := 16) (v := undef) (op_at rfl) (by kernel_rfl) (by kernel_rfl) (by kernel_rfl) (fun _ _ _ h => h) (Or.inr ⟨by rfl, rfl⟩) H0 ?_
          try simp only [Act.put, List.setIfInBounds_toArray, List.set_cons_zero, List.set_cons_succ]
          refine wpAnyH_take (i := 17) (v := undef) (op_at rfl) (by kernel_rfl) (by kernel_rfl) (by kernel_rfl) (fun _ _ _ h => h) (Or.inr ⟨by rfl, rfl⟩) H0 ?_
          try simp only [Act.put, List.setIfInBounds_toArray, List.set_cons_zero, List.set_cons_succ]
          refine wpAnyH_take (i := 18) (v := undef) (op_at rfl) (by kernel_rfl) (by kernel_rfl) (by kernel_rfl) (fun _ _ _ h => h) (Or.inr ⟨by rfl, rfl⟩) H0 ?_
          try simp only [Act.put, List.setIfInBounds_toArray, List.set_cons_zero, List.set_cons_succ]
          refine wpAnyH_take (i := 19) (v := undef) (op_at rfl) (by kernel_rfl) (by kernel_rfl) (by kernel_rfl) (fun _ _ _ h => h) (Or.inr ⟨by rfl, rfl⟩) H0 ?_
          try simp only [Act.put, List.setIfInBounds_toArray, List.set_cons_zero, List.set_cons_succ]
          refine wpAnyH_take (i := 20) (v := undef) (op_at rfl) (by kernel_rfl) (by kernel_rfl) (by kernel_rfl) (fun _ _ _ h => h) (Or.inr ⟨by rfl, rfl⟩) H0 ?_
          try simp only [Act.put, List.setIfInBounds_toArray, List.set_cons_zero, List.set_cons_succ]
          refine wpAnyH_take (i := 21) (v := undef) (op_at rfl) (by kernel_rfl) (by kernel_rfl) (by kernel_rfl) (fun _ _ _ h => h) (Or.inr ⟨by rfl, rfl⟩) H0 ?_
          try simp only [Act.put, List.setIfInBounds_toArray, List.set_cons_zero, List.set_cons_succ]
          refine wpAnyH_take (i := 22) (v := undef) (op_at rfl) (by kernel_rfl) (by kernel_rfl) (by kernel_rfl) (fun _ _ _ h => h) (Or.inr ⟨by rfl, rfl⟩) H0 ?_
          try simp only [Act.put, List.setIfInBounds_toArray, List.set_cons_zero, List.set_cons_succ]
          refine wpAnyH_take (i := 23) (v := undef) (op_at rfl) (by kernel_rfl) (by kernel_rfl) (by kernel_rfl) (fun _ _ _ h => h) (Or.inr ⟨by rfl, rfl⟩) H0 ?_
          try simp only [Act.put, List.setIfInBounds_toArray, List.set_cons_zero, List.set_cons_succ]
          refine wpAnyH_take (i := 24) (v := .bool true) (op_at rfl) (by kernel_rfl) (by kernel_rfl) (by kernel_rfl) (fun _ _ _ h => h) (Or.inl ⟨by rfl, fun w_ hSw => ?_⟩) H0 ?_
          · skip; go_simp
          try simp only [Act.put, List.setIfInBounds_toArray, List.set_cons_zero, List.set_cons_succ]
          refine wpAnyH_done (by kernel_rfl) ?_ _
          refine NoPanic.normal ?_
          have hHA := Aside0.mk H0
          go_wp2_with (first | (go_at_call 60; ((with_reducible refine (dwrong_calls _).mono ?_); rintro e w8 ⟨⟨A8, c8, rfl⟩, hb⟩; have hZ8A := Aside0.mk ((hZ6A.out.below hHA.out).below hb); have hb8A := Aside0.mk (below_then (below_then hb6A.out hb6A.out.size hHA.out) (below_then hb6A.out hb6A.out.size hHA.out).size hb); clear hb)) | (refine wpList_put_blk rfl 79 (.tmp 4) (.tmp 53) rfl (w.heap.size + 1) 79 [.slice A8 0 c8, .bool true] [.slice none 0 0, .bool false] rfl rfl rfl hZ8A.out (info_in2 _ _) (by intro u hu; simp at hu; rcases hu with rfl | rfl <;> rfl) ?_; intro w9 hZ9 hg9 hs9))
          exact bodyPost_ret (results_ct rfl _ _ (w.heap.size + 1) 79 #[.slice A8 0 c8, .bool true] (0, 0) _ rfl hZ9 Try.underlying79 rfl (info_in2 _ _)) rfl ⟨⟨_, rfl, A8, c8, rfl⟩, hb8A.out.grown hg9 hb8A.out.size (fun k e => by have := Option.some.inj e; omega)⟩
        | some l2 =>
          have hl3 := hl8 l2 rfl
          clear hl8 hn0
          by_cases q2 : z < m
          · rw [count_wide_bad hz1A.out (k := 4) rfl (by decide) hz2A.out (.inr (.inr (by omega)))]
            clear hl hl3
            go_enter Try.func41, Try.ntmps41
            go_wp2_with (first | ((with_reducible refine gate_dst (N := 9) rfl ?_); rw [show (w.alloc (.cells #[.slice A l.length c, .bool r.isNone] 79)).alloc (.cells #[.slice none 0 0, .bool false] 79) = V from hVA.out.symm]) | (go_at_call 43; first | ((with_reducible refine hcA.out.mono ?_); rintro e w3 ⟨⟨v1, rfl, hD⟩, hb⟩; obtain ⟨A1, c1, rfl, hc1, hF1, hBy1⟩ := hD; have hD3 : DR (fun k => (ok k ∧ k < w.heap.size) ∨ V.heap.size ≤ k) w3 (.agg #[.slice A1 l1.length c1, .bool false]) (some l1) := ⟨A1, c1, rfl, hc1, hF1, hBy1⟩; have hS3 : w.heap.size + 2 ≤ w3.heap.size := (by have := hb.size; omega); have hX3A := Aside0.mk (hXA.out.below hb); have hZ3A := Aside0.mk (hZA.out.below hb); have hb3A := Aside0.mk (below_then hBA.out hBA.out.size hb); have hD3A := Aside0.mk hD3; clear hb hD3 x0 x1) | ((with_reducible refine (hc2A.out _ _ hD4A.out).mono ?_); rintro e w5 ⟨⟨v1, rfl, hD⟩, hb⟩; obtain ⟨A2, c2, rfl, hc2, hF2, hBy2⟩ := hD; have hD5 : DR (fun k => ((ok k ∧ k < w.heap.size) ∨ V.heap.size ≤ k) ∨ w4.heap.size ≤ k) w5 (.agg #[.slice A2 l2.length c2, .bool false]) (some l2) := ⟨A2, c2, rfl, hc2, hF2, hBy2⟩; have hX5A := Aside0.mk (hX4A.out.below hb); have hZ5A := Aside0.mk (hZ4A.out.below hb); have hb5A := Aside0.mk (below_then hb4A.out hb4A.out.size hb); have hD5A := Aside0.mk hD5; clear hb hD5 x0 x1)) | (refine wpList_put_blk rfl 79 (.tmp 2) (.tmp 14) rfl w.heap.size 79 [.slice A1 l1.length c1, .bool false] [.slice A l.length c, .bool r.isNone] rfl rfl rfl hX3A.out (info_in2 _ _) (by intro u hu; simp at hu; rcases hu with rfl | rfl <;> rfl) ?_; intro w4 hX4 hg4 hs4; have x0 := hX4.get 0 _ rfl; have x1 := hX4.get 1 _ rfl; have hX4A := Aside0.mk hX4; have hZ4A := Aside0.mk (hZ3A.out.grown hg4 (by intro e; have := Option.some.inj e; omega)); have hb4A := Aside0.mk (hb3A.out.grown hg4 hb3A.out.size (fun k e => by have := Option.some.inj e; omega)); have hD4A := Aside0.mk (hD3A.out.grown hg4 (by intro k hk e; have := Option.some.inj e; rcases hk with hk | hk <;> omega)); clear hg4 hX4) | (refine wpList_put_blk rfl 79 (.tmp 2) (.tmp 26) rfl w.heap.size 79 [.slice A2 l2.length c2, .bool false] [.slice A1 l1.length c1, .bool false] rfl rfl rfl hX5A.out (info_in2 _ _) (by intro u hu; simp at hu; rcases hu with rfl | rfl <;> rfl) ?_; intro w6 hX6 hg6 hs6; have x0 := hX6.get 0 _ rfl; have x1 := hX6.get 1 _ rfl; have hX6A := Aside0.mk hX6; have hZ6A := Aside0.mk (hZ5A.out.grown hg6 (by intro e; have := Option.some.inj e; omega)); have hb6A := Aside0.mk (hb5A.out.grown hg6 hb5A.out.size (fun k e => by have := Option.some.inj e; omega)); have hD6A := Aside0.mk (hD5A.out.grown hg6 (by intro k hk e; have := Option.some.inj e; rcases hk with (hk | hk) | hk <;> omega)); clear hg6 hX6))
            refine wp_region_noPanic ?_
            have hx0A := Aside0.mk (fun W' (hW : Below w6.heap.size w6 W') => (hX6A.out.below hW).get 0 _ rfl)
            have hx1A := Aside0.mk (fun W' (hW : Below w6.heap.size w6 W') => (hX6A.out.below hW).get 1 _ rfl)
            clear x0 x1
            have H0 : Below w6.heap.size w6 w6.drew := pw_below_drewN (Below.refl _ _) 1
            refine wp_region_held_drew (S := fun V1 => Below w6.heap.size w6 V1) (by kernel_rfl) H0 (fun _ => ?_)
            generalize w6.drew = V0 at *
            refine wpAnyH_take (i := 0) (v := .pointer (some ⟨w.heap.size, 1, none⟩)) (op_at rfl) (by kernel_rfl) (by kernel_rfl) (by kernel_rfl) (fun _ _ _ h => h) (Or.inl ⟨by rfl, fun w_ hSw => ?_⟩) H0 ?_
            · skip; go_simp
            try simp only [Act.put, List.setIfInBounds_toArray, List.set_cons_zero, List.set_cons_succ]
            refine wpAnyH_take (i := 1) (v := .bool false) (op_at rfl) (by kernel_rfl) (by kernel_rfl) (by kernel_rfl) (fun _ _ _ h => h) (Or.inl ⟨by rfl, fun w_ hSw => ?_⟩) H0 ?_
            · have hc_ := hx1A.out w_ hSw; go_simp
            try simp only [Act.put, List.setIfInBounds_toArray, List.set_cons_zero, List.set_cons_succ]
            refine wpAnyH_take (i := 2) (v := .bool false) (op_at rfl) (by kernel_rfl) (by kernel_rfl) (by kernel_rfl) (fun _ _ _ h => h) (Or.inl ⟨by rfl, fun w_ hSw => ?_⟩) H0 ?_
            · skip; go_simp
            try simp only [Act.put, List.setIfInBounds_toArray, List.set_cons_zero, List.set_cons_succ]
            refine wpAnyH_take (i := 3) (v := .int .i64 z) (op_at rfl) (by kernel_rfl) (by kernel_rfl) (by kernel_rfl) (fun _ _ _ h => h) (Or.inl ⟨by rfl, fun w_ hSw => ?_⟩) H0 ?_
            · skip; go_simp
            try simp only [Act.put, List.setIfInBounds_toArray, List.set_cons_zero, List.set_cons_succ]
            refine wpAnyH_take (i := 4) (v := .bool false) (op_at rfl) (by kernel_rfl) (by kernel_rfl) (by kernel_rfl) (fun _ _ _ h => h) (Or.inl ⟨by rfl, fun w_ hSw => ?_⟩) H0 ?_
            · skip; go_simp
            try simp only [Act.put, List.setIfInBounds_toArray, List.set_cons_zero, List.set_cons_succ]
            refine wpAnyH_take (i := 5) (v := .bool false) (op_at rfl) (by kernel_rfl) (by kernel_rfl) (by kernel_rfl) (fun _ _ _ h => h) (Or.inl ⟨by rfl, fun w_ hSw => ?_⟩) H0 ?_
            · skip; go_simp
            try simp only [Act.put, List.setIfInBounds_toArray, List.set_cons_zero, List.set_cons_succ]
            refine wpAnyH_take (i := 6) (v := .bool false) (op_at rfl) (by kernel_rfl) (by kernel_rfl) (by kernel_rfl) (fun _ _ _ h => h) (Or.inl ⟨by rfl, fun w_ hSw => ?_⟩) H0 ?_
            · skip; go_simp
            try simp only [Act.put, List.setIfInBounds_toArray, List.set_cons_zero, List.set_cons_succ]
            refine wpAnyH_take (i := 7) (v := .int .u64 m) (op_at rfl) (by kernel_rfl) (by kernel_rfl) (by kernel_rfl) (fun _ _ _ h => h) (Or.inl ⟨by rfl, fun w_ hSw => ?_⟩) H0 ?_
            · skip; go_simp
            try simp only [Act.put, List.setIfInBounds_toArray, List.set_cons_zero, List.set_cons_succ]
            refine wpAnyH_take (i := 8) (v := .int .i64 z) (op_at rfl) (by kernel_rfl) (by kernel_rfl) (by kernel_rfl) (fun _ _ _ h => h) (Or.inl ⟨by rfl, fun w_ hSw => ?_⟩) H0 ?_
            · skip; go_simp
            try simp only [Act.put, List.setIfInBounds_toArray, List.set_cons_zero, List.set_cons_succ]
            refine wpAnyH_take (i := 9) (v := .int .u64 z) (op_at rfl) (by kernel_rfl) (by kernel_rfl) (by kernel_rfl) (fun _ _ _ h => h) (Or.inl ⟨by rfl, fun w_ hSw => ?_⟩) H0 ?_
            · skip; go_simp
            try simp only [Act.put, List.setIfInBounds_toArray, List.set_cons_zero, List.set_cons_succ]
            refine wpAnyH_take (i := 10) (v := .bool true) (op_at rfl) (by kernel_rfl) (by kernel_rfl) (by kernel_rfl) (fun _ _ _ h => h) (Or.inl ⟨by rfl, fun w_ hSw => ?_⟩) H0 ?_
            · skip; go_simp
            try simp only [Act.put, List.setIfInBounds_toArray, List.set_cons_zero, List.set_cons_succ]
            refine wpAnyH_take (i := 11) (v := .bool true) (op_at rfl) (by kernel_rfl) (by kernel_rfl) (by kernel_rfl) (fun _ _ _ h => h) (Or.inl ⟨by rfl, fun w_ hSw => ?_⟩) H0 ?_
            · skip; go_simp
            try simp only [Act.put, List.setIfInBounds_toArray, List.set_cons_zero, List.set_cons_succ]
            refine wpAnyH_take (i := 12) (v := .bool true) (op_at rfl) (by kernel_rfl) (by kernel_rfl) (by kernel_rfl) (fun _ _ _ h => h) (Or.inl ⟨by rfl, fun w_ hSw => ?_⟩) H0 ?_
            · skip; go_simp
            try simp only [Act.put, List.setIfInBounds_toArray, List.set_cons_zero, List.set_cons_succ]
            refine wpAnyH_take (i := 13) (v := undef) (op_at rfl) (by kernel_rfl) (by kernel_rfl) (by kernel_rfl) (fun _ _ _ h => h) (Or.inr ⟨by rfl, rfl⟩) H0 ?_
            try simp only [Act.put, List.setIfInBounds_toArray, List.set_cons_zero, List.set_cons_succ]
            refine wpAnyH_take (i := 14) (v := undef) (op_at rfl) (by kernel_rfl) (by kernel_rfl) (by kernel_rfl) (fun _ _ _ h => h) (Or.inr ⟨by rfl, rfl⟩) H0 ?_
            try simp only [Act.put, List.setIfInBounds_toArray, List.set_cons_zero, List.set_cons_succ]
            refine wpAnyH_take (i := 15) (v := undef) (op_at rfl) (by kernel_rfl) (by kernel_rfl) (by kernel_rfl) (fun _ _ _ h => h) (Or.inr ⟨by rfl, rfl⟩) H0 ?_
            try simp only [Act.put, List.setIfInBounds_toArray, List.set_cons_zero, List.set_cons_succ]
            refine wpAnyH_take (i := 16) (v := undef) (op_at rfl) (by kernel_rfl) (by kernel_rfl) (by kernel_rfl) (fun _ _ _ h => h) (Or.inr ⟨by rfl, rfl⟩) H0 ?_
            try simp only [Act.put, List.setIfInBounds_toArray, List.set_cons_zero, List.set_cons_succ]
            refine wpAnyH_take (i := 17) (v := undef) (op_at rfl) (by kernel_rfl) (by kernel_rfl) (by kernel_rfl) (fun _ _ _ h => h) (Or.inr ⟨by rfl, rfl⟩) H0 ?_
            try simp only [Act.put, List.setIfInBounds_toArray, List.set_cons_zero, List.set_cons_succ]
            refine wpAnyH_take (i := 18) (v := undef) (op_at rfl) (by kernel_rfl) (by kernel_rfl) (by kernel_rfl) (fun _ _ _ h => h) (Or.inr ⟨by rfl, rfl⟩) H0 ?_
            try simp only [Act.put, List.setIfInBounds_toArray, List.set_cons_zero, List.set_cons_succ]
            refine wpAnyH_take (i := 19) (v := undef) (op_at rfl) (by kernel_rfl) (by kernel_rfl) (by kernel_rfl) (fun _ _ _ h => h) (Or.inr ⟨by rfl, rfl⟩) H0 ?_
            try simp only [Act.put, List.setIfInBounds_toArray, List.set_cons_zero, List.set_cons_succ]
            refine wpAnyH_take (i := 20) (v := undef) (op_at rfl) (by kernel_rfl) (by kernel_rfl) (by kernel_rfl) (fun _ _ _ h => h) (Or.inr ⟨by rfl, rfl⟩) H0 ?_
            try simp only [Act.put, List.setIfInBounds_toArray, List.set_cons_zero, List.set_cons_succ]
            refine wpAnyH_take (i := 21) (v := undef) (op_at rfl) (by kernel_rfl) (by kernel_rfl) (by kernel_rfl) (fun _ _ _ h => h) (Or.inr ⟨by rfl, rfl⟩) H0 ?_
            try simp only [Act.put, List.setIfInBounds_toArray, List.set_cons_zero, List.set_cons_succ]
            refine wpAnyH_take (i := 22) (v := undef) (op_at rfl) (by kernel_rfl) (by kernel_rfl) (by kernel_rfl) (fun _ _ _ h => h) (Or.inr ⟨by rfl, rfl⟩) H0 ?_
            try simp only [Act.put, List.setIfInBounds_toArray, List.set_cons_zero, List.set_cons_succ]
            refine wpAnyH_take (i := 23) (v := undef) (op_at rfl) (by kernel_rfl) (by kernel_rfl) (by kernel_rfl) (fun _ _ _ h => h) (Or.inr ⟨by rfl, rfl⟩) H0 ?_
            try simp only [Act.put, List.setIfInBounds_toArray, List.set_cons_zero, List.set_cons_succ]
            refine wpAnyH_take (i := 24) (v := .bool true) (op_at rfl) (by kernel_rfl) (by kernel_rfl) (by kernel_rfl) (fun _ _ _ h => h) (Or.inl ⟨by rfl, fun w_ hSw => ?_⟩) H0 ?_
            · skip; go_simp
            try simp only [Act.put, List.setIfInBounds_toArray, List.set_cons_zero, List.set_cons_succ]
            refine wpAnyH_done (by kernel_rfl) ?_ _
            refine NoPanic.normal ?_
            have hHA := Aside0.mk H0
            go_wp2_with (first | (go_at_call 60; ((with_reducible refine (dwrong_calls _).mono ?_); rintro e w8 ⟨⟨A8, c8, rfl⟩, hb⟩; have hZ8A := Aside0.mk ((hZ6A.out.below hHA.out).below hb); have hb8A := Aside0.mk (below_then (below_then hb6A.out hb6A.out.size hHA.out) (below_then hb6A.out hb6A.out.size hHA.out).size hb); clear hb)) | (refine wpList_put_blk rfl 79 (.tmp 4) (.tmp 53) rfl (w.heap.size + 1) 79 [.slice A8 0 c8, .bool true] [.slice none 0 0, .bool false] rfl rfl rfl hZ8A.out (info_in2 _ _) (by intro u hu; simp at hu; rcases hu with rfl | rfl <;> rfl) ?_; intro w9 hZ9 hg9 hs9))
            exact bodyPost_ret (results_ct rfl _ _ (w.heap.size + 1) 79 #[.slice A8 0 c8, .bool true] (0, 0) _ rfl hZ9 Try.underlying79 rfl (info_in2 _ _)) rfl ⟨⟨_, rfl, A8, c8, rfl⟩, hb8A.out.grown hg9 hb8A.out.size (fun k e => by have := Option.some.inj e; omega)⟩
          · have hm0 : ((m.toNat : Nat) : Int) = m := by omega
            obtain ⟨L, hL⟩ : ∃ L, cntl m.toNat = L := ⟨_, rfl⟩
            have hL5 : L ≤ 5 := by rw [← hL]; unfold cntl; split; decide; split <;> decide
            have hcnA := Aside0.mk (fun W => dcount_calls m.toNat m hm0 (by omega) L hL W)
            have e9 : IntKind.i64.wrap m = m := IntWalk.i64_in _ (by omega)
            have e8 : IntKind.i64.wrap ((L : Int) + (l2.length : Int)) = (L : Int) + (l2.length : Int) := IntWalk.i64_in _ (by omega)
            have hmk := mark_len4 m.toNat (by omega)
            rw [hm0, hL] at hmk
            by_cases q3 : mark m = 254
            · rw [count_wide_ok hz1A.out (k := 4) rfl (by decide) hz2A.out q3 (by omega)]
              have hL2 := hmk.1 q3
              have enA : Aside0 (((m.toNat : Nat) : Int) = m) := Aside0.mk hm0
              have p3 : ((L : Int) + (l2.length : Int)) = (l.length : Int) := by omega
              clear hmk q3 hL hm0 hL2 hl hl3 hL5
              go_enter Try.func41, Try.ntmps41
              go_wp2_with (first | ((with_reducible refine gate_dst (N := 9) rfl ?_); rw [show (w.alloc (.cells #[.slice A l.length c, .bool r.isNone] 79)).alloc (.cells #[.slice none 0 0, .bool false] 79) = V from hVA.out.symm]) | (go_at_call 43; first | ((with_reducible refine hcA.out.mono ?_); rintro e w3 ⟨⟨v1, rfl, hD⟩, hb⟩; obtain ⟨A1, c1, rfl, hc1, hF1, hBy1⟩ := hD; have hD3 : DR (fun k => (ok k ∧ k < w.heap.size) ∨ V.heap.size ≤ k) w3 (.agg #[.slice A1 l1.length c1, .bool false]) (some l1) := ⟨A1, c1, rfl, hc1, hF1, hBy1⟩; have hS3 : w.heap.size + 2 ≤ w3.heap.size := (by have := hb.size; omega); have hX3A := Aside0.mk (hXA.out.below hb); have hZ3A := Aside0.mk (hZA.out.below hb); have hb3A := Aside0.mk (below_then hBA.out hBA.out.size hb); have hD3A := Aside0.mk hD3; clear hb hD3 x0 x1) | ((with_reducible refine (hc2A.out _ _ hD4A.out).mono ?_); rintro e w5 ⟨⟨v1, rfl, hD⟩, hb⟩; obtain ⟨A2, c2, rfl, hc2, hF2, hBy2⟩ := hD; have hD5 : DR (fun k => ((ok k ∧ k < w.heap.size) ∨ V.heap.size ≤ k) ∨ w4.heap.size ≤ k) w5 (.agg #[.slice A2 l2.length c2, .bool false]) (some l2) := ⟨A2, c2, rfl, hc2, hF2, hBy2⟩; have hX5A := Aside0.mk (hX4A.out.below hb); have hZ5A := Aside0.mk (hZ4A.out.below hb); have hb5A := Aside0.mk (below_then hb4A.out hb4A.out.size hb); have hD5A := Aside0.mk hD5; clear hb hD5 x0 x1)) | (refine wpList_put_blk rfl 79 (.tmp 2) (.tmp 14) rfl w.heap.size 79 [.slice A1 l1.length c1, .bool false] [.slice A l.length c, .bool r.isNone] rfl rfl rfl hX3A.out (info_in2 _ _) (by intro u hu; simp at hu; rcases hu with rfl | rfl <;> rfl) ?_; intro w4 hX4 hg4 hs4; have x0 := hX4.get 0 _ rfl; have x1 := hX4.get 1 _ rfl; have hX4A := Aside0.mk hX4; have hZ4A := Aside0.mk (hZ3A.out.grown hg4 (by intro e; have := Option.some.inj e; omega)); have hb4A := Aside0.mk (hb3A.out.grown hg4 hb3A.out.size (fun k e => by have := Option.some.inj e; omega)); have hD4A := Aside0.mk (hD3A.out.grown hg4 (by intro k hk e; have := Option.some.inj e; rcases hk with hk | hk <;> omega)); clear hg4 hX4) | (refine wpList_put_blk rfl 79 (.tmp 2) (.tmp 26) rfl w.heap.size 79 [.slice A2 l2.length c2, .bool false] [.slice A1 l1.length c1, .bool false] rfl rfl rfl hX5A.out (info_in2 _ _) (by intro u hu; simp at hu; rcases hu with rfl | rfl <;> rfl) ?_; intro w6 hX6 hg6 hs6; have x0 := hX6.get 0 _ rfl; have x1 := hX6.get 1 _ rfl; have hX6A := Aside0.mk hX6; have hZ6A := Aside0.mk (hZ5A.out.grown hg6 (by intro e; have := Option.some.inj e; omega)); have hb6A := Aside0.mk (hb5A.out.grown hg6 hb5A.out.size (fun k e => by have := Option.some.inj e; omega)); have hD6A := Aside0.mk (hD5A.out.grown hg6 (by intro k hk e; have := Option.some.inj e; rcases hk with (hk | hk) | hk <;> omega)); clear hg6 hX6))
              refine wp_region_noPanic ?_
              have hx0A := Aside0.mk (fun W' (hW : Below w6.heap.size w6 W') => (hX6A.out.below hW).get 0 _ rfl)
              have hx1A := Aside0.mk (fun W' (hW : Below w6.heap.size w6 W') => (hX6A.out.below hW).get 1 _ rfl)
              clear x0 x1
              have H0 : Below w6.heap.size w6 w6.drew := pw_below_drewN (Below.refl _ _) 1
              refine wp_region_held_drew (S := fun V1 => Below w6.heap.size w6 V1) (by kernel_rfl) H0 (fun _ => ?_)
              generalize w6.drew = V0 at *
              refine wpAnyH_take (i := 0) (v := .pointer (some ⟨w.heap.size, 1, none⟩)) (op_at rfl) (by kernel_rfl) (by kernel_rfl) (by kernel_rfl) (fun _ _ _ h => h) (Or.inl ⟨by rfl, fun w_ hSw => ?_⟩) H0 ?_
              · skip; go_simp
              try simp only [Act.put, List.setIfInBounds_toArray, List.set_cons_zero, List.set_cons_succ]
              refine wpAnyH_take (i := 1) (v := .bool false) (op_at rfl) (by kernel_rfl) (by kernel_rfl) (by kernel_rfl) (fun _ _ _ h => h) (Or.inl ⟨by rfl, fun w_ hSw => ?_⟩) H0 ?_
              · have hc_ := hx1A.out w_ hSw; go_simp
              try simp only [Act.put, List.setIfInBounds_toArray, List.set_cons_zero, List.set_cons_succ]
              refine wpAnyH_take (i := 2) (v := .bool false) (op_at rfl) (by kernel_rfl) (by kernel_rfl) (by kernel_rfl) (fun _ _ _ h => h) (Or.inl ⟨by rfl, fun w_ hSw => ?_⟩) H0 ?_
              · skip; go_simp
              try simp only [Act.put, List.setIfInBounds_toArray, List.set_cons_zero, List.set_cons_succ]
              refine wpAnyH_take (i := 3) (v := .int .i64 z) (op_at rfl) (by kernel_rfl) (by kernel_rfl) (by kernel_rfl) (fun _ _ _ h => h) (Or.inl ⟨by rfl, fun w_ hSw => ?_⟩) H0 ?_
              · skip; go_simp
              try simp only [Act.put, List.setIfInBounds_toArray, List.set_cons_zero, List.set_cons_succ]
              refine wpAnyH_take (i := 4) (v := .bool false) (op_at rfl) (by kernel_rfl) (by kernel_rfl) (by kernel_rfl) (fun _ _ _ h => h) (Or.inl ⟨by rfl, fun w_ hSw => ?_⟩) H0 ?_
              · skip; go_simp
              try simp only [Act.put, List.setIfInBounds_toArray, List.set_cons_zero, List.set_cons_succ]
              refine wpAnyH_take (i := 5) (v := .bool false) (op_at rfl) (by kernel_rfl) (by kernel_rfl) (by kernel_rfl) (fun _ _ _ h => h) (Or.inl ⟨by rfl, fun w_ hSw => ?_⟩) H0 ?_
              · skip; go_simp
              try simp only [Act.put, List.setIfInBounds_toArray, List.set_cons_zero, List.set_cons_succ]
              refine wpAnyH_take (i := 6) (v := .bool false) (op_at rfl) (by kernel_rfl) (by kernel_rfl) (by kernel_rfl) (fun _ _ _ h => h) (Or.inl ⟨by rfl, fun w_ hSw => ?_⟩) H0 ?_
              · skip; go_simp
              try simp only [Act.put, List.setIfInBounds_toArray, List.set_cons_zero, List.set_cons_succ]
              refine wpAnyH_take (i := 7) (v := .int .u64 m) (op_at rfl) (by kernel_rfl) (by kernel_rfl) (by kernel_rfl) (fun _ _ _ h => h) (Or.inl ⟨by rfl, fun w_ hSw => ?_⟩) H0 ?_
              · skip; go_simp
              try simp only [Act.put, List.setIfInBounds_toArray, List.set_cons_zero, List.set_cons_succ]
              refine wpAnyH_take (i := 8) (v := .int .i64 z) (op_at rfl) (by kernel_rfl) (by kernel_rfl) (by kernel_rfl) (fun _ _ _ h => h) (Or.inl ⟨by rfl, fun w_ hSw => ?_⟩) H0 ?_
              · skip; go_simp
              try simp only [Act.put, List.setIfInBounds_toArray, List.set_cons_zero, List.set_cons_succ]
              refine wpAnyH_take (i := 9) (v := .int .u64 z) (op_at rfl) (by kernel_rfl) (by kernel_rfl) (by kernel_rfl) (fun _ _ _ h => h) (Or.inl ⟨by rfl, fun w_ hSw => ?_⟩) H0 ?_
              · skip; go_simp
              try simp only [Act.put, List.setIfInBounds_toArray, List.set_cons_zero, List.set_cons_succ]
              refine wpAnyH_take (i := 10) (v := .bool false) (op_at rfl) (by kernel_rfl) (by kernel_rfl) (by kernel_rfl) (fun _ _ _ h => h) (Or.inl ⟨by rfl, fun w_ hSw => ?_⟩) H0 ?_
              · skip; go_simp
              try simp only [Act.put, List.setIfInBounds_toArray, List.set_cons_zero, List.set_cons_succ]
              refine wpAnyH_take (i := 11) (v := .bool false) (op_at rfl) (by kernel_rfl) (by kernel_rfl) (by kernel_rfl) (fun _ _ _ h => h) (Or.inl ⟨by rfl, fun w_ hSw => ?_⟩) H0 ?_
              · skip; go_simp
              try simp only [Act.put, List.setIfInBounds_toArray, List.set_cons_zero, List.set_cons_succ]
              refine wpAnyH_take (i := 12) (v := .bool false) (op_at rfl) (by kernel_rfl) (by kernel_rfl) (by kernel_rfl) (fun _ _ _ h => h) (Or.inl ⟨by rfl, fun w_ hSw => ?_⟩) H0 ?_
              · skip; go_simp
              try simp only [Act.put, List.setIfInBounds_toArray, List.set_cons_zero, List.set_cons_succ]
              refine wpAnyH_take (i := 13) (v := .int .u64 m) (op_at rfl) (by kernel_rfl) (by kernel_rfl) (by kernel_rfl) (fun _ _ _ h => h) (Or.inl ⟨by rfl, fun w_ hSw => ?_⟩) H0 ?_
              · skip; go_simp
              try simp only [Act.put, List.setIfInBounds_toArray, List.set_cons_zero, List.set_cons_succ]
              refine wpAnyH_take (i := 14) (v := .int .i64 m) (op_at rfl) (by kernel_rfl) (by kernel_rfl) (by kernel_rfl) (fun _ _ _ h => h) (Or.inl ⟨by rfl, fun w_ hSw => ?_⟩) H0 ?_
              · skip; go_simp
              try simp only [Act.put, List.setIfInBounds_toArray, List.set_cons_zero, List.set_cons_succ]
              refine wpAnyH_take (i := 17) (v := .pointer (some ⟨w.heap.size, 0, none⟩)) (op_at rfl) (by kernel_rfl) (by kernel_rfl) (by kernel_rfl) (fun _ _ _ h => h) (Or.inl ⟨by rfl, fun w_ hSw => ?_⟩) H0 ?_
              · skip; go_simp
              try simp only [Act.put, List.setIfInBounds_toArray, List.set_cons_zero, List.set_cons_succ]
              refine wpAnyH_take (i := 18) (v := .slice A2 l2.length c2) (op_at rfl) (by kernel_rfl) (by kernel_rfl) (by kernel_rfl) (fun _ _ _ h => h) (Or.inl ⟨by rfl, fun w_ hSw => ?_⟩) H0 ?_
              · have hc_ := hx0A.out w_ hSw; go_simp
              try simp only [Act.put, List.setIfInBounds_toArray, List.set_cons_zero, List.set_cons_succ]
              refine wpAnyH_take (i := 19) (v := .int .i64 (l2.length : Int)) (op_at rfl) (by kernel_rfl) (by kernel_rfl) (by kernel_rfl) (fun _ _ _ h => h) (Or.inl ⟨by rfl, fun w_ hSw => ?_⟩) H0 ?_
              · skip; go_simp
              try simp only [Act.put, List.setIfInBounds_toArray, List.set_cons_zero, List.set_cons_succ]
              refine wpAnyH_take (i := 21) (v := .slice A l.length c) (op_at rfl) (by kernel_rfl) (by kernel_rfl) (by kernel_rfl) (fun _ _ _ h => h) (Or.inl ⟨by rfl, fun w_ hSw => ?_⟩) H0 ?_
              · skip; go_simp
              try simp only [Act.put, List.setIfInBounds_toArray, List.set_cons_zero, List.set_cons_succ]
              refine wpAnyH_take (i := 22) (v := .int .i64 (l.length : Int)) (op_at rfl) (by kernel_rfl) (by kernel_rfl) (by kernel_rfl) (fun _ _ _ h => h) (Or.inl ⟨by rfl, fun w_ hSw => ?_⟩) H0 ?_
              · skip; go_simp
              try simp only [Act.put, List.setIfInBounds_toArray, List.set_cons_zero, List.set_cons_succ]
              refine wpAnyH_ready (rs := [15]) (by kernel_rfl) (by simp) ?_
              refine AllReadyH.cons (op_at rfl) (fun K hK => ?_) AllReadyH.nil
              go_simp
              go_at_call 59
              with_reducible refine (hcnA.out V0).mono ?_
              rintro e V1_ ⟨⟨A_, c_, rfl⟩, hb⟩
              go_wp2_with fail
              refine hK.out _ _ (below_then H0 H0.size hb) (fun H1_ => ?_)
              clear hK K hb
              try simp only [Act.put, List.setIfInBounds_toArray, List.set_cons_zero, List.set_cons_succ]
              refine wpAnyH_take (i := 16) (v := .int .i64 (L : Int)) (op_at rfl) (by kernel_rfl) (by kernel_rfl) (by kernel_rfl) (fun _ _ _ h => h) (Or.inl ⟨by rfl, fun w_ hSw => ?_⟩) H1_ ?_
              · skip; go_simp
              try simp only [Act.put, List.setIfInBounds_toArray, List.set_cons_zero, List.set_cons_succ]
              refine wpAnyH_take (i := 20) (v := .int .i64 ((L : Int) + (l2.length : Int))) (op_at rfl) (by kernel_rfl) (by kernel_rfl) (by kernel_rfl) (fun _ _ _ h => h) (Or.inl ⟨by rfl, fun w_ hSw => ?_⟩) H1_ ?_
              · skip; go_simp
              try simp only [Act.put, List.setIfInBounds_toArray, List.set_cons_zero, List.set_cons_succ]
              refine wpAnyH_take (i := 23) (v := .bool false) (op_at rfl) (by kernel_rfl) (by kernel_rfl) (by kernel_rfl) (fun _ _ _ h => h) (Or.inl ⟨by rfl, fun w_ hSw => ?_⟩) H1_ ?_
              · skip; go_simp
              try simp only [Act.put, List.setIfInBounds_toArray, List.set_cons_zero, List.set_cons_succ]
              refine wpAnyH_take (i := 24) (v := .bool false) (op_at rfl) (by kernel_rfl) (by kernel_rfl) (by kernel_rfl) (fun _ _ _ h => h) (Or.inl ⟨by rfl, fun w_ hSw => ?_⟩) H1_ ?_
              · skip; go_simp
              try simp only [Act.put, List.setIfInBounds_toArray, List.set_cons_zero, List.set_cons_succ]
              refine wpAnyH_done (by kernel_rfl) ?_ _
              refine NoPanic.normal ?_
              have hHA := Aside0.mk H1_
              have e64 : IntKind.i64.wrap m = m := IntWalk.i64_in _ (by omega)
              go_wp2_with (first | ((with_reducible refine gate_dst (N := 54) rfl ?_); refine wpList_load_blk rfl 79 (.tmp 2) rfl w.heap.size 79 rfl [.slice A2 l2.length c2, .bool false] _ (hX6A.out.below hHA.out) Try.underlying79 rfl (info_in2 _ _) ?_) | (refine wpList_put_blk rfl 79 (.tmp 4) (.tmp 54) rfl (w.heap.size + 1) 79 [.slice A2 l2.length c2, .bool false] [.slice none 0 0, .bool false] rfl rfl rfl (hZ6A.out.below hHA.out) (info_in2 _ _) (by intro u hu; simp at hu; rcases hu with rfl | rfl <;> rfl) ?_; intro w9 hZ9 hg9 hs9))
              exact bodyPost_ret (results_ct rfl _ _ (w.heap.size + 1) 79 #[.slice A2 l2.length c2, .bool false] (0, 0) _ rfl hZ9 Try.underlying79 rfl (info_in2 _ _)) rfl ⟨⟨_, by rw [enA.out]; rfl, ((hD6A.out.below hHA.out).grown hg9 (by intro k hk e; have := Option.some.inj e; rcases hk with (hk | hk) | hk <;> omega)).mono (fun k h1 h2 => by rcases h1 with (h1 | h1) | h1; exact .inl h1.1; all_goals exact .inr (by omega))⟩, (below_then hb6A.out hb6A.out.size hHA.out).grown hg9 (below_then hb6A.out hb6A.out.size hHA.out).size (fun k e => by have := Option.some.inj e; omega)⟩
            · rw [count_wide_bad hz1A.out (k := 4) rfl (by decide) hz2A.out (.inl q3)]
              have hL2 : ¬ L = 5 := fun h => q3 (hmk.2 h)
              have p3 : ¬ ((L : Int) + (l2.length : Int)) = (l.length : Int) := by omega
              clear hmk q3 hL hm0 hL2 hl hl3 hL5
              go_enter Try.func41, Try.ntmps41
              go_wp2_with (first | ((with_reducible refine gate_dst (N := 9) rfl ?_); rw [show (w.alloc (.cells #[.slice A l.length c, .bool r.isNone] 79)).alloc (.cells #[.slice none 0 0, .bool false] 79) = V from hVA.out.symm]) | (go_at_call 43; first | ((with_reducible refine hcA.out.mono ?_); rintro e w3 ⟨⟨v1, rfl, hD⟩, hb⟩; obtain ⟨A1, c1, rfl, hc1, hF1, hBy1⟩ := hD; have hD3 : DR (fun k => (ok k ∧ k < w.heap.size) ∨ V.heap.size ≤ k) w3 (.agg #[.slice A1 l1.length c1, .bool false]) (some l1) := ⟨A1, c1, rfl, hc1, hF1, hBy1⟩; have hS3 : w.heap.size + 2 ≤ w3.heap.size := (by have := hb.size; omega); have hX3A := Aside0.mk (hXA.out.below hb); have hZ3A := Aside0.mk (hZA.out.below hb); have hb3A := Aside0.mk (below_then hBA.out hBA.out.size hb); have hD3A := Aside0.mk hD3; clear hb hD3 x0 x1) | ((with_reducible refine (hc2A.out _ _ hD4A.out).mono ?_); rintro e w5 ⟨⟨v1, rfl, hD⟩, hb⟩; obtain ⟨A2, c2, rfl, hc2, hF2, hBy2⟩ := hD; have hD5 : DR (fun k => ((ok k ∧ k < w.heap.size) ∨ V.heap.size ≤ k) ∨ w4.heap.size ≤ k) w5 (.agg #[.slice A2 l2.length c2, .bool false]) (some l2) := ⟨A2, c2, rfl, hc2, hF2, hBy2⟩; have hX5A := Aside0.mk (hX4A.out.below hb); have hZ5A := Aside0.mk (hZ4A.out.below hb); have hb5A := Aside0.mk (below_then hb4A.out hb4A.out.size hb); have hD5A := Aside0.mk hD5; clear hb hD5 x0 x1)) | (refine wpList_put_blk rfl 79 (.tmp 2) (.tmp 14) rfl w.heap.size 79 [.slice A1 l1.length c1, .bool false] [.slice A l.length c, .bool r.isNone] rfl rfl rfl hX3A.out (info_in2 _ _) (by intro u hu; simp at hu; rcases hu with rfl | rfl <;> rfl) ?_; intro w4 hX4 hg4 hs4; have x0 := hX4.get 0 _ rfl; have x1 := hX4.get 1 _ rfl; have hX4A := Aside0.mk hX4; have hZ4A := Aside0.mk (hZ3A.out.grown hg4 (by intro e; have := Option.some.inj e; omega)); have hb4A := Aside0.mk (hb3A.out.grown hg4 hb3A.out.size (fun k e => by have := Option.some.inj e; omega)); have hD4A := Aside0.mk (hD3A.out.grown hg4 (by intro k hk e; have := Option.some.inj e; rcases hk with hk | hk <;> omega)); clear hg4 hX4) | (refine wpList_put_blk rfl 79 (.tmp 2) (.tmp 26) rfl w.heap.size 79 [.slice A2 l2.length c2, .bool false] [.slice A1 l1.length c1, .bool false] rfl rfl rfl hX5A.out (info_in2 _ _) (by intro u hu; simp at hu; rcases hu with rfl | rfl <;> rfl) ?_; intro w6 hX6 hg6 hs6; have x0 := hX6.get 0 _ rfl; have x1 := hX6.get 1 _ rfl; have hX6A := Aside0.mk hX6; have hZ6A := Aside0.mk (hZ5A.out.grown hg6 (by intro e; have := Option.some.inj e; omega)); have hb6A := Aside0.mk (hb5A.out.grown hg6 hb5A.out.size (fun k e => by have := Option.some.inj e; omega)); have hD6A := Aside0.mk (hD5A.out.grown hg6 (by intro k hk e; have := Option.some.inj e; rcases hk with (hk | hk) | hk <;> omega)); clear hg6 hX6))
              refine wp_region_noPanic ?_
              have hx0A := Aside0.mk (fun W' (hW : Below w6.heap.size w6 W') => (hX6A.out.below hW).get 0 _ rfl)
              have hx1A := Aside0.mk (fun W' (hW : Below w6.heap.size w6 W') => (hX6A.out.below hW).get 1 _ rfl)
              clear x0 x1
              have H0 : Below w6.heap.size w6 w6.drew := pw_below_drewN (Below.refl _ _) 1
              refine wp_region_held_drew (S := fun V1 => Below w6.heap.size w6 V1) (by kernel_rfl) H0 (fun _ => ?_)
              generalize w6.drew = V0 at *
              refine wpAnyH_take (i := 0) (v := .pointer (some ⟨w.heap.size, 1, none⟩)) (op_at rfl) (by kernel_rfl) (by kernel_rfl) (by kernel_rfl) (fun _ _ _ h => h) (Or.inl ⟨by rfl, fun w_ hSw => ?_⟩) H0 ?_
              · skip; go_simp
              try simp only [Act.put, List.setIfInBounds_toArray, List.set_cons_zero, List.set_cons_succ]
              refine wpAnyH_take (i := 1) (v := .bool false) (op_at rfl) (by kernel_rfl) (by kernel_rfl) (by kernel_rfl) (fun _ _ _ h => h) (Or.inl ⟨by rfl, fun w_ hSw => ?_⟩) H0 ?_
              · have hc_ := hx1A.out w_ hSw; go_simp
              try simp only [Act.put, List.setIfInBounds_toArray, List.set_cons_zero, List.set_cons_succ]
              refine wpAnyH_take (i := 2) (v := .bool false) (op_at rfl) (by kernel_rfl) (by kernel_rfl) (by kernel_rfl) (fun _ _ _ h => h) (Or.inl ⟨by rfl, fun w_ hSw => ?_⟩) H0 ?_
              · skip; go_simp
              try simp only [Act.put, List.setIfInBounds_toArray, List.set_cons_zero, List.set_cons_succ]
              refine wpAnyH_take (i := 3) (v := .int .i64 z) (op_at rfl) (by kernel_rfl) (by kernel_rfl) (by kernel_rfl) (fun _ _ _ h => h) (Or.inl ⟨by rfl, fun w_ hSw => ?_⟩) H0 ?_
              · skip; go_simp
              try simp only [Act.put, List.setIfInBounds_toArray, List.set_cons_zero, List.set_cons_succ]
              refine wpAnyH_take (i := 4) (v := .bool false) (op_at rfl) (by kernel_rfl) (by kernel_rfl) (by kernel_rfl) (fun _ _ _ h => h) (Or.inl ⟨by rfl, fun w_ hSw => ?_⟩) H0 ?_
              · skip; go_simp
              try simp only [Act.put, List.setIfInBounds_toArray, List.set_cons_zero, List.set_cons_succ]
              refine wpAnyH_take (i := 5) (v := .bool false) (op_at rfl) (by kernel_rfl) (by kernel_rfl) (by kernel_rfl) (fun _ _ _ h => h) (Or.inl ⟨by rfl, fun w_ hSw => ?_⟩) H0 ?_
              · skip; go_simp
              try simp only [Act.put, List.setIfInBounds_toArray, List.set_cons_zero, List.set_cons_succ]
              refine wpAnyH_take (i := 6) (v := .bool false) (op_at rfl) (by kernel_rfl) (by kernel_rfl) (by kernel_rfl) (fun _ _ _ h => h) (Or.inl ⟨by rfl, fun w_ hSw => ?_⟩) H0 ?_
              · skip; go_simp
              try simp only [Act.put, List.setIfInBounds_toArray, List.set_cons_zero, List.set_cons_succ]
              refine wpAnyH_take (i := 7) (v := .int .u64 m) (op_at rfl) (by kernel_rfl) (by kernel_rfl) (by kernel_rfl) (fun _ _ _ h => h) (Or.inl ⟨by rfl, fun w_ hSw => ?_⟩) H0 ?_
              · skip; go_simp
              try simp only [Act.put, List.setIfInBounds_toArray, List.set_cons_zero, List.set_cons_succ]
              refine wpAnyH_take (i := 8) (v := .int .i64 z) (op_at rfl) (by kernel_rfl) (by kernel_rfl) (by kernel_rfl) (fun _ _ _ h => h) (Or.inl ⟨by rfl, fun w_ hSw => ?_⟩) H0 ?_
              · skip; go_simp
              try simp only [Act.put, List.setIfInBounds_toArray, List.set_cons_zero, List.set_cons_succ]
              refine wpAnyH_take (i := 9) (v := .int .u64 z) (op_at rfl) (by kernel_rfl) (by kernel_rfl) (by kernel_rfl) (fun _ _ _ h => h) (Or.inl ⟨by rfl, fun w_ hSw => ?_⟩) H0 ?_
              · skip; go_simp
              try simp only [Act.put, List.setIfInBounds_toArray, List.set_cons_zero, List.set_cons_succ]
              refine wpAnyH_take (i := 10) (v := .bool false) (op_at rfl) (by kernel_rfl) (by kernel_rfl) (by kernel_rfl) (fun _ _ _ h => h) (Or.inl ⟨by rfl, fun w_ hSw => ?_⟩) H0 ?_
              · skip; go_simp
              try simp only [Act.put, List.setIfInBounds_toArray, List.set_cons_zero, List.set_cons_succ]
              refine wpAnyH_take (i := 11) (v := .bool false) (op_at rfl) (by kernel_rfl) (by kernel_rfl) (by kernel_rfl) (fun _ _ _ h => h) (Or.inl ⟨by rfl, fun w_ hSw => ?_⟩) H0 ?_
              · skip; go_simp
              try simp only [Act.put, List.setIfInBounds_toArray, List.set_cons_zero, List.set_cons_succ]
              refine wpAnyH_take (i := 12) (v := .bool false) (op_at rfl) (by kernel_rfl) (by kernel_rfl) (by kernel_rfl) (fun _ _ _ h => h) (Or.inl ⟨by rfl, fun w_ hSw => ?_⟩) H0 ?_
              · skip; go_simp
              try simp only [Act.put, List.setIfInBounds_toArray, List.set_cons_zero, List.set_cons_succ]
              refine wpAnyH_take (i := 13) (v := .int .u64 m) (op_at rfl) (by kernel_rfl) (by kernel_rfl) (by kernel_rfl) (fun _ _ _ h => h) (Or.inl ⟨by rfl, fun w_ hSw => ?_⟩) H0 ?_
              · skip; go_simp
              try simp only [Act.put, List.setIfInBounds_toArray, List.set_cons_zero, List.set_cons_succ]
              refine wpAnyH_take (i := 14) (v := .int .i64 m) (op_at rfl) (by kernel_rfl) (by kernel_rfl) (by kernel_rfl) (fun _ _ _ h => h) (Or.inl ⟨by rfl, fun w_ hSw => ?_⟩) H0 ?_
              · skip; go_simp
              try simp only [Act.put, List.setIfInBounds_toArray, List.set_cons_zero, List.set_cons_succ]
              refine wpAnyH_take (i := 17) (v := .pointer (some ⟨w.heap.size, 0, none⟩)) (op_at rfl) (by kernel_rfl) (by kernel_rfl) (by kernel_rfl) (fun _ _ _ h => h) (Or.inl ⟨by rfl, fun w_ hSw => ?_⟩) H0 ?_
              · skip; go_simp
              try simp only [Act.put, List.setIfInBounds_toArray, List.set_cons_zero, List.set_cons_succ]
              refine wpAnyH_take (i := 18) (v := .slice A2 l2.length c2) (op_at rfl) (by kernel_rfl) (by kernel_rfl) (by kernel_rfl) (fun _ _ _ h => h) (Or.inl ⟨by rfl, fun w_ hSw => ?_⟩) H0 ?_
              · have hc_ := hx0A.out w_ hSw; go_simp
              try simp only [Act.put, List.setIfInBounds_toArray, List.set_cons_zero, List.set_cons_succ]
              refine wpAnyH_take (i := 19) (v := .int .i64 (l2.length : Int)) (op_at rfl) (by kernel_rfl) (by kernel_rfl) (by kernel_rfl) (fun _ _ _ h => h) (Or.inl ⟨by rfl, fun w_ hSw => ?_⟩) H0 ?_
              · skip; go_simp
              try simp only [Act.put, List.setIfInBounds_toArray, List.set_cons_zero, List.set_cons_succ]
              refine wpAnyH_take (i := 21) (v := .slice A l.length c) (op_at rfl) (by kernel_rfl) (by kernel_rfl) (by kernel_rfl) (fun _ _ _ h => h) (Or.inl ⟨by rfl, fun w_ hSw => ?_⟩) H0 ?_
              · skip; go_simp
              try simp only [Act.put, List.setIfInBounds_toArray, List.set_cons_zero, List.set_cons_succ]
              refine wpAnyH_take (i := 22) (v := .int .i64 (l.length : Int)) (op_at rfl) (by kernel_rfl) (by kernel_rfl) (by kernel_rfl) (fun _ _ _ h => h) (Or.inl ⟨by rfl, fun w_ hSw => ?_⟩) H0 ?_
              · skip; go_simp
              try simp only [Act.put, List.setIfInBounds_toArray, List.set_cons_zero, List.set_cons_succ]
              refine wpAnyH_ready (rs := [15]) (by kernel_rfl) (by simp) ?_
              refine AllReadyH.cons (op_at rfl) (fun K hK => ?_) AllReadyH.nil
              go_simp
              go_at_call 59
              with_reducible refine (hcnA.out V0).mono ?_
              rintro e V1_ ⟨⟨A_, c_, rfl⟩, hb⟩
              go_wp2_with fail
              refine hK.out _ _ (below_then H0 H0.size hb) (fun H1_ => ?_)
              clear hK K hb
              try simp only [Act.put, List.setIfInBounds_toArray, List.set_cons_zero, List.set_cons_succ]
              refine wpAnyH_take (i := 16) (v := .int .i64 (L : Int)) (op_at rfl) (by kernel_rfl) (by kernel_rfl) (by kernel_rfl) (fun _ _ _ h => h) (Or.inl ⟨by rfl, fun w_ hSw => ?_⟩) H1_ ?_
              · skip; go_simp
              try simp only [Act.put, List.setIfInBounds_toArray, List.set_cons_zero, List.set_cons_succ]
              refine wpAnyH_take (i := 20) (v := .int .i64 ((L : Int) + (l2.length : Int))) (op_at rfl) (by kernel_rfl) (by kernel_rfl) (by kernel_rfl) (fun _ _ _ h => h) (Or.inl ⟨by rfl, fun w_ hSw => ?_⟩) H1_ ?_
              · skip; go_simp
              try simp only [Act.put, List.setIfInBounds_toArray, List.set_cons_zero, List.set_cons_succ]
              refine wpAnyH_take (i := 23) (v := .bool true) (op_at rfl) (by kernel_rfl) (by kernel_rfl) (by kernel_rfl) (fun _ _ _ h => h) (Or.inl ⟨by rfl, fun w_ hSw => ?_⟩) H1_ ?_
              · skip; go_simp
              try simp only [Act.put, List.setIfInBounds_toArray, List.set_cons_zero, List.set_cons_succ]
              refine wpAnyH_take (i := 24) (v := .bool true) (op_at rfl) (by kernel_rfl) (by kernel_rfl) (by kernel_rfl) (fun _ _ _ h => h) (Or.inl ⟨by rfl, fun w_ hSw => ?_⟩) H1_ ?_
              · skip; go_simp
              try simp only [Act.put, List.setIfInBounds_toArray, List.set_cons_zero, List.set_cons_succ]
              refine wpAnyH_done (by kernel_rfl) ?_ _
              refine NoPanic.normal ?_
              have hHA := Aside0.mk H1_
              go_wp2_with (first | (go_at_call 60; ((with_reducible refine (dwrong_calls _).mono ?_); rintro e w8 ⟨⟨A8, c8, rfl⟩, hb⟩; have hZ8A := Aside0.mk ((hZ6A.out.below hHA.out).below hb); have hb8A := Aside0.mk (below_then (below_then hb6A.out hb6A.out.size hHA.out) (below_then hb6A.out hb6A.out.size hHA.out).size hb); clear hb)) | (refine wpList_put_blk rfl 79 (.tmp 4) (.tmp 53) rfl (w.heap.size + 1) 79 [.slice A8 0 c8, .bool true] [.slice none 0 0, .bool false] rfl rfl rfl hZ8A.out (info_in2 _ _) (by intro u hu; simp at hu; rcases hu with rfl | rfl <;> rfl) ?_; intro w9 hZ9 hg9 hs9))
              exact bodyPost_ret (results_ct rfl _ _ (w.heap.size + 1) 79 #[.slice A8 0 c8, .bool true] (0, 0) _ rfl hZ9 Try.underlying79 rfl (info_in2 _ _)) rfl ⟨⟨_, rfl, A8, c8, rfl⟩, hb8A.out.grown hg9 hb8A.out.size (fun k e => by have := Option.some.inj e; omega)⟩
      · have hb2 := num_bound (n := 8) hrl
        have hn0 := num_zero (n := 8) (r := some l1)
        have hl8 : ∀ l', (rdNum 8 (some l1)).2 = some l' → (l1.length : Int) = 8 + (l'.length : Int) := fun l' e => by have := num_len (r' := none) e (fun m h => by cases h; rfl); omega
        have hc2A := Aside0.mk (fun W (u : Value) (h : DR (fun k => (ok k ∧ k < w.heap.size) ∨ V.heap.size ≤ k) W u (some l1)) => dnum_at 8 8 rfl (by simp) h)
        obtain ⟨m, hm1⟩ : ∃ m, (rdNum 8 (some l1)).1 = m := ⟨_, rfl⟩
        obtain ⟨r2, hr2⟩ : ∃ r2, (rdNum 8 (some l1)).2 = r2 := ⟨_, rfl⟩
        have hz2 : rdNum 8 (some l1) = (m, r2) := by rw [← hm1, ← hr2]
        rw [hm1] at hb2 hc2A hn0
        rw [hr2] at hc2A hl8 hn0
        have hz2A := Aside0.mk hz2
        clear hm1 hr2 hz2
        cases r2 with
        | none =>
          obtain rfl : m = 0 := hn0 rfl
          rw [count_wide_bad hz1A.out (k := 8) rfl (by decide) hz2A.out (.inr (.inl rfl))]
          clear hl8 hn0 hl
          go_enter Try.func41, Try.ntmps41
          go_wp2_with (first | ((with_reducible refine gate_dst (N := 9) rfl ?_); rw [show (w.alloc (.cells #[.slice A l.length c, .bool r.isNone] 79)).alloc (.cells #[.slice none 0 0, .bool false] 79) = V from hVA.out.symm]) | (go_at_call 43; first | ((with_reducible refine hcA.out.mono ?_); rintro e w3 ⟨⟨v1, rfl, hD⟩, hb⟩; obtain ⟨A1, c1, rfl, hc1, hF1, hBy1⟩ := hD; have hD3 : DR (fun k => (ok k ∧ k < w.heap.size) ∨ V.heap.size ≤ k) w3 (.agg #[.slice A1 l1.length c1, .bool false]) (some l1) := ⟨A1, c1, rfl, hc1, hF1, hBy1⟩; have hS3 : w.heap.size + 2 ≤ w3.heap.size := (by have := hb.size; omega); have hX3A := Aside0.mk (hXA.out.below hb); have hZ3A := Aside0.mk (hZA.out.below hb); have hb3A := Aside0.mk (below_then hBA.out hBA.out.size hb); have hD3A := Aside0.mk hD3; clear hb hD3 x0 x1) | ((with_reducible refine (hc2A.out _ _ hD4A.out).mono ?_); rintro e w5 ⟨⟨v1, rfl, hD⟩, hb⟩; obtain ⟨A2, c2, rfl⟩ := hD; have hD5 := True.intro; have hX5A := Aside0.mk (hX4A.out.below hb); have hZ5A := Aside0.mk (hZ4A.out.below hb); have hb5A := Aside0.mk (below_then hb4A.out hb4A.out.size hb); have hD5A := Aside0.mk hD5; clear hb hD5 x0 x1)) | (refine wpList_put_blk rfl 79 (.tmp 2) (.tmp 14) rfl w.heap.size 79 [.slice A1 l1.length c1, .bool false] [.slice A l.length c, .bool r.isNone] rfl rfl rfl hX3A.out (info_in2 _ _) (by intro u hu; simp at hu; rcases hu with rfl | rfl <;> rfl) ?_; intro w4 hX4 hg4 hs4; have x0 := hX4.get 0 _ rfl; have x1 := hX4.get 1 _ rfl; have hX4A := Aside0.mk hX4; have hZ4A := Aside0.mk (hZ3A.out.grown hg4 (by intro e; have := Option.some.inj e; omega)); have hb4A := Aside0.mk (hb3A.out.grown hg4 hb3A.out.size (fun k e => by have := Option.some.inj e; omega)); have hD4A := Aside0.mk (hD3A.out.grown hg4 (by intro k hk e; have := Option.some.inj e; rcases hk with hk | hk <;> omega)); clear hg4 hX4) | (refine wpList_put_blk rfl 79 (.tmp 2) (.tmp 26) rfl w.heap.size 79 [.slice A2 0 c2, .bool true] [.slice A1 l1.length c1, .bool false] rfl rfl rfl hX5A.out (info_in2 _ _) (by intro u hu; simp at hu; rcases hu with rfl | rfl <;> rfl) ?_; intro w6 hX6 hg6 hs6; have x0 := hX6.get 0 _ rfl; have x1 := hX6.get 1 _ rfl; have hX6A := Aside0.mk hX6; have hZ6A := Aside0.mk (hZ5A.out.grown hg6 (by intro e; have := Option.some.inj e; omega)); have hb6A := Aside0.mk (hb5A.out.grown hg6 hb5A.out.size (fun k e => by have := Option.some.inj e; omega)); have hD6A := Aside0.mk (True.intro); clear hg6 hX6))
          refine wp_region_noPanic ?_
          have hx0A := Aside0.mk (fun W' (hW : Below w6.heap.size w6 W') => (hX6A.out.below hW).get 0 _ rfl)
          have hx1A := Aside0.mk (fun W' (hW : Below w6.heap.size w6 W') => (hX6A.out.below hW).get 1 _ rfl)
          clear x0 x1
          have H0 : Below w6.heap.size w6 w6.drew := pw_below_drewN (Below.refl _ _) 1
          refine wp_region_held_drew (S := fun V1 => Below w6.heap.size w6 V1) (by kernel_rfl) H0 (fun _ => ?_)
          generalize w6.drew = V0 at *
          refine wpAnyH_take (i := 0) (v := .pointer (some ⟨w.heap.size, 1, none⟩)) (op_at rfl) (by kernel_rfl) (by kernel_rfl) (by kernel_rfl) (fun _ _ _ h => h) (Or.inl ⟨by rfl, fun w_ hSw => ?_⟩) H0 ?_
          · skip; go_simp
          try simp only [Act.put, List.setIfInBounds_toArray, List.set_cons_zero, List.set_cons_succ]
          refine wpAnyH_take (i := 1) (v := .bool true) (op_at rfl) (by kernel_rfl) (by kernel_rfl) (by kernel_rfl) (fun _ _ _ h => h) (Or.inl ⟨by rfl, fun w_ hSw => ?_⟩) H0 ?_
          · have hc_ := hx1A.out w_ hSw; go_simp
          try simp only [Act.put, List.setIfInBounds_toArray, List.set_cons_zero, List.set_cons_succ]
          refine wpAnyH_take (i := 2) (v := .bool true) (op_at rfl) (by kernel_rfl) (by kernel_rfl) (by kernel_rfl) (fun _ _ _ h => h) (Or.inl ⟨by rfl, fun w_ hSw => ?_⟩) H0 ?_
          · skip; go_simp
          try simp only [Act.put, List.setIfInBounds_toArray, List.set_cons_zero, List.set_cons_succ]
          refine wpAnyH_take (i := 3) (v := undef) (op_at rfl) (by kernel_rfl) (by kernel_rfl) (by kernel_rfl) (fun _ _ _ h => h) (Or.inr ⟨by rfl, rfl⟩) H0 ?_
          try simp only [Act.put, List.setIfInBounds_toArray, List.set_cons_zero, List.set_cons_succ]
          refine wpAnyH_take (i := 4) (v := undef) (op_at rfl) (by kernel_rfl) (by kernel_rfl) (by kernel_rfl) (fun _ _ _ h => h) (Or.inr ⟨by rfl, rfl⟩) H0 ?_
          try simp only [Act.put, List.setIfInBounds_toArray, List.set_cons_zero, List.set_cons_succ]
          refine wpAnyH_take (i := 5) (v := .bool true) (op_at rfl) (by kernel_rfl) (by kernel_rfl) (by kernel_rfl) (fun _ _ _ h => h) (Or.inl ⟨by rfl, fun w_ hSw => ?_⟩) H0 ?_
          · skip; go_simp
          try simp only [Act.put, List.setIfInBounds_toArray, List.set_cons_zero, List.set_cons_succ]
          refine wpAnyH_take (i := 6) (v := .bool true) (op_at rfl) (by kernel_rfl) (by kernel_rfl) (by kernel_rfl) (fun _ _ _ h => h) (Or.inl ⟨by rfl, fun w_ hSw => ?_⟩) H0 ?_
          · skip; go_simp
          try simp only [Act.put, List.setIfInBounds_toArray, List.set_cons_zero, List.set_cons_succ]
          refine wpAnyH_take (i := 7) (v := undef) (op_at rfl) (by kernel_rfl) (by kernel_rfl) (by kernel_rfl) (fun _ _ _ h => h) (Or.inr ⟨by rfl, rfl⟩) H0 ?_
          try simp only [Act.put, List.setIfInBounds_toArray, List.set_cons_zero, List.set_cons_succ]
          refine wpAnyH_take (i := 8) (v := undef) (op_at rfl) (by kernel_rfl) (by kernel_rfl) (by kernel_rfl) (fun _ _ _ h => h) (Or.inr ⟨by rfl, rfl⟩) H0 ?_
          try simp only [Act.put, List.setIfInBounds_toArray, List.set_cons_zero, List.set_cons_succ]
          refine wpAnyH_take (i := 9) (v := undef) (op_at rfl) (by kernel_rfl) (by kernel_rfl) (by kernel_rfl) (fun _ _ _ h => h) (Or.inr ⟨by rfl, rfl⟩) H0 ?_
          try simp only [Act.put, List.setIfInBounds_toArray, List.set_cons_zero, List.set_cons_succ]
          refine wpAnyH_take (i := 10) (v := undef) (op_at rfl) (by kernel_rfl) (by kernel_rfl) (by kernel_rfl) (fun _ _ _ h => h) (Or.inr ⟨by rfl, rfl⟩) H0 ?_
          try simp only [Act.put, List.setIfInBounds_toArray, List.set_cons_zero, List.set_cons_succ]
          refine wpAnyH_take (i := 11) (v := .bool true) (op_at rfl) (by kernel_rfl) (by kernel_rfl) (by kernel_rfl) (fun _ _ _ h => h) (Or.inl ⟨by rfl, fun w_ hSw => ?_⟩) H0 ?_
          · skip; go_simp
          try simp only [Act.put, List.setIfInBounds_toArray, List.set_cons_zero, List.set_cons_succ]
          refine wpAnyH_take (i := 12) (v := .bool true) (op_at rfl) (by kernel_rfl) (by kernel_rfl) (by kernel_rfl) (fun _ _ _ h => h) (Or.inl ⟨by rfl, fun w_ hSw => ?_⟩) H0 ?_
          · skip; go_simp
          try simp only [Act.put, List.setIfInBounds_toArray, List.set_cons_zero, List.set_cons_succ]
          refine wpAnyH_take (i := 13) (v := undef) (op_at rfl) (by kernel_rfl) (by kernel_rfl) (by kernel_rfl) (fun _ _ _ h => h) (Or.inr ⟨by rfl, rfl⟩) H0 ?_
          try simp only [Act.put, List.setIfInBounds_toArray, List.set_cons_zero, List.set_cons_succ]
          refine wpAnyH_take (i := 14) (v := undef) (op_at rfl) (by kernel_rfl) (by kernel_rfl) (by kernel_rfl) (fun _ _ _ h => h) (Or.inr ⟨by rfl, rfl⟩) H0 ?_
          try simp only [Act.put, List.setIfInBounds_toArray, List.set_cons_zero, List.set_cons_succ]
          refine wpAnyH_take (i := 15) (v := undef) (op_at rfl) (by kernel_rfl) (by kernel_rfl) (by kernel_rfl) (fun _ _ _ h => h) (Or.inr ⟨by rfl, rfl⟩) H0 ?_
          try simp only [Act.put, List.setIfInBounds_toArray, List.set_cons_zero, List.set_cons_succ]
          refine wpAnyH_take (i := 16) (v := undef) (op_at rfl) (by kernel_rfl) (by kernel_rfl) (by kernel_rfl) (fun _ _ _ h => h) (Or.inr ⟨by rfl, rfl⟩) H0 ?_
          try simp only [Act.put, List.setIfInBounds_toArray, List.set_cons_zero, List.set_cons_succ]
          refine wpAnyH_take (i := 17) (v := undef) (op_at rfl) (by kernel_rfl) (by kernel_rfl) (by kernel_rfl) (fun _ _ _ h => h) (Or.inr ⟨by rfl, rfl⟩) H0 ?_
          try simp only [Act.put, List.setIfInBounds_toArray, List.set_cons_zero, List.set_cons_succ]
          refine wpAnyH_take (i := 18) (v := undef) (op_at rfl) (by kernel_rfl) (by kernel_rfl) (by kernel_rfl) (fun _ _ _ h => h) (Or.inr ⟨by rfl, rfl⟩) H0 ?_
          try simp only [Act.put, List.setIfInBounds_toArray, List.set_cons_zero, List.set_cons_succ]
          refine wpAnyH_take (i := 19) (v := undef) (op_at rfl) (by kernel_rfl) (by kernel_rfl) (by kernel_rfl) (fun _ _ _ h => h) (Or.inr ⟨by rfl, rfl⟩) H0 ?_
          try simp only [Act.put, List.setIfInBounds_toArray, List.set_cons_zero, List.set_cons_succ]
          refine wpAnyH_take (i := 20) (v := undef) (op_at rfl) (by kernel_rfl) (by kernel_rfl) (by kernel_rfl) (fun _ _ _ h => h) (Or.inr ⟨by rfl, rfl⟩) H0 ?_
          try simp only [Act.put, List.setIfInBounds_toArray, List.set_cons_zero, List.set_cons_succ]
          refine wpAnyH_take (i := 21) (v := undef) (op_at rfl) (by kernel_rfl) (by kernel_rfl) (by kernel_rfl) (fun _ _ _ h => h) (Or.inr ⟨by rfl, rfl⟩) H0 ?_
          try simp only [Act.put, List.setIfInBounds_toArray, List.set_cons_zero, List.set_cons_succ]
          refine wpAnyH_take (i := 22) (v := undef) (op_at rfl) (by kernel_rfl) (by kernel_rfl) (by kernel_rfl) (fun _ _ _ h => h) (Or.inr ⟨by rfl, rfl⟩) H0 ?_
          try simp only [Act.put, List.setIfInBounds_toArray, List.set_cons_zero, List.set_cons_succ]
          refine wpAnyH_take (i := 23) (v := undef) (op_at rfl) (by kernel_rfl) (by kernel_rfl) (by kernel_rfl) (fun _ _ _ h => h) (Or.inr ⟨by rfl, rfl⟩) H0 ?_
          try simp only [Act.put, List.setIfInBounds_toArray, List.set_cons_zero, List.set_cons_succ]
          refine wpAnyH_take (i := 24) (v := .bool true) (op_at rfl) (by kernel_rfl) (by kernel_rfl) (by kernel_rfl) (fun _ _ _ h => h) (Or.inl ⟨by rfl, fun w_ hSw => ?_⟩) H0 ?_
          · skip; go_simp
          try simp only [Act.put, List.setIfInBounds_toArray, List.set_cons_zero, List.set_cons_succ]
          refine wpAnyH_done (by kernel_rfl) ?_ _
          refine NoPanic.normal ?_
          have hHA := Aside0.mk H0
          go_wp2_with (first | (go_at_call 60; ((with_reducible refine (dwrong_calls _).mono ?_); rintro e w8 ⟨⟨A8, c8, rfl⟩, hb⟩; have hZ8A := Aside0.mk ((hZ6A.out.below hHA.out).below hb); have hb8A := Aside0.mk (below_then (below_then hb6A.out hb6A.out.size hHA.out) (below_then hb6A.out hb6A.out.size hHA.out).size hb); clear hb)) | (refine wpList_put_blk rfl 79 (.tmp 4) (.tmp 53) rfl (w.heap.size + 1) 79 [.slice A8 0 c8, .bool true] [.slice none 0 0, .bool false] rfl rfl rfl hZ8A.out (info_in2 _ _) (by intro u hu; simp at hu; rcases hu with rfl | rfl <;> rfl) ?_; intro w9 hZ9 hg9 hs9))
          exact bodyPost_ret (results_ct rfl _ _ (w.heap.size + 1) 79 #[.slice A8 0 c8, .bool true] (0, 0) _ rfl hZ9 Try.underlying79 rfl (info_in2 _ _)) rfl ⟨⟨_, rfl, A8, c8, rfl⟩, hb8A.out.grown hg9 hb8A.out.size (fun k e => by have := Option.some.inj e; omega)⟩
        | some l2 =>
          have hl3 := hl8 l2 rfl
          clear hl8 hn0
          by_cases q2 : z < m
          · rw [count_wide_bad hz1A.out (k := 8) rfl (by decide) hz2A.out (.inr (.inr (by omega)))]
            clear hl hl3
            go_enter Try.func41, Try.ntmps41
            go_wp2_with (first | ((with_reducible refine gate_dst (N := 9) rfl ?_); rw [show (w.alloc (.cells #[.slice A l.length c, .bool r.isNone] 79)).alloc (.cells #[.slice none 0 0, .bool false] 79) = V from hVA.out.symm]) | (go_at_call 43; first | ((with_reducible refine hcA.out.mono ?_); rintro e w3 ⟨⟨v1, rfl, hD⟩, hb⟩; obtain ⟨A1, c1, rfl, hc1, hF1, hBy1⟩ := hD; have hD3 : DR (fun k => (ok k ∧ k < w.heap.size) ∨ V.heap.size ≤ k) w3 (.agg #[.slice A1 l1.length c1, .bool false]) (some l1) := ⟨A1, c1, rfl, hc1, hF1, hBy1⟩; have hS3 : w.heap.size + 2 ≤ w3.heap.size := (by have := hb.size; omega); have hX3A := Aside0.mk (hXA.out.below hb); have hZ3A := Aside0.mk (hZA.out.below hb); have hb3A := Aside0.mk (below_then hBA.out hBA.out.size hb); have hD3A := Aside0.mk hD3; clear hb hD3 x0 x1) | ((with_reducible refine (hc2A.out _ _ hD4A.out).mono ?_); rintro e w5 ⟨⟨v1, rfl, hD⟩, hb⟩; obtain ⟨A2, c2, rfl, hc2, hF2, hBy2⟩ := hD; have hD5 : DR (fun k => ((ok k ∧ k < w.heap.size) ∨ V.heap.size ≤ k) ∨ w4.heap.size ≤ k) w5 (.agg #[.slice A2 l2.length c2, .bool false]) (some l2) := ⟨A2, c2, rfl, hc2, hF2, hBy2⟩; have hX5A := Aside0.mk (hX4A.out.below hb); have hZ5A := Aside0.mk (hZ4A.out.below hb); have hb5A := Aside0.mk (below_then hb4A.out hb4A.out.size hb); have hD5A := Aside0.mk hD5; clear hb hD5 x0 x1)) | (refine wpList_put_blk rfl 79 (.tmp 2) (.tmp 14) rfl w.heap.size 79 [.slice A1 l1.length c1, .bool false] [.slice A l.length c, .bool r.isNone] rfl rfl rfl hX3A.out (info_in2 _ _) (by intro u hu; simp at hu; rcases hu with rfl | rfl <;> rfl) ?_; intro w4 hX4 hg4 hs4; have x0 := hX4.get 0 _ rfl; have x1 := hX4.get 1 _ rfl; have hX4A := Aside0.mk hX4; have hZ4A := Aside0.mk (hZ3A.out.grown hg4 (by intro e; have := Option.some.inj e; omega)); have hb4A := Aside0.mk (hb3A.out.grown hg4 hb3A.out.size (fun k e => by have := Option.some.inj e; omega)); have hD4A := Aside0.mk (hD3A.out.grown hg4 (by intro k hk e; have := Option.some.inj e; rcases hk with hk | hk <;> omega)); clear hg4 hX4) | (refine wpList_put_blk rfl 79 (.tmp 2) (.tmp 26) rfl w.heap.size 79 [.slice A2 l2.length c2, .bool false] [.slice A1 l1.length c1, .bool false] rfl rfl rfl hX5A.out (info_in2 _ _) (by intro u hu; simp at hu; rcases hu with rfl | rfl <;> rfl) ?_; intro w6 hX6 hg6 hs6; have x0 := hX6.get 0 _ rfl; have x1 := hX6.get 1 _ rfl; have hX6A := Aside0.mk hX6; have hZ6A := Aside0.mk (hZ5A.out.grown hg6 (by intro e; have := Option.some.inj e; omega)); have hb6A := Aside0.mk (hb5A.out.grown hg6 hb5A.out.size (fun k e => by have := Option.some.inj e; omega)); have hD6A := Aside0.mk (hD5A.out.grown hg6 (by intro k hk e; have := Option.some.inj e; rcases hk with (hk | hk) | hk <;> omega)); clear hg6 hX6))
            refine wp_region_noPanic ?_
            have hx0A := Aside0.mk (fun W' (hW : Below w6.heap.size w6 W') => (hX6A.out.below hW).get 0 _ rfl)
            have hx1A := Aside0.mk (fun W' (hW : Below w6.heap.size w6 W') => (hX6A.out.below hW).get 1 _ rfl)
            clear x0 x1
            have H0 : Below w6.heap.size w6 w6.drew := pw_below_drewN (Below.refl _ _) 1
            refine wp_region_held_drew (S := fun V1 => Below w6.heap.size w6 V1) (by kernel_rfl) H0 (fun _ => ?_)
            generalize w6.drew = V0 at *
            refine wpAnyH_take (i := 0) (v := .pointer (some ⟨w.heap.size, 1, none⟩)) (op_at rfl) (by kernel_rfl) (by kernel_rfl) (by kernel_rfl) (fun _ _ _ h => h) (Or.inl ⟨by rfl, fun w_ hSw => ?_⟩) H0 ?_
            · skip; go_simp
            try simp only [Act.put, List.setIfInBounds_toArray, List.set_cons_zero, List.set_cons_succ]
            refine wpAnyH_take (i := 1) (v := .bool false) (op_at rfl) (by kernel_rfl) (by kernel_rfl) (by kernel_rfl) (fun _ _ _ h => h) (Or.inl ⟨by rfl, fun w_ hSw => ?_⟩) H0 ?_
            · have hc_ := hx1A.out w_ hSw; go_simp
            try simp only [Act.put, List.setIfInBounds_toArray, List.set_cons_zero, List.set_cons_succ]
            refine wpAnyH_take (i := 2) (v := .bool false) (op_at rfl) (by kernel_rfl) (by kernel_rfl) (by kernel_rfl) (fun _ _ _ h => h) (Or.inl ⟨by rfl, fun w_ hSw => ?_⟩) H0 ?_
            · skip; go_simp
            try simp only [Act.put, List.setIfInBounds_toArray, List.set_cons_zero, List.set_cons_succ]
            refine wpAnyH_take (i := 3) (v := .int .i64 z) (op_at rfl) (by kernel_rfl) (by kernel_rfl) (by kernel_rfl) (fun _ _ _ h => h) (Or.inl ⟨by rfl, fun w_ hSw => ?_⟩) H0 ?_
            · skip; go_simp
            try simp only [Act.put, List.setIfInBounds_toArray, List.set_cons_zero, List.set_cons_succ]
            refine wpAnyH_take (i := 4) (v := .bool false) (op_at rfl) (by kernel_rfl) (by kernel_rfl) (by kernel_rfl) (fun _ _ _ h => h) (Or.inl ⟨by rfl, fun w_ hSw => ?_⟩) H0 ?_
            · skip; go_simp
            try simp only [Act.put, List.setIfInBounds_toArray, List.set_cons_zero, List.set_cons_succ]
            refine wpAnyH_take (i := 5) (v := .bool false) (op_at rfl) (by kernel_rfl) (by kernel_rfl) (by kernel_rfl) (fun _ _ _ h => h) (Or.inl ⟨by rfl, fun w_ hSw => ?_⟩) H0 ?_
            · skip; go_simp
            try simp only [Act.put, List.setIfInBounds_toArray, List.set_cons_zero, List.set_cons_succ]
            refine wpAnyH_take (i := 6) (v := .bool false) (op_at rfl) (by kernel_rfl) (by kernel_rfl) (by kernel_rfl) (fun _ _ _ h => h) (Or.inl ⟨by rfl, fun w_ hSw => ?_⟩) H0 ?_
            · skip; go_simp
            try simp only [Act.put, List.setIfInBounds_toArray, List.set_cons_zero, List.set_cons_succ]
            refine wpAnyH_take (i := 7) (v := .int .u64 m) (op_at rfl) (by kernel_rfl) (by kernel_rfl) (by kernel_rfl) (fun _ _ _ h => h) (Or.inl ⟨by rfl, fun w_ hSw => ?_⟩) H0 ?_
            · skip; go_simp
            try simp only [Act.put, List.setIfInBounds_toArray, List.set_cons_zero, List.set_cons_succ]
            refine wpAnyH_take (i := 8) (v := .int .i64 z) (op_at rfl) (by kernel_rfl) (by kernel_rfl) (by kernel_rfl) (fun _ _ _ h => h) (Or.inl ⟨by rfl, fun w_ hSw => ?_⟩) H0 ?_
            · skip; go_simp
            try simp only [Act.put, List.setIfInBounds_toArray, List.set_cons_zero, List.set_cons_succ]
            refine wpAnyH_take (i := 9) (v := .int .u64 z) (op_at rfl) (by kernel_rfl) (by kernel_rfl) (by kernel_rfl) (fun _ _ _ h => h) (Or.inl ⟨by rfl, fun w_ hSw => ?_⟩) H0 ?_
            · skip; go_simp
            try simp only [Act.put, List.setIfInBounds_toArray, List.set_cons_zero, List.set_cons_succ]
            refine wpAnyH_take (i := 10) (v := .bool true) (op_at rfl) (by kernel_rfl) (by kernel_rfl) (by kernel_rfl) (fun _ _ _ h => h) (Or.inl ⟨by rfl, fun w_ hSw => ?_⟩) H0 ?_
            · skip; go_simp
            try simp only [Act.put, List.setIfInBounds_toArray, List.set_cons_zero, List.set_cons_succ]
            refine wpAnyH_take (i := 11) (v := .bool true) (op_at rfl) (by kernel_rfl) (by kernel_rfl) (by kernel_rfl) (fun _ _ _ h => h) (Or.inl ⟨by rfl, fun w_ hSw => ?_⟩) H0 ?_
            · skip; go_simp
            try simp only [Act.put, List.setIfInBounds_toArray, List.set_cons_zero, List.set_cons_succ]
            refine wpAnyH_take (i := 12) (v := .bool true) (op_at rfl) (by kernel_rfl) (by kernel_rfl) (by kernel_rfl) (fun _ _ _ h => h) (Or.inl ⟨by rfl, fun w_ hSw => ?_⟩) H0 ?_
            · skip; go_simp
            try simp only [Act.put, List.setIfInBounds_toArray, List.set_cons_zero, List.set_cons_succ]
            refine wpAnyH_take (i := 13) (v := undef) (op_at rfl) (by kernel_rfl) (by kernel_rfl) (by kernel_rfl) (fun _ _ _ h => h) (Or.inr ⟨by rfl, rfl⟩) H0 ?_
            try simp only [Act.put, List.setIfInBounds_toArray, List.set_cons_zero, List.set_cons_succ]
            refine wpAnyH_take (i := 14) (v := undef) (op_at rfl) (by kernel_rfl) (by kernel_rfl) (by kernel_rfl) (fun _ _ _ h => h) (Or.inr ⟨by rfl, rfl⟩) H0 ?_
            try simp only [Act.put, List.setIfInBounds_toArray, List.set_cons_zero, List.set_cons_succ]
            refine wpAnyH_take (i := 15) (v := undef) (op_at rfl) (by kernel_rfl) (by kernel_rfl) (by kernel_rfl) (fun _ _ _ h => h) (Or.inr ⟨by rfl, rfl⟩) H0 ?_
            try simp only [Act.put, List.setIfInBounds_toArray, List.set_cons_zero, List.set_cons_succ]
            refine wpAnyH_take (i := 16) (v := undef) (op_at rfl) (by kernel_rfl) (by kernel_rfl) (by kernel_rfl) (fun _ _ _ h => h) (Or.inr ⟨by rfl, rfl⟩) H0 ?_
            try simp only [Act.put, List.setIfInBounds_toArray, List.set_cons_zero, List.set_cons_succ]
            refine wpAnyH_take (i := 17) (v := undef) (op_at rfl) (by kernel_rfl) (by kernel_rfl) (by kernel_rfl) (fun _ _ _ h => h) (Or.inr ⟨by rfl, rfl⟩) H0 ?_
            try simp only [Act.put, List.setIfInBounds_toArray, List.set_cons_zero, List.set_cons_succ]
            refine wpAnyH_take (i := 18) (v := undef) (op_at rfl) (by kernel_rfl) (by kernel_rfl) (by kernel_rfl) (fun _ _ _ h => h) (Or.inr ⟨by rfl, rfl⟩) H0 ?_
            try simp only [Act.put, List.setIfInBounds_toArray, List.set_cons_zero, List.set_cons_succ]
            refine wpAnyH_take (i := 19) (v := undef) (op_at rfl) (by kernel_rfl) (by kernel_rfl) (by kernel_rfl) (fun _ _ _ h => h) (Or.inr ⟨by rfl, rfl⟩) H0 ?_
            try simp only [Act.put, List.setIfInBounds_toArray, List.set_cons_zero, List.set_cons_succ]
            refine wpAnyH_take (i := 20) (v := undef) (op_at rfl) (by kernel_rfl) (by kernel_rfl) (by kernel_rfl) (fun _ _ _ h => h) (Or.inr ⟨by rfl, rfl⟩) H0 ?_
            try simp only [Act.put, List.setIfInBounds_toArray, List.set_cons_zero, List.set_cons_succ]
            refine wpAnyH_take (i := 21) (v := undef) (op_at rfl) (by kernel_rfl) (by kernel_rfl) (by kernel_rfl) (fun _ _ _ h => h) (Or.inr ⟨by rfl, rfl⟩) H0 ?_
            try simp only [Act.put, List.setIfInBounds_toArray, List.set_cons_zero, List.set_cons_succ]
            refine wpAnyH_take (i := 22) (v := undef) (op_at rfl) (by kernel_rfl) (by kernel_rfl) (by kernel_rfl) (fun _ _ _ h => h) (Or.inr ⟨by rfl, rfl⟩) H0 ?_
            try simp only [Act.put, List.setIfInBounds_toArray, List.set_cons_zero, List.set_cons_succ]
            refine wpAnyH_take (i := 23) (v := undef) (op_at rfl) (by kernel_rfl) (by kernel_rfl) (by kernel_rfl) (fun _ _ _ h => h) (Or.inr ⟨by rfl, rfl⟩) H0 ?_
            try simp only [Act.put, List.setIfInBounds_toArray, List.set_cons_zero, List.set_cons_succ]
            refine wpAnyH_take (i := 24) (v := .bool true) (op_at rfl) (by kernel_rfl) (by kernel_rfl) (by kernel_rfl) (fun _ _ _ h => h) (Or.inl ⟨by rfl, fun w_ hSw => ?_⟩) H0 ?_
            · skip; go_simp
            try simp only [Act.put, List.setIfInBounds_toArray, List.set_cons_zero, List.set_cons_succ]
            refine wpAnyH_done (by kernel_rfl) ?_ _
            refine NoPanic.normal ?_
            have hHA := Aside0.mk H0
            go_wp2_with (first | (go_at_call 60; ((with_reducible refine (dwrong_calls _).mono ?_); rintro e w8 ⟨⟨A8, c8, rfl⟩, hb⟩; have hZ8A := Aside0.mk ((hZ6A.out.below hHA.out).below hb); have hb8A := Aside0.mk (below_then (below_then hb6A.out hb6A.out.size hHA.out) (below_then hb6A.out hb6A.out.size hHA.out).size hb); clear hb)) | (refine wpList_put_blk rfl 79 (.tmp 4) (.tmp 53) rfl (w.heap.size + 1) 79 [.slice A8 0 c8, .bool true] [.slice none 0 0, .bool false] rfl rfl rfl hZ8A.out (info_in2 _ _) (by intro u hu; simp at hu; rcases hu with rfl | rfl <;> rfl) ?_; intro w9 hZ9 hg9 hs9))
            exact bodyPost_ret (results_ct rfl _ _ (w.heap.size + 1) 79 #[.slice A8 0 c8, .bool true] (0, 0) _ rfl hZ9 Try.underlying79 rfl (info_in2 _ _)) rfl ⟨⟨_, rfl, A8, c8, rfl⟩, hb8A.out.grown hg9 hb8A.out.size (fun k e => by have := Option.some.inj e; omega)⟩
          · have hm0 : ((m.toNat : Nat) : Int) = m := by omega
            obtain ⟨L, hL⟩ : ∃ L, cntl m.toNat = L := ⟨_, rfl⟩
            have hL5 : L ≤ 5 := by rw [← hL]; unfold cntl; split; decide; split <;> decide
            have hcnA := Aside0.mk (fun W => dcount_calls m.toNat m hm0 (by omega) L hL W)
            have e9 : IntKind.i64.wrap m = m := IntWalk.i64_in _ (by omega)
            have e8 : IntKind.i64.wrap ((L : Int) + (l2.length : Int)) = (L : Int) + (l2.length : Int) := IntWalk.i64_in _ (by omega)
            have hmk := mark_len8 m.toNat (by omega)
            rw [hm0, hL] at hmk
            rw [count_wide_bad hz1A.out (k := 8) rfl (by decide) hz2A.out (.inl hmk.1)]
            have p3 : ¬ ((L : Int) + (l2.length : Int)) = (l.length : Int) := by have := hmk.2; omega
            clear hmk hL hm0 hl hl3 hL5
            go_enter Try.func41, Try.ntmps41
            go_wp2_with (first | ((with_reducible refine gate_dst (N := 9) rfl ?_); rw [show (w.alloc (.cells #[.slice A l.length c, .bool r.isNone] 79)).alloc (.cells #[.slice none 0 0, .bool false] 79) = V from hVA.out.symm]) | (go_at_call 43; first | ((with_reducible refine hcA.out.mono ?_); rintro e w3 ⟨⟨v1, rfl, hD⟩, hb⟩; obtain ⟨A1, c1, rfl, hc1, hF1, hBy1⟩ := hD; have hD3 : DR (fun k => (ok k ∧ k < w.heap.size) ∨ V.heap.size ≤ k) w3 (.agg #[.slice A1 l1.length c1, .bool false]) (some l1) := ⟨A1, c1, rfl, hc1, hF1, hBy1⟩; have hS3 : w.heap.size + 2 ≤ w3.heap.size := (by have := hb.size; omega); have hX3A := Aside0.mk (hXA.out.below hb); have hZ3A := Aside0.mk (hZA.out.below hb); have hb3A := Aside0.mk (below_then hBA.out hBA.out.size hb); have hD3A := Aside0.mk hD3; clear hb hD3 x0 x1) | ((with_reducible refine (hc2A.out _ _ hD4A.out).mono ?_); rintro e w5 ⟨⟨v1, rfl, hD⟩, hb⟩; obtain ⟨A2, c2, rfl, hc2, hF2, hBy2⟩ := hD; have hD5 : DR (fun k => ((ok k ∧ k < w.heap.size) ∨ V.heap.size ≤ k) ∨ w4.heap.size ≤ k) w5 (.agg #[.slice A2 l2.length c2, .bool false]) (some l2) := ⟨A2, c2, rfl, hc2, hF2, hBy2⟩; have hX5A := Aside0.mk (hX4A.out.below hb); have hZ5A := Aside0.mk (hZ4A.out.below hb); have hb5A := Aside0.mk (below_then hb4A.out hb4A.out.size hb); have hD5A := Aside0.mk hD5; clear hb hD5 x0 x1)) | (refine wpList_put_blk rfl 79 (.tmp 2) (.tmp 14) rfl w.heap.size 79 [.slice A1 l1.length c1, .bool false] [.slice A l.length c, .bool r.isNone] rfl rfl rfl hX3A.out (info_in2 _ _) (by intro u hu; simp at hu; rcases hu with rfl | rfl <;> rfl) ?_; intro w4 hX4 hg4 hs4; have x0 := hX4.get 0 _ rfl; have x1 := hX4.get 1 _ rfl; have hX4A := Aside0.mk hX4; have hZ4A := Aside0.mk (hZ3A.out.grown hg4 (by intro e; have := Option.some.inj e; omega)); have hb4A := Aside0.mk (hb3A.out.grown hg4 hb3A.out.size (fun k e => by have := Option.some.inj e; omega)); have hD4A := Aside0.mk (hD3A.out.grown hg4 (by intro k hk e; have := Option.some.inj e; rcases hk with hk | hk <;> omega)); clear hg4 hX4) | (refine wpList_put_blk rfl 79 (.tmp 2) (.tmp 26) rfl w.heap.size 79 [.slice A2 l2.length c2, .bool false] [.slice A1 l1.length c1, .bool false] rfl rfl rfl hX5A.out (info_in2 _ _) (by intro u hu; simp at hu; rcases hu with rfl | rfl <;> rfl) ?_; intro w6 hX6 hg6 hs6; have x0 := hX6.get 0 _ rfl; have x1 := hX6.get 1 _ rfl; have hX6A := Aside0.mk hX6; have hZ6A := Aside0.mk (hZ5A.out.grown hg6 (by intro e; have := Option.some.inj e; omega)); have hb6A := Aside0.mk (hb5A.out.grown hg6 hb5A.out.size (fun k e => by have := Option.some.inj e; omega)); have hD6A := Aside0.mk (hD5A.out.grown hg6 (by intro k hk e; have := Option.some.inj e; rcases hk with (hk | hk) | hk <;> omega)); clear hg6 hX6))
            refine wp_region_noPanic ?_
            have hx0A := Aside0.mk (fun W' (hW : Below w6.heap.size w6 W') => (hX6A.out.below hW).get 0 _ rfl)
            have hx1A := Aside0.mk (fun W' (hW : Below w6.heap.size w6 W') => (hX6A.out.below hW).get 1 _ rfl)
            clear x0 x1
            have H0 : Below w6.heap.size w6 w6.drew := pw_below_drewN (Below.refl _ _) 1
            refine wp_region_held_drew (S := fun V1 => Below w6.heap.size w6 V1) (by kernel_rfl) H0 (fun _ => ?_)
            generalize w6.drew = V0 at *
            refine wpAnyH_take (i := 0) (v := .pointer (some ⟨w.heap.size, 1, none⟩)) (op_at rfl) (by kernel_rfl) (by kernel_rfl) (by kernel_rfl) (fun _ _ _ h => h) (Or.inl ⟨by rfl, fun w_ hSw => ?_⟩) H0 ?_
            · skip; go_simp
            try simp only [Act.put, List.setIfInBounds_toArray, List.set_cons_zero, List.set_cons_succ]
            refine wpAnyH_take (i := 1) (v := .bool false) (op_at rfl) (by kernel_rfl) (by kernel_rfl) (by kernel_rfl) (fun _ _ _ h => h) (Or.inl ⟨by rfl, fun w_ hSw => ?_⟩) H0 ?_
            · have hc_ := hx1A.out w_ hSw; go_simp
            try simp only [Act.put, List.setIfInBounds_toArray, List.set_cons_zero, List.set_cons_succ]
            refine wpAnyH_take (i := 2) (v := .bool false) (op_at rfl) (by kernel_rfl) (by kernel_rfl) (by kernel_rfl) (fun _ _ _ h => h) (Or.inl ⟨by rfl, fun w_ hSw => ?_⟩) H0 ?_
            · skip; go_simp
            try simp only [Act.put, List.setIfInBounds_toArray, List.set_cons_zero, List.set_cons_succ]
            refine wpAnyH_take (i := 3) (v := .int .i64 z) (op_at rfl) (by kernel_rfl) (by kernel_rfl) (by kernel_rfl) (fun _ _ _ h => h) (Or.inl ⟨by rfl, fun w_ hSw => ?_⟩) H0 ?_
            · skip; go_simp
            try simp only [Act.put, List.setIfInBounds_toArray, List.set_cons_zero, List.set_cons_succ]
            refine wpAnyH_take (i := 4) (v := .bool false) (op_at rfl) (by kernel_rfl) (by kernel_rfl) (by kernel_rfl) (fun _ _ _ h => h) (Or.inl ⟨by rfl, fun w_ hSw => ?_⟩) H0 ?_
            · skip; go_simp
            try simp only [Act.put, List.setIfInBounds_toArray, List.set_cons_zero, List.set_cons_succ]
            refine wpAnyH_take (i := 5) (v := .bool false) (op_at rfl) (by kernel_rfl) (by kernel_rfl) (by kernel_rfl) (fun _ _ _ h => h) (Or.inl ⟨by rfl, fun w_ hSw => ?_⟩) H0 ?_
            · skip; go_simp
            try simp only [Act.put, List.setIfInBounds_toArray, List.set_cons_zero, List.set_cons_succ]
            refine wpAnyH_take (i := 6) (v := .bool false) (op_at rfl) (by kernel_rfl) (by kernel_rfl) (by kernel_rfl) (fun _ _ _ h => h) (Or.inl ⟨by rfl, fun w_ hSw => ?_⟩) H0 ?_
            · skip; go_simp
            try simp only [Act.put, List.setIfInBounds_toArray, List.set_cons_zero, List.set_cons_succ]
            refine wpAnyH_take (i := 7) (v := .int .u64 m) (op_at rfl) (by kernel_rfl) (by kernel_rfl) (by kernel_rfl) (fun _ _ _ h => h) (Or.inl ⟨by rfl, fun w_ hSw => ?_⟩) H0 ?_
            · skip; go_simp
            try simp only [Act.put, List.setIfInBounds_toArray, List.set_cons_zero, List.set_cons_succ]
            refine wpAnyH_take (i := 8) (v := .int .i64 z) (op_at rfl) (by kernel_rfl) (by kernel_rfl) (by kernel_rfl) (fun _ _ _ h => h) (Or.inl ⟨by rfl, fun w_ hSw => ?_⟩) H0 ?_
            · skip; go_simp
            try simp only [Act.put, List.setIfInBounds_toArray, List.set_cons_zero, List.set_cons_succ]
            refine wpAnyH_take (i := 9) (v := .int .u64 z) (op_at rfl) (by kernel_rfl) (by kernel_rfl) (by kernel_rfl) (fun _ _ _ h => h) (Or.inl ⟨by rfl, fun w_ hSw => ?_⟩) H0 ?_
            · skip; go_simp
            try simp only [Act.put, List.setIfInBounds_toArray, List.set_cons_zero, List.set_cons_succ]
            refine wpAnyH_take (i := 10) (v := .bool false) (op_at rfl) (by kernel_rfl) (by kernel_rfl) (by kernel_rfl) (fun _ _ _ h => h) (Or.inl ⟨by rfl, fun w_ hSw => ?_⟩) H0 ?_
            · skip; go_simp
            try simp only [Act.put, List.setIfInBounds_toArray, List.set_cons_zero, List.set_cons_succ]
            refine wpAnyH_take (i := 11) (v := .bool false) (op_at rfl) (by kernel_rfl) (by kernel_rfl) (by kernel_rfl) (fun _ _ _ h => h) (Or.inl ⟨by rfl, fun w_ hSw => ?_⟩) H0 ?_
            · skip; go_simp
            try simp only [Act.put, List.setIfInBounds_toArray, List.set_cons_zero, List.set_cons_succ]
            refine wpAnyH_take (i := 12) (v := .bool false) (op_at rfl) (by kernel_rfl) (by kernel_rfl) (by kernel_rfl) (fun _ _ _ h => h) (Or.inl ⟨by rfl, fun w_ hSw => ?_⟩) H0 ?_
            · skip; go_simp
            try simp only [Act.put, List.setIfInBounds_toArray, List.set_cons_zero, List.set_cons_succ]
            refine wpAnyH_take (i := 13) (v := .int .u64 m) (op_at rfl) (by kernel_rfl) (by kernel_rfl) (by kernel_rfl) (fun _ _ _ h => h) (Or.inl ⟨by rfl, fun w_ hSw => ?_⟩) H0 ?_
            · skip; go_simp
            try simp only [Act.put, List.setIfInBounds_toArray, List.set_cons_zero, List.set_cons_succ]
            refine wpAnyH_take (i := 14) (v := .int .i64 m) (op_at rfl) (by kernel_rfl) (by kernel_rfl) (by kernel_rfl) (fun _ _ _ h => h) (Or.inl ⟨by rfl, fun w_ hSw => ?_⟩) H0 ?_
            · skip; go_simp
            try simp only [Act.put, List.setIfInBounds_toArray, List.set_cons_zero, List.set_cons_succ]
            refine wpAnyH_take (i := 17) (v := .pointer (some ⟨w.heap.size, 0, none⟩)) (op_at rfl) (by kernel_rfl) (by kernel_rfl) (by kernel_rfl) (fun _ _ _ h => h) (Or.inl ⟨by rfl, fun w_ hSw => ?_⟩) H0 ?_
            · skip; go_simp
            try simp only [Act.put, List.setIfInBounds_toArray, List.set_cons_zero, List.set_cons_succ]
            refine wpAnyH_take (i := 18) (v := .slice A2 l2.length c2) (op_at rfl) (by kernel_rfl) (by kernel_rfl) (by kernel_rfl) (fun _ _ _ h => h) (Or.inl ⟨by rfl, fun w_ hSw => ?_⟩) H0 ?_
            · have hc_ := hx0A.out w_ hSw; go_simp
            try simp only [Act.put, List.setIfInBounds_toArray, List.set_cons_zero, List.set_cons_succ]
            refine wpAnyH_take (i := 19) (v := .int .i64 (l2.length : Int)) (op_at rfl) (by kernel_rfl) (by kernel_rfl) (by kernel_rfl) (fun _ _ _ h => h) (Or.inl ⟨by rfl, fun w_ hSw => ?_⟩) H0 ?_
            · skip; go_simp
            try simp only [Act.put, List.setIfInBounds_toArray, List.set_cons_zero, List.set_cons_succ]
            refine wpAnyH_take (i := 21) (v := .slice A l.length c) (op_at rfl) (by kernel_rfl) (by kernel_rfl) (by kernel_rfl) (fun _ _ _ h => h) (Or.inl ⟨by rfl, fun w_ hSw => ?_⟩) H0 ?_
            · skip; go_simp
            try simp only [Act.put, List.setIfInBounds_toArray, List.set_cons_zero, List.set_cons_succ]
            refine wpAnyH_take (i := 22) (v := .int .i64 (l.length : Int)) (op_at rfl) (by kernel_rfl) (by kernel_rfl) (by kernel_rfl) (fun _ _ _ h => h) (Or.inl ⟨by rfl, fun w_ hSw => ?_⟩) H0 ?_
            · skip; go_simp
            try simp only [Act.put, List.setIfInBounds_toArray, List.set_cons_zero, List.set_cons_succ]
            refine wpAnyH_ready (rs := [15]) (by kernel_rfl) (by simp) ?_
            refine AllReadyH.cons (op_at rfl) (fun K hK => ?_) AllReadyH.nil
            go_simp
            go_at_call 59
            with_reducible refine (hcnA.out V0).mono ?_
            rintro e V1_ ⟨⟨A_, c_, rfl⟩, hb⟩
            go_wp2_with fail
            refine hK.out _ _ (below_then H0 H0.size hb) (fun H1_ => ?_)
            clear hK K hb
            try simp only [Act.put, List.setIfInBounds_toArray, List.set_cons_zero, List.set_cons_succ]
            refine wpAnyH_take (i := 16) (v := .int .i64 (L : Int)) (op_at rfl) (by kernel_rfl) (by kernel_rfl) (by kernel_rfl) (fun _ _ _ h => h) (Or.inl ⟨by rfl, fun w_ hSw => ?_⟩) H1_ ?_
            · skip; go_simp
            try simp only [Act.put, List.setIfInBounds_toArray, List.set_cons_zero, List.set_cons_succ]
            refine wpAnyH_take (i := 20) (v := .int .i64 ((L : Int) + (l2.length : Int))) (op_at rfl) (by kernel_rfl) (by kernel_rfl) (by kernel_rfl) (fun _ _ _ h => h) (Or.inl ⟨by rfl, fun w_ hSw => ?_⟩) H1_ ?_
            · skip; go_simp
            try simp only [Act.put, List.setIfInBounds_toArray, List.set_cons_zero, List.set_cons_succ]
            refine wpAnyH_take (i := 23) (v := .bool true) (op_at rfl) (by kernel_rfl) (by kernel_rfl) (by kernel_rfl) (fun _ _ _ h => h) (Or.inl ⟨by rfl, fun w_ hSw => ?_⟩) H1_ ?_
            · skip; go_simp
            try simp only [Act.put, List.setIfInBounds_toArray, List.set_cons_zero, List.set_cons_succ]
            refine wpAnyH_take (i := 24) (v := .bool true) (op_at rfl) (by kernel_rfl) (by kernel_rfl) (by kernel_rfl) (fun _ _ _ h => h) (Or.inl ⟨by rfl, fun w_ hSw => ?_⟩) H1_ ?_
            · skip; go_simp
            try simp only [Act.put, List.setIfInBounds_toArray, List.set_cons_zero, List.set_cons_succ]
            refine wpAnyH_done (by kernel_rfl) ?_ _
            refine NoPanic.normal ?_
            have hHA := Aside0.mk H1_
            go_wp2_with (first | (go_at_call 60; ((with_reducible refine (dwrong_calls _).mono ?_); rintro e w8 ⟨⟨A8, c8, rfl⟩, hb⟩; have hZ8A := Aside0.mk ((hZ6A.out.below hHA.out).below hb); have hb8A := Aside0.mk (below_then (below_then hb6A.out hb6A.out.size hHA.out) (below_then hb6A.out hb6A.out.size hHA.out).size hb); clear hb)) | (refine wpList_put_blk rfl 79 (.tmp 4) (.tmp 53) rfl (w.heap.size + 1) 79 [.slice A8 0 c8, .bool true] [.slice none 0 0, .bool false] rfl rfl rfl hZ8A.out (info_in2 _ _) (by intro u hu; simp at hu; rcases hu with rfl | rfl <;> rfl) ?_; intro w9 hZ9 hg9 hs9))
            exact bodyPost_ret (results_ct rfl _ _ (w.heap.size + 1) 79 #[.slice A8 0 c8, .bool true] (0, 0) _ rfl hZ9 Try.underlying79 rfl (info_in2 _ _)) rfl ⟨⟨_, rfl, A8, c8, rfl⟩, hb8A.out.grown hg9 hb8A.out.size (fun k e => by have := Option.some.inj e; omega)⟩
end
end Go.Proofs.Ytlgfekllkahfaaa.Pack
