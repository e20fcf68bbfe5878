/- Spends and coins compared. -/
import Derived.Test.YtlgfekllkahfaaaTyM
import Derived.Test.YtlgfekllkahfaaaWEqStruct
set_option linter.unusedVariables false
set_option linter.unusedSimpArgs false
namespace Go.Proofs.Ytlgfekllkahfaaa.Pack
open Go.RowKit Go.Proofs.YtlgfekllkahfaaaW.PrintWords Go.Proofs.YtlgfekllkahfaaaW.PrintMore Go.Proofs.Ytlgfekllkahfaaa Go.Proofs.Ytlgfekllkahfaaa.Bits Sha ArrK ShaW
theorem nums_get (l : List Int) (i : Nat) (hi : i < l.length) : (nums .u8 l).toArray[i]? = some (.int .u8 l[i]) := by simp [nums, hi]
theorem run_equal_hash_at (d : Nat) (a b : List Int) (ha : a.length = 32) (hb : b.length = 32) (w : World) : (Op.equalIn (d + 2) 31 (hv a) (hv b)).run Try.prog w = .ok (decide (a = b)) w := by
  rw [Op.equalIn.eq_def]
  have hu := run_underlying Try.underlying31 w
  have hs : (sizeOf 5).run Try.prog w = .ok 1 w := by kernel_rfl
  have hag : (isAgg 5).run Try.prog w = .ok false w := by kernel_rfl
  have he : ∀ x y : Int, (Op.equalIn (d + 1) 5 (.int .u8 x) (.int .u8 y)).run Try.prog w = .ok (x == y) w := fun x y => run_equalIn_int w d 5 .u8 .u8 x y Try.underlying5
  have hp : ∀ (l : List Int) (i : Nat) (hi : i < l.length), (part 5 (nums .u8 l).toArray i).run Try.prog w = .ok (.int .u8 l[i]) w := fun l i hi => by
    simp only [part, Sem.run_bind, hag, Result.andThen_ok, Bool.false_eq_true, if_false, nums_get l i hi]
    rfl
  simp only [Sem.run_bind, hu, hs, Result.andThen_ok, hv]
  have loop : ∀ (m i : Nat), i + m = 32 → ∀ body : Nat → Option Bool × Unit → Sem (ForInStep (Option Bool × Unit)), (∀ (j : Nat) (hj : j < 32), (body j (none, ())).run Try.prog w = .ok (if a[j]'(by omega) = b[j]'(by omega) then ForInStep.yield (none, ()) else ForInStep.done (some false, ())) w) →
      (forIn (List.range' i m) (none, ()) body).run Try.prog w = .ok (if a.drop i = b.drop i then (none, ()) else (some false, ())) w := by
    intro m
    induction m with
    | zero =>
      intro i hi body _
      have e1 : a.drop i = [] := List.drop_of_length_le (by omega)
      have e2 : b.drop i = [] := List.drop_of_length_le (by omega)
      rw [e1, e2]; rfl
    | succ m ih =>
      intro i hi body hbd
      have e1 : a.drop i = a[i]'(by omega) :: a.drop (i + 1) := List.drop_eq_getElem_cons (by omega)
      have e2 : b.drop i = b[i]'(by omega) :: b.drop (i + 1) := List.drop_eq_getElem_cons (by omega)
      have hiff : (a.drop i = b.drop i) = (a[i]'(by omega) = b[i]'(by omega) ∧ a.drop (i + 1) = b.drop (i + 1)) := by rw [e1, e2, List.cons.injEq]
      rw [List.range'_succ, List.forIn_cons, Sem.run_bind, hbd i (by omega)]
      simp only [hiff]
      by_cases h : a[i]'(by omega) = b[i]'(by omega)
      · simp only [h, true_and, if_true]
        exact ih (i + 1) (by omega) body hbd
      · simp only [h, false_and, if_false]; rfl
  rw [Std.Legacy.Range.forIn_eq_forIn_range']
  have hsz : [:32].size = 32 := rfl
  rw [hsz]
  rw [loop 32 0 rfl _ (fun j hj => ?_)]
  · simp only [Result.andThen_ok, List.drop_zero]
    by_cases h : a = b
    · simp [h]
    · simp [h]
  · simp only [Sem.run_bind, Nat.mul_one, hp a j (by omega), hp b j (by omega), Result.andThen_ok, he]
    by_cases h : a[j]'(by omega) = b[j]'(by omega)
    · simp [h]
    · simp [h]
theorem part_agg {t : TypeId} {n : Nat} (h : ∀ w, (isAgg t).run Try.prog w = .ok true w) (hs : ∀ w, (sizeOf t).run Try.prog w = .ok n w) (cs : Array Value) (off : Nat) (w : World) : (part t cs off).run Try.prog w = .ok (.agg (cs.extract off (off + n))) w := by
  simp only [part, Sem.run_bind, h, Result.andThen_ok, if_true, hs, Sem.run_pure]
theorem part_one {t : TypeId} (h : ∀ w, (isAgg t).run Try.prog w = .ok false w) (cs : Array Value) (off : Nat) (v : Value) (hv : cs[off]? = some v) (w : World) : (part t cs off).run Try.prog w = .ok v w := by
  simp only [part, Sem.run_bind, h, Result.andThen_ok, Bool.false_eq_true, if_false, hv, Sem.run_pure]
theorem cut_front (a b : List Value) (n : Nat) (h : a.length = n) : (a ++ b).toArray.extract 0 (0 + n) = a.toArray := by
  subst h; simp
set_option maxRecDepth 100000 in
theorem eq_point (d : Nat) (tx tx' : List Int) (n n' : Int) (h : tx.length = 32) (h' : tx'.length = 32) (w : World) :
    (Op.equalIn (d + 3) 33 (.agg (nums .u8 tx ++ [Value.int .i64 n]).toArray) (.agg (nums .u8 tx' ++ [Value.int .i64 n']).toArray)).run Try.prog w = .ok (decide (tx = tx') && (n == n')) w := by
  refine eqA_of Try.underlying33 (by kernel_rfl) ?_
  refine eqf_cons (by rfl) (part_agg (n := 32) (fun w => by kernel_rfl) (fun w => by kernel_rfl) _ _ _) (part_agg (n := 32) (fun w => by kernel_rfl) (fun w => by kernel_rfl) _ _ _) ?_ (eqf_last (by rfl) (part_one (fun w => by kernel_rfl) _ _ (.int .i64 n) ?_ _) (part_one (fun w => by kernel_rfl) _ _ (.int .i64 n') ?_ _) (run_equalIn_int w _ _ _ _ _ _ Try.underlying3))
  · rw [cut_front _ _ 32 (by simp [nums, h]), cut_front _ _ 32 (by simp [nums, h'])]
    exact run_equal_hash_at d tx tx' h h' w
  · simp [nums, h]
  · simp [nums, h']
set_option maxRecDepth 100000 in
theorem eq_spend (d : Nat) (s s' : Sp) (h : s.tx.length = 32) (h' : s'.tx.length = 32) (w : World) :
    (Op.equalIn (d + 4) 36 (spv s) (spv s')).run Try.prog w = .ok ((decide (s.tx = s'.tx) && (s.n == s'.n)) && ((s.key.toList == s'.key.toList) && (s.sel == s'.sel))) w := by
  refine eqA_of Try.underlying36 (by kernel_rfl) ?_
  refine eqf_cons (by rfl) (part_agg (n := 33) (fun w => by kernel_rfl) (fun w => by kernel_rfl) _ _ _) (part_agg (n := 33) (fun w => by kernel_rfl) (fun w => by kernel_rfl) _ _ _) ?_ (eqf_cons (by rfl) (part_one (fun w => by kernel_rfl) _ _ (.string s.key) ?_ _) (part_one (fun w => by kernel_rfl) _ _ (.string s'.key) ?_ _) (run_equalIn_string w _ _ _ _ Try.underlying9) (eqf_last (by rfl) (part_one (fun w => by kernel_rfl) _ _ (.int .u64 s.sel) ?_ _) (part_one (fun w => by kernel_rfl) _ _ (.int .u64 s'.sel) ?_ _) (run_equalIn_int w _ _ _ _ _ _ Try.underlying34)))
  · have e : ∀ x : Sp, spc x = (nums .u8 x.tx ++ [.int .i64 x.n]) ++ [.string x.key, .int .u64 x.sel] := fun x => by simp [spc]
    rw [e s, e s', cut_front _ _ 33 (by simp [nums, h]), cut_front _ _ 33 (by simp [nums, h'])]
    exact eq_point d s.tx s'.tx s.n s'.n h h' w
  · rw [List.getElem?_toArray]; exact spc_key s h
  · rw [List.getElem?_toArray]; exact spc_key s' h'
  · rw [List.getElem?_toArray]; exact spc_seal s h
  · rw [List.getElem?_toArray]; exact spc_seal s' h'
theorem eq_coin (d : Nat) (c c' : Co) (w : World) : (Op.equalIn (d + 2) 38 (cov c) (cov c')).run Try.prog w = .ok ((c.value == c'.value) && (c.lock == c'.lock)) w := by
  refine eqA_of Try.underlying38 (by kernel_rfl) ?_
  exact eqf_cons (by rfl) (part_one (fun w => by kernel_rfl) _ _ (.int .i64 c.value) rfl _) (part_one (fun w => by kernel_rfl) _ _ (.int .i64 c'.value) rfl _) (run_equalIn_int w _ _ _ _ _ _ Try.underlying3) (eqf_last (by rfl) (part_one (fun w => by kernel_rfl) _ _ (.int .u64 c.lock) rfl _) (part_one (fun w => by kernel_rfl) _ _ (.int .u64 c'.lock) rfl _) (run_equalIn_int w _ _ _ _ _ _ Try.underlying34))
end Go.Proofs.Ytlgfekllkahfaaa.Pack
