/- Two digests compared. -/
import Derived.Test.YtlgfekllkahfaaaDoorShaG
import Derived.Lib.SlBytesConst
set_option linter.unusedVariables false
set_option linter.unusedSimpArgs false
namespace Go.Proofs.YtlgfekllkahfaaaDoor.ShaW
open Go.RowKit Go.Proofs.YtlgfekllkahfaaaDoorW.PrintWords Go.Proofs.YtlgfekllkahfaaaDoorW.PrintMore Go.Proofs.YtlgfekllkahfaaaDoor Go.Proofs.YtlgfekllkahfaaaDoor.Bits Sha ArrK
theorem nums_get (l : List Int) (i : Nat) (hi : i < l.length) : (nums .u8 l).toArray[i]? = some (.int .u8 l[i]) := by simp [nums, hi]
theorem run_equal_hash (a b : List Int) (ha : a.length = 32) (hb : b.length = 32) (w : World) : (Op.equal 34 (hv a) (hv b)).run Tryd.prog w = .ok (decide (a = b)) w := by
  unfold Op.equal Op.maxDepth
  rw [Op.equalIn.eq_def]
  have hu := run_underlying Tryd.underlying34 w
  have hs : (sizeOf 5).run Tryd.prog w = .ok 1 w := by kernel_rfl
  have hag : (isAgg 5).run Tryd.prog w = .ok false w := by kernel_rfl
  have he : ∀ x y : Int, (Op.equalIn 9999 5 (.int .u8 x) (.int .u8 y)).run Tryd.prog w = .ok (x == y) w := fun x y => run_equalIn_int w 9998 5 .u8 .u8 x y Tryd.underlying5
  have hp : ∀ (l : List Int) (i : Nat) (hi : i < l.length), (part 5 (nums .u8 l).toArray i).run Tryd.prog w = .ok (.int .u8 l[i]) w := fun l i hi => by
    simp only [part, Sem.run_bind, hag, Result.andThen_ok, Bool.false_eq_true, if_false, nums_get l i hi]
    rfl
  simp only [Sem.run_bind, hu, hs, Result.andThen_ok, hv]
  have loop : ∀ (m i : Nat), i + m = 32 → ∀ body : Nat → Option Bool × Unit → Sem (ForInStep (Option Bool × Unit)), (∀ (j : Nat) (hj : j < 32), (body j (none, ())).run Tryd.prog w = .ok (if a[j]'(by omega) = b[j]'(by omega) then ForInStep.yield (none, ()) else ForInStep.done (some false, ())) w) →
      (forIn (List.range' i m) (none, ()) body).run Tryd.prog w = .ok (if a.drop i = b.drop i then (none, ()) else (some false, ())) w := by
    intro m
    induction m with
    | zero =>
      intro i hi body _
      have e1 : a.drop i = [] := List.drop_of_length_le (by omega)
      have e2 : b.drop i = [] := List.drop_of_length_le (by omega)
      rw [e1, e2]; rfl
    | succ m ih =>
      intro i hi body hbd
      have e1 : a.drop i = a[i]'(by omega) :: a.drop (i + 1) := List.drop_eq_getElem_cons (by omega)
      have e2 : b.drop i = b[i]'(by omega) :: b.drop (i + 1) := List.drop_eq_getElem_cons (by omega)
      have hiff : (a.drop i = b.drop i) = (a[i]'(by omega) = b[i]'(by omega) ∧ a.drop (i + 1) = b.drop (i + 1)) := by rw [e1, e2, List.cons.injEq]
      rw [List.range'_succ, List.forIn_cons, Sem.run_bind, hbd i (by omega)]
      simp only [hiff]
      by_cases h : a[i]'(by omega) = b[i]'(by omega)
      · simp only [h, true_and, if_true]
        exact ih (i + 1) (by omega) body hbd
      · simp only [h, false_and, if_false]; rfl
  rw [Std.Legacy.Range.forIn_eq_forIn_range']
  have hsz : [:32].size = 32 := rfl
  rw [hsz]
  rw [loop 32 0 rfl _ (fun j hj => ?_)]
  · simp only [Result.andThen_ok, List.drop_zero]
    by_cases h : a = b
    · simp [h]
    · simp [h]
  · simp only [Sem.run_bind, Nat.mul_one, hp a j (by omega), hp b j (by omega), Result.andThen_ok, he]
    by_cases h : a[j]'(by omega) = b[j]'(by omega)
    · simp [h]
    · simp [h]
theorem run_equalIn_hash (a b : List Int) (ha : a.length = 32) (hb : b.length = 32) (w : World) : (Op.equalIn 10000 34 (hv a) (hv b)).run Tryd.prog w = .ok (decide (a = b)) w := run_equal_hash a b ha hb w
/-- bytes in a row that bears the run-time's mark -/
theorem C_marked {W : World} {B T : Nat} {h : List Int} {fr : Nat × Nat} (hh : W.heap[B]? = some (.cells (nums .u8 h).toArray T fr)) (hl : h.length ≤ 9223372036854775807) : Kd.C (Kd.int .u8) W (some ⟨B, 0, none⟩) h.length h := by
  refine Kd.C_of_reads (d := (0 : Int)) (h1 := fun _ => rfl) ⟨rfl, hl, fun _ => ⟨_, rfl, fun j hj => ?_⟩⟩
  rw [add_plain, cell_of_row W B j _ T fr hh]
  simp [nums, hj]
end Go.Proofs.YtlgfekllkahfaaaDoor.ShaW
