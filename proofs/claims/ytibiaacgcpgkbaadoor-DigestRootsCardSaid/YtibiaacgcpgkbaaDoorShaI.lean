/- The chapter's example; two digests compared. -/
import Derived.Test.YtibiaacgcpgkbaaDoorShaH
import Derived.Lib.SlBytesConst
set_option linter.unusedVariables false
set_option linter.unusedSimpArgs false
namespace Go.Proofs.YtibiaacgcpgkbaaDoor.ShaW
open Go.RowKit Go.Proofs.YtibiaacgcpgkbaaDoorW.PrintWords Go.Proofs.YtibiaacgcpgkbaaDoorW.PrintMore Go.Proofs.YtibiaacgcpgkbaaDoor Go.Proofs.YtibiaacgcpgkbaaDoor.Bits Sha ArrK
theorem nums_get (l : List Int) (i : Nat) (hi : i < l.length) : (nums .u8 l).toArray[i]? = some (.int .u8 l[i]) := by simp [nums, hi]
theorem run_equal_hash (a b : List Int) (ha : a.length = 32) (hb : b.length = 32) (w : World) : (Op.equal 25 (hv a) (hv b)).run Tryd.prog w = .ok (decide (a = b)) w := by
  unfold Op.equal Op.maxDepth
  rw [Op.equalIn.eq_def]
  have hu := run_underlying Tryd.underlying25 w
  have hs : (sizeOf 5).run Tryd.prog w = .ok 1 w := by kernel_rfl
  have hag : (isAgg 5).run Tryd.prog w = .ok false w := by kernel_rfl
  have he : ∀ x y : Int, (Op.equalIn 9999 5 (.int .u8 x) (.int .u8 y)).run Tryd.prog w = .ok (x == y) w := fun x y => run_equalIn_int w 9998 5 .u8 .u8 x y Tryd.underlying5
  have hp : ∀ (l : List Int) (i : Nat) (hi : i < l.length), (part 5 (nums .u8 l).toArray i).run Tryd.prog w = .ok (.int .u8 l[i]) w := fun l i hi => by
    simp only [part, Sem.run_bind, hag, Result.andThen_ok, Bool.false_eq_true, if_false, nums_get l i hi]
    rfl
  simp only [Sem.run_bind, hu, hs, Result.andThen_ok, hv]
  have loop : ∀ (m i : Nat), i + m = 32 → ∀ body : Nat → Option Bool × Unit → Sem (ForInStep (Option Bool × Unit)), (∀ (j : Nat) (hj : j < 32), (body j (none, ())).run Tryd.prog w = .ok (if a[j]'(by omega) = b[j]'(by omega) then ForInStep.yield (none, ()) else ForInStep.done (some false, ())) w) →
      (forIn (List.range' i m) (none, ()) body).run Tryd.prog w = .ok (if a.drop i = b.drop i then (none, ()) else (some false, ())) w := by
    intro m
    induction m with
    | zero =>
      intro i hi body _
      have e1 : a.drop i = [] := List.drop_of_length_le (by omega)
      have e2 : b.drop i = [] := List.drop_of_length_le (by omega)
      rw [e1, e2]; rfl
    | succ m ih =>
      intro i hi body hbd
      have e1 : a.drop i = a[i]'(by omega) :: a.drop (i + 1) := List.drop_eq_getElem_cons (by omega)
      have e2 : b.drop i = b[i]'(by omega) :: b.drop (i + 1) := List.drop_eq_getElem_cons (by omega)
      have hiff : (a.drop i = b.drop i) = (a[i]'(by omega) = b[i]'(by omega) ∧ a.drop (i + 1) = b.drop (i + 1)) := by rw [e1, e2, List.cons.injEq]
      rw [List.range'_succ, List.forIn_cons, Sem.run_bind, hbd i (by omega)]
      simp only [hiff]
      by_cases h : a[i]'(by omega) = b[i]'(by omega)
      · simp only [h, true_and, if_true]
        exact ih (i + 1) (by omega) body hbd
      · simp only [h, false_and, if_false]; rfl
  rw [Std.Legacy.Range.forIn_eq_forIn_range']
  have hsz : [:32].size = 32 := rfl
  rw [hsz]
  rw [loop 32 0 rfl _ (fun j hj => ?_)]
  · simp only [Result.andThen_ok, List.drop_zero]
    by_cases h : a = b
    · simp [h]
    · simp [h]
  · simp only [Sem.run_bind, Nat.mul_one, hp a j (by omega), hp b j (by omega), Result.andThen_ok, he]
    by_cases h : a[j]'(by omega) = b[j]'(by omega)
    · simp [h]
    · simp [h]
theorem run_equalIn_hash (a b : List Int) (ha : a.length = 32) (hb : b.length = 32) (w : World) : (Op.equalIn 10000 25 (hv a) (hv b)).run Tryd.prog w = .ok (decide (a = b)) w := run_equal_hash a b ha hb w
/-- bytes in a row that bears the run-time's mark -/
theorem C_marked {W : World} {B T : Nat} {h : List Int} {fr : Nat × Nat} (hh : W.heap[B]? = some (.cells (nums .u8 h).toArray T fr)) (hl : h.length ≤ 9223372036854775807) : Kd.C (Kd.int .u8) W (some ⟨B, 0, none⟩) h.length h := by
  refine Kd.C_of_reads (d := (0 : Int)) (h1 := fun _ => rfl) ⟨rfl, hl, fun _ => ⟨_, rfl, fun j hj => ?_⟩⟩
  rw [add_plain, cell_of_row W B j _ T fr hh]
  simp [nums, hj]
theorem abc : w64 (sum [97, 98, 99]) = 13436514500253700074 := by decide +kernel
set_option maxRecDepth 100000 in
set_option maxHeartbeats 400000 in
theorem alive_calls (w : World) (hK : Kst w) (hBg : Bst w) :
    Calls Tryd.prog 8 #[] w fun e w' => e = .returned (.bool true) ∧ Below w.heap.size w w' := by
  obtain ⟨V, hV⟩ : ∃ V, V = (w.alloc (.cells #[.int .u8 97] 5 (1, 2))).alloc (.cells #[.int .u8 98, .int .u8 99] 5 (2, 3)) := ⟨_, rfl⟩
  have hB : Below w.heap.size w V := by rw [hV]; exact below_alloc (below_alloc (Below.refl _ _) _) _
  have h0 : V.heap[w.heap.size]? = some (.cells (nums .u8 [97]).toArray 5 (1, 2)) := by
    rw [hV]; exact ((below_alloc (Below.refl _ _) _).block _ (by simp)).trans (alloc_new w _)
  have h1 : V.heap[w.heap.size + 1]? = some (.cells (nums .u8 [98, 99]).toArray 5 (2, 3)) := by
    rw [hV]
    have := alloc_new (w.alloc (.cells #[.int .u8 97] 5 (1, 2))) (.cells #[.int .u8 98, .int .u8 99] 5 (2, 3))
    rwa [World.size_alloc] at this
  have hsz : V.heap.size = w.heap.size + 1 + 1 := by rw [hV]; simp
  have hS := sum_lit2 V _ _ 1 2 [97] [98, 99] (C_marked h0 (by decide)) (by decide) (C_marked h1 (by decide)) (by decide) (hK.below hB) (hBg.below hB) (by decide) (by intro x hx; simp at hx; omega)
  rw [hsz] at hS
  simp only [List.length_cons, List.length_nil, Nat.zero_add, Nat.reduceAdd] at hS
  have hl := sum_length ([97] ++ [98, 99])
  have hby := Bytes.sum ([97] ++ [98, 99])
  have hw : w64 (sum ([97] ++ [98, 99])) = 13436514500253700074 := abc
  generalize sum ([97] ++ [98, 99]) = s at *
  have hW := fun W => wordof_calls s hby hl W
  rw [hw] at hW
  have hVA := Aside0.mk hV; have hSA := Aside0.mk hS; have hWA := Aside0.mk hW; have hBA := Aside0.mk hB
  clear hV hB h0 h1 hS hl hby hw hW hK hBg
  have hszA := Aside0.mk hsz
  clear hsz
  have k1 := Go.Lib.run_convert_bytes_const (P := Tryd.prog) w 22 5 #[.int .u8 97] 1 1 Tryd.underlying22 Tryd.underlying5
  have k2 := Go.Lib.run_convert_bytes_const (P := Tryd.prog) (w.alloc (.cells #[.int .u8 97] 5 (1, 2))) 22 5 #[.int .u8 98, .int .u8 99] 2 2 Tryd.underlying22 Tryd.underlying5
  rw [World.size_alloc] at k2
  have k3 : (#[.int .u8 97] : Array Value).size = 1 := rfl
  have k4 : (#[.int .u8 98, .int .u8 99] : Array Value).size = 2 := rfl
  rw [k3] at k1; rw [k4] at k2
  clear k3 k4
  go_enter Tryd.func8, Tryd.ntmps8
  go_wp2_with (first | (go_at_call 9; (rw [← hVA.out]; with_reducible refine hSA.out.mono ?_; rintro e w1 ⟨rfl, hb1⟩; rw [← hszA.out] at hb1; have h1A := Aside0.mk (below_then hBA.out hBA.out.size hb1); clear hb1)) | (go_at_call 13; (with_reducible refine (hWA.out _).mono ?_; rintro e w2 ⟨rfl, hb2⟩; have h2A := Aside0.mk (below_then h1A.out h1A.out.size hb2); clear hb2)))
  go_ret
  exact ⟨rfl, h2A.out⟩
end Go.Proofs.YtibiaacgcpgkbaaDoor.ShaW
