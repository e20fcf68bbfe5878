/- Rising, each once: the law's sorted. -/
import Derived.Test.YtljkbkhaamlbmaaWMore
import Derived.Test.YtljkbkhaamlbmaaProg
import Derived.Test.YtljkbkhaamlbmaaInRound
import Derived.WalkKit
import Derived.Deep.QuietTactic
import Derived.BigQuiet
set_option linter.unusedVariables false
set_option linter.unusedSimpArgs false
namespace Go.Proofs.Ytljkbkhaamlbmaa.RtS
open Go.RowKit Go.Proofs.YtljkbkhaamlbmaaW.PrintWords Go.Proofs.YtljkbkhaamlbmaaW.PrintLast Go.Proofs.YtljkbkhaamlbmaaW.PrintMore Go.Proofs.Ytljkbkhaamlbmaa
open Go.Proofs.Ytljkbkhaamlbmaa.InRound (op_at)
abbrev u32c (xs : List Int) : List Value := encs (Value.int .u32) xs
theorem u32_one (xs : List Int) : ∀ u ∈ u32c xs, u.oneCell' = true := by
  intro u hu
  simp only [u32c, encs, List.mem_map] at hu
  obtain ⟨q, _, rfl⟩ := hu; rfl
theorem step_copy_up {ops : Array Oper} {o : Oper} {a : Act} {w : World} {K : Act → World → Prop} {Q : Exit → Act → World → Prop} (hw : Region.wanted o (yielded ops a.tmps) = true) (x y : Operand)
    (ho : o.op = .call { callee := .builtin .copy, args := #[x, y], argTypes := #[24, 24] }) (base g n cap k : Nat) (xs : List Int) (ok : Nat → Prop)
    (HO : Kd.R (Kd.int .u32) 25 w base ok (.slice (some ⟨g, 0, none⟩) xs.length cap) xs) (hn : xs.length = n + 1) (hk : k ≤ n)
    (hx : a.eval x = .slice (if cap = k + 1 then some ⟨g, 0, none⟩ else some ⟨g, k + 1, none⟩) (n - k) (cap - (k + 1))) (hy : a.eval y = .slice (some ⟨g, k, none⟩) (n + 1 - k) (cap - k))
    (hK : ∀ W1 z, Kd.R (Kd.int .u32) 25 W1 base ok (.slice (some ⟨g, 0, none⟩) (xs.take (k + 1) ++ (xs.drop k).take (n - k)).length cap) (xs.take (k + 1) ++ (xs.drop k).take (n - k)) → w.grownBy W1 (some g) → W1.heap.size = w.heap.size → K (a.put o.dst z) W1) :
    if Region.wanted o (yielded ops a.tmps) = true then Oper.wp Try.prog o a w K Q else K (a.put o.dst undef) w := by
  rw [if_pos hw]
  by_cases hkn : k = n
  · subst hkn
    have e0 : xs.take (k + 1) ++ (xs.drop k).take (k - k) = xs := by rw [Nat.sub_self, List.take_zero, List.append_nil, List.take_of_length_le (by omega)]
    rw [e0] at hK
    have fin := hK w (goInt 0) HO (World.grownBy.refl w _) rfl
    have hr := run_copy_none (P := Try.prog) w 24 24 o.type 25 (if cap = k + 1 then some ⟨g, 0, none⟩ else some ⟨g, k + 1, none⟩) (some ⟨g, k, none⟩) (k - k) (cap - (k + 1)) (k + 1 - k) (cap - k) Try.underlying24 (by kernel_rfl) (by rw [Nat.sub_self]; exact Nat.min_zero _)
    unfold Oper.wp execOp
    simp only [ho, resolve, invoke, builtin, Sem.run_bind, Sem.run_pure, Result.andThen_ok, List.map_toArray, List.map_cons, List.map_nil, hx, hy, hr]
    exact fin
  have hown := Kd.own_of_R HO
  rcases hown.2 with ⟨_, hx0⟩ | ⟨g', cap', cur, hv, hb, hh, hnc, hcm, hcs, htake⟩
  · omega
  rw [if_neg (by injection hv with e1 e2 e3; omega)] at hx
  injection hv with e1 e2 e3
  injection e1 with e1
  injection e1 with e1
  subst e1; subst e3
  have hln : (xs.take (k + 1) ++ (xs.drop k).take (n - k)).length = xs.length := by rw [List.length_append, List.length_take, List.length_take, List.length_drop]; omega
  have hcl : (u32c ((xs.drop k).take (n - k))).length = n - k := by rw [encs_length, List.length_take, List.length_drop]; omega
  have htake' : cur.toList.take xs.length = u32c xs := by have h_ := htake; rw [Nat.mul_one] at h_; exact h_
  have hcell : ∀ j (hj : j < xs.length), cur[j]? = some (.int .u32 xs[j]) := by
    intro j hj
    have h1 : (cur.toList.take xs.length)[j]? = (u32c xs)[j]? := by rw [htake']
    rw [List.getElem?_take_of_lt hj] at h1
    rw [← Array.getElem?_toList, h1]
    simp [u32c, encs, hj]
  have hr := run_copy_cells (P := Try.prog) w 24 24 o.type 25 g (k + 1) (n - k) (cap - (k + 1)) ⟨g, k, none⟩ (n + 1 - k) (cap - k) (u32c ((xs.drop k).take (n - k))) Try.underlying24 (by kernel_rfl) (by rw [hcl]; exact (Nat.min_eq_right (by omega)).symm) (fun j u hj => by
      have hj' : j < n - k := by rw [← hcl]; exact (List.getElem?_eq_some_iff.1 hj).1
      have e : (u32c ((xs.drop k).take (n - k)))[j]? = some (.int .u32 (xs[k + j]'(by omega))) := by
        simp [u32c, encs, List.getElem?_take_of_lt hj', List.getElem?_drop, show k + j < xs.length by omega]
      rw [e] at hj; cases hj
      rw [show (⟨g, k, none⟩ : Addr).add j = ⟨g, k + j, none⟩ by simp [Addr.add]]
      rw [cell_of_row w g _ cur 25 (0, 0) hh]
      exact hcell (k + j) (by omega)) (fun j hj => by
      rw [hcl] at hj
      rw [cell_of_row w g _ cur 25 (0, 0) hh, hcell (k + 1 + j) (by omega)]; rfl) (fun j _ => blk_frozen hh _) (u32_one _)
  obtain ⟨cur', h3, h4, h5⟩ := setCells_row (u32c ((xs.drop k).take (n - k))) (k + 1) w cur hh (by rw [hcl]; omega)
  obtain ⟨s1, s2, s3, s4⟩ := setCells_same g (u32c ((xs.drop k).take (n - k))) (k + 1) w
  have hR : Kd.R (Kd.int .u32) 25 (w.setCells g (k + 1) (u32c ((xs.drop k).take (n - k)))) base ok (.slice (some ⟨g, 0, none⟩) (xs.take (k + 1) ++ (xs.drop k).take (n - k)).length cap) (xs.take (k + 1) ++ (xs.drop k).take (n - k)) := by
    refine Kd.R_of_own ?_ HO.1
    rw [hln]
    refine ⟨by rw [encs_length, hln, Nat.mul_one], .inr ⟨g, cap, cur', rfl, hb, h3, hnc, hcm, by rw [h4, hcs], ?_⟩⟩
    rw [h5, hcl, Nat.mul_one]
    have e6 : cur.toList.take (k + 1) = u32c (xs.take (k + 1)) := by
      have : (cur.toList.take xs.length).take (k + 1) = (u32c xs).take (k + 1) := by rw [htake']
      rw [List.take_take, Nat.min_eq_left (by omega)] at this
      rw [this]; simp [u32c, encs, List.map_take]
    rw [e6, List.take_append_of_le_length (by rw [List.length_append, encs_length, hcl, List.length_take]; omega), List.take_of_length_le (by rw [List.length_append, encs_length, hcl, List.length_take]; omega)]
    simp [u32c, encs]
  have fin := hK _ (goInt (u32c ((xs.drop k).take (n - k))).length) hR ⟨s1, s2, s3, by rw [s4]; exact Nat.le_refl _, fun j _ hj => setCells_far _ _ j (fun he => hj (by rw [he]))⟩ s4
  unfold Oper.wp execOp
  simp only [ho, resolve, invoke, builtin, Sem.run_bind, Sem.run_pure, Result.andThen_ok, List.map_toArray, List.map_cons, List.map_nil, hx, hy, hr]
  exact fin
def place (x : Int) (xs : List Int) : Nat := (xs.takeWhile fun a => decide (a < x)).length
def insI (xs : List Int) (x : Int) : List Int := if xs[place x xs]? = some x then xs else xs.take (place x xs) ++ x :: xs.drop (place x xs)
def sortI (l : List Int) : List Int := l.foldl insI []
theorem sortI_succ (l : List Int) (i : Nat) (x : Int) (h : l[i]? = some x) : sortI (l.take (i + 1)) = insI (sortI (l.take i)) x := by
  unfold sortI
  rw [List.take_add_one, h, Option.toList_some, List.foldl_append]; rfl
theorem insI_length (xs : List Int) (x : Int) : (insI xs x).length ≤ xs.length + 1 := by
  unfold insI; split
  · omega
  · simp; omega
theorem place_le (x : Int) (xs : List Int) : place x xs ≤ xs.length := by
  unfold place
  exact (List.takeWhile_prefix _).length_le
theorem place_lt (x : Int) : ∀ (xs : List Int) (k : Nat), k < place x xs → ∃ a, xs[k]? = some a ∧ a < x := by
  intro xs
  induction xs with
  | nil => intro k h; simp [place] at h
  | cons a xs ih =>
    intro k h
    unfold place at h ih
    rw [List.takeWhile_cons] at h
    by_cases ha : decide (a < x) = true
    · rw [if_pos ha] at h
      cases k with
      | zero => exact ⟨a, rfl, of_decide_eq_true ha⟩
      | succ k => simpa using ih k (by simpa using h)
    · rw [if_neg ha] at h; simp at h
theorem place_at (x : Int) : ∀ (xs : List Int) (a : Int), xs[place x xs]? = some a → ¬ a < x := by
  intro xs
  induction xs with
  | nil => intro a h; simp at h
  | cons b xs ih =>
    intro a h
    unfold place at h ih
    rw [List.takeWhile_cons] at h
    by_cases hb : decide (b < x) = true
    · rw [if_pos hb] at h; exact ih a (by simpa using h)
    · rw [if_neg hb] at h
      have : b = a := by simpa using h
      subst this; simpa using hb
theorem sortI_length (l : List Int) : (sortI l).length ≤ l.length := by
  have : ∀ (m : List Int) (o : List Int), (m.foldl insI o).length ≤ o.length + m.length := by
    intro m
    induction m with
    | nil => intro o; simp
    | cons x m ih => intro o; have := ih (insI o x); have := insI_length o x; simp only [List.foldl_cons, List.length_cons]; omega
  have := this l []
  simpa [sortI] using this
theorem own_form {w : World} {base : Nat} {ok : Nat → Prop} {v : Value} {xs : List Int} (h : Kd.R (Kd.int .u32) 25 w base ok v xs) (hx : xs ≠ []) : ∃ g cap, v = .slice (some ⟨g, 0, none⟩) xs.length cap ∧ xs.length ≤ cap := by
  have hown := Kd.own_of_R h
  rcases hown.2 with ⟨_, hx0⟩ | ⟨g, cap, cur, hv, hb, hh, hnc, hcm, hcs, htake⟩
  · exact absurd (List.eq_nil_of_length_eq_zero (by omega)) hx
  · exact ⟨g, cap, hv, by omega⟩
theorem own_base_ {W : World} {base g n cap : Nat} {ok : Nat → Prop} {xs : List Int} (h : Kd.R (Kd.int .u32) 25 W base ok (.slice (some ⟨g, 0, none⟩) n cap) xs) : ∀ k, some g = some k → base ≤ k := by
  have hown := Kd.own_of_R h
  exact fun k e => own_base hown k (by simpa [Value.ownBlock] using e)
theorem insI_same {xs : List Int} {x : Int} (h : xs[place x xs]? = some x) : insI xs x = xs := by unfold insI; rw [if_pos h]
theorem insI_new {xs : List Int} {x : Int} (h : xs[place x xs]? ≠ some x) : insI xs x = xs.take (place x xs) ++ x :: xs.drop (place x xs) := by unfold insI; rw [if_neg h]
theorem moved (xs : List Int) (k : Nat) (x : Int) (hk : k ≤ xs.length) : ((xs ++ [0]).take (k + 1) ++ ((xs ++ [0]).drop k).take (xs.length - k)).set k x = xs.take k ++ x :: xs.drop k := by
  have e1 : ((xs ++ [0]).drop k).take (xs.length - k) = xs.drop k := by
    rw [List.drop_append_of_le_length hk, List.take_append_of_le_length (by rw [List.length_drop]; exact Nat.le_refl _), List.take_of_length_le (by rw [List.length_drop]; exact Nat.le_refl _)]
  obtain ⟨z, hz⟩ : ∃ z, (xs ++ [0]).take (k + 1) = xs.take k ++ [z] := by
    rw [List.take_add_one, List.take_append_of_le_length hk, List.getElem?_eq_getElem (by simp; omega)]
    exact ⟨_, rfl⟩
  rw [e1, hz, List.append_assoc, List.set_append_right _ _ (by rw [List.length_take]; omega), List.length_take, Nat.min_eq_left hk, Nat.sub_self]; rfl
set_option maxRecDepth 100000 in
set_option maxHeartbeats 800000 in
theorem sorted_calls (l : List Int) (A : Option Addr) (c : Nat) (w : World) (hr : Kd.C (Kd.int .u32) w A l.length l) (hc : l.length ≤ c) (hs : l.length ≤ 4096) :
    Calls Try.prog 24 #[.slice A l.length c] w fun e w' => ∃ v0_ : Value, e = .returned v0_ ∧ Kd.R (Kd.int .u32) 25 w' w.heap.size (fun k_ => w.heap.size ≤ k_) v0_ (sortI l) ∧ Below w.heap.size w w' := by
  have hrA := Aside0.mk hr
  clear hr
  go_enter Try.func24, Try.ntmps24
  go_wp2_with ((with_reducible refine gate_dst (N := 7) rfl ?_); refine Kd.R_lit (Kd.int .u32) (w0 := w) w.heap.size 25 ?hg (N := 7) ?hd (xs := ([] : List Int)) (inner := []) (ok := fun k_ => w.heap.size ≤ k_) (okp := fun _ => False) ?hr ?hp (fun _ hk => hk.elim) (Nat.le_refl _) (Below.refl _ _) (Nat.le_refl _) (by simp) ?_; (case hd => rfl); (case hg => rfl); (case hr => first | (go_simp; done) | (go_simp; rfl)); (case hp => exact (Reps.none _ _)); intro v1 w1 ho hb hg_ hnew_; clear hg_ hnew_; have hOA := Aside0.mk ho; have hBA := Aside0.mk hb; clear ho hb)
  go_loopw [3, 10] (fun v i wr => ∃ k : Nat, k ≤ l.length ∧ i = .int .i64 (k : Int) ∧ Aside0 (Kd.R (Kd.int .u32) 25 wr w.heap.size (fun k_ => w.heap.size ≤ k_) v (sortI (l.take k))) ∧ Aside0 (Below w.heap.size w wr)) (fun _ i _ => l.length - (intOf i).toNat)
  case atStart => exact ⟨0, by omega, rfl, hOA, hBA⟩
  case round =>
    clear hOA hBA
    obtain ⟨k, hk, rfl, hO, hB⟩ := hrel
    by_cases hlt : k < l.length
    · have p0 : (0 : Int) ≤ (k : Int) := by omega
      have p1 : (k : Int) < (l.length : Int) := by omega
      obtain ⟨ad, rfl, hx⟩ := Kd.at_int (Kd.C_below hrA.out hB.out) (k : Int) p0 p1
      rw [Int.toNat_natCast] at hx
      have hsome : l[k]? = some (rd l (k : Int)) := by
        unfold rd; rw [Int.toNat_natCast, List.getD_eq_getElem?_getD, List.getElem?_eq_getElem hlt]; rfl
      have hsu := sortI_succ l k _ hsome
      have hl1 := sortI_length (l.take k)
      rw [List.length_take] at hl1
      generalize rd l (k : Int) = x at *
      generalize sortI (l.take k) = xs at *
      have hpl := place_le x xs
      have hplt := place_lt x xs
      have hpat := place_at x xs
      have hsuA := Aside0.mk hsu
      clear hsu hsome
      obtain ⟨Ao, co, rfl⟩ := Kd.R_slice hO.out
      obtain ⟨wo, hwo⟩ : ∃ x, x = wr := ⟨_, rfl⟩
      subst hwo
      have e2 : IntKind.i64.wrap ((k : Int) + 1) = (k : Int) + 1 := IntWalk.i64_in _ (by omega)
      go_wp2_with fail
      go_loopw [6] (fun i wr => ∃ j : Nat, j ≤ place x xs ∧ i = .int .i64 (j : Int) ∧ wr = wo) (fun i _ => place x xs - (intOf i).toNat)
      case atStart => exact ⟨0, by omega, rfl, rfl⟩
      case round =>
        obtain ⟨j, hj, rfl, rfl⟩ := hrel
        have hnew : xs[place x xs]? ≠ some x → sortI (l.take (k + 1)) = xs.take (place x xs) ++ x :: xs.drop (place x xs) := fun h => by rw [hsuA.out, insI_new h]
        have hsame : xs[place x xs]? = some x → sortI (l.take (k + 1)) = xs := fun h => by rw [hsuA.out, insI_same h]
        by_cases hjp : j < place x xs
        · obtain ⟨a, ha, hax⟩ := hplt j hjp
          have hjl : j < xs.length := by omega
          have q0 : (0 : Int) ≤ (j : Int) := by omega
          have q1 : (j : Int) < (xs.length : Int) := by omega
          obtain ⟨ad2, rfl, hx2⟩ := Kd.at_int (Kd.R_reads' hO.out).2.2 (j : Int) q0 q1
          have e3 : rd xs (j : Int) = a := by unfold rd; rw [Int.toNat_natCast, List.getD_eq_getElem?_getD, ha]; rfl
          rw [Int.toNat_natCast, e3] at hx2
          have e4 : IntKind.i64.wrap ((j : Int) + 1) = (j : Int) + 1 := IntWalk.i64_in _ (by omega)
          go_wp2_with fail
          go_roundw
          · exact ⟨j + 1, by omega, by go_num, by first | trivial | rfl⟩
          · simp [intOf]; omega
        · obtain rfl : j = place x xs := by omega
          generalize hjd : place x xs = j at *
          have hjl : j ≤ xs.length := hpl
          by_cases hjn : j < xs.length
          · have q0 : (0 : Int) ≤ (j : Int) := by omega
            have q1 : (j : Int) < (xs.length : Int) := by omega
            obtain ⟨ad2, rfl, hx2⟩ := Kd.at_int (Kd.R_reads' hO.out).2.2 (j : Int) q0 q1
            have ha : xs[j]? = some (rd xs (j : Int)) := by
              unfold rd; rw [Int.toNat_natCast, List.getD_eq_getElem?_getD, List.getElem?_eq_getElem hjn]; rfl
            rw [Int.toNat_natCast] at hx2
            have q2 := hpat _ ha
            generalize rd xs (j : Int) = a at *
            by_cases hax : a = x
            · subst hax
              have q3 : (a == a) = true := beq_self_eq_true a
              have hsm := Aside0.mk (hsame ha)
              clear hnew hsame
              go_wp2_with fail
              go_roundw
              · exact ⟨k + 1, by omega, by go_num, ⟨by rw [hsm.out]; exact hO.out⟩, hB⟩
              · simp [intOf]; omega
            · have q3 : (a == x) = false := beq_eq_false_iff_ne.mpr hax
              have hsm := Aside0.mk (hnew (by rw [ha]; intro e; injection e with e; exact hax e))
              clear hnew hsame ha
              go_wp2_with (first | ((with_reducible refine gate_builtin (b := .append) (xs := #[.tmp 40, .tmp 41]) rfl ?_); at_builtin; refine Kd.R_append (Kd.int .u32) (w0 := w) w.heap.size rfl (.tmp 40) (.tmp 41) 24 25 (.int .u32 0) 4 rfl Try.underlying24 (by kernel_rfl) rfl (by decide) (by omega) _ xs 0 [.int .u32 0] (fun k_ => w.heap.size ≤ k_) (fun _ => False) rfl rfl ?aP (fun _ hk => hk.elim) ?aF ?aO ?aB ?aS ?aL ?_; (case aP => exact rfl); (case aB => exact hB.out); (case aF => exact (fun k_ hk => Nat.le_trans (below_size hB.out) hk)); (case aO => exact hO.out); (case aS => exact below_size hB.out); (case aL => omega); intro v2 w2 ho hb hg hat; clear hg hat; obtain ⟨g2, cap2, rfl, hcap⟩ := own_form ho (by simp); have hO2 := Aside0.mk ho; have hB2 := Aside0.mk hb; clear ho hb))
              refine wp_region_noPanic ?_
              refine wp_region_held_drew (S := fun _ => True) (by kernel_rfl) trivial (fun _ => ?_)
              have H0 : True := trivial
              have hO3 := Aside0.mk (Kd.R_drew hO2.out)
              have hB3 := Aside0.mk (below_drew1 hB2.out)
              clear hO2 hB2
              generalize w2.drew = V0 at *
              have r0 : (0 : Int) ≤ (j : Int) := by omega
              have r1 : (j : Int) ≤ ((xs.length + 1 : Nat) : Int) := by omega
              have r2 : ((xs.length + 1 : Nat) : Int) ≤ (cap2 : Int) := by simp at hcap; omega
              have r3 : IntKind.i64.wrap ((j : Int) + 1) = ((j + 1 : Nat) : Int) := IntWalk.i64_in _ (by omega)
              have r4 : (0 : Int) ≤ (j : Int) + 1 := by omega
              have r5 : ((j + 1 : Nat) : Int) ≤ ((xs.length + 1 : Nat) : Int) := by omega
              refine wpAnyH_take (i := 0) (v := .slice (some ⟨g2, 0, none⟩) (xs.length + 1) cap2) (op_at rfl) (by kernel_rfl) (by kernel_rfl) (by kernel_rfl) (fun _ _ _ h => h) (Or.inl ⟨by rfl, fun w_ hSw => ?_⟩) H0 ?_
              · go_simp
              try simp only [Act.put, List.setIfInBounds_toArray, List.set_cons_zero, List.set_cons_succ]
              refine wpAnyH_take (i := 1) (v := .int .i64 (j : Int)) (op_at rfl) (by kernel_rfl) (by kernel_rfl) (by kernel_rfl) (fun _ _ _ h => h) (Or.inl ⟨by rfl, fun w_ hSw => ?_⟩) H0 ?_
              · go_simp
              try simp only [Act.put, List.setIfInBounds_toArray, List.set_cons_zero, List.set_cons_succ]
              refine wpAnyH_take (i := 2) (v := .int .i64 ((j + 1 : Nat) : Int)) (op_at rfl) (by kernel_rfl) (by kernel_rfl) (by kernel_rfl) (fun _ _ _ h => h) (Or.inl ⟨by rfl, fun w_ hSw => ?_⟩) H0 ?_
              · go_simp
              try simp only [Act.put, List.setIfInBounds_toArray, List.set_cons_zero, List.set_cons_succ]
              refine wpAnyH_take (i := 3) (v := .slice (if cap2 = j + 1 then some ⟨g2, 0, none⟩ else some ⟨g2, j + 1, none⟩) (xs.length - j) (cap2 - (j + 1))) (op_at rfl) (by kernel_rfl) (by kernel_rfl) (by kernel_rfl) (fun _ _ _ h => h) (Or.inl ⟨by rfl, fun w_ hSw => ?_⟩) H0 ?_
              · go_simp
              try simp only [Act.put, List.setIfInBounds_toArray, List.set_cons_zero, List.set_cons_succ]
              refine wpAnyH_take (i := 4) (v := .slice (some ⟨g2, 0, none⟩) (xs.length + 1) cap2) (op_at rfl) (by kernel_rfl) (by kernel_rfl) (by kernel_rfl) (fun _ _ _ h => h) (Or.inl ⟨by rfl, fun w_ hSw => ?_⟩) H0 ?_
              · go_simp
              try simp only [Act.put, List.setIfInBounds_toArray, List.set_cons_zero, List.set_cons_succ]
              refine wpAnyH_take (i := 5) (v := .int .i64 (j : Int)) (op_at rfl) (by kernel_rfl) (by kernel_rfl) (by kernel_rfl) (fun _ _ _ h => h) (Or.inl ⟨by rfl, fun w_ hSw => ?_⟩) H0 ?_
              · go_simp
              try simp only [Act.put, List.setIfInBounds_toArray, List.set_cons_zero, List.set_cons_succ]
              refine wpAnyH_take (i := 6) (v := .slice (some ⟨g2, j, none⟩) (xs.length + 1 - j) (cap2 - j)) (op_at rfl) (by kernel_rfl) (by kernel_rfl) (by kernel_rfl) (fun _ _ _ h => h) (Or.inl ⟨by rfl, fun w_ hSw => ?_⟩) H0 ?_
              · go_simp
                rw [if_pos (by omega), if_neg (by omega)]
              try simp only [Act.put, List.setIfInBounds_toArray, List.set_cons_zero, List.set_cons_succ]
              refine wpAnyH_ready (rs := [7]) (by kernel_rfl) (by simp) ?_
              refine AllReadyH.cons (op_at rfl) (fun K hK => ?_) AllReadyH.nil
              refine step_copy_up (by rfl) (.tmp 46) (.tmp 49) rfl w.heap.size g2 xs.length cap2 j (xs ++ [0]) _ hO3.out (by simp) (by omega) rfl rfl ?_
              intro W1 z hR1 hg1 hs1
              refine hK.out _ _ trivial (fun H1_ => ?_)
              clear hK K
              try simp only [Act.put, List.setIfInBounds_toArray, List.set_cons_zero, List.set_cons_succ]
              refine wpAnyH_done (by kernel_rfl) ?_ _
              refine NoPanic.normal ?_
              have hln : ((xs ++ [0]).take (j + 1) ++ ((xs ++ [0]).drop j).take (xs.length - j)).length = xs.length + 1 := by rw [List.length_append, List.length_take, List.length_take, List.length_drop, List.length_append, List.length_singleton]; omega
              obtain ⟨hc1, hf1⟩ := Kd.R_cell (0 : Int) hR1 (j : Int) r0 (by rw [hln]; omega)
              have hR2 := (Kd.R_put hR1 (j : Int) x).1
              have hg2 := (Kd.R_put hR1 (j : Int) x).2
              rw [Int.toNat_natCast] at hc1 hf1 hR2 hg2
              rw [hln, moved xs j x (by omega), ← hsm.out] at hR2
              have hB4 : Below w.heap.size w (W1.setCell ⟨g2, j, none⟩ (.int .u32 x)) := (hB3.out.grown hg1 (below_size hB3.out) (own_base_ hO3.out)).grown hg2 (by have := hB3.out.size; omega) (own_base_ hO3.out)
              have hR2A := Aside0.mk hR2
              have hB4A := Aside0.mk hB4
              clear hR2 hB4 hR1 hO3 hB3 hg1 hg2
              have hRange := r0
              go_wp2_with fail
              go_roundw
              · exact ⟨k + 1, by omega, by go_num, hR2A, hB4A⟩
              · simp [intOf]; omega
          · obtain rfl : j = xs.length := by omega
            have q1 : ¬ (xs.length : Int) < (xs.length : Int) := by omega
            have hsm := Aside0.mk (hnew (by rw [List.getElem?_eq_none (Nat.le_refl _)]; simp))
            clear hnew hsame
            go_wp2_with (first | ((with_reducible refine gate_builtin (b := .append) (xs := #[.tmp 40, .tmp 41]) rfl ?_); at_builtin; refine Kd.R_append (Kd.int .u32) (w0 := w) w.heap.size rfl (.tmp 40) (.tmp 41) 24 25 (.int .u32 0) 4 rfl Try.underlying24 (by kernel_rfl) rfl (by decide) (by omega) _ xs 0 [.int .u32 0] (fun k_ => w.heap.size ≤ k_) (fun _ => False) rfl rfl ?aP (fun _ hk => hk.elim) ?aF ?aO ?aB ?aS ?aL ?_; (case aP => exact rfl); (case aB => exact hB.out); (case aF => exact (fun k_ hk => Nat.le_trans (below_size hB.out) hk)); (case aO => exact hO.out); (case aS => exact below_size hB.out); (case aL => omega); intro v2 w2 ho hb hg hat; clear hg hat; obtain ⟨g2, cap2, rfl, hcap⟩ := own_form ho (by simp); have hO2 := Aside0.mk ho; have hB2 := Aside0.mk hb; clear ho hb))
            refine wp_region_noPanic ?_
            refine wp_region_held_drew (S := fun _ => True) (by kernel_rfl) trivial (fun _ => ?_)
            have H0 : True := trivial
            have hO3 := Aside0.mk (Kd.R_drew hO2.out)
            have hB3 := Aside0.mk (below_drew1 hB2.out)
            clear hO2 hB2
            generalize w2.drew = V0 at *
            have r0 : (0 : Int) ≤ (xs.length : Int) := by omega
            have r1 : (xs.length : Int) ≤ ((xs.length + 1 : Nat) : Int) := by omega
            have r2 : ((xs.length + 1 : Nat) : Int) ≤ (cap2 : Int) := by simp at hcap; omega
            have r3 : IntKind.i64.wrap ((xs.length : Int) + 1) = ((xs.length + 1 : Nat) : Int) := IntWalk.i64_in _ (by omega)
            have r4 : (0 : Int) ≤ (xs.length : Int) + 1 := by omega
            have r5 : ((xs.length + 1 : Nat) : Int) ≤ ((xs.length + 1 : Nat) : Int) := by omega
            refine wpAnyH_take (i := 0) (v := .slice (some ⟨g2, 0, none⟩) (xs.length + 1) cap2) (op_at rfl) (by kernel_rfl) (by kernel_rfl) (by kernel_rfl) (fun _ _ _ h => h) (Or.inl ⟨by rfl, fun w_ hSw => ?_⟩) H0 ?_
            · go_simp
            try simp only [Act.put, List.setIfInBounds_toArray, List.set_cons_zero, List.set_cons_succ]
            refine wpAnyH_take (i := 1) (v := .int .i64 (xs.length : Int)) (op_at rfl) (by kernel_rfl) (by kernel_rfl) (by kernel_rfl) (fun _ _ _ h => h) (Or.inl ⟨by rfl, fun w_ hSw => ?_⟩) H0 ?_
            · go_simp
            try simp only [Act.put, List.setIfInBounds_toArray, List.set_cons_zero, List.set_cons_succ]
            refine wpAnyH_take (i := 2) (v := .int .i64 ((xs.length + 1 : Nat) : Int)) (op_at rfl) (by kernel_rfl) (by kernel_rfl) (by kernel_rfl) (fun _ _ _ h => h) (Or.inl ⟨by rfl, fun w_ hSw => ?_⟩) H0 ?_
            · go_simp
            try simp only [Act.put, List.setIfInBounds_toArray, List.set_cons_zero, List.set_cons_succ]
            refine wpAnyH_take (i := 3) (v := .slice (if cap2 = xs.length + 1 then some ⟨g2, 0, none⟩ else some ⟨g2, xs.length + 1, none⟩) (xs.length - xs.length) (cap2 - (xs.length + 1))) (op_at rfl) (by kernel_rfl) (by kernel_rfl) (by kernel_rfl) (fun _ _ _ h => h) (Or.inl ⟨by rfl, fun w_ hSw => ?_⟩) H0 ?_
            · go_simp
            try simp only [Act.put, List.setIfInBounds_toArray, List.set_cons_zero, List.set_cons_succ]
            refine wpAnyH_take (i := 4) (v := .slice (some ⟨g2, 0, none⟩) (xs.length + 1) cap2) (op_at rfl) (by kernel_rfl) (by kernel_rfl) (by kernel_rfl) (fun _ _ _ h => h) (Or.inl ⟨by rfl, fun w_ hSw => ?_⟩) H0 ?_
            · go_simp
            try simp only [Act.put, List.setIfInBounds_toArray, List.set_cons_zero, List.set_cons_succ]
            refine wpAnyH_take (i := 5) (v := .int .i64 (xs.length : Int)) (op_at rfl) (by kernel_rfl) (by kernel_rfl) (by kernel_rfl) (fun _ _ _ h => h) (Or.inl ⟨by rfl, fun w_ hSw => ?_⟩) H0 ?_
            · go_simp
            try simp only [Act.put, List.setIfInBounds_toArray, List.set_cons_zero, List.set_cons_succ]
            refine wpAnyH_take (i := 6) (v := .slice (some ⟨g2, xs.length, none⟩) (xs.length + 1 - xs.length) (cap2 - xs.length)) (op_at rfl) (by kernel_rfl) (by kernel_rfl) (by kernel_rfl) (fun _ _ _ h => h) (Or.inl ⟨by rfl, fun w_ hSw => ?_⟩) H0 ?_
            · go_simp
              rw [if_pos (by omega), if_neg (by omega)]
            try simp only [Act.put, List.setIfInBounds_toArray, List.set_cons_zero, List.set_cons_succ]
            refine wpAnyH_ready (rs := [7]) (by kernel_rfl) (by simp) ?_
            refine AllReadyH.cons (op_at rfl) (fun K hK => ?_) AllReadyH.nil
            refine step_copy_up (by rfl) (.tmp 46) (.tmp 49) rfl w.heap.size g2 xs.length cap2 xs.length (xs ++ [0]) _ hO3.out (by simp) (by omega) rfl rfl ?_
            intro W1 z hR1 hg1 hs1
            refine hK.out _ _ trivial (fun H1_ => ?_)
            clear hK K
            try simp only [Act.put, List.setIfInBounds_toArray, List.set_cons_zero, List.set_cons_succ]
            refine wpAnyH_done (by kernel_rfl) ?_ _
            refine NoPanic.normal ?_
            have hln : ((xs ++ [0]).take (xs.length + 1) ++ ((xs ++ [0]).drop xs.length).take (xs.length - xs.length)).length = xs.length + 1 := by rw [List.length_append, List.length_take, List.length_take, List.length_drop, List.length_append, List.length_singleton]; omega
            obtain ⟨hc1, hf1⟩ := Kd.R_cell (0 : Int) hR1 (xs.length : Int) r0 (by rw [hln]; omega)
            have hR2 := (Kd.R_put hR1 (xs.length : Int) x).1
            have hg2 := (Kd.R_put hR1 (xs.length : Int) x).2
            rw [Int.toNat_natCast] at hc1 hf1 hR2 hg2
            rw [hln, moved xs xs.length x (by omega), ← hsm.out] at hR2
            have hB4 : Below w.heap.size w (W1.setCell ⟨g2, xs.length, none⟩ (.int .u32 x)) := (hB3.out.grown hg1 (below_size hB3.out) (own_base_ hO3.out)).grown hg2 (by have := hB3.out.size; omega) (own_base_ hO3.out)
            have hR2A := Aside0.mk hR2
            have hB4A := Aside0.mk hB4
            clear hR2 hB4 hR1 hO3 hB3 hg1 hg2
            have hRange := r0
            go_wp2_with fail
            go_roundw
            · exact ⟨k + 1, by omega, by go_num, hR2A, hB4A⟩
            · simp [intOf]; omega
    · obtain rfl : k = l.length := by omega
      have p1 : ¬ (l.length : Int) < (l.length : Int) := by omega
      rw [List.take_of_length_le (Nat.le_refl _)] at hO
      go_wp2_with fail
      go_ret
      exact ⟨_, rfl, hO.out, hB.out⟩
end Go.Proofs.Ytljkbkhaamlbmaa.RtS
