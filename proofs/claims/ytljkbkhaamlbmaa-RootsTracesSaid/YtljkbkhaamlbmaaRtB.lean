/- Small rows are put in order by insertion: what the program's sort and the document's come to. -/
import Derived.Test.YtljkbkhaamlbmaaTx5
import Derived.Test.YtljkbkhaamlbmaaMCp
import Derived.Test.YtljkbkhaamlbmaaMPoly
import Derived.Test.YtljkbkhaamlbmaaRtL
set_option linter.unusedVariables false
set_option linter.unusedSimpArgs false
namespace Go.Proofs.Ytljkbkhaamlbmaa.T
open Go.RowKit Go.Proofs.YtljkbkhaamlbmaaW.PrintWords Go.Proofs.YtljkbkhaamlbmaaW.PrintLast Go.Proofs.YtljkbkhaamlbmaaW.PrintMore Go.Proofs.Ytljkbkhaamlbmaa.Bits Go.Proofs.Ytljkbkhaamlbmaa GF PolyT
def Asc (l : List F) : Prop := l.Pairwise fun a b => a.toNat ≤ b.toNat
theorem many_append (a b : List F) (y : F) : many (a ++ b) y = many a y + many b y := by unfold many; rw [List.filter_append, List.length_append]
theorem many_cons (x : F) (b : List F) (y : F) : many (x :: b) y = many b y + if x = y then 1 else 0 := by
  unfold many; rw [List.filter_cons]
  by_cases h : x = y
  · rw [if_pos h, if_pos (by simp [h])]; rfl
  · rw [if_neg h, if_neg (by simp [h])]; rfl
theorem many_mem (l : List F) (y : F) : 0 < many l y ↔ y ∈ l := by
  unfold many
  rw [List.length_pos_iff_exists_mem]
  constructor
  · rintro ⟨r, h⟩; obtain ⟨h1, h2⟩ := List.mem_filter.1 h; have : r = y := by simpa using h2
    subst this; exact h1
  · intro h; exact ⟨y, List.mem_filter.2 ⟨h, by simp⟩⟩
theorem V_append (a b : List F) : V (a ++ b) = V a ++ V b := List.map_append
theorem rd_mid (A : List F) (x : F) (B : List F) (n : Int) (h : n = (A.length : Int)) : rd (V (A ++ x :: B)) n = v x := by
  rw [h, rd_Vn, co_append, if_neg (by omega), Nat.sub_self]; rfl
theorem rd_bef (A : List F) (y x : F) (B : List F) (n : Int) (h : n = (A.length : Int)) : rd (V (A ++ y :: x :: B)) n = v y := rd_mid A y (x :: B) n h
theorem rd_aft (A : List F) (y x : F) (B : List F) (n : Int) (h : n = (A.length : Int) + 1) : rd (V (A ++ y :: x :: B)) n = v x := by
  have := rd_mid (A ++ [y]) x B n (by rw [h]; simp)
  simpa using this
theorem swap_at (A : List F) (y x : F) (B : List F) (i j : Int) (hi : i = (A.length : Int) + 1) (hj : j = (A.length : Int)) :
    ((V (A ++ y :: x :: B)).set i.toNat (v y)).set j.toNat (v x) = V (A ++ x :: y :: B) := by
  have e1 : i.toNat = A.length + 1 := by omega
  have e2 : j.toNat = A.length := by omega
  rw [e1, e2, V_append, V_append]
  rw [List.set_append_right _ _ (by simp [V]), List.set_append_right _ _ (by simp [V])]
  simp [V]
theorem V_len (l : List F) : ((V l).length : Int) = (l.length : Int) := by rw [V_length]
theorem less_v (a b : F) : cmp_Less_uint32.f (v a) (v b) = some (decide (a.toNat < b.toNat)) := by
  unfold cmp_Less_uint32.f cmp_isNaN_uint32.f
  simp [v]
theorem asc_stop (A : List F) (x : F) (B : List F) (h : Asc (A ++ B)) (hx : ∀ b ∈ B, x.toNat ≤ b.toNat) (hA : ∀ A' y, A = A' ++ [y] → y.toNat ≤ x.toNat) : Asc (A ++ x :: B) := by
  unfold Asc at h ⊢
  rw [List.pairwise_append] at h ⊢
  obtain ⟨h1, h2, h3⟩ := h
  refine ⟨h1, List.pairwise_cons.2 ⟨hx, h2⟩, fun a ha b hb => ?_⟩
  rcases List.mem_cons.1 hb with rfl | hb
  · rcases List.eq_nil_or_concat A with rfl | ⟨A', y, rfl⟩
    · cases ha
    · have hy := hA A' y (by simp)
      rw [List.concat_eq_append] at h1 ha
      rw [List.pairwise_append] at h1
      rcases List.mem_append.1 ha with ha | ha
      · have := h1.2.2 a ha y (by simp); omega
      · have : a = y := by simpa using ha
        subst this; exact hy
  · exact h3 a ha b hb
theorem asc_step (A : List F) (y x : F) (B : List F) (h : Asc (A ++ [y] ++ B)) (hx : ∀ b ∈ B, x.toNat ≤ b.toNat) (hl : x.toNat < y.toNat) : Asc (A ++ y :: B) ∧ ∀ b ∈ y :: B, x.toNat ≤ b.toNat := by
  refine ⟨by simpa using h, fun b hb => ?_⟩
  rcases List.mem_cons.1 hb with rfl | hb
  · omega
  · exact hx b hb
theorem snoc_of {A : List F} {n : Nat} (h : A.length = n + 1) : ∃ A' y, A = A' ++ [y] := by
  rcases List.eq_nil_or_concat A with rfl | ⟨A', y, e⟩
  · simp at h
  · exact ⟨A', y, by rw [e, List.concat_eq_append]⟩
theorem snoc_last {A' A2 : List F} {y z : F} (e : A' ++ [y] = A2 ++ [z]) : y = z := by
  obtain ⟨_, e2⟩ := List.append_inj' e rfl
  simpa using e2
theorem many_nil (y : F) : many [] y = 0 := rfl
theorem ins_down (C : List F) (a2 x6 : Int) : ∀ (n : Nat) (A B : List F) (x : F), A.length = n → (A ++ x :: B ++ C).length < 4096 → Asc (A ++ B) → (∀ b ∈ B, x.toNat ≤ b.toNat) →
    ∃ S : List F, S.length = A.length + 1 + B.length ∧ Asc S ∧ (∀ y, many S y = many (A ++ x :: B) y) ∧ ∀ R : List Int, Ev (fun k => slices_insertionSortOrdered_uint32.l0 k (V (S ++ C)) 0 a2 (wrap64 (x6 + 1))) R →
    Ev (fun k => slices_insertionSortOrdered_uint32.l1 k (V (A ++ x :: B ++ C)) 0 a2 x6 (A.length : Int)) R := by
  intro n
  induction n with
  | zero =>
    intro A B x hA hs ha hx
    obtain rfl := List.eq_nil_of_length_eq_zero hA
    refine ⟨x :: B, by simp; omega, asc_stop [] x B ha hx (fun A' y h => by simp at h), fun y => rfl, fun R hR => ?_⟩
    refine Ev.succ ?_
    simp only [slices_insertionSortOrdered_uint32.l1]
    exact Ev.neg (by simp) hR
  | succ n ih =>
    intro A B x hA hs ha hx
    obtain ⟨A', y, rfl⟩ := snoc_of hA
    have hA' : A'.length = n := by simpa using hA
    have el : A' ++ [y] ++ x :: B ++ C = A' ++ y :: x :: (B ++ C) := by simp
    have hs' : A'.length + 2 + (B.length + C.length) < 4096 := by rw [el] at hs; simp at hs; omega
    have e0 : (((A' ++ [y]).length : Nat) : Int) = (A'.length : Int) + 1 := by simp
    have ew : wrap64 ((A'.length : Int) + 1 - 1) = (A'.length : Int) := by rw [wrap64_small] <;> omega
    have hlen : ((V (A' ++ y :: x :: (B ++ C))).length : Int) = (A'.length : Int) + 2 + (B.length + C.length) := by rw [V_length]; simp; omega
    have step : ∀ (R : List Int), (Ev (fun k => if decide (x.toNat < y.toNat) = true then slices_insertionSortOrdered_uint32.l1 k (V (A' ++ x :: y :: (B ++ C))) 0 a2 x6 (A'.length : Int) else slices_insertionSortOrdered_uint32.l0 k (V (A' ++ y :: x :: (B ++ C))) 0 a2 (wrap64 (x6 + 1))) R) →
        Ev (fun k => slices_insertionSortOrdered_uint32.l1 k (V (A' ++ [y] ++ x :: B ++ C)) 0 a2 x6 (((A' ++ [y]).length : Nat) : Int)) R := by
      intro R h
      rw [e0, el]
      refine Ev.succ ?_
      simp only [slices_insertionSortOrdered_uint32.l1, ew]
      refine Ev.pos (by omega) (Ev.pos (by omega) (Ev.pos (by rw [hlen]; omega) (Ev.pos (by omega) (Ev.pos (by rw [hlen]; omega) ?_))))
      rw [rd_aft A' y x (B ++ C) _ rfl, rd_bef A' y x (B ++ C) _ rfl, less_v]
      refine Ev.bind' rfl ?_
      rw [swap_at A' y x (B ++ C) _ _ rfl rfl]
      exact h
    by_cases hl : x.toNat < y.toNat
    · obtain ⟨h2, h3⟩ := asc_step A' y x B ha hx hl
      obtain ⟨S, s1, s2, s3, s4⟩ := ih A' (y :: B) x hA' (by simp; omega) h2 h3
      refine ⟨S, by simp at s1 ⊢; omega, s2, fun z => by rw [s3]; simp only [many_append, many_cons, many_nil]; omega, fun R hR => step R (Ev.pos (by simpa using hl) ?_)⟩
      have := s4 R hR
      simpa using this
    · refine ⟨A' ++ [y] ++ x :: B, by simp; omega, asc_stop _ x B ha hx (fun A2 z e => by
        have := snoc_last e
        subst this; omega), fun z => rfl, fun R hR => step R (Ev.neg (by simpa using hl) ?_)⟩
      simpa using hR
theorem ins_all (L : Nat) (hs : L < 4096) : ∀ (n : Nat) (S C : List F), C.length = n → S.length + n = L → 0 < S.length → Asc S →
    ∃ T, Ev (fun k => slices_insertionSortOrdered_uint32.l0 k (V (S ++ C)) 0 (L : Int) (S.length : Int)) (V T) ∧ Asc T ∧ T.length = L ∧ ∀ y, many T y = many (S ++ C) y := by
  intro n
  induction n with
  | zero =>
    intro S C hC hS h0 ha
    obtain rfl := List.eq_nil_of_length_eq_zero hC
    refine ⟨S, ?_, ha, by omega, fun y => by simp⟩
    refine Ev.succ ?_
    simp only [slices_insertionSortOrdered_uint32.l0]
    rw [List.append_nil]
    exact Ev.neg (by omega) Ev.some'
  | succ n ih =>
    intro S C hC hS h0 ha
    cases C with
    | nil => simp at hC
    | cons x C =>
      have hC' : C.length = n := by simpa using hC
      obtain ⟨S', s1, s2, s3, s4⟩ := ins_down C (L : Int) (S.length : Int) S.length S [] x rfl (by simp; omega) (by simpa using ha) (by simp)
      have s1' : S'.length = S.length + 1 := by simpa using s1
      obtain ⟨T, t1, t2, t3, t4⟩ := ih S' C hC' (by omega) (by omega) s2
      refine ⟨T, ?_, t2, t3, fun y => by rw [t4, many_append, s3]; simp only [many_append, many_cons, many_nil]; omega⟩
      refine Ev.succ ?_
      simp only [slices_insertionSortOrdered_uint32.l0]
      refine Ev.pos (by omega) ?_
      have h5 := s4 (V T) (by
        have e : wrap64 ((S.length : Int) + 1) = ((S'.length : Nat) : Int) := by rw [s1', wrap64_small] <;> omega
        rw [e]; exact t1)
      simpa using h5
theorem sort_V (l : List F) (h : l.length ≤ 12) : ∃ T, Ev (fun k => slices_Sort_uint32_uint32.f k (V l)) (V T) ∧ Asc T ∧ T.length = l.length ∧ ∀ y, many T y = many l y := by
  have key : ∃ T, Ev (fun k => slices_insertionSortOrdered_uint32.f k (V l) 0 (l.length : Int)) (V T) ∧ Asc T ∧ T.length = l.length ∧ ∀ y, many T y = many l y := by
    unfold slices_insertionSortOrdered_uint32.f
    cases l with
    | nil =>
      refine ⟨[], ?_, List.Pairwise.nil, rfl, fun y => rfl⟩
      refine Ev.succ ?_
      simp only [slices_insertionSortOrdered_uint32.l0]
      exact Ev.neg (by show ¬ wrap64 (0 + 1) < (0 : Int); rw [wrap64_small] <;> omega) Ev.some'
    | cons x l =>
      have := ins_all (x :: l).length (by simp at h ⊢; omega) l.length [x] l rfl (by simp; omega) (by simp) (by simp [Asc])
      have ew : wrap64 (0 + 1) = (([x].length : Nat) : Int) := by rw [wrap64_small] <;> simp
      rw [ew]
      exact this
  obtain ⟨T, t1, t2, t3, t4⟩ := key
  refine ⟨T, ?_, t2, t3, t4⟩
  unfold slices_Sort_uint32_uint32.f
  have e1 : ((V l).length : Int) = (l.length : Int) := V_len l
  have e2 : IntKind.u64.wrap ((l.length : Int)) = (l.length : Int) := IntWalk.u64_in _ (by omega)
  rw [e1, e2]
  have hb : bits_Len.f (l.length : Int) = some (RtL.blen l.length) := by
    unfold bits_Len.f
    rw [if_pos (by omega)]; simp
  refine Ev.bind' hb ?_
  refine Ev.bind ?_ Ev.some'
  unfold slices_pdqsortOrdered_uint32.f
  exact Ev.pos (by omega) t1
end Go.Proofs.Ytljkbkhaamlbmaa.T
