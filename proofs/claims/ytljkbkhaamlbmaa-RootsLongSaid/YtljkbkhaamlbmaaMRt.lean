/- Small rows are put in order by insertion: what the program's sort and the document's come to. -/
import Derived.Test.YtljkbkhaamlbmaaRx11
import Derived.Test.YtljkbkhaamlbmaaRx5
import Derived.Test.YtljkbkhaamlbmaaMCp
import Derived.Test.YtljkbkhaamlbmaaMPoly
import Derived.Test.YtljkbkhaamlbmaaRtL
import Derived.Test.YtljkbkhaamlbmaaRx1
import Derived.Test.YtljkbkhaamlbmaaRx2
import Derived.Test.YtljkbkhaamlbmaaRx3
import Derived.Test.YtljkbkhaamlbmaaRx4
import Derived.Test.YtljkbkhaamlbmaaRx6
import Derived.Test.YtljkbkhaamlbmaaRx7
set_option linter.unusedVariables false
set_option linter.unusedSimpArgs false
namespace Go.Proofs.Ytljkbkhaamlbmaa.R
open Go.RowKit Go.Proofs.YtljkbkhaamlbmaaW.PrintWords Go.Proofs.YtljkbkhaamlbmaaW.PrintLast Go.Proofs.YtljkbkhaamlbmaaW.PrintMore Go.Proofs.Ytljkbkhaamlbmaa.Bits Go.Proofs.Ytljkbkhaamlbmaa GF PolyT
def Asc (l : List F) : Prop := l.Pairwise fun a b => a.toNat ≤ b.toNat
theorem many_append (a b : List F) (y : F) : many (a ++ b) y = many a y + many b y := by unfold many; rw [List.filter_append, List.length_append]
theorem many_cons (x : F) (b : List F) (y : F) : many (x :: b) y = many b y + if x = y then 1 else 0 := by
  unfold many; rw [List.filter_cons]
  by_cases h : x = y
  · rw [if_pos h, if_pos (by simp [h])]; rfl
  · rw [if_neg h, if_neg (by simp [h])]; rfl
theorem many_mem (l : List F) (y : F) : 0 < many l y ↔ y ∈ l := by
  unfold many
  rw [List.length_pos_iff_exists_mem]
  constructor
  · rintro ⟨r, h⟩; obtain ⟨h1, h2⟩ := List.mem_filter.1 h; have : r = y := by simpa using h2
    subst this; exact h1
  · intro h; exact ⟨y, List.mem_filter.2 ⟨h, by simp⟩⟩
theorem V_append (a b : List F) : V (a ++ b) = V a ++ V b := List.map_append
theorem rd_mid (A : List F) (x : F) (B : List F) (n : Int) (h : n = (A.length : Int)) : rd (V (A ++ x :: B)) n = v x := by
  rw [h, rd_Vn, co_append, if_neg (by omega), Nat.sub_self]; rfl
theorem rd_bef (A : List F) (y x : F) (B : List F) (n : Int) (h : n = (A.length : Int)) : rd (V (A ++ y :: x :: B)) n = v y := rd_mid A y (x :: B) n h
theorem rd_aft (A : List F) (y x : F) (B : List F) (n : Int) (h : n = (A.length : Int) + 1) : rd (V (A ++ y :: x :: B)) n = v x := by
  have := rd_mid (A ++ [y]) x B n (by rw [h]; simp)
  simpa using this
theorem swap_at (A : List F) (y x : F) (B : List F) (i j : Int) (hi : i = (A.length : Int) + 1) (hj : j = (A.length : Int)) :
    ((V (A ++ y :: x :: B)).set i.toNat (v y)).set j.toNat (v x) = V (A ++ x :: y :: B) := by
  have e1 : i.toNat = A.length + 1 := by omega
  have e2 : j.toNat = A.length := by omega
  rw [e1, e2, V_append, V_append]
  rw [List.set_append_right _ _ (by simp [V]), List.set_append_right _ _ (by simp [V])]
  simp [V]
theorem V_len (l : List F) : ((V l).length : Int) = (l.length : Int) := by rw [V_length]
theorem less_v (a b : F) : cmp_Less_uint32.f (v a) (v b) = some (decide (a.toNat < b.toNat)) := by
  unfold cmp_Less_uint32.f cmp_isNaN_uint32.f
  simp [v]
theorem asc_stop (A : List F) (x : F) (B : List F) (h : Asc (A ++ B)) (hx : ∀ b ∈ B, x.toNat ≤ b.toNat) (hA : ∀ A' y, A = A' ++ [y] → y.toNat ≤ x.toNat) : Asc (A ++ x :: B) := by
  unfold Asc at h ⊢
  rw [List.pairwise_append] at h ⊢
  obtain ⟨h1, h2, h3⟩ := h
  refine ⟨h1, List.pairwise_cons.2 ⟨hx, h2⟩, fun a ha b hb => ?_⟩
  rcases List.mem_cons.1 hb with rfl | hb
  · rcases List.eq_nil_or_concat A with rfl | ⟨A', y, rfl⟩
    · cases ha
    · have hy := hA A' y (by simp)
      rw [List.concat_eq_append] at h1 ha
      rw [List.pairwise_append] at h1
      rcases List.mem_append.1 ha with ha | ha
      · have := h1.2.2 a ha y (by simp); omega
      · have : a = y := by simpa using ha
        subst this; exact hy
  · exact h3 a ha b hb
theorem asc_step (A : List F) (y x : F) (B : List F) (h : Asc (A ++ [y] ++ B)) (hx : ∀ b ∈ B, x.toNat ≤ b.toNat) (hl : x.toNat < y.toNat) : Asc (A ++ y :: B) ∧ ∀ b ∈ y :: B, x.toNat ≤ b.toNat := by
  refine ⟨by simpa using h, fun b hb => ?_⟩
  rcases List.mem_cons.1 hb with rfl | hb
  · omega
  · exact hx b hb
theorem snoc_of {A : List F} {n : Nat} (h : A.length = n + 1) : ∃ A' y, A = A' ++ [y] := by
  rcases List.eq_nil_or_concat A with rfl | ⟨A', y, e⟩
  · simp at h
  · exact ⟨A', y, by rw [e, List.concat_eq_append]⟩
theorem snoc_last {A' A2 : List F} {y z : F} (e : A' ++ [y] = A2 ++ [z]) : y = z := by
  obtain ⟨_, e2⟩ := List.append_inj' e rfl
  simpa using e2
theorem many_nil (y : F) : many [] y = 0 := rfl
theorem ins_down (C : List F) (a2 x6 : Int) : ∀ (n : Nat) (A B : List F) (x : F), A.length = n → (A ++ x :: B ++ C).length < 4096 → Asc (A ++ B) → (∀ b ∈ B, x.toNat ≤ b.toNat) →
    ∃ S : List F, S.length = A.length + 1 + B.length ∧ Asc S ∧ (∀ y, many S y = many (A ++ x :: B) y) ∧ ∀ R : List Int, Ev (fun k => slices_insertionSortOrdered_uint32.l0 k (V (S ++ C)) 0 a2 (wrap64 (x6 + 1))) R →
    Ev (fun k => slices_insertionSortOrdered_uint32.l1 k (V (A ++ x :: B ++ C)) 0 a2 x6 (A.length : Int)) R := by
  intro n
  induction n with
  | zero =>
    intro A B x hA hs ha hx
    obtain rfl := List.eq_nil_of_length_eq_zero hA
    refine ⟨x :: B, by simp; omega, asc_stop [] x B ha hx (fun A' y h => by simp at h), fun y => rfl, fun R hR => ?_⟩
    refine Ev.succ ?_
    simp only [slices_insertionSortOrdered_uint32.l1]
    exact Ev.neg (by simp) hR
  | succ n ih =>
    intro A B x hA hs ha hx
    obtain ⟨A', y, rfl⟩ := snoc_of hA
    have hA' : A'.length = n := by simpa using hA
    have el : A' ++ [y] ++ x :: B ++ C = A' ++ y :: x :: (B ++ C) := by simp
    have hs' : A'.length + 2 + (B.length + C.length) < 4096 := by rw [el] at hs; simp at hs; omega
    have e0 : (((A' ++ [y]).length : Nat) : Int) = (A'.length : Int) + 1 := by simp
    have ew : wrap64 ((A'.length : Int) + 1 - 1) = (A'.length : Int) := by rw [wrap64_small] <;> omega
    have hlen : ((V (A' ++ y :: x :: (B ++ C))).length : Int) = (A'.length : Int) + 2 + (B.length + C.length) := by rw [V_length]; simp; omega
    have step : ∀ (R : List Int), (Ev (fun k => if decide (x.toNat < y.toNat) = true then slices_insertionSortOrdered_uint32.l1 k (V (A' ++ x :: y :: (B ++ C))) 0 a2 x6 (A'.length : Int) else slices_insertionSortOrdered_uint32.l0 k (V (A' ++ y :: x :: (B ++ C))) 0 a2 (wrap64 (x6 + 1))) R) →
        Ev (fun k => slices_insertionSortOrdered_uint32.l1 k (V (A' ++ [y] ++ x :: B ++ C)) 0 a2 x6 (((A' ++ [y]).length : Nat) : Int)) R := by
      intro R h
      rw [e0, el]
      refine Ev.succ ?_
      simp only [slices_insertionSortOrdered_uint32.l1, ew]
      refine Ev.pos (by omega) (Ev.pos (by omega) (Ev.pos (by rw [hlen]; omega) (Ev.pos (by omega) (Ev.pos (by rw [hlen]; omega) ?_))))
      rw [rd_aft A' y x (B ++ C) _ rfl, rd_bef A' y x (B ++ C) _ rfl, less_v]
      refine Ev.bind' rfl ?_
      rw [swap_at A' y x (B ++ C) _ _ rfl rfl]
      exact h
    by_cases hl : x.toNat < y.toNat
    · obtain ⟨h2, h3⟩ := asc_step A' y x B ha hx hl
      obtain ⟨S, s1, s2, s3, s4⟩ := ih A' (y :: B) x hA' (by simp; omega) h2 h3
      refine ⟨S, by simp at s1 ⊢; omega, s2, fun z => by rw [s3]; simp only [many_append, many_cons, many_nil]; omega, fun R hR => step R (Ev.pos (by simpa using hl) ?_)⟩
      have := s4 R hR
      simpa using this
    · refine ⟨A' ++ [y] ++ x :: B, by simp; omega, asc_stop _ x B ha hx (fun A2 z e => by
        have := snoc_last e
        subst this; omega), fun z => rfl, fun R hR => step R (Ev.neg (by simpa using hl) ?_)⟩
      simpa using hR
theorem ins_all (L : Nat) (hs : L < 4096) : ∀ (n : Nat) (S C : List F), C.length = n → S.length + n = L → 0 < S.length → Asc S →
    ∃ T, Ev (fun k => slices_insertionSortOrdered_uint32.l0 k (V (S ++ C)) 0 (L : Int) (S.length : Int)) (V T) ∧ Asc T ∧ T.length = L ∧ ∀ y, many T y = many (S ++ C) y := by
  intro n
  induction n with
  | zero =>
    intro S C hC hS h0 ha
    obtain rfl := List.eq_nil_of_length_eq_zero hC
    refine ⟨S, ?_, ha, by omega, fun y => by simp⟩
    refine Ev.succ ?_
    simp only [slices_insertionSortOrdered_uint32.l0]
    rw [List.append_nil]
    exact Ev.neg (by omega) Ev.some'
  | succ n ih =>
    intro S C hC hS h0 ha
    cases C with
    | nil => simp at hC
    | cons x C =>
      have hC' : C.length = n := by simpa using hC
      obtain ⟨S', s1, s2, s3, s4⟩ := ins_down C (L : Int) (S.length : Int) S.length S [] x rfl (by simp; omega) (by simpa using ha) (by simp)
      have s1' : S'.length = S.length + 1 := by simpa using s1
      obtain ⟨T, t1, t2, t3, t4⟩ := ih S' C hC' (by omega) (by omega) s2
      refine ⟨T, ?_, t2, t3, fun y => by rw [t4, many_append, s3]; simp only [many_append, many_cons, many_nil]; omega⟩
      refine Ev.succ ?_
      simp only [slices_insertionSortOrdered_uint32.l0]
      refine Ev.pos (by omega) ?_
      have h5 := s4 (V T) (by
        have e : wrap64 ((S.length : Int) + 1) = ((S'.length : Nat) : Int) := by rw [s1', wrap64_small] <;> omega
        rw [e]; exact t1)
      simpa using h5
theorem sort_V (l : List F) (h : l.length ≤ 12) : ∃ T, Ev (fun k => slices_Sort_uint32_uint32.f k (V l)) (V T) ∧ Asc T ∧ T.length = l.length ∧ ∀ y, many T y = many l y := by
  have key : ∃ T, Ev (fun k => slices_insertionSortOrdered_uint32.f k (V l) 0 (l.length : Int)) (V T) ∧ Asc T ∧ T.length = l.length ∧ ∀ y, many T y = many l y := by
    unfold slices_insertionSortOrdered_uint32.f
    cases l with
    | nil =>
      refine ⟨[], ?_, List.Pairwise.nil, rfl, fun y => rfl⟩
      refine Ev.succ ?_
      simp only [slices_insertionSortOrdered_uint32.l0]
      exact Ev.neg (by show ¬ wrap64 (0 + 1) < (0 : Int); rw [wrap64_small] <;> omega) Ev.some'
    | cons x l =>
      have := ins_all (x :: l).length (by simp at h ⊢; omega) l.length [x] l rfl (by simp; omega) (by simp) (by simp [Asc])
      have ew : wrap64 (0 + 1) = (([x].length : Nat) : Int) := by rw [wrap64_small] <;> simp
      rw [ew]
      exact this
  obtain ⟨T, t1, t2, t3, t4⟩ := key
  refine ⟨T, ?_, t2, t3, t4⟩
  unfold slices_Sort_uint32_uint32.f
  have e1 : ((V l).length : Int) = (l.length : Int) := V_len l
  have e2 : IntKind.u64.wrap ((l.length : Int)) = (l.length : Int) := IntWalk.u64_in _ (by omega)
  rw [e1, e2]
  have hb : bits_Len.f (l.length : Int) = some (RtL.blen l.length) := by
    unfold bits_Len.f
    rw [if_pos (by omega)]; simp
  refine Ev.bind' hb ?_
  refine Ev.bind ?_ Ev.some'
  unfold slices_pdqsortOrdered_uint32.f
  exact Ev.pos (by omega) t1
end Go.Proofs.Ytljkbkhaamlbmaa.R
/- The program's roots: what its functions come to. -/
set_option linter.unusedVariables false
set_option linter.unusedSimpArgs false
namespace Go.Proofs.Ytljkbkhaamlbmaa.R
open Go.RowKit Go.Proofs.YtljkbkhaamlbmaaW.PrintWords Go.Proofs.YtljkbkhaamlbmaaW.PrintLast Go.Proofs.YtljkbkhaamlbmaaW.PrintMore Go.Proofs.Ytljkbkhaamlbmaa.Bits Go.Proofs.Ytljkbkhaamlbmaa GF PolyT
theorem rest_V (a p : List F) (ha : Small a) (hp : Small p) (h : len p ≠ 0) : ∃ r, Ev (fun k => roots_rest.f k (V a) (V p)) (V r) ∧ Rem p a r := by
  obtain ⟨q, r, h1, h2, h3, h4, _⟩ := divide_V a p ha hp h
  exact ⟨r, Ev.bind h1 (Ev.pos rfl Ev.some'), h3, q, h4⟩
theorem squared_R (a p : List F) (ha : a.length < 2048) (hp : Small p) (h : len p ≠ 0) : ∃ r, Ev (fun k => roots_squared.f k (V a) (V p)) (V r) ∧ Step p a r := by
  obtain ⟨s, h1, h2, h3, c, q, h4, h5, h6⟩ := squared_V a p ha hp h
  exact ⟨s, Ev.bind h1 (Ev.pos rfl Ev.some'), c, h4, h2, q, h5⟩
theorem step_short {p a b : List F} (h : Step p a b) : b.length < p.length := by
  obtain ⟨c, hc, hr⟩ := h
  have := hr.len_lt; have := len_le p; omega
theorem up1 {i n m : Nat} (h : i + (n + 1) = m) (hm : m < 4096) : wrap64 ((i : Int) + 1) = ((i + 1 : Nat) : Int) := wrap_nat1 (by omega)
theorem linear_loop (p x : List F) (hp : p.length ≤ 2000) (h0 : len p ≠ 0) (hx : x.length ≤ p.length) : ∀ (n i : Nat) (a : List F), i + n = 32 → a.length ≤ p.length →
    ∃ b s g, Iter p n a b ∧ co s = sadd (co b) (co x) ∧ GcdP p s g ∧ Ev (fun k => roots_linear.l0 k (V p) (V x) (V a) (i : Int)) (V g) := by
  intro n
  induction n with
  | zero =>
    intro i a hi ha
    obtain rfl : i = 32 := by omega
    obtain ⟨s, s1, s2, s3, s4⟩ := add_V a x (by unfold Small; omega) (by unfold Small; omega)
    obtain ⟨g, g1, g2⟩ := common_V p s (by unfold Small; omega) (by unfold Small; omega)
    refine ⟨a, s, g, rfl, s3, g2.p.congr (funext fun i => (co_trim p i).symm) (funext fun i => (co_trim s i).symm), ?_⟩
    refine Ev.succ ?_
    simp only [roots_linear.l0]
    exact Ev.neg (by decide) (Ev.bind s1 (Ev.bind g1 Ev.some'))
  | succ n ih =>
    intro i a hi ha
    obtain ⟨r, r1, r2⟩ := squared_R a p (by omega) (by unfold Small; omega) h0
    obtain ⟨b, s, g, h1, h2, h3, h4⟩ := ih (i + 1) r (by omega) (by have := step_short r2; omega)
    refine ⟨b, s, g, ⟨r, r2, h1⟩, h2, h3, ?_⟩
    refine Ev.succ ?_
    simp only [roots_linear.l0]
    refine Ev.pos (by omega) (Ev.bind r1 ?_)
    rw [up1 hi (by omega)]
    exact h4
theorem linear_V (p : List F) (hp : p.length ≤ 2000) (h0 : len p ≠ 0) : ∃ g, Ev (fun k => roots_linear.f k (V p)) (V g) ∧ LinR p g := by
  obtain ⟨x, x1, x2⟩ := rest_V [0#32, 1#32] p (by unfold Small; simp) (by unfold Small; omega) h0
  have hx := x2.len_lt
  have hl := len_le p
  obtain ⟨b, s, g, h1, h2, h3, h4⟩ := linear_loop p x hp h0 (by omega) 32 0 x (by omega) (by omega)
  exact ⟨g, Ev.bind x1 h4, x, b, s, x2, h1, h2, h3⟩
theorem traces_loop (p : List F) (hp : p.length ≤ 2000) (h0 : len p ≠ 0) : ∀ (n i : Nat) (o a : List F), i + n = 32 → o.length ≤ p.length → a.length ≤ p.length →
    ∃ t, Ev (fun k => roots_traces.l0 k (V p) (V o) (V a) (i : Int)) (V t) ∧ TI p n a o t ∧ t.length ≤ p.length := by
  intro n
  induction n with
  | zero =>
    intro i o a hi ho ha
    obtain rfl : i = 32 := by omega
    refine ⟨o, ?_, rfl, ho⟩
    refine Ev.succ ?_
    simp only [roots_traces.l0]
    exact Ev.neg (by decide) Ev.some'
  | succ n ih =>
    intro i o a hi ho ha
    obtain ⟨s, s1, s2, s3, s4⟩ := add_V o a (by unfold Small; omega) (by unfold Small; omega)
    obtain ⟨r, r1, r2⟩ := squared_R a p (by omega) (by unfold Small; omega) h0
    obtain ⟨t, t1, t2, t3⟩ := ih (i + 1) s r (by omega) (by omega) (by have := step_short r2; omega)
    refine ⟨t, ?_, ⟨s, r, s2, s3, r2, t2⟩, t3⟩
    refine Ev.succ ?_
    simp only [roots_traces.l0]
    refine Ev.pos (by omega) (Ev.bind s1 (Ev.bind r1 ?_))
    rw [up1 hi (by omega)]
    exact t1
theorem traces_V (p : List F) (c : F) (hp : p.length ≤ 2000) (h0 : len p ≠ 0) : ∃ t, Ev (fun k => roots_traces.f k (V p) (v c)) (V t) ∧ TrcR p c t ∧ t.length ≤ p.length := by
  obtain ⟨x, x1, x2⟩ := rest_V [0#32, c] p (by unfold Small; simp) (by unfold Small; omega) h0
  have hx := x2.len_lt
  have hl := len_le p
  obtain ⟨t, t1, t2, t3⟩ := traces_loop p hp h0 32 0 [] x (by omega) (by simp) (by omega)
  exact ⟨t, Ev.bind x1 t1, ⟨x, x2, t2⟩, t3⟩
theorem shl_e : ∀ b : Nat, b < 32 → shl .u32 1 (b : Int) = v (e b) := by decide +kernel
theorem parted_V (q : List F) (b : Nat) (hq : q.length ≤ 2000) (h : PI q b) (hb : b < 32) :
    ∃ g m, Ev (fun k => roots_parted.f k (V q) (b : Int)) [(⟨V g, ((b + 1 : Nat) : Int)⟩ : S62), (⟨V m, ((b + 1 : Nat) : Int)⟩ : S62)] ∧ PI g (b + 1) ∧ PI m (b + 1) ∧ g.length ≤ q.length ∧ m.length ≤ q.length ∧
      (∀ y, ev g y = 0#32 ↔ ev q y = 0#32 ∧ GF.tr (mul (e b) y) = 0#32) ∧ (∀ y, ev m y = 0#32 ↔ ev q y = 0#32 ∧ GF.tr (mul (e b) y) ≠ 0#32) := by
  obtain ⟨t, t1, t2, t3⟩ := traces_V q (e b) hq h.nz
  obtain ⟨g, g1, g2⟩ := common_V q t (by unfold Small; omega) (by unfold Small; omega)
  have g3 : GcdP q t g := g2.p.congr (funext fun i => (co_trim q i).symm) (funext fun i => (co_trim t i).symm)
  have gl := g3.len_le h.nz
  have gt : len g = g.length := g3.tr
  have ql := len_le q
  obtain ⟨o, r, o1, o2, o3, o4, o5, _⟩ := divide_V q g (by unfold Small; omega) (by unfold Small; omega) (g3.nz h.nz)
  obtain ⟨l1, l2⟩ := h.left t2 g3
  obtain ⟨r1, r2⟩ := h.right t2 g3 o4 o3
  have ml : (monic o).length = len o := by rw [← len_monic o]; exact r1.tr.symm
  have ol := len_le o
  refine ⟨g, monic o, ?_, l1, r1, by omega, by omega, l2, r2⟩
  unfold roots_parted.f
  refine Ev.pos (by omega) ?_
  rw [shl_e b hb, wrap_nat1 (by omega)]
  exact Ev.bind t1 (Ev.bind g1 (Ev.bind o1 (Ev.pos rfl (Ev.bind (monic_V o (by unfold Small; omega)) Ev.some'))))
def St (Q : List (List F × Nat)) : List S62 := Q.map fun z => (⟨V z.1, (z.2 : Int)⟩ : S62)
def wt (Q : List (List F × Nat)) : Nat := (Q.map fun z => 2 ^ (33 - z.2) - 1).sum
def cnt (Q : List (List F × Nat)) (y : F) : Nat := (Q.map fun z => if ev z.1 y = 0#32 then 1 else 0).sum
theorem wt_snoc (Q : List (List F × Nat)) (z : List F × Nat) : wt (Q ++ [z]) = wt Q + (2 ^ (33 - z.2) - 1) := by simp [wt]
theorem cnt_snoc (Q : List (List F × Nat)) (z : List F × Nat) (y : F) : cnt (Q ++ [z]) y = cnt Q y + if ev z.1 y = 0#32 then 1 else 0 := by simp [cnt]
theorem St_snoc (Q : List (List F × Nat)) (z : List F × Nat) : St (Q ++ [z]) = St Q ++ [(⟨V z.1, (z.2 : Int)⟩ : S62)] := by simp [St]
theorem St_length (Q : List (List F × Nat)) : (St Q).length = Q.length := by simp [St]
theorem wt_length (Q : List (List F × Nat)) (h : ∀ z ∈ Q, z.2 ≤ 32) : Q.length ≤ wt Q := by
  induction Q with
  | nil => simp
  | cons z Q ih =>
    have h1 := ih (fun z hz => h z (List.mem_cons_of_mem _ hz))
    have h2 := h z (by simp)
    have h3 : 2 ^ 1 ≤ 2 ^ (33 - z.2) := Nat.pow_le_pow_right (by omega) (by omega)
    simp only [wt, List.map_cons, List.sum_cons, List.length_cons] at h1 ⊢
    omega
theorem rd_St (Q : List (List F × Nat)) (z : List F × Nat) (n : Int) (h : n = (Q.length : Int)) : rd_T62 (St (Q ++ [z])) n = (⟨V z.1, (z.2 : Int)⟩ : S62) := by
  subst h
  rw [St_snoc]
  unfold rd_T62
  simp [St_length]
theorem pow_half (b : Nat) (h : b < 32) : 2 ^ (33 - b) = 2 * 2 ^ (33 - (b + 1)) := by
  have : 33 - b = (33 - (b + 1)) + 1 := by omega
  rw [this, Nat.pow_succ]; omega
theorem pow_pos' (n : Nat) : 1 ≤ 2 ^ n := Nat.one_le_two_pow
theorem found_loop (T : F → Nat) (hT : ∀ o : List F, (∀ y, many o y ≤ T y) → o.length ≤ 12) : ∀ (m : Nat) (Q : List (List F × Nat)) (o : List F), wt Q ≤ m → m ≤ 2 ^ 33 → (∀ z ∈ Q, PI z.1 z.2 ∧ z.2 ≤ 32 ∧ z.1.length ≤ 2000) →
    (∀ y, many o y + cnt Q y = T y) → ∃ S, Ev (fun k => roots_found.l0 k (V o) (St Q)) (V S) ∧ Asc S ∧ ∀ y, many S y = T y := by
  intro m
  induction m with
  | zero =>
    intro Q o hw hm hQ hc
    have hl := wt_length Q (fun z hz => (hQ z hz).2.1)
    obtain rfl : Q = [] := List.eq_nil_of_length_eq_zero (by omega)
    have hc' : ∀ y, many o y = T y := fun y => by rw [← hc y]; simp [cnt]
    obtain ⟨S, s1, s2, s3, s4⟩ := sort_V o (hT o (fun y => by rw [hc' y]; exact Nat.le_refl _))
    refine ⟨S, ?_, s2, fun y => by rw [s4, hc']⟩
    refine Ev.succ ?_
    simp only [roots_found.l0]
    exact Ev.neg (by simp [St]) (Ev.bind s1 Ev.some')
  | succ m ih =>
    intro Q o hw hm hQ hc
    have hl := wt_length Q (fun z hz => (hQ z hz).2.1)
    have hol : o.length ≤ 12 := hT o (fun y => by have := hc y; omega)
    rcases List.eq_nil_or_concat Q with rfl | ⟨Q', z, rfl⟩
    · exact ih [] o (by simp [wt]) (by omega) hQ hc
    rw [List.concat_eq_append] at *
    obtain ⟨q, b⟩ := z
    obtain ⟨hpi, hb, hq⟩ := hQ (q, b) (by simp)
    simp only at hpi hb hq
    have hQ' : ∀ z ∈ Q', PI z.1 z.2 ∧ z.2 ≤ 32 ∧ z.1.length ≤ 2000 := fun z hz => hQ z (by simp [hz])
    rw [wt_snoc] at hw hl
    simp only at hw
    simp only [List.length_append, List.length_singleton] at hl
    have hb2 : 2 ^ 1 ≤ 2 ^ (33 - b) := Nat.pow_le_pow_right (by omega) (by omega)
    have hlen : ((St (Q' ++ [(q, b)])).length : Int) = (Q'.length : Int) + 1 := by rw [St_length]; simp
    have ew : wrap64 ((Q'.length : Int) + 1 - 1) = (Q'.length : Int) := by rw [wrap64_small] <;> omega
    have etake : (St (Q' ++ [(q, b)])).take (Q'.length : Int).toNat = St Q' := by
      rw [St_snoc, Int.toNat_natCast, List.take_append_of_le_length (by rw [St_length]; exact Nat.le_refl _), List.take_of_length_le (by rw [St_length]; exact Nat.le_refl _)]
    have erd := rd_St Q' (q, b) (Q'.length : Int) rfl
    simp only at erd
    have hc' : ∀ y, many o y + cnt Q' y + (if ev q y = 0#32 then 1 else 0) = T y := fun y => by rw [← hc y, cnt_snoc]; simp only; omega
    have step : ∀ R : List Int, Ev (fun k => if ((len q : Int) - 1) = 1 then (if 0 < ((V q).length : Int) then (if (V o).length < 35184372088832 then (roots_found.l0 k (V o ++ [rd (V q) 0]) (St Q')) else none) else none) else (if ((len q : Int) - 1) > 1 then (if (b : Int) < 32 then ((roots_parted.f k (V q) (b : Int)).bind fun t276 => (if (St Q').length + t276.length < 4398046511104 then (roots_found.l0 k (V o) (St Q' ++ t276)) else none)) else (roots_found.l0 k (V o) (St Q'))) else (roots_found.l0 k (V o) (St Q')))) R →
        Ev (fun k => roots_found.l0 k (V o) (St (Q' ++ [(q, b)]))) R := by
      intro R hR
      refine Ev.succ ?_
      simp only [roots_found.l0, hlen, ew, erd, etake]
      exact Ev.pos (by omega) (Ev.pos (by omega) (Ev.pos (by omega) (Ev.pos (by omega) (Ev.bind' rfl (Ev.bind (degree_V q (by unfold Small; omega)) hR)))))
    by_cases h2 : len q = 2
    · have hql : 0 < q.length := by have := len_le q; omega
      obtain ⟨S, s1, s2, s3⟩ := ih Q' (o ++ [co q 0]) (by omega) (by omega) hQ' (fun y => by
        rw [← hc' y, many_append, many_cons, many_nil]
        have e1 := hpi.one h2 y
        by_cases hy : ev q y = 0#32
        · rw [if_pos hy, if_pos (e1.1 hy).symm]; omega
        · rw [if_neg hy, if_neg (fun h => hy (e1.2 h.symm))]; omega)
      refine ⟨S, step _ (Ev.pos (by omega) (Ev.pos (by rw [V_length]; omega) (Ev.pos (by rw [V_length]; omega) ?_))), s2, s3⟩
      have e2 : V o ++ [rd (V q) 0] = V (o ++ [co q 0]) := by
        rw [V_append]; congr 1
        have := rd_Vn q 0
        simp only [Int.ofNat_zero, Int.natCast_zero] at this
        rw [show rd (V q) 0 = v (co q 0) from this]; rfl
      rw [e2]; exact s1
    · by_cases h3 : len q ≤ 1
      · obtain ⟨S, s1, s2, s3⟩ := ih Q' o (by omega) (by omega) hQ' (fun y => by rw [← hc' y, if_neg (hpi.none h3 y)]; omega)
        exact ⟨S, step _ (Ev.neg (by omega) (Ev.neg (by omega) s1)), s2, s3⟩
      · have hb3 : b < 32 := by
          apply Classical.byContradiction
          intro hn
          obtain rfl : b = 32 := by omega
          have := hpi.last
          omega
        obtain ⟨g, m', p1, p2, p3, p4, p5, p6, p7⟩ := parted_V q b hq hpi hb3
        have hph := pow_half b hb3
        have hpp := pow_pos' (33 - (b + 1))
        obtain ⟨S, s1, s2, s3⟩ := ih (Q' ++ [(g, b + 1)] ++ [(m', b + 1)]) o (by rw [wt_snoc, wt_snoc]; simp only; omega) (by omega) (by
          intro z hz
          rcases List.mem_append.1 hz with hz | hz
          · rcases List.mem_append.1 hz with hz | hz
            · exact hQ' z hz
            · obtain rfl : z = (g, b + 1) := by simpa using hz
              exact ⟨p2, hb3, by simp only; omega⟩
          · obtain rfl : z = (m', b + 1) := by simpa using hz
            exact ⟨p3, hb3, by simp only; omega⟩) (fun y => by
          rw [← hc' y, cnt_snoc, cnt_snoc]
          simp only
          by_cases hy : ev q y = 0#32
          · by_cases ht : GF.tr (mul (e b) y) = 0#32
            · rw [if_pos hy, if_pos ((p6 y).2 ⟨hy, ht⟩), if_neg (fun h => ((p7 y).1 h).2 ht)]; omega
            · rw [if_pos hy, if_neg (fun h => ht ((p6 y).1 h).2), if_pos ((p7 y).2 ⟨hy, ht⟩)]; omega
          · rw [if_neg hy, if_neg (fun h => hy ((p6 y).1 h).1), if_neg (fun h => hy ((p7 y).1 h).1)]; omega)
        refine ⟨S, step _ (Ev.neg (by omega) (Ev.pos (by omega) (Ev.pos (by omega) (Ev.bind p1 (Ev.pos (by rw [St_length]; simp only [List.length_cons, List.length_nil]; omega) ?_))))), s2, s3⟩
        have e3 : St Q' ++ [(⟨V g, ((b + 1 : Nat) : Int)⟩ : S62), (⟨V m', ((b + 1 : Nat) : Int)⟩ : S62)] = St (Q' ++ [(g, b + 1)] ++ [(m', b + 1)]) := by
          rw [St_snoc, St_snoc, List.append_assoc]; rfl
        rw [e3]; exact s1
def one01 (p : List F) (y : F) : Nat := if ev p y = 0#32 then 1 else 0
theorem found_V (q : List F) (hq : q.length ≤ 2000) (h : PI q 0) (hT : ∀ o : List F, (∀ y, many o y ≤ one01 q y) → o.length ≤ 12) : ∃ S, Ev (fun k => roots_found.f k (V q)) (V S) ∧ Asc S ∧ ∀ y, many S y = one01 q y :=
  found_loop (one01 q) hT (2 ^ 33) [(q, 0)] [] (by simp [wt]) (Nat.le_refl _) (fun z hz => by
    obtain rfl : z = (q, 0) := by simpa using hz
    exact ⟨h, by simp, hq⟩) (fun y => by simp [cnt, one01, many_nil])
theorem check_V (p : List F) (hp : Small p) : Ev (fun k => roots_check.f k (V p)) (if len p = 0 then some 1 else if 61 < len p then some 1 else none) := by
  refine Ev.bind (degree_V p hp) ?_
  by_cases h0 : len p = 0
  · rw [if_pos h0]; exact Ev.pos (by omega) Ev.some'
  · rw [if_neg h0]
    refine Ev.neg (by omega) ?_
    by_cases h1 : 61 < len p
    · rw [if_pos h1]; exact Ev.pos (by omega) Ev.some'
    · rw [if_neg h1]; exact Ev.neg (by omega) Ev.some'
theorem all_V (p : List F) (hp : p.length ≤ 2000) (h0 : len p ≠ 0) (h1 : len p ≤ 61) (hT : ∀ o : List F, (∀ y, many o y ≤ one01 p y) → o.length ≤ 12) :
    ∃ S, Ev (fun k => roots_All.f k (V p)) (V S, none) ∧ Asc S ∧ ∀ y, many S y = one01 p y := by
  obtain ⟨g, g1, g2⟩ := linear_V p hp h0
  obtain ⟨p1, p2, p3⟩ := g2.pi h0
  have gl : len g = g.length := p1.tr
  have e01 : ∀ y, one01 g y = one01 p y := fun y => by
    unfold one01
    by_cases hy : ev p y = 0#32
    · rw [if_pos hy, if_pos ((p2 y).2 hy)]
    · rw [if_neg hy, if_neg (fun h => hy ((p2 y).1 h))]
  obtain ⟨S, s1, s2, s3⟩ := found_V g (by have := len_le p; omega) p1 (fun o ho => hT o (fun y => by rw [← e01]; exact ho y))
  refine ⟨S, ?_, s2, fun y => by rw [s3, e01]⟩
  have hc := check_V p (by unfold Small; omega)
  rw [if_neg h0, if_neg (by omega)] at hc
  exact Ev.bind hc (Ev.pos rfl (Ev.bind g1 (Ev.bind s1 Ev.some')))
theorem all_V0 (p : List F) (hp : Small p) (h : len p = 0 ∨ 61 < len p) : Ev (fun k => roots_All.f k (V p)) (([] : List Int), some 1) := by
  have hc := check_V p hp
  have e1 : (if len p = 0 then some (1 : Int) else if 61 < len p then some 1 else none) = some 1 := by
    rcases h with h | h
    · rw [if_pos h]
    · rw [if_neg (by omega), if_pos h]
  rw [e1] at hc
  exact Ev.bind hc (Ev.neg (by simp) Ev.some')
theorem asc_uniq : ∀ (S S' : List F), Asc S → Asc S' → (∀ y, many S y = many S' y) → S = S' := by
  intro S
  induction S with
  | nil =>
    intro S' _ _ h
    cases S' with
    | nil => rfl
    | cons b l => have := h b; rw [many_cons, if_pos rfl, many_nil] at this; omega
  | cons a l ih =>
    intro S' h1 h2 h
    cases S' with
    | nil => have := h a; rw [many_cons, if_pos rfl, many_nil] at this; omega
    | cons b l' =>
      unfold Asc at h1 h2
      rw [List.pairwise_cons] at h1 h2
      have ha : a ∈ b :: l' := (many_mem _ a).1 (by rw [← h a, many_cons, if_pos rfl]; omega)
      have hb : b ∈ a :: l := (many_mem _ b).1 (by rw [h b, many_cons, if_pos rfl]; omega)
      have hab : a = b := by
        rcases List.mem_cons.1 ha with h3 | h3
        · exact h3
        · rcases List.mem_cons.1 hb with h4 | h4
          · exact h4.symm
          · have := h1.1 b h4; have := h2.1 a h3
            exact BitVec.eq_of_toNat_eq (by omega)
      subst hab
      rw [ih l' h1.2 h2.2 (fun y => by have := h y; rw [many_cons, many_cons] at this; omega)]
end Go.Proofs.Ytljkbkhaamlbmaa.R
/- The chapter's example; the roots of x to any power. -/
set_option linter.unusedVariables false
set_option linter.unusedSimpArgs false
namespace Go.Proofs.Ytljkbkhaamlbmaa.R
open Go.RowKit Go.Proofs.YtljkbkhaamlbmaaW.PrintWords Go.Proofs.YtljkbkhaamlbmaaW.PrintLast Go.Proofs.YtljkbkhaamlbmaaW.PrintMore Go.Proofs.Ytljkbkhaamlbmaa.Bits Go.Proofs.Ytljkbkhaamlbmaa GF PolyT
theorem is_1 : gossamernum_Is.f (some 1) 1 = some true := by
  unfold gossamernum_Is.f gossamernum_Num.f
  simp
theorem many_length : ∀ (o S : List F), (∀ y, many o y ≤ many S y) → o.length ≤ S.length := by
  intro o
  induction o with
  | nil => intros; simp
  | cons a o ih =>
    intro S h
    have ha : a ∈ S := (many_mem S a).1 (by have := h a; rw [many_cons, if_pos rfl] at this; omega)
    have hp := List.perm_cons_erase ha
    have hm : ∀ y, many S y = many (a :: S.erase a) y := fun y => (hp.filter _).length_eq
    have := ih (S.erase a) (fun y => by have h1 := h y; rw [hm, many_cons, many_cons] at h1; omega)
    rw [List.length_erase_of_mem ha] at this
    have hpos : 0 < S.length := List.length_pos_of_mem ha
    simp only [List.length_cons]; omega
theorem all_known (p S : List F) (hp : p.length ≤ 2000) (h0 : len p ≠ 0) (h1 : len p ≤ 61) (hS : Asc S) (hl : S.length ≤ 12) (hm : ∀ y, many S y = one01 p y) : Ev (fun k => roots_All.f k (V p)) (V S, none) := by
  obtain ⟨T, t1, t2, t3⟩ := all_V p hp h0 h1 (fun o ho => Nat.le_trans (many_length o S (fun y => by rw [hm]; exact ho y)) hl)
  rw [asc_uniq S T hS t2 (fun y => by rw [hm, t3])]
  exact t1
theorem ev_231 (y : F) : ev [2#32, 3#32, 1#32] y = mul (y ^^^ 1#32) (y ^^^ 2#32) := by
  simp only [ev]
  rw [GF.zero_mul, BitVec.zero_xor, GF.one_mul, GF.xor_mul, GF.xor_mul, GF.mul_xor, GF.one_mul, show (3#32 : F) = 2#32 ^^^ 1#32 by decide, GF.xor_mul, GF.one_mul, GF.mul_comm y 2#32]
  ac_rfl
theorem alive_E : Ev (fun k => gossamerlaw04_alive.f k) true := by
  have h1 : Ev (fun k => roots_All.f k ([2, 3, 1] : List Int)) (V [1#32, 2#32], none) := all_known [2#32, 3#32, 1#32] [1#32, 2#32] (by simp) (by decide) (by decide) (by unfold Asc; decide) (by simp) (fun y => by
    unfold one01
    rw [ev_231, many_cons, many_cons, many_nil]
    by_cases e1 : y = 1#32
    · subst e1; rw [BitVec.xor_self, GF.zero_mul]; decide
    · by_cases e2 : y = 2#32
      · subst e2; rw [BitVec.xor_self, GF.mul_zero]; decide
      · rw [if_neg (fun e => e2 e.symm), if_neg (fun e => e1 e.symm), if_neg]
        intro h
        rcases GF.mul_eq_zero h with h | h
        · exact e1 (xor_eq_zero h)
        · exact e2 (xor_eq_zero h))
  unfold gossamerlaw04_alive.f
  refine Ev.bind h1 (Ev.pos rfl ?_)
  exact Ev.bind (words_V (a := [1#32, 2#32]) rfl (by unfold Small; simp)) Ev.some'
def xp (n : Nat) : List F := List.replicate n 0#32 ++ [1#32]
theorem xp_succ (n : Nat) : xp (n + 1) = 0#32 :: xp n := by simp [xp, List.replicate_succ]
theorem xp_length (n : Nat) : (xp n).length = n + 1 := by simp [xp]
theorem xp_len (n : Nat) : len (xp n) = n + 1 := by
  refine len_eq (fun i hi => co_ge (by rw [xp_length]; exact hi)) (fun m hm => ?_)
  obtain rfl : n = m := by omega
  unfold xp
  rw [co_append, if_neg (by simp)]
  simp [co]
theorem xp_ev (n : Nat) (y : F) : ev (xp (n + 1)) y = 0#32 ↔ y = 0#32 := by
  have hstep : ∀ m, ev (xp (m + 1)) y = mul (ev (xp m) y) y := fun m => by rw [xp_succ]; simp only [ev]; rw [BitVec.xor_zero]
  constructor
  · intro h
    apply Classical.byContradiction
    intro hy
    have : ∀ m, ev (xp m) y ≠ 0#32 := by
      intro m
      induction m with
      | zero => simp only [xp, List.replicate_zero, List.nil_append, ev]; rw [GF.zero_mul]; exact one_ne_zero
      | succ m ih =>
        rw [hstep]; intro e
        rcases GF.mul_eq_zero e with e | e
        · exact ih e
        · exact hy e
    exact this _ h
  · intro h; rw [hstep, h, GF.mul_zero]
theorem xp_V (n : Nat) : (List.replicate (n + 1) (0 : Int)).set n 1 = V (xp n) := by
  induction n with
  | zero => rfl
  | succ n ih => rw [xp_succ, List.replicate_succ, List.set_cons_succ, ih]; rfl
theorem all_xp (n : Nat) (hn : n + 1 < 61) : Ev (fun k => roots_All.f k (V (xp (n + 1)))) (V [0#32], none) :=
  all_known (xp (n + 1)) [0#32] (by rw [xp_length]; omega) (by rw [xp_len]; omega) (by rw [xp_len]; omega) (by unfold Asc; simp) (by simp) (fun y => by
    unfold one01
    rw [many_cons, many_nil]
    by_cases hy : y = 0#32
    · rw [if_pos hy.symm, if_pos ((xp_ev n y).2 hy)]
    · rw [if_neg (fun e => hy e.symm), if_neg (fun e => hy ((xp_ev n y).1 e))])
theorem all_xp0 (n : Nat) (hn : 61 ≤ n) (h2 : n < 2000) : Ev (fun k => roots_All.f k (V (xp n))) (([] : List Int), some 1) :=
  all_V0 (xp n) (by unfold Small; rw [xp_length]; omega) (Or.inr (by rw [xp_len]; omega))
end Go.Proofs.Ytljkbkhaamlbmaa.R
