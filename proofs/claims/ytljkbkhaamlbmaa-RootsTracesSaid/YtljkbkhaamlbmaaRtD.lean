/- The program's roots: what its functions come to. -/
import Derived.Test.YtljkbkhaamlbmaaTx1
import Derived.Test.YtljkbkhaamlbmaaTx2
import Derived.Test.YtljkbkhaamlbmaaTx3
import Derived.Test.YtljkbkhaamlbmaaTx4
import Derived.Test.YtljkbkhaamlbmaaTx6
import Derived.Test.YtljkbkhaamlbmaaRtB
import Derived.Test.YtljkbkhaamlbmaaMPoly
import Derived.Test.YtljkbkhaamlbmaaMCp
set_option linter.unusedVariables false
set_option linter.unusedSimpArgs false
namespace Go.Proofs.Ytljkbkhaamlbmaa.T
open Go.RowKit Go.Proofs.YtljkbkhaamlbmaaW.PrintWords Go.Proofs.YtljkbkhaamlbmaaW.PrintLast Go.Proofs.YtljkbkhaamlbmaaW.PrintMore Go.Proofs.Ytljkbkhaamlbmaa.Bits Go.Proofs.Ytljkbkhaamlbmaa GF PolyT
theorem rest_V (a p : List F) (ha : Small a) (hp : Small p) (h : len p ≠ 0) : ∃ r, Ev (fun k => roots_rest.f k (V a) (V p)) (V r) ∧ Rem p a r := by
  obtain ⟨q, r, h1, h2, h3, h4, _⟩ := divide_V a p ha hp h
  exact ⟨r, Ev.bind h1 (Ev.pos rfl Ev.some'), h3, q, h4⟩
theorem squared_R (a p : List F) (ha : a.length < 2048) (hp : Small p) (h : len p ≠ 0) : ∃ r, Ev (fun k => roots_squared.f k (V a) (V p)) (V r) ∧ Step p a r := by
  obtain ⟨s, h1, h2, h3, c, q, h4, h5, h6⟩ := squared_V a p ha hp h
  exact ⟨s, Ev.bind h1 (Ev.pos rfl Ev.some'), c, h4, h2, q, h5⟩
theorem step_short {p a b : List F} (h : Step p a b) : b.length < p.length := by
  obtain ⟨c, hc, hr⟩ := h
  have := hr.len_lt; have := len_le p; omega
theorem up1 {i n m : Nat} (h : i + (n + 1) = m) (hm : m < 4096) : wrap64 ((i : Int) + 1) = ((i + 1 : Nat) : Int) := wrap_nat1 (by omega)
theorem linear_loop (p x : List F) (hp : p.length ≤ 2000) (h0 : len p ≠ 0) (hx : x.length ≤ p.length) : ∀ (n i : Nat) (a : List F), i + n = 32 → a.length ≤ p.length →
    ∃ b s g, Iter p n a b ∧ co s = sadd (co b) (co x) ∧ GcdP p s g ∧ Ev (fun k => roots_linear.l0 k (V p) (V x) (V a) (i : Int)) (V g) := by
  intro n
  induction n with
  | zero =>
    intro i a hi ha
    obtain rfl : i = 32 := by omega
    obtain ⟨s, s1, s2, s3, s4⟩ := add_V a x (by unfold Small; omega) (by unfold Small; omega)
    obtain ⟨g, g1, g2⟩ := common_V p s (by unfold Small; omega) (by unfold Small; omega)
    refine ⟨a, s, g, rfl, s3, g2.p.congr (funext fun i => (co_trim p i).symm) (funext fun i => (co_trim s i).symm), ?_⟩
    refine Ev.succ ?_
    simp only [roots_linear.l0]
    exact Ev.neg (by decide) (Ev.bind s1 (Ev.bind g1 Ev.some'))
  | succ n ih =>
    intro i a hi ha
    obtain ⟨r, r1, r2⟩ := squared_R a p (by omega) (by unfold Small; omega) h0
    obtain ⟨b, s, g, h1, h2, h3, h4⟩ := ih (i + 1) r (by omega) (by have := step_short r2; omega)
    refine ⟨b, s, g, ⟨r, r2, h1⟩, h2, h3, ?_⟩
    refine Ev.succ ?_
    simp only [roots_linear.l0]
    refine Ev.pos (by omega) (Ev.bind r1 ?_)
    rw [up1 hi (by omega)]
    exact h4
theorem linear_V (p : List F) (hp : p.length ≤ 2000) (h0 : len p ≠ 0) : ∃ g, Ev (fun k => roots_linear.f k (V p)) (V g) ∧ LinR p g := by
  obtain ⟨x, x1, x2⟩ := rest_V [0#32, 1#32] p (by unfold Small; simp) (by unfold Small; omega) h0
  have hx := x2.len_lt
  have hl := len_le p
  obtain ⟨b, s, g, h1, h2, h3, h4⟩ := linear_loop p x hp h0 (by omega) 32 0 x (by omega) (by omega)
  exact ⟨g, Ev.bind x1 h4, x, b, s, x2, h1, h2, h3⟩
theorem traces_loop (p : List F) (hp : p.length ≤ 2000) (h0 : len p ≠ 0) : ∀ (n i : Nat) (o a : List F), i + n = 32 → o.length ≤ p.length → a.length ≤ p.length →
    ∃ t, Ev (fun k => roots_traces.l0 k (V p) (V o) (V a) (i : Int)) (V t) ∧ TI p n a o t ∧ t.length ≤ p.length := by
  intro n
  induction n with
  | zero =>
    intro i o a hi ho ha
    obtain rfl : i = 32 := by omega
    refine ⟨o, ?_, rfl, ho⟩
    refine Ev.succ ?_
    simp only [roots_traces.l0]
    exact Ev.neg (by decide) Ev.some'
  | succ n ih =>
    intro i o a hi ho ha
    obtain ⟨s, s1, s2, s3, s4⟩ := add_V o a (by unfold Small; omega) (by unfold Small; omega)
    obtain ⟨r, r1, r2⟩ := squared_R a p (by omega) (by unfold Small; omega) h0
    obtain ⟨t, t1, t2, t3⟩ := ih (i + 1) s r (by omega) (by omega) (by have := step_short r2; omega)
    refine ⟨t, ?_, ⟨s, r, s2, s3, r2, t2⟩, t3⟩
    refine Ev.succ ?_
    simp only [roots_traces.l0]
    refine Ev.pos (by omega) (Ev.bind s1 (Ev.bind r1 ?_))
    rw [up1 hi (by omega)]
    exact t1
theorem traces_V (p : List F) (c : F) (hp : p.length ≤ 2000) (h0 : len p ≠ 0) : ∃ t, Ev (fun k => roots_traces.f k (V p) (v c)) (V t) ∧ TrcR p c t ∧ t.length ≤ p.length := by
  obtain ⟨x, x1, x2⟩ := rest_V [0#32, c] p (by unfold Small; simp) (by unfold Small; omega) h0
  have hx := x2.len_lt
  have hl := len_le p
  obtain ⟨t, t1, t2, t3⟩ := traces_loop p hp h0 32 0 [] x (by omega) (by simp) (by omega)
  exact ⟨t, Ev.bind x1 t1, ⟨x, x2, t2⟩, t3⟩
theorem shl_e : ∀ b : Nat, b < 32 → shl .u32 1 (b : Int) = v (e b) := by decide +kernel
theorem parted_V (q : List F) (b : Nat) (hq : q.length ≤ 2000) (h : PI q b) (hb : b < 32) :
    ∃ g m, Ev (fun k => roots_parted.f k (V q) (b : Int)) [(⟨V g, ((b + 1 : Nat) : Int)⟩ : S62), (⟨V m, ((b + 1 : Nat) : Int)⟩ : S62)] ∧ PI g (b + 1) ∧ PI m (b + 1) ∧ g.length ≤ q.length ∧ m.length ≤ q.length ∧
      (∀ y, ev g y = 0#32 ↔ ev q y = 0#32 ∧ GF.tr (mul (e b) y) = 0#32) ∧ (∀ y, ev m y = 0#32 ↔ ev q y = 0#32 ∧ GF.tr (mul (e b) y) ≠ 0#32) := by
  obtain ⟨t, t1, t2, t3⟩ := traces_V q (e b) hq h.nz
  obtain ⟨g, g1, g2⟩ := common_V q t (by unfold Small; omega) (by unfold Small; omega)
  have g3 : GcdP q t g := g2.p.congr (funext fun i => (co_trim q i).symm) (funext fun i => (co_trim t i).symm)
  have gl := g3.len_le h.nz
  have gt : len g = g.length := g3.tr
  have ql := len_le q
  obtain ⟨o, r, o1, o2, o3, o4, o5, _⟩ := divide_V q g (by unfold Small; omega) (by unfold Small; omega) (g3.nz h.nz)
  obtain ⟨l1, l2⟩ := h.left t2 g3
  obtain ⟨r1, r2⟩ := h.right t2 g3 o4 o3
  have ml : (monic o).length = len o := by rw [← len_monic o]; exact r1.tr.symm
  have ol := len_le o
  refine ⟨g, monic o, ?_, l1, r1, by omega, by omega, l2, r2⟩
  unfold roots_parted.f
  refine Ev.pos (by omega) ?_
  rw [shl_e b hb, wrap_nat1 (by omega)]
  exact Ev.bind t1 (Ev.bind g1 (Ev.bind o1 (Ev.pos rfl (Ev.bind (monic_V o (by unfold Small; omega)) Ev.some'))))
def St (Q : List (List F × Nat)) : List S62 := Q.map fun z => (⟨V z.1, (z.2 : Int)⟩ : S62)
def wt (Q : List (List F × Nat)) : Nat := (Q.map fun z => 2 ^ (33 - z.2) - 1).sum
def cnt (Q : List (List F × Nat)) (y : F) : Nat := (Q.map fun z => if ev z.1 y = 0#32 then 1 else 0).sum
theorem wt_snoc (Q : List (List F × Nat)) (z : List F × Nat) : wt (Q ++ [z]) = wt Q + (2 ^ (33 - z.2) - 1) := by simp [wt]
theorem cnt_snoc (Q : List (List F × Nat)) (z : List F × Nat) (y : F) : cnt (Q ++ [z]) y = cnt Q y + if ev z.1 y = 0#32 then 1 else 0 := by simp [cnt]
theorem St_snoc (Q : List (List F × Nat)) (z : List F × Nat) : St (Q ++ [z]) = St Q ++ [(⟨V z.1, (z.2 : Int)⟩ : S62)] := by simp [St]
theorem St_length (Q : List (List F × Nat)) : (St Q).length = Q.length := by simp [St]
theorem wt_length (Q : List (List F × Nat)) (h : ∀ z ∈ Q, z.2 ≤ 32) : Q.length ≤ wt Q := by
  induction Q with
  | nil => simp
  | cons z Q ih =>
    have h1 := ih (fun z hz => h z (List.mem_cons_of_mem _ hz))
    have h2 := h z (by simp)
    have h3 : 2 ^ 1 ≤ 2 ^ (33 - z.2) := Nat.pow_le_pow_right (by omega) (by omega)
    simp only [wt, List.map_cons, List.sum_cons, List.length_cons] at h1 ⊢
    omega
theorem rd_St (Q : List (List F × Nat)) (z : List F × Nat) (n : Int) (h : n = (Q.length : Int)) : rd_T62 (St (Q ++ [z])) n = (⟨V z.1, (z.2 : Int)⟩ : S62) := by
  subst h
  rw [St_snoc]
  unfold rd_T62
  simp [St_length]
theorem pow_half (b : Nat) (h : b < 32) : 2 ^ (33 - b) = 2 * 2 ^ (33 - (b + 1)) := by
  have : 33 - b = (33 - (b + 1)) + 1 := by omega
  rw [this, Nat.pow_succ]; omega
theorem pow_pos' (n : Nat) : 1 ≤ 2 ^ n := Nat.one_le_two_pow
theorem found_loop (T : F → Nat) (hT : ∀ o : List F, (∀ y, many o y ≤ T y) → o.length ≤ 12) : ∀ (m : Nat) (Q : List (List F × Nat)) (o : List F), wt Q ≤ m → m ≤ 2 ^ 33 → (∀ z ∈ Q, PI z.1 z.2 ∧ z.2 ≤ 32 ∧ z.1.length ≤ 2000) →
    (∀ y, many o y + cnt Q y = T y) → ∃ S, Ev (fun k => roots_found.l0 k (V o) (St Q)) (V S) ∧ Asc S ∧ ∀ y, many S y = T y := by
  intro m
  induction m with
  | zero =>
    intro Q o hw hm hQ hc
    have hl := wt_length Q (fun z hz => (hQ z hz).2.1)
    obtain rfl : Q = [] := List.eq_nil_of_length_eq_zero (by omega)
    have hc' : ∀ y, many o y = T y := fun y => by rw [← hc y]; simp [cnt]
    obtain ⟨S, s1, s2, s3, s4⟩ := sort_V o (hT o (fun y => by rw [hc' y]; exact Nat.le_refl _))
    refine ⟨S, ?_, s2, fun y => by rw [s4, hc']⟩
    refine Ev.succ ?_
    simp only [roots_found.l0]
    exact Ev.neg (by simp [St]) (Ev.bind s1 Ev.some')
  | succ m ih =>
    intro Q o hw hm hQ hc
    have hl := wt_length Q (fun z hz => (hQ z hz).2.1)
    have hol : o.length ≤ 12 := hT o (fun y => by have := hc y; omega)
    rcases List.eq_nil_or_concat Q with rfl | ⟨Q', z, rfl⟩
    · exact ih [] o (by simp [wt]) (by omega) hQ hc
    rw [List.concat_eq_append] at *
    obtain ⟨q, b⟩ := z
    obtain ⟨hpi, hb, hq⟩ := hQ (q, b) (by simp)
    simp only at hpi hb hq
    have hQ' : ∀ z ∈ Q', PI z.1 z.2 ∧ z.2 ≤ 32 ∧ z.1.length ≤ 2000 := fun z hz => hQ z (by simp [hz])
    rw [wt_snoc] at hw hl
    simp only at hw
    simp only [List.length_append, List.length_singleton] at hl
    have hb2 : 2 ^ 1 ≤ 2 ^ (33 - b) := Nat.pow_le_pow_right (by omega) (by omega)
    have hlen : ((St (Q' ++ [(q, b)])).length : Int) = (Q'.length : Int) + 1 := by rw [St_length]; simp
    have ew : wrap64 ((Q'.length : Int) + 1 - 1) = (Q'.length : Int) := by rw [wrap64_small] <;> omega
    have etake : (St (Q' ++ [(q, b)])).take (Q'.length : Int).toNat = St Q' := by
      rw [St_snoc, Int.toNat_natCast, List.take_append_of_le_length (by rw [St_length]; exact Nat.le_refl _), List.take_of_length_le (by rw [St_length]; exact Nat.le_refl _)]
    have erd := rd_St Q' (q, b) (Q'.length : Int) rfl
    simp only at erd
    have hc' : ∀ y, many o y + cnt Q' y + (if ev q y = 0#32 then 1 else 0) = T y := fun y => by rw [← hc y, cnt_snoc]; simp only; omega
    have step : ∀ R : List Int, Ev (fun k => if ((len q : Int) - 1) = 1 then (if 0 < ((V q).length : Int) then (if (V o).length < 35184372088832 then (roots_found.l0 k (V o ++ [rd (V q) 0]) (St Q')) else none) else none) else (if ((len q : Int) - 1) > 1 then (if (b : Int) < 32 then ((roots_parted.f k (V q) (b : Int)).bind fun t276 => (if (St Q').length + t276.length < 4398046511104 then (roots_found.l0 k (V o) (St Q' ++ t276)) else none)) else (roots_found.l0 k (V o) (St Q'))) else (roots_found.l0 k (V o) (St Q')))) R →
        Ev (fun k => roots_found.l0 k (V o) (St (Q' ++ [(q, b)]))) R := by
      intro R hR
      refine Ev.succ ?_
      simp only [roots_found.l0, hlen, ew, erd, etake]
      exact Ev.pos (by omega) (Ev.pos (by omega) (Ev.pos (by omega) (Ev.pos (by omega) (Ev.bind' rfl (Ev.bind (degree_V q (by unfold Small; omega)) hR)))))
    by_cases h2 : len q = 2
    · have hql : 0 < q.length := by have := len_le q; omega
      obtain ⟨S, s1, s2, s3⟩ := ih Q' (o ++ [co q 0]) (by omega) (by omega) hQ' (fun y => by
        rw [← hc' y, many_append, many_cons, many_nil]
        have e1 := hpi.one h2 y
        by_cases hy : ev q y = 0#32
        · rw [if_pos hy, if_pos (e1.1 hy).symm]; omega
        · rw [if_neg hy, if_neg (fun h => hy (e1.2 h.symm))]; omega)
      refine ⟨S, step _ (Ev.pos (by omega) (Ev.pos (by rw [V_length]; omega) (Ev.pos (by rw [V_length]; omega) ?_))), s2, s3⟩
      have e2 : V o ++ [rd (V q) 0] = V (o ++ [co q 0]) := by
        rw [V_append]; congr 1
        have := rd_Vn q 0
        simp only [Int.ofNat_zero, Int.natCast_zero] at this
        rw [show rd (V q) 0 = v (co q 0) from this]; rfl
      rw [e2]; exact s1
    · by_cases h3 : len q ≤ 1
      · obtain ⟨S, s1, s2, s3⟩ := ih Q' o (by omega) (by omega) hQ' (fun y => by rw [← hc' y, if_neg (hpi.none h3 y)]; omega)
        exact ⟨S, step _ (Ev.neg (by omega) (Ev.neg (by omega) s1)), s2, s3⟩
      · have hb3 : b < 32 := by
          apply Classical.byContradiction
          intro hn
          obtain rfl : b = 32 := by omega
          have := hpi.last
          omega
        obtain ⟨g, m', p1, p2, p3, p4, p5, p6, p7⟩ := parted_V q b hq hpi hb3
        have hph := pow_half b hb3
        have hpp := pow_pos' (33 - (b + 1))
        obtain ⟨S, s1, s2, s3⟩ := ih (Q' ++ [(g, b + 1)] ++ [(m', b + 1)]) o (by rw [wt_snoc, wt_snoc]; simp only; omega) (by omega) (by
          intro z hz
          rcases List.mem_append.1 hz with hz | hz
          · rcases List.mem_append.1 hz with hz | hz
            · exact hQ' z hz
            · obtain rfl : z = (g, b + 1) := by simpa using hz
              exact ⟨p2, hb3, by simp only; omega⟩
          · obtain rfl : z = (m', b + 1) := by simpa using hz
            exact ⟨p3, hb3, by simp only; omega⟩) (fun y => by
          rw [← hc' y, cnt_snoc, cnt_snoc]
          simp only
          by_cases hy : ev q y = 0#32
          · by_cases ht : GF.tr (mul (e b) y) = 0#32
            · rw [if_pos hy, if_pos ((p6 y).2 ⟨hy, ht⟩), if_neg (fun h => ((p7 y).1 h).2 ht)]; omega
            · rw [if_pos hy, if_neg (fun h => ht ((p6 y).1 h).2), if_pos ((p7 y).2 ⟨hy, ht⟩)]; omega
          · rw [if_neg hy, if_neg (fun h => hy ((p6 y).1 h).1), if_neg (fun h => hy ((p7 y).1 h).1)]; omega)
        refine ⟨S, step _ (Ev.neg (by omega) (Ev.pos (by omega) (Ev.pos (by omega) (Ev.bind p1 (Ev.pos (by rw [St_length]; simp only [List.length_cons, List.length_nil]; omega) ?_))))), s2, s3⟩
        have e3 : St Q' ++ [(⟨V g, ((b + 1 : Nat) : Int)⟩ : S62), (⟨V m', ((b + 1 : Nat) : Int)⟩ : S62)] = St (Q' ++ [(g, b + 1)] ++ [(m', b + 1)]) := by
          rw [St_snoc, St_snoc, List.append_assoc]; rfl
        rw [e3]; exact s1
def one01 (p : List F) (y : F) : Nat := if ev p y = 0#32 then 1 else 0
theorem found_V (q : List F) (hq : q.length ≤ 2000) (h : PI q 0) (hT : ∀ o : List F, (∀ y, many o y ≤ one01 q y) → o.length ≤ 12) : ∃ S, Ev (fun k => roots_found.f k (V q)) (V S) ∧ Asc S ∧ ∀ y, many S y = one01 q y :=
  found_loop (one01 q) hT (2 ^ 33) [(q, 0)] [] (by simp [wt]) (Nat.le_refl _) (fun z hz => by
    obtain rfl : z = (q, 0) := by simpa using hz
    exact ⟨h, by simp, hq⟩) (fun y => by simp [cnt, one01, many_nil])
theorem check_V (p : List F) (hp : Small p) : Ev (fun k => roots_check.f k (V p)) (if len p = 0 then some 1 else if 61 < len p then some 1 else none) := by
  refine Ev.bind (degree_V p hp) ?_
  by_cases h0 : len p = 0
  · rw [if_pos h0]; exact Ev.pos (by omega) Ev.some'
  · rw [if_neg h0]
    refine Ev.neg (by omega) ?_
    by_cases h1 : 61 < len p
    · rw [if_pos h1]; exact Ev.pos (by omega) Ev.some'
    · rw [if_neg h1]; exact Ev.neg (by omega) Ev.some'
theorem all_V (p : List F) (hp : p.length ≤ 2000) (h0 : len p ≠ 0) (h1 : len p ≤ 61) (hT : ∀ o : List F, (∀ y, many o y ≤ one01 p y) → o.length ≤ 12) :
    ∃ S, Ev (fun k => roots_All.f k (V p)) (V S, none) ∧ Asc S ∧ ∀ y, many S y = one01 p y := by
  obtain ⟨g, g1, g2⟩ := linear_V p hp h0
  obtain ⟨p1, p2, p3⟩ := g2.pi h0
  have gl : len g = g.length := p1.tr
  have e01 : ∀ y, one01 g y = one01 p y := fun y => by
    unfold one01
    by_cases hy : ev p y = 0#32
    · rw [if_pos hy, if_pos ((p2 y).2 hy)]
    · rw [if_neg hy, if_neg (fun h => hy ((p2 y).1 h))]
  obtain ⟨S, s1, s2, s3⟩ := found_V g (by have := len_le p; omega) p1 (fun o ho => hT o (fun y => by rw [← e01]; exact ho y))
  refine ⟨S, ?_, s2, fun y => by rw [s3, e01]⟩
  have hc := check_V p (by unfold Small; omega)
  rw [if_neg h0, if_neg (by omega)] at hc
  exact Ev.bind hc (Ev.pos rfl (Ev.bind g1 (Ev.bind s1 Ev.some')))
theorem asc_uniq : ∀ (S S' : List F), Asc S → Asc S' → (∀ y, many S y = many S' y) → S = S' := by
  intro S
  induction S with
  | nil =>
    intro S' _ _ h
    cases S' with
    | nil => rfl
    | cons b l => have := h b; rw [many_cons, if_pos rfl, many_nil] at this; omega
  | cons a l ih =>
    intro S' h1 h2 h
    cases S' with
    | nil => have := h a; rw [many_cons, if_pos rfl, many_nil] at this; omega
    | cons b l' =>
      unfold Asc at h1 h2
      rw [List.pairwise_cons] at h1 h2
      have ha : a ∈ b :: l' := (many_mem _ a).1 (by rw [← h a, many_cons, if_pos rfl]; omega)
      have hb : b ∈ a :: l := (many_mem _ b).1 (by rw [h b, many_cons, if_pos rfl]; omega)
      have hab : a = b := by
        rcases List.mem_cons.1 ha with h3 | h3
        · exact h3
        · rcases List.mem_cons.1 hb with h4 | h4
          · exact h4.symm
          · have := h1.1 b h4; have := h2.1 a h3
            exact BitVec.eq_of_toNat_eq (by omega)
      subst hab
      rw [ih l' h1.2 h2.2 (fun y => by have := h y; rw [many_cons, many_cons] at this; omega)]
end Go.Proofs.Ytljkbkhaamlbmaa.T
