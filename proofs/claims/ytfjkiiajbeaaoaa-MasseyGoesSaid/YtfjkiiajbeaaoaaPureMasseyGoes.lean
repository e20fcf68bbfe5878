/- A sequence goes on by a recurrence as the document says; it keeps it, and where it is long enough the shortest recurrence gives it again.
   Conditions: none. -/
import Derived.Test.YtfjkiiajbeaaoaaRx5
import Derived.Test.YtfjkiiajbeaaoaaCM3
set_option linter.unusedVariables false
namespace Go.Proofs.Ytfjkiiajbeaaoaa.Pure
open Go.RowKit Go.Proofs.Ytfjkiiajbeaaoaa.R Go.Proofs.YtfjkiiajbeaaoaaW.PrintWords Go.Proofs.YtfjkiiajbeaaoaaW.PrintLast Go.Proofs.YtfjkiiajbeaaoaaW.PrintMore Go.Proofs.Ytfjkiiajbeaaoaa.Bits Go.Proofs.Ytfjkiiajbeaaoaa GF PolyT MV Massey
theorem goes_loop (c : List F) (hc : Small c) (N : Nat) (hN : N ≤ 1000) : ∀ (n : Nat) (o : List F), N - o.length = n → o.length < 4000 → Ev (fun k => massey_Goes.l0 k (V c) (N : Int) (V o)) (V ((goes c o n).take N), none) := by
  intro n
  induction n with
  | zero =>
    intro o ho hs
    refine Ev.succ ?_
    simp only [massey_Goes.l0, goes]
    rw [Int.toNat_natCast, V_take]
    exact Ev.neg (by rw [V_length]; omega) (Ev.pos (by omega) (Ev.pos (by rw [V_length]; omega) Ev.some'))
  | succ n ih =>
    intro o ho hs
    refine Ev.succ ?_
    have hap : V o ++ [0] = V (o ++ [0#32]) := by rw [V_append]; rfl
    have hlen : (V (o ++ [0#32])).length = o.length + 1 := by rw [V_length]; simp
    have hw : wrap64 (((o.length + 1 : Nat) : Int) - 1) = (o.length : Int) := by rw [wrap64_small] <;> omega
    have hoff := off_V c (o ++ [0#32]) o.length (by simp) hc (by unfold Small; simp; omega)
    have hset : (o ++ [0#32]).set o.length (nextOf c o) = o ++ [nextOf c o] := by rw [List.set_append_right _ _ (Nat.le_refl _)]; simp
    have hi2 := ih (o ++ [nextOf c o]) (by simp; omega) (by simp; omega)
    rw [← hset, ← V_set] at hi2
    simp only [massey_Goes.l0, goes]
    rw [hset] at hi2
    refine Ev.pos (by rw [V_length]; omega) (Ev.pos (by rw [V_length]; omega) (Ev.bind' (by rw [hap]) ?_))
    rw [hlen, hw, Int.toNat_natCast]
    exact Ev.bind' hoff (Ev.pos (by omega) (Ev.pos (by omega) hi2))
theorem clone_V (l : List F) (h : l.length < 4096) : slices_Clone_uint32_uint32.f (V l) = some (V l) := by
  unfold slices_Clone_uint32_uint32.f
  rw [Option.bind_some, if_pos (by rw [V_length]; simp; omega), List.nil_append]
theorem goes_V (c b : List F) (N : Nat) (hc : Small c) (hb : Small b) (h1 : 1 ≤ c.length) (h0 : co c 0 = 1#32) (hl : b.length + 1 = c.length) (hN : N ≤ 1000) (hbl : b.length < 4000) :
    Ev (fun k => massey_Goes.f k (V c) (V b) (N : Int)) (V ((goes c b (N - b.length)).take N), none) := by
  unfold massey_Goes.f
  have hw : wrap64 (((V c).length : Int) - 1) = (b.length : Int) := by rw [V_length, wrap64_small] <;> omega
  rw [hw]
  refine Ev.bind' (good_V c) (Ev.pos (decide_eq_true ⟨h1, h0⟩) (Ev.pos (by rw [V_length]) (Ev.neg (by omega) (Ev.succ ?_))))
  simp only [massey_Goes.j0]
  exact Ev.neg (by simp; omega) (Ev.bind' (clone_V b hb) (goes_loop c hc N hN _ b rfl hbl))
theorem goes_bad (c b : List F) (n : Int) (h : ¬ ((1 ≤ c.length ∧ co c 0 = 1#32) ∧ b.length + 1 = c.length ∧ 0 ≤ n ∧ n ≤ 1000)) (hcl : c.length < 1000) :
    Ev (fun k => massey_Goes.f k (V c) (V b) n) ([], some 1) := by
  unfold massey_Goes.f
  have hj : Ev (fun k => massey_Goes.j0 k (V c) (V b) n true) ([], some 1) := by
    refine Ev.succ ?_
    simp only [massey_Goes.j0]
    exact Ev.pos trivial Ev.some'
  have hw : wrap64 (((V c).length : Int) - 1) = (c.length : Int) - 1 := by rw [V_length, wrap64_small] <;> omega
  rw [hw]
  refine Ev.bind' (good_V c) ?_
  by_cases hg : 1 ≤ c.length ∧ co c 0 = 1#32
  · refine Ev.pos (decide_eq_true hg) ?_
    by_cases hl : b.length + 1 = c.length
    · refine Ev.pos (by rw [V_length]; omega) ?_
      by_cases hn : n < 0
      · exact Ev.pos hn hj
      · refine Ev.neg hn ?_
        have : n > 1000 := by
          apply Classical.byContradiction
          intro hx
          exact h ⟨hg, hl, by omega, by omega⟩
        rw [decide_eq_true this]; exact hj
    · exact Ev.neg (by rw [V_length]; omega) hj
  · exact Ev.neg (by rw [decide_eq_false hg]; decide) hj
/-! ### the document's -/
theorem rgoes_inner (c o : List F) (hc : Small c) (hs : o.length < 4000) (hl : c.length ≤ o.length + 1) (N : Int) (r : List Int) (h : Ev (fun k => gossamerref03_Goes.l0 k (V c) N (V (o ++ [nextOf c o]))) r) :
    ∀ (m j : Nat), j + m = c.length → 1 ≤ j → Ev (fun k => gossamerref03_Goes.l1 k (V c) N (V o) (v (act (c.take j) (co (o ++ [0#32])) o.length)) (j : Int)) r := by
  intro m
  induction m with
  | zero =>
    intro j hj h1
    refine Ev.succ ?_
    simp only [gossamerref03_Goes.l1]
    rw [List.take_of_length_le (by omega)]
    rw [V_append] at h
    exact Ev.neg (by rw [V_length]; omega) (Ev.pos (by rw [V_length]; omega) h)
  | succ m ih =>
    intro j hj h1
    refine Ev.succ ?_
    have hw2 : wrap64 ((j : Int) + 1) = ((j + 1 : Nat) : Int) := wrap_nat1 (by unfold Small at hc; omega)
    have hw3 : wrap64 (((V o).length : Int) - (j : Int)) = ((o.length - j : Nat) : Int) := by rw [V_length]; exact wrap_sub (by omega) (by omega)
    have hco : co o (o.length - j) = co (o ++ [0#32]) (o.length - j) := by rw [co_append, if_pos (by omega)]
    simp only [gossamerref03_Goes.l1]
    rw [hw2, hw3, rd_Vn, rd_Vn, hco]
    refine Ev.pos (by rw [V_length]; omega) (Ev.pos (by omega) (Ev.pos (by omega) (Ev.pos (by rw [V_length]; omega) (Ev.bind (rmul_vE _ _) ?_))))
    rw [xor_v, ← MW.act_step c (o ++ [0#32]) o.length j (by omega)]
    exact ih (j + 1) (by omega) (by omega)
theorem rgoes_loop (c : List F) (hc : Small c) (h1 : 1 ≤ c.length) (N : Nat) (hN : N ≤ 1000) : ∀ (n : Nat) (o : List F), N - o.length = n → o.length < 4000 → c.length ≤ o.length + 1 → Ev (fun k => gossamerref03_Goes.l0 k (V c) (N : Int) (V o)) (V ((goes c o n).take N)) := by
  intro n
  induction n with
  | zero =>
    intro o ho hs _
    refine Ev.succ ?_
    simp only [gossamerref03_Goes.l0, goes]
    rw [Int.toNat_natCast, V_take]
    exact Ev.neg (by rw [V_length]; omega) (Ev.pos (by omega) (Ev.pos (by rw [V_length]; omega) Ev.some'))
  | succ n ih =>
    intro o ho hs hcl
    refine Ev.succ ?_
    have hi2 := ih (o ++ [nextOf c o]) (by simp; omega) (by simp; omega) (by simp; omega)
    have hz : act (c.take 1) (co (o ++ [0#32])) o.length = 0#32 := by
      have := MW.act_step c (o ++ [0#32]) o.length 0 (by omega)
      rw [this, List.take_zero, Nat.sub_zero, co_append, if_neg (by omega), Nat.sub_self]
      show 0#32 ^^^ mul _ 0#32 = _
      rw [GF.mul_zero]; rfl
    have hin := rgoes_inner c o hc hs hcl (N : Int) _ hi2 (c.length - 1) 1 (by omega) (Nat.le_refl _)
    rw [hz] at hin
    simp only [gossamerref03_Goes.l0, goes]
    exact Ev.pos (by rw [V_length]; omega) hin
theorem rgoes_V (c b : List F) (N : Nat) (hc : Small c) (hb : b.length < 4000) (h1 : 1 ≤ c.length) (hl : c.length ≤ b.length + 1) (hN : N ≤ 1000) :
    Ev (fun k => gossamerref03_Goes.f k (V c) (V b) (N : Int)) (V ((goes c b (N - b.length)).take N)) := by
  unfold gossamerref03_Goes.f
  refine Ev.bind' rfl (Ev.pos (by rw [V_length]; simp; omega) ?_)
  rw [List.nil_append]
  exact rgoes_loop c hc h1 N hN _ b rfl hb hl
/-! ### the law -/
theorem keep_take {c s : List F} (h : Keep c s) (n : Nat) : Keep c (s.take n) :=
  ⟨h.1, h.2.1, fun i a b => by
    have hb : i < n ∧ i < s.length := by rw [List.length_take] at b; omega
    rw [act_local c (co (s.take n)) (co s) i (fun j hj => by rw [PolyT.co_take, if_pos (by omega)])]
    exact h.2.2 i a hb.2⟩
theorem goes_j2 (s : List F) (hs : s.length ≤ 60) : Ev (fun k => gossamerlaw03_MasseyGoes.j2 k (V s) false) true := by
  refine Ev.succ ?_
  simp only [gossamerlaw03_MasseyGoes.j2]
  refine Ev.neg (by decide) (Ev.bind' (shortest_V s (by omega)) ?_)
  have hl := short_length (co s) s.length
  have hbd := (MW.run_bounds (co s) s.length).2.2.2.2
  have hk := short_keep s
  generalize MW.short (co s) s.length = d at *
  generalize (run (co s) s.length).len = n at *
  have hw : wrap64 (((V d).length : Int) - 1) = (n : Int) := by rw [V_length, wrap64_small] <;> omega
  have hw2 : wrap64 (2 * (n : Int)) = 2 * (n : Int) := by rw [wrap64_small] <;> omega
  rw [hw, hw2, V_length s]
  have tr : ∀ b, (b = true → True) → Ev (fun k => gossamerlaw03_MasseyGoes.j3 k (V s) (V d) b) true := by
    intro b _
    refine Ev.succ ?_
    simp only [gossamerlaw03_MasseyGoes.j3]
    rw [hw]
    cases b with
    | true => exact Ev.pos rfl (Ev.some'.to (decide_eq_true (by rw [V_length]; omega)))
    | false =>
      refine Ev.neg (by decide) (Ev.pos (by omega) (Ev.pos (by rw [V_length]; omega) ?_))
      rw [Int.toNat_natCast, V_take, V_length s]
      have ht : (s.take n).length = n := by rw [List.length_take]; omega
      have hg := goes_V d (s.take n) s.length (by unfold Small; omega) (by unfold Small; omega) (by omega) hk.2.1 (by omega) (by omega) (by omega)
      rw [ht, goes_again hk (s.length - n) n (by omega) (by omega), List.take_of_length_le (Nat.le_refl _)] at hg
      exact Ev.bind hg (Ev.pos rfl (Ev.bind (words_V rfl (by unfold Small; omega)) Ev.some'))
  exact Ev.neg (by omega) (tr _ (fun _ => trivial))
theorem goes_bad_E (c b : List F) (n : Int) : Ev (fun k => gossamerlaw03_MasseyGoes.j1 k (V c) (V b) n [] (some 1) true) true := by
  refine Ev.succ ?_
  simp only [gossamerlaw03_MasseyGoes.j1]
  exact Ev.pos trivial (Ev.bind' (by decide : gossamernum_Is.f (some 1) 1 = some true) (Ev.pos rfl (Ev.some'.to rfl)))
theorem goes_good_E (c b : List F) (N : Nat) (hc : c.length ≤ 12) (hb : b.length ≤ 12) (h1 : 1 ≤ c.length) (h0 : co c 0 = 1#32) (hl : b.length + 1 = c.length) (hN : N ≤ 60) :
    Ev (fun k => gossamerlaw03_MasseyGoes.j1 k (V c) (V b) (N : Int) (V ((goes c b (N - b.length)).take N)) none false) true := by
  refine Ev.succ ?_
  simp only [gossamerlaw03_MasseyGoes.j1]
  have hr := rgoes_V c b N (by unfold Small; omega) (by omega) h1 (by omega) (by omega)
  have hk : Keep c ((goes c b (N - b.length)).take N) := keep_take (Keep.goes _ (keep_begin h1 h0 (by omega))) N
  have hs : ((goes c b (N - b.length)).take N).length = N := by rw [List.length_take, goes_length]; omega
  generalize (goes c b (N - b.length)).take N = s at *
  obtain ⟨q, e1, k1⟩ := keeps_V c s (by unfold Small; omega) (by unfold Small; omega)
  have hq : q = true := e1.2 hk
  subst hq
  have hle := short_least hk
  refine Ev.neg (by decide) (Ev.pos rfl (Ev.bind hr (Ev.bind (words_V rfl (by unfold Small; omega)) (Ev.pos rfl (Ev.bind k1 (Ev.pos rfl (Ev.bind' (length_V s (by omega)) ?_)))))))
  exact Ev.neg (by rw [V_length]; omega) (goes_j2 s (by omega))
theorem goes_j0 (c b : List F) (n : Int) (hc : c.length ≤ 12) (hb : b.length ≤ 12) (hn : ¬ (60 < n ∧ n ≤ 1000)) : Ev (fun k => gossamerlaw03_MasseyGoes.j0 k (V c) (V b) n false) true := by
  refine Ev.succ ?_
  simp only [gossamerlaw03_MasseyGoes.j0]
  refine Ev.neg (by decide) ?_
  have hw : wrap64 (((V c).length : Int) - 1) = (c.length : Int) - 1 := by rw [V_length, wrap64_small] <;> omega
  have hr : rd (V c) 0 = v (co c 0) := by have := rd_Vn c 0; rwa [show ((0 : Nat) : Int) = 0 from rfl] at this
  rw [hw, hr, V_length, V_length]
  by_cases hok : (1 ≤ c.length ∧ co c 0 = 1#32) ∧ b.length + 1 = c.length ∧ 0 ≤ n ∧ n ≤ 1000
  · obtain ⟨⟨h1, h0⟩, hl, hn0, hn1⟩ := hok
    obtain ⟨N, rfl⟩ := Int.eq_ofNat_of_zero_le hn0
    have hg := goes_V c b N (by unfold Small; omega) (by unfold Small; omega) h1 h0 hl (by omega) (by omega)
    have he := goes_good_E c b N hc hb h1 h0 hl (by omega)
    refine Ev.bind hg (Ev.neg (by omega) (Ev.pos (by omega) (Ev.pos ((v_one_iff _).2 h0) (Ev.pos (by omega) (Ev.neg (by omega) ?_)))))
    rw [decide_eq_false (show ¬ ((N : Int) > 1000) by omega)]; exact he
  · refine Ev.bind (goes_bad c b n hok (by omega)) ?_
    have he := goes_bad_E c b n
    by_cases h1 : 1 ≤ c.length
    · refine Ev.neg (by omega) (Ev.pos (by omega) ?_)
      by_cases h0 : co c 0 = 1#32
      · refine Ev.pos ((v_one_iff _).2 h0) ?_
        by_cases hl : b.length + 1 = c.length
        · refine Ev.pos (by omega) ?_
          by_cases hn0 : n < 0
          · exact Ev.pos hn0 he
          · refine Ev.neg hn0 ?_
            have : n > 1000 := by
              apply Classical.byContradiction
              intro h
              exact hok ⟨⟨h1, h0⟩, hl, by omega, by omega⟩
            rw [decide_eq_true this]; exact he
        · exact Ev.neg (by omega) he
      · exact Ev.neg (fun e => h0 ((v_one_iff _).1 e)) he
    · exact Ev.pos (by omega) he
theorem MasseyGoes : gossamerlaw03_MasseyGoes.Pure := by
  intro l0 l1 n _ _ h0 _ _ h1 _
  obtain ⟨c, rfl⟩ := V_of l0 h0
  obtain ⟨b, rfl⟩ := V_of l1 h1
  have : Ev (fun k => gossamerlaw03_MasseyGoes.f k (V c) (V b) n) true := by
    unfold gossamerlaw03_MasseyGoes.f
    refine Ev.bind alive_E (Ev.pos rfl ?_)
    have tr : Ev (fun k => gossamerlaw03_MasseyGoes.j0 k (V c) (V b) n true) true := by
      refine Ev.succ ?_
      simp only [gossamerlaw03_MasseyGoes.j0]
      exact Ev.pos trivial Ev.some'
    by_cases hc : c.length ≤ 12
    · refine Ev.neg (by rw [V_length]; omega) ?_
      by_cases hb : b.length ≤ 12
      · refine Ev.neg (by rw [V_length]; omega) ?_
        by_cases h60 : n > 60
        · refine Ev.pos h60 ?_
          by_cases hk : n ≤ 1000
          · rw [decide_eq_true hk]; exact tr
          · rw [decide_eq_false hk]; exact goes_j0 c b n hc hb (by omega)
        · exact Ev.neg h60 (goes_j0 c b n hc hb (by omega))
      · exact Ev.pos (by rw [V_length]; omega) tr
    · exact Ev.pos (by rw [V_length]; omega) tr
  obtain ⟨K, hK⟩ := this
  exact ⟨K, hK K (Nat.le_refl _)⟩
end Go.Proofs.Ytfjkiiajbeaaoaa.Pure
