/- A tree's digest. -/
import Derived.Test.YtibiaacgcpgkbaaDoorShaU
set_option linter.unusedVariables false
set_option linter.unusedSimpArgs false
namespace Go.Proofs.YtibiaacgcpgkbaaDoor.ShaW
open Go.RowKit Go.Shelf Go.Proofs.YtibiaacgcpgkbaaDoorW.PrintWords Go.Proofs.YtibiaacgcpgkbaaDoorW.PrintMore Go.Proofs.YtibiaacgcpgkbaaDoor Go.Proofs.YtibiaacgcpgkbaaDoor.Bits Sha ArrK
/-- level for level -/
def treeF : Nat → List (List Int) → List Int
  | 0, L => L.headD zero32
  | n + 1, L => if L.length ≤ 1 then L.headD zero32 else treeF n (lev L)
def tree (L : List (List Int)) : List Int := treeF L.length L
theorem treeF_enough : ∀ (n m : Nat) (L : List (List Int)), L.length ≤ n → L.length ≤ m → treeF n L = treeF m L
  | 0, 0, _, _, _ => rfl
  | 0, m + 1, L, h, _ => by
    obtain rfl : L = [] := List.length_eq_zero_iff.1 (by omega)
    rfl
  | n + 1, 0, L, _, h => by
    obtain rfl : L = [] := List.length_eq_zero_iff.1 (by omega)
    rfl
  | n + 1, m + 1, L, h1, h2 => by
    unfold treeF
    split
    · rfl
    · rename_i h
      exact treeF_enough n m (lev L) (by rw [lev_length]; omega) (by rw [lev_length]; omega)
theorem tree_small {L : List (List Int)} (h : L.length ≤ 1) : tree L = L.headD zero32 := by
  unfold tree
  cases hl : L.length with
  | zero => rfl
  | succ n => unfold treeF; rw [if_pos h]
theorem tree_lev {L : List (List Int)} (h : ¬ L.length ≤ 1) : tree L = tree (lev L) := by
  unfold tree
  obtain ⟨n, hn⟩ : ∃ n, L.length = n + 1 := ⟨L.length - 1, by omega⟩
  rw [hn]
  show (if L.length ≤ 1 then _ else treeF n (lev L)) = _
  rw [if_neg h]
  exact treeF_enough _ _ _ (by rw [lev_length]; omega) (Nat.le_refl _)
theorem tree_length : ∀ (n : Nat) (L : List (List Int)), L.length ≤ n → (∀ h ∈ L, h.length = 32) → (tree L).length = 32
  | n, L, hn, hL => by
    by_cases h : L.length ≤ 1
    · rw [tree_small h]
      cases L with
      | nil => rfl
      | cons x l => exact hL x (by simp)
    · rw [tree_lev h]
      match n, hn with
      | 0, hn => exact absurd hn (by omega)
      | n + 1, hn => exact tree_length n (lev L) (by rw [lev_length]; omega) (lev_lens L)
theorem tree_bytes : ∀ (n : Nat) (L : List (List Int)), L.length ≤ n → (∀ h ∈ L, Bytes h) → Bytes (tree L)
  | n, L, hn, hL => by
    by_cases h : L.length ≤ 1
    · rw [tree_small h]
      cases L with
      | nil => intro x hx; simp at hx; omega
      | cons x l => exact hL x (by simp)
    · rw [tree_lev h]
      match n, hn with
      | 0, hn => exact absurd hn (by omega)
      | n + 1, hn => exact tree_bytes n (lev L) (by rw [lev_length]; omega) (lev_bytes L)
/-- a slice's length -/
def slenv : Value → Nat
  | .slice _ n _ => n
  | _ => 0
set_option maxRecDepth 100000 in
set_option maxHeartbeats 400000 in
theorem tree_calls (L : List (List Int)) (A : Option Addr) (c : Nat) (w : World) (hK : Kst w) (hBg : Bst w) (hr : kh.C w A L.length L) (hc : L.length ≤ c) (hn : L.length ≤ 1000) (hby : ∀ h ∈ L, Bytes h) :
    Calls Tryd.prog 17 #[.slice A L.length c] w fun e w' => e = .returned (hv (tree L)) ∧ Below w.heap.size w w' := by
  obtain ⟨V0, hV0⟩ : ∃ V0, V0 = w.alloc (.cells #[.int .u8 0, .int .u8 0, .int .u8 0, .int .u8 0, .int .u8 0, .int .u8 0, .int .u8 0, .int .u8 0, .int .u8 0, .int .u8 0, .int .u8 0, .int .u8 0, .int .u8 0, .int .u8 0, .int .u8 0, .int .u8 0, .int .u8 0, .int .u8 0, .int .u8 0, .int .u8 0, .int .u8 0, .int .u8 0, .int .u8 0, .int .u8 0, .int .u8 0, .int .u8 0, .int .u8 0, .int .u8 0, .int .u8 0, .int .u8 0, .int .u8 0, .int .u8 0] 25) := ⟨_, rfl⟩
  have hB0 : Below w.heap.size w V0 := by rw [hV0]; exact (Below.refl _ _).alloc (Nat.le_refl _) _
  have hR0 : Blk V0 w.heap.size 25 (nums .u8 zero32) := by rw [hV0]; exact Blk.new w 25 (nums .u8 zero32)
  have hC0 := Kd.C_below hr hB0
  have hz32 : (nums .u8 zero32).length = 32 := rfl
  have hi0 := info_hash zero32 rfl
  by_cases h0 : L.length = 0
  · have hL : L = [] := List.length_eq_zero_iff.1 h0
    subst hL
    have ht : tree [] = zero32 := rfl
    rw [ht]
    have hR0A := Aside0.mk hR0; have hB0A := Aside0.mk hB0
    have hV0A := Aside0.mk hV0
    clear hR0 hB0 hV0 hC0 hr ht h0
    go_enter Tryd.func17, Tryd.ntmps17
    go_wp2_with (rw [← hV0A.out]; refine wpList_put_blk rfl 25 (.tmp 2) (.tmp 6) rfl w.heap.size 25 (nums .u8 zero32) (nums .u8 zero32) rfl rfl rfl hR0A.out hi0 (u8_one _) ?_; intro w4 hW4 hg4 hs4)
    exact bodyPost_ret (results_cell_row rfl _ _ w.heap.size 25 (nums .u8 zero32).toArray (0, 0) _ rfl hW4 Tryd.underlying25 rfl (by kernel_rfl)) rfl ⟨rfl, hB0A.out.grown hg4 hB0A.out.size (fun k e => by cases e; exact Nat.le_refl _)⟩
  · have h1 : 1 ≤ L.length := by omega
    have q0 : ((L.length : Int) == 0) = false := beq_eq_false_iff_ne.2 (by omega)
    have q1 : ¬ (L.length : Int) = 0 := by omega
    have hR0A := Aside0.mk hR0; have hB0A := Aside0.mk hB0; have hC0A := Aside0.mk hC0; have hKA := Aside0.mk hK; have hBgA := Aside0.mk hBg; have hrA := Aside0.mk hr
    clear hR0 hB0 hC0 hK hBg hr h0
    have hV0A := Aside0.mk hV0
    clear hV0
    go_enter Tryd.func17, Tryd.ntmps17
    go_wp2_with fail
    rw [← hV0A.out]
    go_loopw [0] (fun v wr => ∃ (M : List (List Int)) (B : Option Addr) (cm : Nat), v = .slice B M.length cm ∧ M.length ≤ cm ∧ kh.C wr B M.length M ∧ tree M = tree L ∧ 1 ≤ M.length ∧ M.length ≤ 1000 ∧ (∀ h ∈ M, Bytes h) ∧ Blk wr w.heap.size 25 (nums .u8 zero32) ∧ Below w.heap.size w wr) (fun v _ => slenv v)
    case atStart => exact ⟨L, A, c, rfl, hc, hC0A.out, rfl, h1, hn, hby, hR0A.out, hB0A.out⟩
    case round =>
      clear hR0A hB0A hC0A
      obtain ⟨M, B, cm, rfl, hcm, hC, ht, hM1, hM2, hMb, hX, hB⟩ := hrel
      have hCA := Aside0.mk hC; have hXA := Aside0.mk hX; have hBA := Aside0.mk hB; have htA := Aside0.mk ht
      clear hC hX hB ht
      by_cases hlt : 1 < M.length
      · have g1 : (M.length : Int) > 1 := by omega
        have hLv := Aside0.mk (level_calls M B cm wr (hKA.out.below hBA.out) (hBgA.out.below hBA.out) hCA.out hcm hM2 hMb)
        go_wp2_with (go_at_call 27; with_reducible refine hLv.out.mono ?_; rintro e w1 ⟨v1, rfl, hR1, hb1⟩; obtain ⟨B1, c1, hv1, hc1, hC1⟩ := Kd.R_reads hR1; subst hv1; have hC1A := Aside0.mk hC1; have hb1A := Aside0.mk hb1; clear hR1 hC1 hb1)
        go_roundw
        case rel => exact ⟨lev M, B1, c1, rfl, hc1, hC1A.out, by rw [← tree_lev (by omega)]; exact htA.out, by rw [lev_length]; omega, by rw [lev_length]; omega, lev_bytes M, hXA.out.below hb1A.out, below_then hBA.out hBA.out.size hb1A.out⟩
        case measure => simp only [slenv]; rw [lev_length]; omega
      · obtain ⟨x, hM⟩ : ∃ x, M = [x] := by
          match M, hM1, hlt with
          | [x], _, _ => exact ⟨x, rfl⟩
          | a :: b :: l, _, h => exact absurd (by simp) h
        subst hM
        have hx : x = tree L := by rw [← htA.out]; rfl
        obtain ⟨hxl, ad, rfl, hat⟩ := kh_at hCA.out 0 x rfl
        rw [Nat.zero_mul] at hat
        have hix := info_hash x hxl
        have hzx : (nums .u8 zero32).length = (nums .u8 x).length := by simp [nums, hxl]
        have hatA := Aside0.mk hat; have hxA := Aside0.mk hx; have hixA := Aside0.mk hix; have hzxA := Aside0.mk hzx
        have hu := Tryd.underlying25
        clear hat hx hix hzx htA hlt
        have e1 : ((([x] : List (List Int)).length : Nat) : Int) = 1 := rfl
        rw [show ([x] : List (List Int)).length = 1 from rfl] at hcm ⊢
        go_wp2_with (first | ((with_reducible refine gate_dst (N := 14) rfl ?_); refine wpList_load_any rfl 25 (.tmp 13) rfl (ad.add 0) rfl (nums .u8 x) _ hatA.out hu rfl hixA.out ?_) | (refine wpList_put_blk rfl 25 (.tmp 2) (.tmp 14) rfl w.heap.size 25 (nums .u8 x) (nums .u8 zero32) hzxA.out rfl rfl hXA.out hixA.out (u8_one _) ?_; intro w4 hW4 hg4 hs4))
        exact bodyPost_ret (results_cell_row rfl _ _ w.heap.size 25 (nums .u8 x).toArray (0, 0) _ rfl hW4 Tryd.underlying25 rfl (by rw [List.size_toArray]; exact hixA.out)) rfl ⟨by rw [hxA.out], hBA.out.grown hg4 hBA.out.size (fun k e => by cases e; exact Nat.le_refl _)⟩
end Go.Proofs.YtibiaacgcpgkbaaDoor.ShaW
