/- Is there a spend of which a function value says yes? -/
import Derived.Test.YtlgfekllkahfaaaTyJ
import Derived.Shelf.Abstract
set_option linter.unusedVariables false
set_option linter.unusedSimpArgs false
namespace Go.Proofs.Ytlgfekllkahfaaa.Pack
open Go.RowKit Go.Proofs.YtlgfekllkahfaaaW.PrintWords Go.Proofs.YtlgfekllkahfaaaW.PrintMore Go.Proofs.Ytlgfekllkahfaaa Go.Proofs.Ytlgfekllkahfaaa.Bits Sha ArrK ShaW
theorem any_take (p : Sp → Bool) (l : List Sp) (k : Nat) (s : Sp) (h : l[k]? = some s) : (l.take (k + 1)).any p = ((l.take k).any p || p s) := by
  have hk := (List.getElem?_eq_some_iff.1 h)
  rw [List.take_succ_eq_append_getElem hk.1, List.any_append, hk.2]; simp
set_option maxRecDepth 100000 in
set_option maxHeartbeats 800000 in
theorem index_calls (w : World) (A : Option Addr) (c : Nat) (ss : List Sp) (g : Nat) (lb : Array Value) (eg : ∀ args w, (callFunc g args).run Try.prog w = .ok (.enter g args) w) (p : Sp → Bool) (hS : SpR0 w A ss.length ss) (hn : ss.length ≤ 1000)
    (hp : ∀ W s, s ∈ ss → Below w.heap.size w W → Calls Try.prog g (#[spv s] ++ lb) W fun e w' => e = .returned (.bool (p s)) ∧ Below w.heap.size w w') :
    Calls Try.prog 57 #[.slice A ss.length c, .func (.func g) #[] lb] w fun e w' => (∃ z : Int, e = .returned (.int .i64 z) ∧ decide (0 ≤ z) = ss.any p) ∧ Below w.heap.size w w' := by
  have hSA := Aside0.mk hS; have hpA := Aside0.mk hp
  clear hS hp
  go_enter Try.func57, Try.ntmps57
  go_wp2_with fail
  go_loopw [8] (fun i wr => ∃ k : Nat, k ≤ ss.length ∧ i = .int .i64 (k : Int) ∧ (ss.take k).any p = false ∧ Below w.heap.size w wr) (fun i _ => ss.length - (intOf i).toNat)
  case atStart => exact ⟨0, by omega, rfl, by simp, Below.refl _ _⟩
  case round =>
    obtain ⟨k, hk, rfl, hno, hB⟩ := hrel
    have hBA := Aside0.mk hB; have hnoA := Aside0.mk hno
    clear hB hno
    by_cases hlt : k < ss.length
    · obtain ⟨s, hs⟩ : ∃ s, ss[k]? = some s := ⟨_, List.getElem?_eq_getElem hlt⟩
      obtain ⟨ad, cc, rfl, ⟨hok, rfl⟩, -, hcell⟩ := row_at (hSA.out.imp_ hBA.out (fun _ _ h => h)) k s hs
      have p0 : (0 : Int) ≤ (k : Int) := by omega
      have p1 : (k : Int) < (ss.length : Int) := by omega
      have e2 : IntKind.i64.wrap ((k : Int) + 1) = (k : Int) + 1 := IntWalk.i64_in _ (by omega)
      have hnx := any_take p ss k s hs
      rw [hnoA.out, Bool.false_or] at hnx
      have hcall := hpA.out wr s (List.mem_of_getElem? hs) hBA.out
      have hmem := List.mem_of_getElem? hs
      have hany : p s = true → ss.any p = true := fun h => List.any_eq_true.2 ⟨s, hmem, h⟩
      generalize p s = o at *
      have hiA := Aside0.mk (info_spend s hok.1); have hceA := Aside0.mk hcell; have hnxA := Aside0.mk hnx; have hcA := Aside0.mk hcall; have hanyA := Aside0.mk hany
      clear hok hcell hnx hcall hany hs hmem
      cases o
      · go_wp2_with (first | ((with_reducible refine gate_dst (N := 15) rfl ?_); (refine wpList_load_any rfl 36 (.tmp 14) rfl (ad.add (k * 35)) rfl (spc s) _ hceA.out Try.underlying36 rfl hiA.out ?_)) | (go_at_fn g; refine hcA.out.mono ?_; rintro e w2 ⟨rfl, hb2⟩; have hb2A := Aside0.mk hb2; clear hb2))
        go_roundw
        · exact ⟨k + 1, by omega, by go_num, hnxA.out, hb2A.out⟩
        · simp [intOf]; omega
      · go_wp2_with (first | ((with_reducible refine gate_dst (N := 15) rfl ?_); (refine wpList_load_any rfl 36 (.tmp 14) rfl (ad.add (k * 35)) rfl (spc s) _ hceA.out Try.underlying36 rfl hiA.out ?_)) | (go_at_fn g; refine hcA.out.mono ?_; rintro e w2 ⟨rfl, hb2⟩; have hb2A := Aside0.mk hb2; clear hb2))
        go_ret
        exact ⟨⟨_, rfl, by rw [hanyA.out (by trivial), decide_eq_true_iff]; omega⟩, hb2A.out⟩
    · obtain rfl : k = ss.length := by omega
      have p1 : ¬ (ss.length : Int) < (ss.length : Int) := by omega
      rw [List.take_of_length_le (Nat.le_refl _)] at hnoA
      go_wp2_with fail
      go_ret
      exact ⟨⟨-1, rfl, by rw [hnoA.out]; rfl⟩, hBA.out⟩
set_option maxRecDepth 100000 in
set_option maxHeartbeats 800000 in
theorem contains_calls (w : World) (A : Option Addr) (c : Nat) (ss : List Sp) (g : Nat) (lb : Array Value) (eg : ∀ args w, (callFunc g args).run Try.prog w = .ok (.enter g args) w) (p : Sp → Bool) (hS : SpR0 w A ss.length ss) (hn : ss.length ≤ 1000)
    (hp : ∀ W s, s ∈ ss → Below w.heap.size w W → Calls Try.prog g (#[spv s] ++ lb) W fun e w' => e = .returned (.bool (p s)) ∧ Below w.heap.size w w') :
    Calls Try.prog 35 #[.slice A ss.length c, .func (.func g) #[] lb] w fun e w' => e = .returned (.bool (ss.any p)) ∧ Below w.heap.size w w' := by
  have hI := Aside0.mk (index_calls w A c ss g lb eg p hS hn hp)
  clear hS hp
  go_enter Try.func35, Try.ntmps35
  go_wp2_with (go_at_call 57; (with_reducible refine hI.out.mono ?_); rintro e w2 ⟨⟨z, rfl, hz⟩, hb2⟩; have hF := Aside0.mk (And.intro hz hb2); clear hz hb2)
  go_ret
  exact ⟨by rw [← hF.out.1]; rfl, hF.out.2⟩
end Go.Proofs.Ytlgfekllkahfaaa.Pack
