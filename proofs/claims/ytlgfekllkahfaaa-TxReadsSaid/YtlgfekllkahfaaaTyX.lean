/- A good transaction of one spend. -/
import Derived.Test.YtlgfekllkahfaaaTyW
set_option linter.unusedVariables false
set_option linter.unusedSimpArgs false
namespace Go.Proofs.Ytlgfekllkahfaaa.Pack
open Go.RowKit Go.Proofs.YtlgfekllkahfaaaW.PrintWords Go.Proofs.YtlgfekllkahfaaaW.PrintMore Go.Proofs.Ytlgfekllkahfaaa Go.Proofs.Ytlgfekllkahfaaa.Bits Sha ArrK ShaW
theorem twice_enters (args : Array Value) (w : World) : (callFunc 49 args).run Try.prog w = .ok (.enter 49 args) w := Go.Proofs.enters_of Try.func49 (by kernel_rfl) rfl args w
theorem contains_nil (w : World) (A : Option Addr) (c : Nat) (lb : Array Value) : Calls Try.prog 35 #[.slice A 0 c, .func (.func 49) #[] lb] w fun e w' => e = .returned (.bool false) ∧ Below w.heap.size w w' :=
  contains_calls w A c [] 49 lb twice_enters (fun _ => false) ⟨rfl, Nat.zero_le _, fun h => absurd h (Nat.lt_irrefl _)⟩ (Nat.zero_le _) (fun W s hs => absurd hs List.not_mem_nil)
section
variable {s : Sp} {co : List Co} {firm : Bool} {ad : Addr} {A2 : Option Addr} {c1 c2 : Nat}
set_option maxRecDepth 100000 in
set_option maxHeartbeats 800000 in
theorem twice1_calls (w : World) (hc1 : 1 ≤ c1) (hok : s.tx.length = 32) (hat : ∀ (W : World), Below w.heap.size w W → ∀ (j : Nat) u, (spc s)[j]? = some u → W.cell? (ad.add j) = some u) : Calls Try.prog 28 #[.agg #[.slice (some ad) 1 c1, .slice A2 co.length c2, .bool firm]] w fun e w' => e = .returned (.bool false) ∧ Below w.heap.size w w' := by
  obtain ⟨V, hV⟩ : ∃ V, V = w.alloc (.cells #[.slice (some ad) 1 c1, .slice A2 co.length c2, .bool firm] 25) := ⟨_, rfl⟩
  have hX : Blk V w.heap.size 25 [.slice (some ad) 1 c1, .slice A2 co.length c2, .bool firm] := by rw [hV]; exact Blk.new w _ [.slice (some ad) 1 c1, .slice A2 co.length c2, .bool firm]
  have hB : Below w.heap.size w V := by rw [hV]; exact below_alloc (Below.refl _ _) _
  have g0 := hX.get 0 _ rfl
  have hVA := Aside0.mk hV; have hBA := Aside0.mk hB; have hXA := Aside0.mk hX; have hcA := Aside0.mk hat; have hiA := Aside0.mk (info_spend s hok); have honeA := Aside0.mk (spc_one s); have hllA := Aside0.mk (spc_length s hok)
  clear hV hX hB hat
  go_enter Try.func28, Try.ntmps28
  go_wp2_with ((with_reducible refine gate_dst (N := 5) rfl ?_); rw [← hVA.out])
  go_loopw [8] (fun i wr => ((i = .int .i64 0 ∧ wr = V) ∨ i = .int .i64 1) ∧ Below V.heap.size V wr) (fun i _ => 1 - (intOf i).toNat)
  case atStart => exact ⟨.inl ⟨rfl, rfl⟩, Below.refl _ _⟩
  case round =>
    obtain ⟨h | rfl, hB2⟩ := hrel
    · obtain ⟨rfl, rfl⟩ := h
      go_wp2_with (first | ((with_reducible refine gate_dst (N := 12) rfl ?_); (refine wpList_load_any rfl 36 (.tmp 11) rfl ad rfl (spc s) _ (hcA.out _ hBA.out) Try.underlying36 rfl hiA.out ?_)) | (go_at_call 35; (with_reducible refine (contains_nil _ _ _ _).mono ?_); rintro e w5 ⟨rfl, hb5⟩; have hb5A := Aside0.mk (hb4A.out.trans (hb5.mono hb4A.out.size)); clear hb5) | (refine wpList_put_blk rfl 36 (.tmp 4) (.tmp 12) rfl wr.heap.size 36 (spc s) (spc zsp) (by rw [hllA.out]; rfl) rfl rfl (Blk.new wr 36 (spc zsp)) hiA.out honeA.out ?_; intro w4 hX4 hg4 hs4; have hb4 : Below wr.heap.size wr w4 := (below_alloc (Below.refl _ _) (.cells (spc zsp).toArray 36)).grown hg4 (by simp) (fun k e => by cases e; exact Nat.le_refl _); have g00 := (hXA.out.below hb4).get 0 _ rfl; have hb4A := Aside0.mk hb4; clear hX4 hg4 hs4 hb4))
      go_roundw
      · exact ⟨.inr rfl, hb5A.out⟩
      · simp [intOf]
    · go_wp2_with fail
      go_ret
      exact ⟨rfl, below_then hBA.out hBA.out.size hB2⟩
set_option maxRecDepth 100000 in
set_option maxHeartbeats 800000 in
theorem check1_calls (w : World) (hc1 : 1 ≤ c1) (hok : s.tx.length = 32) (hS : SpR0 w (some ad) [s].length [s]) (hat : ∀ (W : World), Below w.heap.size w W → ∀ (j : Nat) u, (spc s)[j]? = some u → W.cell? (ad.add j) = some u) (hC : CoR w A2 co.length co) (hn : co.length ≤ 1000) (hsh : shaped ⟨[s], co, firm⟩ = true) (x : Int) (hx : outv ⟨[s], co, firm⟩ = (x, none)) :
    Calls Try.prog 14 #[.agg #[.slice (some ad) 1 c1, .slice A2 co.length c2, .bool firm]] w fun e w' => e = .returned .nilIface ∧ Below w.heap.size w w' := by
  obtain ⟨V, hV⟩ : ∃ V, V = w.alloc (.cells #[.slice (some ad) 1 c1, .slice A2 co.length c2, .bool firm] 25) := ⟨_, rfl⟩
  have hX : Blk V w.heap.size 25 [.slice (some ad) 1 c1, .slice A2 co.length c2, .bool firm] := by rw [hV]; exact Blk.new w _ [.slice (some ad) 1 c1, .slice A2 co.length c2, .bool firm]
  have hB : Below w.heap.size w V := by rw [hV]; exact below_alloc (Below.refl _ _) _
  have h1 := fun (W : World) (hW : Below w.heap.size w W) => shaped_calls (t := ⟨[s], co, firm⟩) (A1 := some ad) (A2 := A2) (c1 := c1) (c2 := c2) W (hS.imp_ hW (fun _ _ h => h))
  have h2 := fun (W : World) (hW : Below w.heap.size w W) => out_calls (t := ⟨[s], co, firm⟩) (A1 := some ad) (A2 := A2) (c1 := c1) (c2 := c2) W (hC.imp_ hW (fun _ _ h => h)) hn
  have h3 := fun (W : World) (hW : Below w.heap.size w W) => twice1_calls (s := s) (co := co) (firm := firm) (ad := ad) (A2 := A2) (c1 := c1) (c2 := c2) W hc1 hok (fun W' hW' => hat W' (below_then hW hW.size hW'))
  rw [hsh] at h1
  rw [hx] at h2
  have hVA := Aside0.mk hV; have hBA := Aside0.mk hB; have hXA := Aside0.mk hX; have h1A := Aside0.mk h1; have h2A := Aside0.mk h2; have h3A := Aside0.mk h3
  have hiA := Aside0.mk (show (Try.prog.info? 25).map (·.size) = some 3 by kernel_rfl)
  clear hV hX hB h1 h2 h3 hS hat hC
  go_enter Try.func14, Try.ntmps14
  go_wp2_with (first | ((with_reducible refine gate_dst (N := 5) rfl ?_); (rw [← hVA.out]; refine wpList_load_blk rfl 25 (.tmp 1) rfl w.heap.size 25 rfl [.slice (some ad) 1 c1, .slice A2 co.length c2, .bool firm] _ hXA.out Try.underlying25 rfl hiA.out ?_)) | (go_at_call 27; (refine (h1A.out _ hBA.out).mono ?_; rintro e w2 ⟨rfl, hb⟩; have hX2A := Aside0.mk (hXA.out.below hb); have hb2A := Aside0.mk (below_then hBA.out hBA.out.size hb); clear hb)) | ((with_reducible refine gate_dst (N := 10) rfl ?_); (refine wpList_load_blk rfl 25 (.tmp 1) rfl w.heap.size 25 rfl [.slice (some ad) 1 c1, .slice A2 co.length c2, .bool firm] _ hX2A.out Try.underlying25 rfl hiA.out ?_)) | (go_at_call 11; (refine (h2A.out _ hb2A.out).mono ?_; rintro e w3 ⟨rfl, hb⟩; have hX3A := Aside0.mk (hX2A.out.below hb); have hb3A := Aside0.mk (below_then hb2A.out hb2A.out.size hb); clear hb; simp only [Go.Proofs.Ytlgfekllkahfaaa.Q.errW_none])) | ((with_reducible refine gate_dst (N := 17) rfl ?_); (refine wpList_load_blk rfl 25 (.tmp 1) rfl w.heap.size 25 rfl [.slice (some ad) 1 c1, .slice A2 co.length c2, .bool firm] _ hX3A.out Try.underlying25 rfl hiA.out ?_)) | (go_at_call 28; (refine (h3A.out _ hb3A.out).mono ?_; rintro e w4 ⟨rfl, hb⟩; have hb4A := Aside0.mk (below_then hb3A.out hb3A.out.size hb); clear hb)))
  go_ret
  exact ⟨rfl, hb4A.out⟩
end
end Go.Proofs.Ytlgfekllkahfaaa.Pack
