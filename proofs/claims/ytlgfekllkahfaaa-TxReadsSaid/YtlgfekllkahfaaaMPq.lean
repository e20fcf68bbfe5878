/- Does a transaction spend one coin twice? Is it good? -/
import Derived.Test.YtlgfekllkahfaaaTyN
import Derived.Test.YtlgfekllkahfaaaTyX
set_option linter.unusedVariables false
set_option linter.unusedSimpArgs false
namespace Go.Proofs.Ytlgfekllkahfaaa.Pack
open Go.RowKit Go.Proofs.YtlgfekllkahfaaaW.PrintWords Go.Proofs.YtlgfekllkahfaaaW.PrintMore Go.Proofs.Ytlgfekllkahfaaa Go.Proofs.Ytlgfekllkahfaaa.Bits Sha ArrK ShaW
/-- a point's cells -/
def ptc (s : Sp) : List Value := nums .u8 s.tx ++ [.int .i64 s.n]
theorem ptc_length (s : Sp) (h : s.tx.length = 32) : (ptc s).length = 33 := by simp [ptc, nums, h]
theorem ptc_get (s : Sp) (j : Nat) (u : Value) (h : (ptc s)[j]? = some u) : (spc s)[j]? = some u := by
  have e : spc s = ptc s ++ [.string s.key, .int .u64 s.sel] := by simp [spc, ptc]
  rw [e, List.getElem?_append_left (List.getElem?_eq_some_iff.1 h).1]; exact h
theorem info_pt (s : Sp) (h : s.tx.length = 32) : (Try.prog.info? 33).map (·.size) = some (ptc s).length := by rw [ptc_length s h]; kernel_rfl
/-- do two spends spend the same? -/
def samep (s o : Sp) : Bool := decide (s.tx = o.tx) && (s.n == o.n)
theorem samep_comm (s o : Sp) : samep s o = samep o s := by
  have : ∀ a b : Sp, samep a b = true → samep b a = true := fun a b h => by simp [samep] at h ⊢; exact ⟨h.1.symm, h.2.symm⟩
  rw [Bool.eq_iff_iff]; exact ⟨this _ _, this _ _⟩
theorem exec_eql_point {a : Act} {o : Oper} (x y : Operand) {tt : TypeId} (ho : o.op = .binOp .eql 33 x y tt) (s s' : Sp) (hx : a.eval x = .agg (ptc s).toArray) (hy : a.eval y = .agg (ptc s').toArray) (h1 : s.tx.length = 32) (h2 : s'.tx.length = 32) (w : World) :
    (execOp a.eval o).run Try.prog w = .ok (.value (.bool (samep s s'))) w := by
  have hE : ∀ W, (Op.equalIn 10000 33 (.agg (ptc s).toArray) (.agg (ptc s').toArray)).run Try.prog W = .ok (samep s s') W := fun W => eq_point 9997 s.tx s'.tx s.n s'.n h1 h2 W
  unfold execOp
  simp only [ho, hx, hy]
  go_simp
def tw (l : List Sp) (k : Nat) : Bool := (List.range k).any fun i => (l.take i).any fun o => samep o (l.getD i zsp)
/-- does it spend one twice? -/
def twice (l : List Sp) : Bool := tw l l.length
theorem tw_succ (l : List Sp) (k : Nat) : tw l (k + 1) = (tw l k || (l.take k).any fun o => samep o (l.getD k zsp)) := by simp [tw, List.range_succ, List.any_append]
theorem tw_le (l : List Sp) (k n : Nat) (h : tw l k = true) (hk : k ≤ n) : tw l n = true := by
  unfold tw at h ⊢
  rw [List.any_eq_true] at h ⊢
  obtain ⟨i, hi, h⟩ := h
  exact ⟨i, by rw [List.mem_range] at hi ⊢; omega, h⟩
section
variable {s o : Sp} {b : Nat}
set_option maxRecDepth 100000 in
set_option maxHeartbeats 800000 in
theorem twice1_at (W : World) (ho : o.tx.length = 32) (hs : s.tx.length = 32) (hb : Blk W b 36 (spc s)) : Calls Try.prog 49 #[spv o, .pointer (some ⟨b, 0, none⟩)] W fun e w' => e = .returned (.bool (samep o s)) ∧ Below W.heap.size W w' := by
  obtain ⟨V, hV⟩ : ∃ V, V = W.alloc (.cells (spc o).toArray 36) := ⟨_, rfl⟩
  have hX : Blk V W.heap.size 36 (spc o) := by rw [hV]; exact Blk.new W _ _
  have hB : Below W.heap.size W V := by rw [hV]; exact below_alloc (Below.refl _ _) _
  have hbV : Blk V b 36 (spc s) := hb.below hB
  have hVA := Aside0.mk hV; have hBA := Aside0.mk hB; have hXA := Aside0.mk hX; have hbA := Aside0.mk hbV; have hoA := Aside0.mk ho; have hsA := Aside0.mk hs
  clear hV hB hX hbV hb ho hs
  go_enter Try.func49, Try.ntmps49
  go_wp2_with (first | ((with_reducible refine gate_dst (N := 4) rfl ?_); rw [← hVA.out]) | ((with_reducible refine gate_dst (N := 5) rfl ?_); (refine wpList_load_any rfl 33 (.tmp 4) rfl ⟨W.heap.size, 0, none⟩ rfl (ptc o) _ (fun j u hu => hXA.out.add j u (ptc_get o j u hu)) Try.underlying33 rfl (info_pt o hoA.out) ?_)) | ((with_reducible refine gate_dst (N := 7) rfl ?_); (refine wpList_load_any rfl 33 (.tmp 6) rfl ⟨b, 0, none⟩ rfl (ptc s) _ (fun j u hu => hbA.out.add j u (ptc_get s j u hu)) Try.underlying33 rfl (info_pt s hsA.out) ?_)) | ((with_reducible refine gate_dst (N := 8) rfl ?_); (refine Kd.event_run rfl (exec_eql_point (.tmp 5) (.tmp 7) rfl o s rfl rfl hoA.out hsA.out _) ?_)))
  go_ret
  exact ⟨rfl, hBA.out⟩
theorem row_take {W : World} {A : Option Addr} {l : List Sp} {k : Nat} (h : SpR0 W A l.length l) (hk : k ≤ l.length) : SpR0 W A (l.take k).length (l.take k) := Kd.C_take (k := kSp) h hk
theorem contains_at {W : World} {ad : Addr} {c : Nat} {l : List Sp} {k : Nat} (h : SpR0 W (some ad) l.length l) (hk : k ≤ l.length) (hn : l.length ≤ 1000) (hs : s.tx.length = 32) (hb : Blk W b 36 (spc s)) :
    Calls Try.prog 35 #[.slice (some ad) k c, .func (.func 49) #[] #[.pointer (some ⟨b, 0, none⟩)]] W fun e w' => e = .returned (.bool ((l.take k).any fun o => samep o s)) ∧ Below W.heap.size W w' := by
  have hr := row_take h hk
  have hl : (l.take k).length = k := by rw [List.length_take]; omega
  have := contains_calls W (some ad) c (l.take k) 49 #[.pointer (some ⟨b, 0, none⟩)] twice_enters (fun o => samep o s) hr (by omega) (fun W' o ho hW => by
    obtain ⟨j, hj⟩ := List.mem_iff_getElem?.1 ho
    obtain ⟨_, _, _, ⟨hok, -⟩, -, -⟩ := row_at hr j o hj
    exact (twice1_at W' hok.1 hs (hb.below hW)).mono fun e w' ⟨h1, h2⟩ => ⟨h1, below_then hW hW.size h2⟩)
  rwa [hl] at this
end
section
variable {t : Tr} {A1 A2 : Option Addr} {c1 c2 : Nat}
set_option maxRecDepth 100000 in
set_option maxHeartbeats 800000 in
theorem twice_calls (w : World) (hS : SpR0 w A1 t.sp.length t.sp) (hc1 : t.sp.length ≤ c1) (hn : t.sp.length ≤ 1000) : Calls Try.prog 28 #[trv t A1 A2 c1 c2] w fun e w' => e = .returned (.bool (twice t.sp)) ∧ Below w.heap.size w w' := by
  obtain ⟨V, hV⟩ : ∃ V, V = w.alloc (.cells (trc t A1 A2 c1 c2).toArray 25) := ⟨_, rfl⟩
  have hX : Blk V w.heap.size 25 (trc t A1 A2 c1 c2) := by rw [hV]; exact Blk.new w _ _
  have hB : Below w.heap.size w V := by rw [hV]; exact below_alloc (Below.refl _ _) _
  obtain ⟨sp, co, firm⟩ := t
  simp only at hV hX hS hc1 hn ⊢
  have hSV : SpR0 V A1 sp.length sp := hS.imp_ hB (fun _ _ h => h)
  have g0 := hX.get 0 _ rfl
  have hVA := Aside0.mk hV; have hBA := Aside0.mk hB; have hXA := Aside0.mk hX; have hSA := Aside0.mk hSV
  clear hV hX hB hS hSV
  go_enter Try.func28, Try.ntmps28
  go_wp2_with ((with_reducible refine gate_dst (N := 5) rfl ?_); rw [show (w.alloc (.cells #[.slice A1 sp.length c1, .slice A2 co.length c2, .bool firm] 25)) = V from hVA.out.symm])
  go_loopw [8] (fun i wr => ∃ k : Nat, k ≤ sp.length ∧ i = .int .i64 (k : Int) ∧ tw sp k = false ∧ Below V.heap.size V wr) (fun i _ => sp.length - (intOf i).toNat)
  case atStart => exact ⟨0, by omega, rfl, rfl, Below.refl _ _⟩
  case round =>
    clear g0
    obtain ⟨k, hk, rfl, htw, hB2⟩ := hrel
    by_cases hlt : k < sp.length
    · obtain ⟨s, hs⟩ : ∃ s, sp[k]? = some s := ⟨_, List.getElem?_eq_getElem hlt⟩
      have hSr : SpR0 wr A1 sp.length sp := hSA.out.imp_ hB2 (fun _ _ h => h)
      obtain ⟨ad, cs, rfl, ⟨hok, rfl⟩, -, hcell⟩ := row_at hSr k s hs
      have hts := tw_succ sp k
      rw [htw, Bool.false_or, List.getD_eq_getElem?_getD, hs, Option.getD_some] at hts
      have hyes : tw sp (k + 1) = true → twice sp = true := fun h => tw_le sp (k + 1) sp.length h (by omega)
      have p0 : (0 : Int) ≤ (k : Int) := by omega
      have p1 : (k : Int) < (sp.length : Int) := by omega
      have p2 : (k : Int) ≤ (c1 : Int) := by omega
      have e2 : IntKind.i64.wrap ((k : Int) + 1) = (k : Int) + 1 := IntWalk.i64_in _ (by omega)
      have hcat := Aside0.mk (fun (W : World) (hW : Below wr.heap.size wr W) (hb : Blk W wr.heap.size 36 (spc s)) => contains_at (c := c1) (hSr.imp_ hW (fun _ _ h => h)) (by omega : k ≤ sp.length) hn hok.1 hb)
      rw [← hts] at hcat
      have hB2A := Aside0.mk hB2; have hceA := Aside0.mk hcell; have hiA := Aside0.mk (info_spend s hok.1); have honeA := Aside0.mk (spc_one s); have hllA := Aside0.mk (spc_length s hok.1); have hyesA := Aside0.mk hyes
      clear hB2 hcell hok hSr hts htw hyes hs
      obtain ⟨o, ho⟩ : ∃ o, tw sp (k + 1) = o := ⟨_, rfl⟩
      rw [ho] at hcat hyesA
      have hoA := Aside0.mk ho
      clear ho
      cases o
      · go_wp2_with (first | ((with_reducible refine gate_dst (N := 12) rfl ?_); (refine wpList_load_any rfl 36 (.tmp 11) rfl (ad.add (k * 35)) rfl (spc s) _ hceA.out Try.underlying36 rfl hiA.out ?_)) | (go_at_call 35; (with_reducible refine (hcat.out _ hb4A.out hX4A.out).mono ?_); rintro e w5 ⟨rfl, hb5⟩; have hb5A := Aside0.mk (below_then hb4A.out hb4A.out.size hb5); clear hb5) | (refine wpList_put_blk rfl 36 (.tmp 4) (.tmp 12) rfl wr.heap.size 36 (spc s) (spc zsp) (by rw [hllA.out]; rfl) rfl rfl (Blk.new wr 36 (spc zsp)) hiA.out honeA.out ?_; intro w4 hX4 hg4 hs4; have hb4 : Below wr.heap.size wr w4 := (below_alloc (Below.refl _ _) (.cells (spc zsp).toArray 36)).grown hg4 (by simp) (fun k e => by cases e; exact Nat.le_refl _); have g00 := (hXA.out.below (below_then hB2A.out hB2A.out.size hb4)).get 0 _ rfl; have hb4A := Aside0.mk hb4; have hX4A := Aside0.mk hX4; clear hX4 hg4 hs4 hb4))
        go_roundw
        · exact ⟨k + 1, by omega, by go_num, hoA.out, below_then hB2A.out hB2A.out.size hb5A.out⟩
        · simp [intOf]; omega
      · go_wp2_with (first | ((with_reducible refine gate_dst (N := 12) rfl ?_); (refine wpList_load_any rfl 36 (.tmp 11) rfl (ad.add (k * 35)) rfl (spc s) _ hceA.out Try.underlying36 rfl hiA.out ?_)) | (go_at_call 35; (with_reducible refine (hcat.out _ hb4A.out hX4A.out).mono ?_); rintro e w5 ⟨rfl, hb5⟩; have hb5A := Aside0.mk (below_then hb4A.out hb4A.out.size hb5); clear hb5) | (refine wpList_put_blk rfl 36 (.tmp 4) (.tmp 12) rfl wr.heap.size 36 (spc s) (spc zsp) (by rw [hllA.out]; rfl) rfl rfl (Blk.new wr 36 (spc zsp)) hiA.out honeA.out ?_; intro w4 hX4 hg4 hs4; have hb4 : Below wr.heap.size wr w4 := (below_alloc (Below.refl _ _) (.cells (spc zsp).toArray 36)).grown hg4 (by simp) (fun k e => by cases e; exact Nat.le_refl _); have g00 := (hXA.out.below (below_then hB2A.out hB2A.out.size hb4)).get 0 _ rfl; have hb4A := Aside0.mk hb4; have hX4A := Aside0.mk hX4; clear hX4 hg4 hs4 hb4))
        go_ret
        exact ⟨by rw [hyesA.out (by trivial)]; rfl, below_then hBA.out hBA.out.size (below_then hB2A.out hB2A.out.size hb5A.out)⟩
    · obtain rfl : k = sp.length := by omega
      have p1 : ¬ (sp.length : Int) < (sp.length : Int) := by omega
      have htwA := Aside0.mk htw
      have hB2A := Aside0.mk hB2
      clear htw hB2
      go_wp2_with fail
      go_ret
      exact ⟨by rw [show twice sp = false from htwA.out]; rfl, below_then hBA.out hBA.out.size hB2A.out⟩
/-- why it is not good; 0: it is -/
def chkv (t : Tr) : Option Int := if shaped t = true then (match (outv t).2 with | some e => some e | none => if twice t.sp = true then some 8 else none) else some 2
set_option maxRecDepth 100000 in
set_option maxHeartbeats 800000 in
theorem check_calls (w : World) (hS : SpR0 w A1 t.sp.length t.sp) (hC : CoR w A2 t.co.length t.co) (hc1 : t.sp.length ≤ c1) (h1 : t.sp.length ≤ 1000) (h2 : t.co.length ≤ 1000) :
    Calls Try.prog 14 #[trv t A1 A2 c1 c2] w fun e w' => e = .returned (Go.Proofs.Ytlgfekllkahfaaa.Q.errW (chkv t)) ∧ Below w.heap.size w w' := by
  obtain ⟨V, hV⟩ : ∃ V, V = w.alloc (.cells (trc t A1 A2 c1 c2).toArray 25) := ⟨_, rfl⟩
  have hX : Blk V w.heap.size 25 (trc t A1 A2 c1 c2) := by rw [hV]; exact Blk.new w _ _
  have hB : Below w.heap.size w V := by rw [hV]; exact below_alloc (Below.refl _ _) _
  have hShA := Aside0.mk (fun (W : World) (hW : Below w.heap.size w W) => shaped_calls (t := t) (A1 := A1) (A2 := A2) (c1 := c1) (c2 := c2) W (hS.imp_ hW (fun _ _ h => h)))
  have hOuA := Aside0.mk (fun (W : World) (hW : Below w.heap.size w W) => out_calls (t := t) (A1 := A1) (A2 := A2) (c1 := c1) (c2 := c2) W (hC.imp_ hW (fun _ _ h => h)) h2)
  have hTwA := Aside0.mk (fun (W : World) (hW : Below w.heap.size w W) => twice_calls (t := t) (A1 := A1) (A2 := A2) (c1 := c1) (c2 := c2) W (hS.imp_ hW (fun _ _ h => h)) hc1 h1)
  have hiA := Aside0.mk (info_tx t A1 A2 c1 c2)
  have hVA := Aside0.mk hV; have hBA := Aside0.mk hB; have hXA := Aside0.mk hX
  unfold chkv
  clear hV hX hB hS hC
  generalize shaped t = b1 at *
  generalize outv t = z at *
  obtain ⟨z1, z2⟩ := z
  generalize twice t.sp = b2 at *
  have e0 : w.alloc (.cells #[.slice A1 t.sp.length c1, .slice A2 t.co.length c2, .bool t.firm] 25) = V := hVA.out.symm
  have e0A := Aside0.mk e0
  clear e0
  cases b1
  · go_enter Try.func14, Try.ntmps14
    go_wp2_with (first | ((with_reducible refine gate_dst (N := 5) rfl ?_); (rw [e0A.out]; refine wpList_load_blk rfl 25 (.tmp 1) rfl w.heap.size 25 rfl (trc t A1 A2 c1 c2) _ hXA.out Try.underlying25 rfl hiA.out ?_)) | (go_at_call 27; (with_reducible refine (hShA.out _ hBA.out).mono ?_); rintro e w2 ⟨rfl, hb⟩; have hb2A := Aside0.mk (below_then hBA.out hBA.out.size hb); clear hb))
    go_ret
    exact ⟨rfl, hb2A.out⟩
  · cases z2 with
    | some x =>
      simp only [Go.Proofs.Ytlgfekllkahfaaa.Q.errW] at hOuA
      go_enter Try.func14, Try.ntmps14
      go_wp2_with (first | ((with_reducible refine gate_dst (N := 5) rfl ?_); (rw [e0A.out]; refine wpList_load_blk rfl 25 (.tmp 1) rfl w.heap.size 25 rfl (trc t A1 A2 c1 c2) _ hXA.out Try.underlying25 rfl hiA.out ?_)) | (go_at_call 27; (with_reducible refine (hShA.out _ hBA.out).mono ?_); rintro e w2 ⟨rfl, hb⟩; have hX2A := Aside0.mk (hXA.out.below hb); have hb2A := Aside0.mk (below_then hBA.out hBA.out.size hb); clear hb) | ((with_reducible refine gate_dst (N := 10) rfl ?_); (refine wpList_load_blk rfl 25 (.tmp 1) rfl w.heap.size 25 rfl (trc t A1 A2 c1 c2) _ hX2A.out Try.underlying25 rfl hiA.out ?_)) | (go_at_call 11; (with_reducible refine (hOuA.out _ hb2A.out).mono ?_); rintro e w3 ⟨rfl, hb⟩; have hb3A := Aside0.mk (below_then hb2A.out hb2A.out.size hb); clear hb))
      go_ret
      exact ⟨rfl, hb3A.out⟩
    | none =>
      simp only [Go.Proofs.Ytlgfekllkahfaaa.Q.errW] at hOuA
      cases b2
      · go_enter Try.func14, Try.ntmps14
        go_wp2_with (first | ((with_reducible refine gate_dst (N := 5) rfl ?_); (rw [e0A.out]; refine wpList_load_blk rfl 25 (.tmp 1) rfl w.heap.size 25 rfl (trc t A1 A2 c1 c2) _ hXA.out Try.underlying25 rfl hiA.out ?_)) | (go_at_call 27; (with_reducible refine (hShA.out _ hBA.out).mono ?_); rintro e w2 ⟨rfl, hb⟩; have hX2A := Aside0.mk (hXA.out.below hb); have hb2A := Aside0.mk (below_then hBA.out hBA.out.size hb); clear hb) | ((with_reducible refine gate_dst (N := 10) rfl ?_); (refine wpList_load_blk rfl 25 (.tmp 1) rfl w.heap.size 25 rfl (trc t A1 A2 c1 c2) _ hX2A.out Try.underlying25 rfl hiA.out ?_)) | (go_at_call 11; (with_reducible refine (hOuA.out _ hb2A.out).mono ?_); rintro e w3 ⟨rfl, hb⟩; have hb3A := Aside0.mk (below_then hb2A.out hb2A.out.size hb); have hX3A := Aside0.mk (hX2A.out.below hb); clear hb) | ((with_reducible refine gate_dst (N := 17) rfl ?_); (refine wpList_load_blk rfl 25 (.tmp 1) rfl w.heap.size 25 rfl (trc t A1 A2 c1 c2) _ hX3A.out Try.underlying25 rfl hiA.out ?_)) | (go_at_call 28; (with_reducible refine (hTwA.out _ hb3A.out).mono ?_); rintro e w4 ⟨rfl, hb⟩; have hb4A := Aside0.mk (below_then hb3A.out hb3A.out.size hb); clear hb))
        go_ret
        exact ⟨rfl, hb4A.out⟩
      · go_enter Try.func14, Try.ntmps14
        go_wp2_with (first | ((with_reducible refine gate_dst (N := 5) rfl ?_); (rw [e0A.out]; refine wpList_load_blk rfl 25 (.tmp 1) rfl w.heap.size 25 rfl (trc t A1 A2 c1 c2) _ hXA.out Try.underlying25 rfl hiA.out ?_)) | (go_at_call 27; (with_reducible refine (hShA.out _ hBA.out).mono ?_); rintro e w2 ⟨rfl, hb⟩; have hX2A := Aside0.mk (hXA.out.below hb); have hb2A := Aside0.mk (below_then hBA.out hBA.out.size hb); clear hb) | ((with_reducible refine gate_dst (N := 10) rfl ?_); (refine wpList_load_blk rfl 25 (.tmp 1) rfl w.heap.size 25 rfl (trc t A1 A2 c1 c2) _ hX2A.out Try.underlying25 rfl hiA.out ?_)) | (go_at_call 11; (with_reducible refine (hOuA.out _ hb2A.out).mono ?_); rintro e w3 ⟨rfl, hb⟩; have hb3A := Aside0.mk (below_then hb2A.out hb2A.out.size hb); have hX3A := Aside0.mk (hX2A.out.below hb); clear hb) | ((with_reducible refine gate_dst (N := 17) rfl ?_); (refine wpList_load_blk rfl 25 (.tmp 1) rfl w.heap.size 25 rfl (trc t A1 A2 c1 c2) _ hX3A.out Try.underlying25 rfl hiA.out ?_)) | (go_at_call 28; (with_reducible refine (hTwA.out _ hb3A.out).mono ?_); rintro e w4 ⟨rfl, hb⟩; have hb4A := Aside0.mk (below_then hb3A.out hb3A.out.size hb); clear hb))
        go_ret
        exact ⟨rfl, hb4A.out⟩
end
end Go.Proofs.Ytlgfekllkahfaaa.Pack
/- Lists compared; transactions compared. -/
set_option linter.unusedVariables false
set_option linter.unusedSimpArgs false
namespace Go.Proofs.Ytlgfekllkahfaaa.Pack
open Go.RowKit Go.Proofs.YtlgfekllkahfaaaW.PrintWords Go.Proofs.YtlgfekllkahfaaaW.PrintMore Go.Proofs.Ytlgfekllkahfaaa Go.Proofs.Ytlgfekllkahfaaa.Bits Sha ArrK ShaW
open Go.Proofs.Ytlgfekllkahfaaa.InRound (op_at)
set_option maxRecDepth 100000 in
set_option maxHeartbeats 1600000 in
theorem equalS_calls (w : World) (l l' : List Sp) (A B : Option Addr) (c d : Nat) (hS : SpR0 w A l.length l) (hS' : SpR0 w B l'.length l') : Calls Try.prog 29 #[.slice A l.length c, .slice B l'.length d] w fun e w' => e = .returned (.bool (decide (l.length = l'.length) && alike eqS l l')) ∧ Below w.heap.size w w' := by
  by_cases q : l.length = l'.length
  · have hl1 : l'.length = l.length := q.symm
    have hn : l.length ≤ 9223372036854775807 := hS.2.1
    have hSA := Aside0.mk hS; have hSA' := Aside0.mk hS'; have hl1A := Aside0.mk hl1
    rw [hl1]
    clear hS hS' hl1 q
    go_enter Try.func29, Try.ntmps29
    go_wp2_with fail
    go_loopw [13] (fun i wr => ∃ k : Nat, k ≤ l.length ∧ i = .int .i64 (k : Int) ∧ ((l.zip l').take k).all (fun p => eqS p.1 p.2) = true ∧ Below w.heap.size w wr) (fun i _ => l.length - (intOf i).toNat)
    case atStart => exact ⟨0, by omega, rfl, by simp, Below.refl _ _⟩
    case round =>
      obtain ⟨k, hk, rfl, hall, hB2⟩ := hrel
      have hB2A := Aside0.mk hB2
      clear hB2
      by_cases hlt : k < l.length
      · obtain ⟨s, hs⟩ : ∃ s, l[k]? = some s := ⟨_, List.getElem?_eq_getElem hlt⟩
        obtain ⟨s', hs'⟩ : ∃ s', l'[k]? = some s' := ⟨_, List.getElem?_eq_getElem (by have := hl1A.out; omega)⟩
        obtain ⟨ad, cc, rfl, ⟨hok, -⟩, -, -⟩ := row_at hSA.out k s hs
        obtain ⟨ad', cc', rfl, ⟨hok', -⟩, -, -⟩ := row_at hSA'.out k s' hs'
        have haA : Aside0 (∀ W, Below w.heap.size w W → ∀ (j : Nat) u, (spc s)[j]? = some u → W.cell? ((ad.add (k * 35)).add j) = some u) := Aside0.mk (fun W hW => by
          obtain ⟨_, _, e, ⟨-, rfl⟩, -, h⟩ := row_at (hSA.out.imp_ hW (fun _ _ h => h)) k s hs
          cases e
          exact h)
        have hbA : Aside0 (∀ W, Below w.heap.size w W → ∀ (j : Nat) u, (spc s')[j]? = some u → W.cell? ((ad'.add (k * 35)).add j) = some u) := Aside0.mk (fun W hW => by
          obtain ⟨_, _, e, ⟨-, rfl⟩, -, h⟩ := row_at (hSA'.out.imp_ hW (fun _ _ h => h)) k s' hs'
          cases e
          exact h)
        have p0 : (0 : Int) ≤ (k : Int) := by omega
        have p1 : (k : Int) < (l.length : Int) := by omega
        have e2 : IntKind.i64.wrap ((k : Int) + 1) = (k : Int) + 1 := IntWalk.i64_in _ (by omega)
        have hnx := alike_take eqS l l' k s s' hs hs'
        have hno := alike_no eqS l l' k s s' hs hs'
        rw [hall, Bool.true_and] at hnx
        obtain ⟨o, ho⟩ : ∃ o, eqS s s' = o := ⟨_, rfl⟩
        rw [ho] at hnx hno
        have hnxA := Aside0.mk hnx; have hnoA := Aside0.mk hno; have hoA := Aside0.mk ho; have hokA := Aside0.mk hok; have hokA' := Aside0.mk hok'
        clear hnx hno ho hok hok' hs hs' hall
        go_wp2_with fail
        refine wp_region_noPanic ?_
        have H0 : Below w.heap.size w wr.drew := pw_below_drewN hB2A.out 1
        refine wp_region_held_drew (S := fun V1 => Below w.heap.size w V1) (by kernel_rfl) H0 (fun _ => ?_)
        generalize wr.drew = V0 at *
        refine wpAnyH_take (i := 0) (v := .slice (some ad) l.length c) (op_at rfl) (by kernel_rfl) (by kernel_rfl) (by kernel_rfl) (fun _ _ _ h => h) (Or.inl ⟨by rfl, fun w_ hSw => ?_⟩) H0 ?_
        · skip; go_simp
        try simp only [Act.put, List.setIfInBounds_toArray, List.set_cons_zero, List.set_cons_succ]
        refine wpAnyH_take (i := 1) (v := .int .i64 (k : Int)) (op_at rfl) (by kernel_rfl) (by kernel_rfl) (by kernel_rfl) (fun _ _ _ h => h) (Or.inl ⟨by rfl, fun w_ hSw => ?_⟩) H0 ?_
        · skip; go_simp
        try simp only [Act.put, List.setIfInBounds_toArray, List.set_cons_zero, List.set_cons_succ]
        refine wpAnyH_take (i := 2) (v := .pointer (some (ad.add (k * 35)))) (op_at rfl) (by kernel_rfl) (by kernel_rfl) (by kernel_rfl) (fun _ _ _ h => h) (Or.inl ⟨by rfl, fun w_ hSw => ?_⟩) H0 ?_
        · skip; go_simp
        try simp only [Act.put, List.setIfInBounds_toArray, List.set_cons_zero, List.set_cons_succ]
        refine wpAnyH_take (i := 3) (v := .agg (spc s).toArray) (op_at rfl) (by kernel_rfl) (by kernel_rfl) (by kernel_rfl) (fun _ _ _ h => h) (yieldsIf_load_any (by rfl) _ _ rfl (ad.add (k * 35)) rfl _ _ (fun w_ hSw => haA.out w_ hSw) Try.underlying36 rfl (info_spend s (by first | exact hokA.out.1 | exact hokA'.out.1))) H0 ?_
        try simp only [Act.put, List.setIfInBounds_toArray, List.set_cons_zero, List.set_cons_succ]
        refine wpAnyH_take (i := 4) (v := .slice (some ad') l.length d) (op_at rfl) (by kernel_rfl) (by kernel_rfl) (by kernel_rfl) (fun _ _ _ h => h) (Or.inl ⟨by rfl, fun w_ hSw => ?_⟩) H0 ?_
        · skip; go_simp
        try simp only [Act.put, List.setIfInBounds_toArray, List.set_cons_zero, List.set_cons_succ]
        refine wpAnyH_take (i := 5) (v := .int .i64 (k : Int)) (op_at rfl) (by kernel_rfl) (by kernel_rfl) (by kernel_rfl) (fun _ _ _ h => h) (Or.inl ⟨by rfl, fun w_ hSw => ?_⟩) H0 ?_
        · skip; go_simp
        try simp only [Act.put, List.setIfInBounds_toArray, List.set_cons_zero, List.set_cons_succ]
        refine wpAnyH_take (i := 6) (v := .pointer (some (ad'.add (k * 35)))) (op_at rfl) (by kernel_rfl) (by kernel_rfl) (by kernel_rfl) (fun _ _ _ h => h) (Or.inl ⟨by rfl, fun w_ hSw => ?_⟩) H0 ?_
        · skip; go_simp
        try simp only [Act.put, List.setIfInBounds_toArray, List.set_cons_zero, List.set_cons_succ]
        refine wpAnyH_take (i := 7) (v := .agg (spc s').toArray) (op_at rfl) (by kernel_rfl) (by kernel_rfl) (by kernel_rfl) (fun _ _ _ h => h) (yieldsIf_load_any (by rfl) _ _ rfl (ad'.add (k * 35)) rfl _ _ (fun w_ hSw => hbA.out w_ hSw) Try.underlying36 rfl (info_spend s' (by first | exact hokA.out.1 | exact hokA'.out.1))) H0 ?_
        try simp only [Act.put, List.setIfInBounds_toArray, List.set_cons_zero, List.set_cons_succ]
        refine wpAnyH_take (i := 8) (v := .bool (!o)) (op_at rfl) (by kernel_rfl) (by kernel_rfl) (by kernel_rfl) (fun _ _ _ h => h) (Or.inl ⟨by rfl, fun w_ hSw => (by rw [← hoA.out]; exact exec_neq_spend (.tmp 19) (.tmp 23) rfl s s' rfl rfl hokA.out.1 hokA'.out.1 w_)⟩) H0 ?_
        try simp only [Act.put, List.setIfInBounds_toArray, List.set_cons_zero, List.set_cons_succ]
        refine wpAnyH_done (by kernel_rfl) ?_ _
        refine NoPanic.normal ?_
        cases o
        · go_wp2
          go_ret
          exact ⟨by rw [hnoA.out (by trivial)]; rfl, H0⟩
        · go_wp2
          go_roundw
          · exact ⟨k + 1, by omega, by go_num, hnxA.out, H0⟩
          · simp [intOf]; omega
      · obtain rfl : k = l.length := by omega
        have p1 : ¬ (l.length : Int) < (l.length : Int) := by omega
        have hfin : alike eqS l l' = true := by
          unfold alike
          rw [List.take_of_length_le (by rw [List.length_zip]; omega)] at hall
          exact hall
        have hfinA := Aside0.mk hfin
        clear hfin hall
        go_wp2_with fail
        go_ret
        exact ⟨by rw [hfinA.out]; rfl, hB2A.out⟩
  · have p1 : ¬ (l.length : Int) = (l'.length : Int) := by omega
    have hf : (decide (l.length = l'.length) && alike eqS l l') = false := by simp [q]
    have hfA := Aside0.mk hf
    clear hf hS hS'
    go_enter Try.func29, Try.ntmps29
    go_wp2_with fail
    go_ret
    exact ⟨by rw [hfA.out]; rfl, Below.refl _ _⟩
set_option maxRecDepth 100000 in
set_option maxHeartbeats 1600000 in
theorem equalC_calls (w : World) (l l' : List Co) (A B : Option Addr) (c d : Nat) (hS : CoR w A l.length l) (hS' : CoR w B l'.length l') : Calls Try.prog 30 #[.slice A l.length c, .slice B l'.length d] w fun e w' => e = .returned (.bool (decide (l.length = l'.length) && alike eqC l l')) ∧ Below w.heap.size w w' := by
  by_cases q : l.length = l'.length
  · have hl1 : l'.length = l.length := q.symm
    have hn : l.length ≤ 9223372036854775807 := hS.2.1
    have hSA := Aside0.mk hS; have hSA' := Aside0.mk hS'; have hl1A := Aside0.mk hl1
    rw [hl1]
    clear hS hS' hl1 q
    go_enter Try.func30, Try.ntmps30
    go_wp2_with fail
    go_loopw [13] (fun i wr => ∃ k : Nat, k ≤ l.length ∧ i = .int .i64 (k : Int) ∧ ((l.zip l').take k).all (fun p => eqC p.1 p.2) = true ∧ Below w.heap.size w wr) (fun i _ => l.length - (intOf i).toNat)
    case atStart => exact ⟨0, by omega, rfl, by simp, Below.refl _ _⟩
    case round =>
      obtain ⟨k, hk, rfl, hall, hB2⟩ := hrel
      have hB2A := Aside0.mk hB2
      clear hB2
      by_cases hlt : k < l.length
      · obtain ⟨s, hs⟩ : ∃ s, l[k]? = some s := ⟨_, List.getElem?_eq_getElem hlt⟩
        obtain ⟨s', hs'⟩ : ∃ s', l'[k]? = some s' := ⟨_, List.getElem?_eq_getElem (by have := hl1A.out; omega)⟩
        obtain ⟨ad, cc, rfl, ⟨hok, -⟩, -, -⟩ := row_at hSA.out k s hs
        obtain ⟨ad', cc', rfl, ⟨hok', -⟩, -, -⟩ := row_at hSA'.out k s' hs'
        have haA : Aside0 (∀ W, Below w.heap.size w W → ∀ (j : Nat) u, (coc s)[j]? = some u → W.cell? ((ad.add (k * 2)).add j) = some u) := Aside0.mk (fun W hW => by
          obtain ⟨_, _, e, ⟨-, rfl⟩, -, h⟩ := row_at (hSA.out.imp_ hW (fun _ _ h => h)) k s hs
          cases e
          exact h)
        have hbA : Aside0 (∀ W, Below w.heap.size w W → ∀ (j : Nat) u, (coc s')[j]? = some u → W.cell? ((ad'.add (k * 2)).add j) = some u) := Aside0.mk (fun W hW => by
          obtain ⟨_, _, e, ⟨-, rfl⟩, -, h⟩ := row_at (hSA'.out.imp_ hW (fun _ _ h => h)) k s' hs'
          cases e
          exact h)
        have p0 : (0 : Int) ≤ (k : Int) := by omega
        have p1 : (k : Int) < (l.length : Int) := by omega
        have e2 : IntKind.i64.wrap ((k : Int) + 1) = (k : Int) + 1 := IntWalk.i64_in _ (by omega)
        have hnx := alike_take eqC l l' k s s' hs hs'
        have hno := alike_no eqC l l' k s s' hs hs'
        rw [hall, Bool.true_and] at hnx
        obtain ⟨o, ho⟩ : ∃ o, eqC s s' = o := ⟨_, rfl⟩
        rw [ho] at hnx hno
        have hnxA := Aside0.mk hnx; have hnoA := Aside0.mk hno; have hoA := Aside0.mk ho; have hokA := Aside0.mk hok; have hokA' := Aside0.mk hok'
        clear hnx hno ho hok hok' hs hs' hall
        go_wp2_with fail
        refine wp_region_noPanic ?_
        have H0 : Below w.heap.size w wr.drew := pw_below_drewN hB2A.out 1
        refine wp_region_held_drew (S := fun V1 => Below w.heap.size w V1) (by kernel_rfl) H0 (fun _ => ?_)
        generalize wr.drew = V0 at *
        refine wpAnyH_take (i := 0) (v := .slice (some ad) l.length c) (op_at rfl) (by kernel_rfl) (by kernel_rfl) (by kernel_rfl) (fun _ _ _ h => h) (Or.inl ⟨by rfl, fun w_ hSw => ?_⟩) H0 ?_
        · skip; go_simp
        try simp only [Act.put, List.setIfInBounds_toArray, List.set_cons_zero, List.set_cons_succ]
        refine wpAnyH_take (i := 1) (v := .int .i64 (k : Int)) (op_at rfl) (by kernel_rfl) (by kernel_rfl) (by kernel_rfl) (fun _ _ _ h => h) (Or.inl ⟨by rfl, fun w_ hSw => ?_⟩) H0 ?_
        · skip; go_simp
        try simp only [Act.put, List.setIfInBounds_toArray, List.set_cons_zero, List.set_cons_succ]
        refine wpAnyH_take (i := 2) (v := .pointer (some (ad.add (k * 2)))) (op_at rfl) (by kernel_rfl) (by kernel_rfl) (by kernel_rfl) (fun _ _ _ h => h) (Or.inl ⟨by rfl, fun w_ hSw => ?_⟩) H0 ?_
        · skip; go_simp
        try simp only [Act.put, List.setIfInBounds_toArray, List.set_cons_zero, List.set_cons_succ]
        refine wpAnyH_take (i := 3) (v := .agg (coc s).toArray) (op_at rfl) (by kernel_rfl) (by kernel_rfl) (by kernel_rfl) (fun _ _ _ h => h) (yieldsIf_load_any (by rfl) _ _ rfl (ad.add (k * 2)) rfl _ _ (fun w_ hSw => haA.out w_ hSw) Try.underlying38 rfl (info_coin s)) H0 ?_
        try simp only [Act.put, List.setIfInBounds_toArray, List.set_cons_zero, List.set_cons_succ]
        refine wpAnyH_take (i := 4) (v := .slice (some ad') l.length d) (op_at rfl) (by kernel_rfl) (by kernel_rfl) (by kernel_rfl) (fun _ _ _ h => h) (Or.inl ⟨by rfl, fun w_ hSw => ?_⟩) H0 ?_
        · skip; go_simp
        try simp only [Act.put, List.setIfInBounds_toArray, List.set_cons_zero, List.set_cons_succ]
        refine wpAnyH_take (i := 5) (v := .int .i64 (k : Int)) (op_at rfl) (by kernel_rfl) (by kernel_rfl) (by kernel_rfl) (fun _ _ _ h => h) (Or.inl ⟨by rfl, fun w_ hSw => ?_⟩) H0 ?_
        · skip; go_simp
        try simp only [Act.put, List.setIfInBounds_toArray, List.set_cons_zero, List.set_cons_succ]
        refine wpAnyH_take (i := 6) (v := .pointer (some (ad'.add (k * 2)))) (op_at rfl) (by kernel_rfl) (by kernel_rfl) (by kernel_rfl) (fun _ _ _ h => h) (Or.inl ⟨by rfl, fun w_ hSw => ?_⟩) H0 ?_
        · skip; go_simp
        try simp only [Act.put, List.setIfInBounds_toArray, List.set_cons_zero, List.set_cons_succ]
        refine wpAnyH_take (i := 7) (v := .agg (coc s').toArray) (op_at rfl) (by kernel_rfl) (by kernel_rfl) (by kernel_rfl) (fun _ _ _ h => h) (yieldsIf_load_any (by rfl) _ _ rfl (ad'.add (k * 2)) rfl _ _ (fun w_ hSw => hbA.out w_ hSw) Try.underlying38 rfl (info_coin s')) H0 ?_
        try simp only [Act.put, List.setIfInBounds_toArray, List.set_cons_zero, List.set_cons_succ]
        refine wpAnyH_take (i := 8) (v := .bool (!o)) (op_at rfl) (by kernel_rfl) (by kernel_rfl) (by kernel_rfl) (fun _ _ _ h => h) (Or.inl ⟨by rfl, fun w_ hSw => (by rw [← hoA.out]; exact exec_neq_coin (.tmp 19) (.tmp 23) rfl s s' rfl rfl w_)⟩) H0 ?_
        try simp only [Act.put, List.setIfInBounds_toArray, List.set_cons_zero, List.set_cons_succ]
        refine wpAnyH_done (by kernel_rfl) ?_ _
        refine NoPanic.normal ?_
        cases o
        · go_wp2
          go_ret
          exact ⟨by rw [hnoA.out (by trivial)]; rfl, H0⟩
        · go_wp2
          go_roundw
          · exact ⟨k + 1, by omega, by go_num, hnxA.out, H0⟩
          · simp [intOf]; omega
      · obtain rfl : k = l.length := by omega
        have p1 : ¬ (l.length : Int) < (l.length : Int) := by omega
        have hfin : alike eqC l l' = true := by
          unfold alike
          rw [List.take_of_length_le (by rw [List.length_zip]; omega)] at hall
          exact hall
        have hfinA := Aside0.mk hfin
        clear hfin hall
        go_wp2_with fail
        go_ret
        exact ⟨by rw [hfinA.out]; rfl, hB2A.out⟩
  · have p1 : ¬ (l.length : Int) = (l'.length : Int) := by omega
    have hf : (decide (l.length = l'.length) && alike eqC l l') = false := by simp [q]
    have hfA := Aside0.mk hf
    clear hf hS hS'
    go_enter Try.func30, Try.ntmps30
    go_wp2_with fail
    go_ret
    exact ⟨by rw [hfA.out]; rfl, Below.refl _ _⟩
/-- are two transactions the same? -/
def sameT (a b : Tr) : Bool := (decide (a.sp.length = b.sp.length) && alike eqS a.sp b.sp) && ((decide (a.co.length = b.co.length) && alike eqC a.co b.co) && (a.firm == b.firm))
section
variable {a b : Tr} {A1 A2 B1 B2 : Option Addr} {c1 c2 d1 d2 : Nat}
set_option maxRecDepth 100000 in
set_option maxHeartbeats 800000 in
theorem txsame_calls (w : World) (hS : SpR0 w A1 a.sp.length a.sp) (hC : CoR w A2 a.co.length a.co) (hS' : SpR0 w B1 b.sp.length b.sp) (hC' : CoR w B2 b.co.length b.co) :
    Calls Try.prog 16 #[trv a A1 A2 c1 c2, trv b B1 B2 d1 d2] w fun e w' => e = .returned (.bool (sameT a b)) ∧ Below w.heap.size w w' := by
  obtain ⟨V, hV⟩ : ∃ V, V = (w.alloc (.cells (trc a A1 A2 c1 c2).toArray 25)).alloc (.cells (trc b B1 B2 d1 d2).toArray 25) := ⟨_, rfl⟩
  have hX : Blk V w.heap.size 25 (trc a A1 A2 c1 c2) := by rw [hV]; exact (Blk.new w _ _).alloc _
  have hZ : Blk V (w.heap.size + 1) 25 (trc b B1 B2 d1 d2) := by
    have := Blk.new (w.alloc (.cells (trc a A1 A2 c1 c2).toArray 25)) 25 (trc b B1 B2 d1 d2)
    rw [hV]; rwa [World.size_alloc] at this
  have hB : Below w.heap.size w V := by rw [hV]; exact below_alloc (below_alloc (Below.refl _ _) _) _
  have hEsA := Aside0.mk (fun (W : World) (hW : Below w.heap.size w W) => equalS_calls W a.sp b.sp A1 B1 c1 d1 (hS.imp_ hW (fun _ _ h => h)) (hS'.imp_ hW (fun _ _ h => h)))
  have hEcA := Aside0.mk (fun (W : World) (hW : Below w.heap.size w W) => equalC_calls W a.co b.co A2 B2 c2 d2 (hC.imp_ hW (fun _ _ h => h)) (hC'.imp_ hW (fun _ _ h => h)))
  unfold sameT
  obtain ⟨sp, co, firm⟩ := a
  obtain ⟨sp', co', firm'⟩ := b
  simp only at hV hX hZ hEsA hEcA ⊢
  generalize (decide (sp.length = sp'.length) && alike eqS sp sp') = r1 at *
  generalize (decide (co.length = co'.length) && alike eqC co co') = r2 at *
  have x0 := hX.get 0 _ rfl
  have z0 := hZ.get 0 _ rfl
  have hVA := Aside0.mk hV; have hXA := Aside0.mk hX; have hZA := Aside0.mk hZ; have hBA := Aside0.mk hB
  clear hV hX hZ hB hS hC hS' hC'
  cases r1
  · go_enter Try.func16, Try.ntmps16
    go_wp2_with (first | ((with_reducible refine gate_dst (N := 5) rfl ?_); rw [show ((w.alloc (.cells #[.slice A1 sp.length c1, .slice A2 co.length c2, .bool firm] 25)).alloc (.cells #[.slice B1 sp'.length d1, .slice B2 co'.length d2, .bool firm'] 25)) = V from hVA.out.symm]) | (go_at_call 29; (with_reducible refine (hEsA.out _ hBA.out).mono ?_); rintro e w2 ⟨rfl, hb⟩; have hb2A := Aside0.mk (below_then hBA.out hBA.out.size hb); clear hb x0 z0))
    go_ret
    exact ⟨rfl, hb2A.out⟩
  · cases r2
    · go_enter Try.func16, Try.ntmps16
      go_wp2_with (first | ((with_reducible refine gate_dst (N := 5) rfl ?_); rw [show ((w.alloc (.cells #[.slice A1 sp.length c1, .slice A2 co.length c2, .bool firm] 25)).alloc (.cells #[.slice B1 sp'.length d1, .slice B2 co'.length d2, .bool firm'] 25)) = V from hVA.out.symm]) | (go_at_call 29; (with_reducible refine (hEsA.out _ hBA.out).mono ?_); rintro e w2 ⟨rfl, hb⟩; have hb2A := Aside0.mk (below_then hBA.out hBA.out.size hb); have hX2 := hXA.out.below hb; have hZ2 := hZA.out.below hb; have x1 := hX2.get 1 _ rfl; have z1 := hZ2.get 1 _ rfl; have hX2A := Aside0.mk hX2; have hZ2A := Aside0.mk hZ2; clear hb x0 z0 hX2 hZ2) | (go_at_call 30; (with_reducible refine (hEcA.out _ hb2A.out).mono ?_); rintro e w3 ⟨rfl, hb⟩; have hX3 := hX2A.out.below hb; have hZ3 := hZ2A.out.below hb; have x2 := hX3.get 2 _ rfl; have z2 := hZ3.get 2 _ rfl; have hb3A := Aside0.mk (below_then hb2A.out hb2A.out.size hb); clear hb x1 z1 hX3 hZ3))
      go_ret
      exact ⟨rfl, hb3A.out⟩
    · go_enter Try.func16, Try.ntmps16
      go_wp2_with (first | ((with_reducible refine gate_dst (N := 5) rfl ?_); rw [show ((w.alloc (.cells #[.slice A1 sp.length c1, .slice A2 co.length c2, .bool firm] 25)).alloc (.cells #[.slice B1 sp'.length d1, .slice B2 co'.length d2, .bool firm'] 25)) = V from hVA.out.symm]) | (go_at_call 29; (with_reducible refine (hEsA.out _ hBA.out).mono ?_); rintro e w2 ⟨rfl, hb⟩; have hb2A := Aside0.mk (below_then hBA.out hBA.out.size hb); have hX2 := hXA.out.below hb; have hZ2 := hZA.out.below hb; have x1 := hX2.get 1 _ rfl; have z1 := hZ2.get 1 _ rfl; have hX2A := Aside0.mk hX2; have hZ2A := Aside0.mk hZ2; clear hb x0 z0 hX2 hZ2) | (go_at_call 30; (with_reducible refine (hEcA.out _ hb2A.out).mono ?_); rintro e w3 ⟨rfl, hb⟩; have hX3 := hX2A.out.below hb; have hZ3 := hZ2A.out.below hb; have x2 := hX3.get 2 _ rfl; have z2 := hZ3.get 2 _ rfl; have hb3A := Aside0.mk (below_then hb2A.out hb2A.out.size hb); clear hb x1 z1 hX3 hZ3))
      go_ret
      exact ⟨rfl, hb3A.out⟩
set_option maxRecDepth 100000 in
set_option maxHeartbeats 800000 in
theorem numtx_calls (w : World) (hS : SpR0 w A1 a.sp.length a.sp) (hC : CoR w A2 a.co.length a.co) (hS' : SpR0 w B1 b.sp.length b.sp) (hC' : CoR w B2 b.co.length b.co) (h1 : a.sp.length ≤ 1000) (h2 : a.co.length ≤ 1000) :
    Calls Try.prog 10 #[trv a A1 A2 c1 c2, trv b B1 B2 d1 d2] w fun e w' => e = .returned (.bool (sameT a b)) ∧ Below w.heap.size w w' := by
  obtain ⟨V, hV⟩ : ∃ V, V = (w.alloc (.cells (trc a A1 A2 c1 c2).toArray 25)).alloc (.cells (trc b B1 B2 d1 d2).toArray 25) := ⟨_, rfl⟩
  have hX : Blk V w.heap.size 25 (trc a A1 A2 c1 c2) := by rw [hV]; exact (Blk.new w _ _).alloc _
  have hZ : Blk V (w.heap.size + 1) 25 (trc b B1 B2 d1 d2) := by
    have := Blk.new (w.alloc (.cells (trc a A1 A2 c1 c2).toArray 25)) 25 (trc b B1 B2 d1 d2)
    rw [hV]; rwa [World.size_alloc] at this
  have hB : Below w.heap.size w V := by rw [hV]; exact below_alloc (below_alloc (Below.refl _ _) _) _
  obtain ⟨sp, co, firm⟩ := a
  obtain ⟨sp', co', firm'⟩ := b
  simp only at hV hX hZ hS hC hS' hC' h1 h2 ⊢
  by_cases q : (sp.length = sp'.length ∧ co.length = co'.length) ∧ firm = firm'
  · obtain ⟨⟨q1, q2⟩, rfl⟩ := q
    have hsm : sameT ⟨sp, co, firm⟩ ⟨sp', co', firm⟩ = (alike eqS sp sp' && alike eqC co co') := by simp [sameT, q1, q2]
    have e : trv ⟨sp', co', firm⟩ B1 B2 d1 d2 = .agg #[.slice B1 sp.length d1, .slice B2 co.length d2, .bool firm] := by simp only [trv, q1, q2]
    rw [hsm, e]
    exact same_calls w sp sp' co co' firm A1 A2 B1 B2 c1 c2 d1 d2 hS hC (by rw [q1]; exact hS') (by rw [q2]; exact hC') h1 h2
  · have hf : sameT ⟨sp, co, firm⟩ ⟨sp', co', firm'⟩ = false := by
      by_cases h3 : sp.length = sp'.length
      · by_cases h4 : co.length = co'.length
        · have : firm ≠ firm' := fun h => q ⟨⟨h3, h4⟩, h⟩
          simp [sameT, this]
        · simp [sameT, h4]
      · simp [sameT, h3]
    have x0 := hX.get 0 _ rfl
    have z0 := hZ.get 0 _ rfl
    have x1 := hX.get 1 _ rfl
    have z1 := hZ.get 1 _ rfl
    have x2 := hX.get 2 _ rfl
    have z2 := hZ.get 2 _ rfl
    have hVA := Aside0.mk hV; have hfA := Aside0.mk hf; have hBA := Aside0.mk hB
    clear hV hX hZ hB hS hC hS' hC' hf
    by_cases h3 : sp.length = sp'.length
    · have p3 : (sp.length : Int) = (sp'.length : Int) := by omega
      by_cases h4 : co.length = co'.length
      · have p4 : (co.length : Int) = (co'.length : Int) := by omega
        have p5 : ¬ firm = firm' := fun h => q ⟨⟨h3, h4⟩, h⟩
        clear q h3 h4
        obtain ⟨rfl, rfl⟩ | ⟨rfl, rfl⟩ : (firm = true ∧ firm' = false) ∨ (firm = false ∧ firm' = true) := by cases firm <;> cases firm' <;> simp at p5 ⊢
        · go_enter Try.func10, Try.ntmps10
          go_wp2_with ((with_reducible refine gate_dst (N := 7) rfl ?_); rw [show ((w.alloc (.cells #[.slice A1 sp.length c1, .slice A2 co.length c2, .bool true] 25)).alloc (.cells #[.slice B1 sp'.length d1, .slice B2 co'.length d2, .bool false] 25)) = V from hVA.out.symm])
          go_ret
          exact ⟨by rw [hfA.out]; rfl, hBA.out⟩
        · go_enter Try.func10, Try.ntmps10
          go_wp2_with ((with_reducible refine gate_dst (N := 7) rfl ?_); rw [show ((w.alloc (.cells #[.slice A1 sp.length c1, .slice A2 co.length c2, .bool false] 25)).alloc (.cells #[.slice B1 sp'.length d1, .slice B2 co'.length d2, .bool true] 25)) = V from hVA.out.symm])
          go_ret
          exact ⟨by rw [hfA.out]; rfl, hBA.out⟩
      · have p4 : ¬ (co.length : Int) = (co'.length : Int) := by omega
        clear q h3 h4
        go_enter Try.func10, Try.ntmps10
        go_wp2_with ((with_reducible refine gate_dst (N := 7) rfl ?_); rw [show ((w.alloc (.cells #[.slice A1 sp.length c1, .slice A2 co.length c2, .bool firm] 25)).alloc (.cells #[.slice B1 sp'.length d1, .slice B2 co'.length d2, .bool firm'] 25)) = V from hVA.out.symm])
        go_ret
        exact ⟨by rw [hfA.out]; rfl, hBA.out⟩
    · have p3 : ¬ (sp.length : Int) = (sp'.length : Int) := by omega
      clear q h3
      go_enter Try.func10, Try.ntmps10
      go_wp2_with ((with_reducible refine gate_dst (N := 7) rfl ?_); rw [show ((w.alloc (.cells #[.slice A1 sp.length c1, .slice A2 co.length c2, .bool firm] 25)).alloc (.cells #[.slice B1 sp'.length d1, .slice B2 co'.length d2, .bool firm'] 25)) = V from hVA.out.symm])
      go_ret
      exact ⟨by rw [hfA.out]; rfl, hBA.out⟩
end
end Go.Proofs.Ytlgfekllkahfaaa.Pack
