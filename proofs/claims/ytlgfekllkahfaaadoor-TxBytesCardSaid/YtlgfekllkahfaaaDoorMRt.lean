/- Does a transaction spend one coin twice? Is it good? -/
import Derived.Test.YtlgfekllkahfaaaDoorMTy
import Derived.Test.YtlgfekllkahfaaaDoorMAl
import Derived.Test.YtlgfekllkahfaaaDoorQx2
import Derived.Shelf.Abstract
import Derived.Test.YtlgfekllkahfaaaDoorMPb
import Derived.Laws.BytesArg
import Derived.Laws.Tables
set_option linter.unusedVariables false
set_option linter.unusedSimpArgs false
namespace Go.Proofs.YtlgfekllkahfaaaDoor.Pack
open Go.RowKit Go.Proofs.YtlgfekllkahfaaaDoorW.PrintWords Go.Proofs.YtlgfekllkahfaaaDoorW.PrintMore Go.Proofs.YtlgfekllkahfaaaDoor Go.Proofs.YtlgfekllkahfaaaDoor.Bits Sha ArrK ShaW
/-- a point's cells -/
def ptc (s : Sp) : List Value := nums .u8 s.tx ++ [.int .i64 s.n]
theorem ptc_length (s : Sp) (h : s.tx.length = 32) : (ptc s).length = 33 := by simp [ptc, nums, h]
theorem ptc_get (s : Sp) (j : Nat) (u : Value) (h : (ptc s)[j]? = some u) : (spc s)[j]? = some u := by
  have e : spc s = ptc s ++ [.string s.key, .int .u64 s.sel] := by simp [spc, ptc]
  rw [e, List.getElem?_append_left (List.getElem?_eq_some_iff.1 h).1]; exact h
theorem info_pt (s : Sp) (h : s.tx.length = 32) : (Tryd.prog.info? 36).map (·.size) = some (ptc s).length := by rw [ptc_length s h]; kernel_rfl
/-- do two spends spend the same? -/
def samep (s o : Sp) : Bool := decide (s.tx = o.tx) && (s.n == o.n)
theorem samep_comm (s o : Sp) : samep s o = samep o s := by
  have : ∀ a b : Sp, samep a b = true → samep b a = true := fun a b h => by simp [samep] at h ⊢; exact ⟨h.1.symm, h.2.symm⟩
  rw [Bool.eq_iff_iff]; exact ⟨this _ _, this _ _⟩
theorem exec_eql_point {a : Act} {o : Oper} (x y : Operand) {tt : TypeId} (ho : o.op = .binOp .eql 36 x y tt) (s s' : Sp) (hx : a.eval x = .agg (ptc s).toArray) (hy : a.eval y = .agg (ptc s').toArray) (h1 : s.tx.length = 32) (h2 : s'.tx.length = 32) (w : World) :
    (execOp a.eval o).run Tryd.prog w = .ok (.value (.bool (samep s s'))) w := by
  have hE : ∀ W, (Op.equalIn 10000 36 (.agg (ptc s).toArray) (.agg (ptc s').toArray)).run Tryd.prog W = .ok (samep s s') W := fun W => eq_point 9997 s.tx s'.tx s.n s'.n h1 h2 W
  unfold execOp
  simp only [ho, hx, hy]
  go_simp
def tw (l : List Sp) (k : Nat) : Bool := (List.range k).any fun i => (l.take i).any fun o => samep o (l.getD i zsp)
/-- does it spend one twice? -/
def twice (l : List Sp) : Bool := tw l l.length
theorem tw_succ (l : List Sp) (k : Nat) : tw l (k + 1) = (tw l k || (l.take k).any fun o => samep o (l.getD k zsp)) := by simp [tw, List.range_succ, List.any_append]
theorem tw_le (l : List Sp) (k n : Nat) (h : tw l k = true) (hk : k ≤ n) : tw l n = true := by
  unfold tw at h ⊢
  rw [List.any_eq_true] at h ⊢
  obtain ⟨i, hi, h⟩ := h
  exact ⟨i, by rw [List.mem_range] at hi ⊢; omega, h⟩
section
variable {s o : Sp} {b : Nat}
set_option maxRecDepth 100000 in
set_option maxHeartbeats 800000 in
theorem twice1_at (W : World) (ho : o.tx.length = 32) (hs : s.tx.length = 32) (hb : Blk W b 38 (spc s)) : Calls Tryd.prog 65 #[spv o, .pointer (some ⟨b, 0, none⟩)] W fun e w' => e = .returned (.bool (samep o s)) ∧ Below W.heap.size W w' := by
  obtain ⟨V, hV⟩ : ∃ V, V = W.alloc (.cells (spc o).toArray 38) := ⟨_, rfl⟩
  have hX : Blk V W.heap.size 38 (spc o) := by rw [hV]; exact Blk.new W _ _
  have hB : Below W.heap.size W V := by rw [hV]; exact below_alloc (Below.refl _ _) _
  have hbV : Blk V b 38 (spc s) := hb.below hB
  have hVA := Aside0.mk hV; have hBA := Aside0.mk hB; have hXA := Aside0.mk hX; have hbA := Aside0.mk hbV; have hoA := Aside0.mk ho; have hsA := Aside0.mk hs
  clear hV hB hX hbV hb ho hs
  go_enter Tryd.func65, Tryd.ntmps65
  go_wp2_with (first | ((with_reducible refine gate_dst (N := 4) rfl ?_); rw [← hVA.out]) | ((with_reducible refine gate_dst (N := 5) rfl ?_); (refine wpList_load_any rfl 36 (.tmp 4) rfl ⟨W.heap.size, 0, none⟩ rfl (ptc o) _ (fun j u hu => hXA.out.add j u (ptc_get o j u hu)) Tryd.underlying36 rfl (info_pt o hoA.out) ?_)) | ((with_reducible refine gate_dst (N := 7) rfl ?_); (refine wpList_load_any rfl 36 (.tmp 6) rfl ⟨b, 0, none⟩ rfl (ptc s) _ (fun j u hu => hbA.out.add j u (ptc_get s j u hu)) Tryd.underlying36 rfl (info_pt s hsA.out) ?_)) | ((with_reducible refine gate_dst (N := 8) rfl ?_); (refine Kd.event_run rfl (exec_eql_point (.tmp 5) (.tmp 7) rfl o s rfl rfl hoA.out hsA.out _) ?_)))
  go_ret
  exact ⟨rfl, hBA.out⟩
theorem row_take {W : World} {A : Option Addr} {l : List Sp} {k : Nat} (h : SpR0 W A l.length l) (hk : k ≤ l.length) : SpR0 W A (l.take k).length (l.take k) := Kd.C_take (k := kSp) h hk
theorem contains_at {W : World} {ad : Addr} {c : Nat} {l : List Sp} {k : Nat} (h : SpR0 W (some ad) l.length l) (hk : k ≤ l.length) (hn : l.length ≤ 1000) (hs : s.tx.length = 32) (hb : Blk W b 38 (spc s)) :
    Calls Tryd.prog 32 #[.slice (some ad) k c, .func (.func 65) #[] #[.pointer (some ⟨b, 0, none⟩)]] W fun e w' => e = .returned (.bool ((l.take k).any fun o => samep o s)) ∧ Below W.heap.size W w' := by
  have hr := row_take h hk
  have hl : (l.take k).length = k := by rw [List.length_take]; omega
  have := contains_calls W (some ad) c (l.take k) 65 #[.pointer (some ⟨b, 0, none⟩)] twice_enters (fun o => samep o s) hr (by omega) (fun W' o ho hW => by
    obtain ⟨j, hj⟩ := List.mem_iff_getElem?.1 ho
    obtain ⟨_, _, _, ⟨hok, -⟩, -, -⟩ := row_at hr j o hj
    exact (twice1_at W' hok.1 hs (hb.below hW)).mono fun e w' ⟨h1, h2⟩ => ⟨h1, below_then hW hW.size h2⟩)
  rwa [hl] at this
end
section
variable {t : Tr} {A1 A2 : Option Addr} {c1 c2 : Nat}
set_option maxRecDepth 100000 in
set_option maxHeartbeats 800000 in
theorem twice_calls (w : World) (hS : SpR0 w A1 t.sp.length t.sp) (hc1 : t.sp.length ≤ c1) (hn : t.sp.length ≤ 1000) : Calls Tryd.prog 40 #[trv t A1 A2 c1 c2] w fun e w' => e = .returned (.bool (twice t.sp)) ∧ Below w.heap.size w w' := by
  obtain ⟨V, hV⟩ : ∃ V, V = w.alloc (.cells (trc t A1 A2 c1 c2).toArray 25) := ⟨_, rfl⟩
  have hX : Blk V w.heap.size 25 (trc t A1 A2 c1 c2) := by rw [hV]; exact Blk.new w _ _
  have hB : Below w.heap.size w V := by rw [hV]; exact below_alloc (Below.refl _ _) _
  obtain ⟨sp, co, firm⟩ := t
  simp only at hV hX hS hc1 hn ⊢
  have hSV : SpR0 V A1 sp.length sp := hS.imp_ hB (fun _ _ h => h)
  have g0 := hX.get 0 _ rfl
  have hVA := Aside0.mk hV; have hBA := Aside0.mk hB; have hXA := Aside0.mk hX; have hSA := Aside0.mk hSV
  clear hV hX hB hS hSV
  go_enter Tryd.func40, Tryd.ntmps40
  go_wp2_with ((with_reducible refine gate_dst (N := 5) rfl ?_); rw [show (w.alloc (.cells #[.slice A1 sp.length c1, .slice A2 co.length c2, .bool firm] 25)) = V from hVA.out.symm])
  go_loopw [8] (fun i wr => ∃ k : Nat, k ≤ sp.length ∧ i = .int .i64 (k : Int) ∧ tw sp k = false ∧ Below V.heap.size V wr) (fun i _ => sp.length - (intOf i).toNat)
  case atStart => exact ⟨0, by omega, rfl, rfl, Below.refl _ _⟩
  case round =>
    clear g0
    obtain ⟨k, hk, rfl, htw, hB2⟩ := hrel
    by_cases hlt : k < sp.length
    · obtain ⟨s, hs⟩ : ∃ s, sp[k]? = some s := ⟨_, List.getElem?_eq_getElem hlt⟩
      have hSr : SpR0 wr A1 sp.length sp := hSA.out.imp_ hB2 (fun _ _ h => h)
      obtain ⟨ad, cs, rfl, ⟨hok, rfl⟩, -, hcell⟩ := row_at hSr k s hs
      have hts := tw_succ sp k
      rw [htw, Bool.false_or, List.getD_eq_getElem?_getD, hs, Option.getD_some] at hts
      have hyes : tw sp (k + 1) = true → twice sp = true := fun h => tw_le sp (k + 1) sp.length h (by omega)
      have p0 : (0 : Int) ≤ (k : Int) := by omega
      have p1 : (k : Int) < (sp.length : Int) := by omega
      have p2 : (k : Int) ≤ (c1 : Int) := by omega
      have e2 : IntKind.i64.wrap ((k : Int) + 1) = (k : Int) + 1 := IntWalk.i64_in _ (by omega)
      have hcat := Aside0.mk (fun (W : World) (hW : Below wr.heap.size wr W) (hb : Blk W wr.heap.size 38 (spc s)) => contains_at (c := c1) (hSr.imp_ hW (fun _ _ h => h)) (by omega : k ≤ sp.length) hn hok.1 hb)
      rw [← hts] at hcat
      have hB2A := Aside0.mk hB2; have hceA := Aside0.mk hcell; have hiA := Aside0.mk (info_spend s hok.1); have honeA := Aside0.mk (spc_one s); have hllA := Aside0.mk (spc_length s hok.1); have hyesA := Aside0.mk hyes
      clear hB2 hcell hok hSr hts htw hyes hs
      obtain ⟨o, ho⟩ : ∃ o, tw sp (k + 1) = o := ⟨_, rfl⟩
      rw [ho] at hcat hyesA
      have hoA := Aside0.mk ho
      clear ho
      cases o
      · go_wp2_with (first | ((with_reducible refine gate_dst (N := 12) rfl ?_); (refine wpList_load_any rfl 38 (.tmp 11) rfl (ad.add (k * 35)) rfl (spc s) _ hceA.out Tryd.underlying38 rfl hiA.out ?_)) | (go_at_call 32; (with_reducible refine (hcat.out _ hb4A.out hX4A.out).mono ?_); rintro e w5 ⟨rfl, hb5⟩; have hb5A := Aside0.mk (below_then hb4A.out hb4A.out.size hb5); clear hb5) | (refine wpList_put_blk rfl 38 (.tmp 4) (.tmp 12) rfl wr.heap.size 38 (spc s) (spc zsp) (by rw [hllA.out]; rfl) rfl rfl (Blk.new wr 38 (spc zsp)) hiA.out honeA.out ?_; intro w4 hX4 hg4 hs4; have hb4 : Below wr.heap.size wr w4 := (below_alloc (Below.refl _ _) (.cells (spc zsp).toArray 38)).grown hg4 (by simp) (fun k e => by cases e; exact Nat.le_refl _); have g00 := (hXA.out.below (below_then hB2A.out hB2A.out.size hb4)).get 0 _ rfl; have hb4A := Aside0.mk hb4; have hX4A := Aside0.mk hX4; clear hX4 hg4 hs4 hb4))
        go_roundw
        · exact ⟨k + 1, by omega, by go_num, hoA.out, below_then hB2A.out hB2A.out.size hb5A.out⟩
        · simp [intOf]; omega
      · go_wp2_with (first | ((with_reducible refine gate_dst (N := 12) rfl ?_); (refine wpList_load_any rfl 38 (.tmp 11) rfl (ad.add (k * 35)) rfl (spc s) _ hceA.out Tryd.underlying38 rfl hiA.out ?_)) | (go_at_call 32; (with_reducible refine (hcat.out _ hb4A.out hX4A.out).mono ?_); rintro e w5 ⟨rfl, hb5⟩; have hb5A := Aside0.mk (below_then hb4A.out hb4A.out.size hb5); clear hb5) | (refine wpList_put_blk rfl 38 (.tmp 4) (.tmp 12) rfl wr.heap.size 38 (spc s) (spc zsp) (by rw [hllA.out]; rfl) rfl rfl (Blk.new wr 38 (spc zsp)) hiA.out honeA.out ?_; intro w4 hX4 hg4 hs4; have hb4 : Below wr.heap.size wr w4 := (below_alloc (Below.refl _ _) (.cells (spc zsp).toArray 38)).grown hg4 (by simp) (fun k e => by cases e; exact Nat.le_refl _); have g00 := (hXA.out.below (below_then hB2A.out hB2A.out.size hb4)).get 0 _ rfl; have hb4A := Aside0.mk hb4; have hX4A := Aside0.mk hX4; clear hX4 hg4 hs4 hb4))
        go_ret
        exact ⟨by rw [hyesA.out (by trivial)]; rfl, below_then hBA.out hBA.out.size (below_then hB2A.out hB2A.out.size hb5A.out)⟩
    · obtain rfl : k = sp.length := by omega
      have p1 : ¬ (sp.length : Int) < (sp.length : Int) := by omega
      have htwA := Aside0.mk htw
      have hB2A := Aside0.mk hB2
      clear htw hB2
      go_wp2_with fail
      go_ret
      exact ⟨by rw [show twice sp = false from htwA.out]; rfl, below_then hBA.out hBA.out.size hB2A.out⟩
/-- why it is not good; 0: it is -/
def chkv (t : Tr) : Option Int := if shaped t = true then (match (outv t).2 with | some e => some e | none => if twice t.sp = true then some 8 else none) else some 2
set_option maxRecDepth 100000 in
set_option maxHeartbeats 800000 in
theorem check_calls (w : World) (hS : SpR0 w A1 t.sp.length t.sp) (hC : CoR w A2 t.co.length t.co) (hc1 : t.sp.length ≤ c1) (h1 : t.sp.length ≤ 1000) (h2 : t.co.length ≤ 1000) :
    Calls Tryd.prog 22 #[trv t A1 A2 c1 c2] w fun e w' => e = .returned (Go.Proofs.YtlgfekllkahfaaaDoor.Q.errW (chkv t)) ∧ Below w.heap.size w w' := by
  obtain ⟨V, hV⟩ : ∃ V, V = w.alloc (.cells (trc t A1 A2 c1 c2).toArray 25) := ⟨_, rfl⟩
  have hX : Blk V w.heap.size 25 (trc t A1 A2 c1 c2) := by rw [hV]; exact Blk.new w _ _
  have hB : Below w.heap.size w V := by rw [hV]; exact below_alloc (Below.refl _ _) _
  have hShA := Aside0.mk (fun (W : World) (hW : Below w.heap.size w W) => shaped_calls (t := t) (A1 := A1) (A2 := A2) (c1 := c1) (c2 := c2) W (hS.imp_ hW (fun _ _ h => h)))
  have hOuA := Aside0.mk (fun (W : World) (hW : Below w.heap.size w W) => out_calls (t := t) (A1 := A1) (A2 := A2) (c1 := c1) (c2 := c2) W (hC.imp_ hW (fun _ _ h => h)) h2)
  have hTwA := Aside0.mk (fun (W : World) (hW : Below w.heap.size w W) => twice_calls (t := t) (A1 := A1) (A2 := A2) (c1 := c1) (c2 := c2) W (hS.imp_ hW (fun _ _ h => h)) hc1 h1)
  have hiA := Aside0.mk (info_tx t A1 A2 c1 c2)
  have hVA := Aside0.mk hV; have hBA := Aside0.mk hB; have hXA := Aside0.mk hX
  unfold chkv
  clear hV hX hB hS hC
  generalize shaped t = b1 at *
  generalize outv t = z at *
  obtain ⟨z1, z2⟩ := z
  generalize twice t.sp = b2 at *
  have e0 : w.alloc (.cells #[.slice A1 t.sp.length c1, .slice A2 t.co.length c2, .bool t.firm] 25) = V := hVA.out.symm
  have e0A := Aside0.mk e0
  clear e0
  cases b1
  · go_enter Tryd.func22, Tryd.ntmps22
    go_wp2_with (first | ((with_reducible refine gate_dst (N := 5) rfl ?_); (rw [e0A.out]; refine wpList_load_blk rfl 25 (.tmp 1) rfl w.heap.size 25 rfl (trc t A1 A2 c1 c2) _ hXA.out Tryd.underlying25 rfl hiA.out ?_)) | (go_at_call 38; (with_reducible refine (hShA.out _ hBA.out).mono ?_); rintro e w2 ⟨rfl, hb⟩; have hb2A := Aside0.mk (below_then hBA.out hBA.out.size hb); clear hb))
    go_ret
    exact ⟨rfl, hb2A.out⟩
  · cases z2 with
    | some x =>
      simp only [Go.Proofs.YtlgfekllkahfaaaDoor.Q.errW] at hOuA
      go_enter Tryd.func22, Tryd.ntmps22
      go_wp2_with (first | ((with_reducible refine gate_dst (N := 5) rfl ?_); (rw [e0A.out]; refine wpList_load_blk rfl 25 (.tmp 1) rfl w.heap.size 25 rfl (trc t A1 A2 c1 c2) _ hXA.out Tryd.underlying25 rfl hiA.out ?_)) | (go_at_call 38; (with_reducible refine (hShA.out _ hBA.out).mono ?_); rintro e w2 ⟨rfl, hb⟩; have hX2A := Aside0.mk (hXA.out.below hb); have hb2A := Aside0.mk (below_then hBA.out hBA.out.size hb); clear hb) | ((with_reducible refine gate_dst (N := 10) rfl ?_); (refine wpList_load_blk rfl 25 (.tmp 1) rfl w.heap.size 25 rfl (trc t A1 A2 c1 c2) _ hX2A.out Tryd.underlying25 rfl hiA.out ?_)) | (go_at_call 39; (with_reducible refine (hOuA.out _ hb2A.out).mono ?_); rintro e w3 ⟨rfl, hb⟩; have hb3A := Aside0.mk (below_then hb2A.out hb2A.out.size hb); clear hb))
      go_ret
      exact ⟨rfl, hb3A.out⟩
    | none =>
      simp only [Go.Proofs.YtlgfekllkahfaaaDoor.Q.errW] at hOuA
      cases b2
      · go_enter Tryd.func22, Tryd.ntmps22
        go_wp2_with (first | ((with_reducible refine gate_dst (N := 5) rfl ?_); (rw [e0A.out]; refine wpList_load_blk rfl 25 (.tmp 1) rfl w.heap.size 25 rfl (trc t A1 A2 c1 c2) _ hXA.out Tryd.underlying25 rfl hiA.out ?_)) | (go_at_call 38; (with_reducible refine (hShA.out _ hBA.out).mono ?_); rintro e w2 ⟨rfl, hb⟩; have hX2A := Aside0.mk (hXA.out.below hb); have hb2A := Aside0.mk (below_then hBA.out hBA.out.size hb); clear hb) | ((with_reducible refine gate_dst (N := 10) rfl ?_); (refine wpList_load_blk rfl 25 (.tmp 1) rfl w.heap.size 25 rfl (trc t A1 A2 c1 c2) _ hX2A.out Tryd.underlying25 rfl hiA.out ?_)) | (go_at_call 39; (with_reducible refine (hOuA.out _ hb2A.out).mono ?_); rintro e w3 ⟨rfl, hb⟩; have hb3A := Aside0.mk (below_then hb2A.out hb2A.out.size hb); have hX3A := Aside0.mk (hX2A.out.below hb); clear hb) | ((with_reducible refine gate_dst (N := 17) rfl ?_); (refine wpList_load_blk rfl 25 (.tmp 1) rfl w.heap.size 25 rfl (trc t A1 A2 c1 c2) _ hX3A.out Tryd.underlying25 rfl hiA.out ?_)) | (go_at_call 40; (with_reducible refine (hTwA.out _ hb3A.out).mono ?_); rintro e w4 ⟨rfl, hb⟩; have hb4A := Aside0.mk (below_then hb3A.out hb3A.out.size hb); clear hb))
        go_ret
        exact ⟨rfl, hb4A.out⟩
      · go_enter Tryd.func22, Tryd.ntmps22
        go_wp2_with (first | ((with_reducible refine gate_dst (N := 5) rfl ?_); (rw [e0A.out]; refine wpList_load_blk rfl 25 (.tmp 1) rfl w.heap.size 25 rfl (trc t A1 A2 c1 c2) _ hXA.out Tryd.underlying25 rfl hiA.out ?_)) | (go_at_call 38; (with_reducible refine (hShA.out _ hBA.out).mono ?_); rintro e w2 ⟨rfl, hb⟩; have hX2A := Aside0.mk (hXA.out.below hb); have hb2A := Aside0.mk (below_then hBA.out hBA.out.size hb); clear hb) | ((with_reducible refine gate_dst (N := 10) rfl ?_); (refine wpList_load_blk rfl 25 (.tmp 1) rfl w.heap.size 25 rfl (trc t A1 A2 c1 c2) _ hX2A.out Tryd.underlying25 rfl hiA.out ?_)) | (go_at_call 39; (with_reducible refine (hOuA.out _ hb2A.out).mono ?_); rintro e w3 ⟨rfl, hb⟩; have hb3A := Aside0.mk (below_then hb2A.out hb2A.out.size hb); have hX3A := Aside0.mk (hX2A.out.below hb); clear hb) | ((with_reducible refine gate_dst (N := 17) rfl ?_); (refine wpList_load_blk rfl 25 (.tmp 1) rfl w.heap.size 25 rfl (trc t A1 A2 c1 c2) _ hX3A.out Tryd.underlying25 rfl hiA.out ?_)) | (go_at_call 40; (with_reducible refine (hTwA.out _ hb3A.out).mono ?_); rintro e w4 ⟨rfl, hb⟩; have hb4A := Aside0.mk (below_then hb3A.out hb3A.out.size hb); clear hb))
        go_ret
        exact ⟨rfl, hb4A.out⟩
end
end Go.Proofs.YtlgfekllkahfaaaDoor.Pack
/- The document's worth of a transaction's coins, its check. -/
set_option linter.unusedVariables false
set_option linter.unusedSimpArgs false
namespace Go.Proofs.YtlgfekllkahfaaaDoor.Pack
open Go.RowKit Go.Proofs.YtlgfekllkahfaaaDoorW.PrintWords Go.Proofs.YtlgfekllkahfaaaDoorW.PrintMore Go.Proofs.YtlgfekllkahfaaaDoor Go.Proofs.YtlgfekllkahfaaaDoor.Bits Sha ArrK ShaW
open Go.Proofs.YtlgfekllkahfaaaDoor.InRound (op_at)
theorem rgood_f (x : Int) : Go.Proofs.YtlgfekllkahfaaaDoor.Q.gossamerref09_Good.f x = some (good x) := by
  unfold Go.Proofs.YtlgfekllkahfaaaDoor.Q.gossamerref09_Good.f good
  by_cases h : 0 ≤ x
  · rw [if_pos h]; simp [h]
  · rw [if_neg h]; simp [h]
/-- an error's number -/
def nume (x : Option Int) : Int := x.getD 0
theorem rtotal_l0 (l : List Int) : ∀ (m i : Nat) (s : Int), l.length - i ≤ m → l.length ≤ 1000000 → i ≤ l.length → good s = true → Go.Proofs.YtlgfekllkahfaaaDoor.Q.gossamerref09_Total.l0 (m + 1) l s (i : Int) = some ((totl s (l.drop i)).1, nume (totl s (l.drop i)).2) := by
  intro m
  induction m with
  | zero =>
    intro i s hm hl hi hs
    have : i = l.length := by omega
    subst this
    rw [Go.Proofs.YtlgfekllkahfaaaDoor.Q.gossamerref09_Total.l0, if_neg (by omega), List.drop_length]; rfl
  | succ m ih =>
    intro i s hm hl hi hs
    rw [Go.Proofs.YtlgfekllkahfaaaDoor.Q.gossamerref09_Total.l0]
    by_cases h : i < l.length
    · rw [if_pos (by omega), if_pos (by omega)]
      have hd : l.drop i = rd l (i : Int) :: l.drop (i + 1) := by
        rw [List.drop_eq_getElem_cons h]
        unfold rd; rw [Int.toNat_natCast, List.getD_eq_getElem?_getD, List.getElem?_eq_getElem h]; rfl
      rw [hd]
      generalize rd l (i : Int) = x
      rw [rgood_f, Option.bind_some, totl]
      by_cases g1 : good x = true
      · have h1 := good_is g1
        have h2 := good_is hs
        have hw : wrap64 (s + x) = s + x := by unfold wrap64; omega
        have hw2 : wrap64 ((i : Int) + 1) = ((i + 1 : Nat) : Int) := by unfold wrap64; omega
        rw [if_pos g1, hw, rgood_f, Option.bind_some, hw2]
        by_cases g2 : good (s + x) = true
        · rw [if_pos g2, if_pos ⟨g1, g2⟩]
          exact ih (i + 1) (s + x) (by omega) hl (by omega) g2
        · rw [if_neg g2, if_neg (fun h => g2 h.2)]; rfl
      · rw [if_neg g1, if_neg (fun h => g1 h.1)]; rfl
    · have : i = l.length := by omega
      subst this
      rw [if_neg (by omega), List.drop_length]; rfl
theorem rtotal_f (l : List Int) (hl : l.length ≤ 1000000) : Go.Proofs.YtlgfekllkahfaaaDoor.Q.gossamerref09_Total.f (l.length + 1) l = some ((totl 0 l).1, nume (totl 0 l).2) := rtotal_l0 l l.length 0 0 (by omega) hl (by omega) (by decide)
section
variable {t : Tr} {A1 A2 : Option Addr} {c1 c2 : Nat}
set_option maxRecDepth 100000 in
set_option maxHeartbeats 1600000 in
theorem rout_calls (w : World) (hC : CoR w A2 t.co.length t.co) (hn : t.co.length ≤ 1000) : Calls Tryd.prog 27 #[trv t A1 A2 c1 c2] w fun e w' => e = .returned (.tuple #[.int .i64 (outv t).1, .int .i64 (nume (outv t).2)]) ∧ Below w.heap.size w w' := by
  obtain ⟨V, hV⟩ : ∃ V, V = w.alloc (.cells (trc t A1 A2 c1 c2).toArray 25) := ⟨_, rfl⟩
  have hX : Blk V w.heap.size 25 (trc t A1 A2 c1 c2) := by rw [hV]; exact Blk.new w _ _
  have hB : Below w.heap.size w V := by rw [hV]; exact below_alloc (Below.refl _ _) _
  have hS0 : V.heap.size = w.heap.size + 1 := by rw [hV]; simp
  obtain ⟨sp, co, firm⟩ := t
  unfold outv
  simp only at hX hV hC hn ⊢
  have hVA := Aside0.mk hV; have hBA := Aside0.mk hB; have hCA := Aside0.mk hC; have hXA := Aside0.mk hX; have hS0A := Aside0.mk hS0
  clear hV hX hB hC hS0
  go_enter Tryd.func27, Tryd.ntmps27
  go_wp2_with fail
  rw [show (w.alloc (.cells #[.slice A1 sp.length c1, .slice A2 co.length c2, .bool firm] 25)) = V from hVA.out.symm]
  go_loopw [5, 4] (fun i u wr => ∃ k : Nat, k ≤ co.length ∧ i = .int .i64 (k : Int) ∧ Kd.R (Kd.int .i64) 3 wr V.heap.size (fun _ => True) u ((co.map Co.value).take k) ∧ Below V.heap.size V wr) (fun i _ _ => co.length - (intOf i).toNat)
  case atStart => exact ⟨0, by omega, rfl, Kd.R_nil _ _ _ _ _, Below.refl _ _⟩
  case round =>
    obtain ⟨k, hk, rfl, hR, hB⟩ := hrel
    have g1 := (hXA.out.below hB).get 1 _ rfl
    by_cases hlt : k < co.length
    · obtain ⟨c, hs⟩ : ∃ c, co[k]? = some c := ⟨_, List.getElem?_eq_getElem hlt⟩
      obtain ⟨ad, cc, rfl, ⟨hok, rfl⟩, -, hcell⟩ := row_at (hCA.out.imp_ (below_then hBA.out hBA.out.size hB) (fun _ _ h => h)) k c hs
      have g2 := hcell 0 _ rfl
      rw [show (ad.add (k * 2)).add 0 = ad.add (k * 2) by simp [Addr.add]] at g2
      have p0 : (0 : Int) ≤ (k : Int) := by omega
      have p1 : (k : Int) < (co.length : Int) := by omega
      have e2 : IntKind.i64.wrap ((k : Int) + 1) = (k : Int) + 1 := IntWalk.i64_in _ (by omega)
      have htk : (co.map Co.value).take (k + 1) = (co.map Co.value).take k ++ [c.value] := by
        have h : (co.map Co.value)[k]? = some c.value := by rw [List.getElem?_map, hs]; rfl
        rw [List.take_succ_eq_append_getElem (List.getElem?_eq_some_iff.1 h).1, (List.getElem?_eq_some_iff.1 h).2]
      have hll : ((co.map Co.value).take k).length ≤ 1000 := by rw [List.length_take]; omega
      have htkA := Aside0.mk htk; have hllA := Aside0.mk hll; have hRA := Aside0.mk hR; have hBrA := Aside0.mk hB
      clear hok hcell htk hll hs hR hB
      generalize (co.map Co.value).take k = l at *
      go_wp2_with (first | ((with_reducible refine gate_dst (N := 21) rfl ?_); at_builtin; (refine Kd.R_append (Kd.int .i64) (w0 := V) V.heap.size rfl (.tmp 13) (.tmp 20) 88 3 (.int .i64 0) 8 rfl Tryd.underlying88 (by kernel_rfl) rfl (by decide) (by omega) _ l c.value [.int .i64 c.value] (fun _ => True) (fun _ => False) rfl rfl rfl (fun _ hk => hk.elim) (fun _ _ => trivial) hRA.out hBrA.out hBrA.out.size (by have := hllA.out; omega) ?_; intro v3 w3 hR3 hB3 _ _; have hR3A := Aside0.mk hR3; have hB3A := Aside0.mk hB3; clear hR3 hB3 g1 g2)))
      go_roundw
      · exact ⟨k + 1, by omega, by go_num, by rw [htkA.out]; exact hR3A.out, hB3A.out⟩
      · simp [intOf]; omega
    · obtain rfl : k = co.length := by omega
      have p1 : ¬ (co.length : Int) < (co.length : Int) := by omega
      rw [List.take_of_length_le (by rw [List.length_map]; exact Nat.le_refl _)] at hR
      have hlm : (co.map Co.value).length ≤ 1000 := by rw [List.length_map]; exact hn
      obtain ⟨l, hl⟩ : ∃ l, l = co.map Co.value := ⟨_, rfl⟩
      rw [← hl] at hR hlm
      have hlA := Aside0.mk hl
      obtain ⟨A, c, rfl, hc, hCl⟩ := Kd.R_reads hR
      have hT := Aside0.mk (Go.Proofs.YtlgfekllkahfaaaDoor.Q.gossamerref09_Total.calls (l.length + 1) A c l (totl 0 l).1 (nume (totl 0 l).2) wr hCl hc (rtotal_f l (by omega)))
      obtain ⟨r, hr⟩ : ∃ r, r = totl 0 l := ⟨_, rfl⟩
      rw [← hr] at hT
      have hrA := Aside0.mk hr
      have hBrA := Aside0.mk hB
      clear hr hl hR hCl hB
      go_wp2_with (go_at_call 53; ((with_reducible refine hT.out.mono ?_); rintro e w2 ⟨rfl, hb2⟩; have hb2A := Aside0.mk hb2; clear hb2))
      go_ret2
      exact ⟨by rw [← hlA.out, ← hrA.out]; rfl, below_then hBA.out hBA.out.size (below_then hBrA.out hBrA.out.size hb2A.out.below)⟩
end
end Go.Proofs.YtlgfekllkahfaaaDoor.Pack
/- The document's check of a transaction. -/
set_option linter.unusedVariables false
set_option linter.unusedSimpArgs false
namespace Go.Proofs.YtlgfekllkahfaaaDoor.Pack
open Go.RowKit Go.Proofs.YtlgfekllkahfaaaDoorW.PrintWords Go.Proofs.YtlgfekllkahfaaaDoorW.PrintMore Go.Proofs.YtlgfekllkahfaaaDoor Go.Proofs.YtlgfekllkahfaaaDoor.Bits Sha ArrK ShaW
open Go.Proofs.YtlgfekllkahfaaaDoor.InRound (op_at)
theorem totl_err : ∀ (l : List Int) (s : Int), (totl s l).2 = none ∨ (totl s l).2 = some 9
  | [], s => Or.inl rfl
  | x :: r, s => by
    rw [totl]
    split
    · exact totl_err r _
    · exact Or.inr rfl
section
variable {t : Tr} {A1 A2 : Option Addr} {c1 c2 : Nat}
theorem odd_take (l : List Sp) (k : Nat) (s : Sp) (h : l[k]? = some s) (hn : (l.take k).any odd = false) : (l.take (k + 1)).any odd = odd s := by rw [any_take odd l k s h, hn, Bool.false_or]
set_option maxRecDepth 100000 in
set_option maxHeartbeats 1600000 in
theorem rchk_calls (w : World) (hS : SpR0 w A1 t.sp.length t.sp) (hC : CoR w A2 t.co.length t.co) (h1 : t.sp.length ≤ 1000) (h2 : t.co.length ≤ 1000) :
    Calls Tryd.prog 20 #[trv t A1 A2 c1 c2] w fun e w' => e = .returned (.int .i64 (nume (chkv t))) ∧ Below w.heap.size w w' := by
  obtain ⟨V, hV⟩ : ∃ V, V = w.alloc (.cells (trc t A1 A2 c1 c2).toArray 25) := ⟨_, rfl⟩
  have hX : Blk V w.heap.size 25 (trc t A1 A2 c1 c2) := by rw [hV]; exact Blk.new w _ _
  have hB : Below w.heap.size w V := by rw [hV]; exact below_alloc (Below.refl _ _) _
  have hOuA := Aside0.mk (fun (W : World) (hW : Below w.heap.size w W) => rout_calls (t := t) (A1 := A1) (A2 := A2) (c1 := c1) (c2 := c2) W (hC.imp_ hW (fun _ _ h => h)) h2)
  have hSV : SpR0 V A1 t.sp.length t.sp := hS.imp_ hB (fun _ _ h => h)
  have hno := @shaped_no t
  have hif := @shaped_if t
  obtain ⟨r, hr⟩ : ∃ r, nume (chkv t) = r := ⟨_, rfl⟩
  rw [hr]
  unfold chkv at hr
  have hz : (outv t).2 = none ∨ (outv t).2 = some 9 := totl_err _ _
  generalize outv t = z at *
  obtain ⟨z1, z2⟩ := z
  simp only at hz
  have hiA := Aside0.mk (info_tx t A1 A2 c1 c2)
  generalize shaped t = sb at *
  obtain ⟨sp, co, firm⟩ := t
  simp only at hX hV hOuA hSV hno hif hr h1 h2 ⊢
  have g0 := hX.get 0 _ rfl
  have g1 := hX.get 1 _ rfl
  have hVA := Aside0.mk hV; have hXA := Aside0.mk hX; have hBA := Aside0.mk hB; have hSA := Aside0.mk hSV; have hrA := Aside0.mk hr; have hnoA := Aside0.mk hno; have hifA := Aside0.mk hif
  clear hV hX hB hSV hr hno hif hS hC
  have hodd : sb = false → r = 2 := fun h => by rw [← hrA.out, h]; rfl
  by_cases q1 : sp.length < 1
  · have p1 : (sp.length : Int) < 1 := by omega
    go_enter Tryd.func20, Tryd.ntmps20
    go_wp2_with ((with_reducible refine gate_dst (N := 8) rfl ?_); rw [show (w.alloc (.cells #[.slice A1 sp.length c1, .slice A2 co.length c2, .bool firm] 25)) = V from hVA.out.symm])
    go_ret
    exact ⟨by rw [hodd (hnoA.out (.inl q1))]; rfl, hBA.out⟩
  · have p1 : ¬ (sp.length : Int) < 1 := by omega
    by_cases q2 : 8 < sp.length
    · have p2 : (8 : Int) < (sp.length : Int) := by omega
      go_enter Tryd.func20, Tryd.ntmps20
      go_wp2_with ((with_reducible refine gate_dst (N := 8) rfl ?_); rw [show (w.alloc (.cells #[.slice A1 sp.length c1, .slice A2 co.length c2, .bool firm] 25)) = V from hVA.out.symm])
      go_ret
      exact ⟨by rw [hodd (hnoA.out (.inr (.inl q2)))]; rfl, hBA.out⟩
    · have p2 : ¬ (8 : Int) < (sp.length : Int) := by omega
      by_cases q3 : co.length < 1
      · have p3 : (co.length : Int) < 1 := by omega
        go_enter Tryd.func20, Tryd.ntmps20
        go_wp2_with ((with_reducible refine gate_dst (N := 8) rfl ?_); rw [show (w.alloc (.cells #[.slice A1 sp.length c1, .slice A2 co.length c2, .bool firm] 25)) = V from hVA.out.symm])
        go_ret
        exact ⟨by rw [hodd (hnoA.out (.inr (.inr (.inl q3))))]; rfl, hBA.out⟩
      · have p3 : ¬ (co.length : Int) < 1 := by omega
        by_cases q4 : 8 < co.length
        · have p4 : (8 : Int) < (co.length : Int) := by omega
          go_enter Tryd.func20, Tryd.ntmps20
          go_wp2_with ((with_reducible refine gate_dst (N := 8) rfl ?_); rw [show (w.alloc (.cells #[.slice A1 sp.length c1, .slice A2 co.length c2, .bool firm] 25)) = V from hVA.out.symm])
          go_ret
          exact ⟨by rw [hodd (hnoA.out (.inr (.inr (.inr q4))))]; rfl, hBA.out⟩
        · have p4 : ¬ (8 : Int) < (co.length : Int) := by omega
          have hsb : sb = !sp.any odd := hifA.out (by omega) (by omega) (by omega) (by omega)
          have hsbA := Aside0.mk hsb
          clear hsb
          go_enter Tryd.func20, Tryd.ntmps20
          go_wp2_with ((with_reducible refine gate_dst (N := 8) rfl ?_); rw [show (w.alloc (.cells #[.slice A1 sp.length c1, .slice A2 co.length c2, .bool firm] 25)) = V from hVA.out.symm])
          go_loopw [3] (fun i wr => ∃ k : Nat, k ≤ sp.length ∧ i = .int .i64 (k : Int) ∧ (sp.take k).any odd = false ∧ Below V.heap.size V wr) (fun i _ => sp.length - (intOf i).toNat)
          case atStart => exact ⟨0, by omega, rfl, by simp, Below.refl _ _⟩
          case round =>
            clear g0 g1
            obtain ⟨k, hk, rfl, hnone, hB2⟩ := hrel
            have g0 := (hXA.out.below hB2).get 0 _ rfl
            by_cases hlt : k < sp.length
            · obtain ⟨s, hs⟩ : ∃ s, sp[k]? = some s := ⟨_, List.getElem?_eq_getElem hlt⟩
              obtain ⟨ad, cc, rfl, ⟨hok, rfl⟩, -, hcell⟩ := row_at (hSA.out.imp_ hB2 (fun _ _ h => h)) k s hs
              have c33 := hcell 33 _ (spc_key s hok.1)
              have c32 := hcell 32 _ (spc_n s hok.1)
              rw [show (ad.add (k * 35)).add 33 = ⟨(ad.add (k * 35)).block, (ad.add (k * 35)).off + 33, none⟩ from rfl] at c33
              rw [show (ad.add (k * 35)).add 32 = ⟨(ad.add (k * 35)).block, (ad.add (k * 35)).off + 32, none⟩ from rfl] at c32
              have p0 : (0 : Int) ≤ (k : Int) := by omega
              have p9 : (k : Int) < (sp.length : Int) := by omega
              have e2 : IntKind.i64.wrap ((k : Int) + 1) = (k : Int) + 1 := IntWalk.i64_in _ (by omega)
              have hnx := odd_take sp k s hs hnone
              have hyes : odd s = true → sb = false := fun h => by rw [hsbA.out, List.any_eq_true.2 ⟨s, List.mem_of_getElem? hs, h⟩]; rfl
              have hnxA := Aside0.mk hnx; have hyesA := Aside0.mk hyes; have hB2A := Aside0.mk hB2
              clear hnx hyes hok hcell hnone hs hB2
              by_cases o1 : s.key.size > 32
              · have p5 : (32 : Int) < (s.key.size : Int) := by omega
                go_wp2_with fail
                go_ret
                exact ⟨by rw [hodd (hyesA.out (by simp [odd, o1]))]; rfl, below_then hBA.out hBA.out.size hB2A.out⟩
              · have p5 : ¬ (32 : Int) < (s.key.size : Int) := by omega
                by_cases o2 : s.n < 0
                · go_wp2_with fail
                  go_ret
                  exact ⟨by rw [hodd (hyesA.out (by simp [odd, o2]))]; rfl, below_then hBA.out hBA.out.size hB2A.out⟩
                · by_cases o3 : 7 < s.n
                  · go_wp2_with fail
                    go_ret
                    exact ⟨by rw [hodd (hyesA.out (by simp [odd, show s.n ≥ 8 by omega]))]; rfl, below_then hBA.out hBA.out.size hB2A.out⟩
                  · go_wp2_with fail
                    go_roundw
                    · exact ⟨k + 1, by omega, by go_num, by rw [hnxA.out]; simp [odd, o1, show ¬ s.n < 0 from o2, show ¬ s.n ≥ 8 by omega], hB2A.out⟩
                    · simp [intOf]; omega
            · obtain rfl : k = sp.length := by omega
              have p9 : ¬ (sp.length : Int) < (sp.length : Int) := by omega
              rw [List.take_of_length_le (Nat.le_refl _)] at hnone
              have hsb1 : sb = true := by rw [hsbA.out, hnone]; rfl
              have hr2 := hrA.out
              rw [hsb1, if_pos rfl] at hr2
              have hB2A := Aside0.mk hB2
              have hXrA := Aside0.mk (hXA.out.below hB2)
              clear hB2 hnone hsb1 hodd hnoA hifA hsbA hrA
              have hOrA := Aside0.mk (hOuA.out _ (below_then hBA.out hBA.out.size hB2A.out))
              clear hOuA
              rcases hz with rfl | rfl
              · simp only [nume, Option.getD] at hOrA
                go_wp2_with (first | ((with_reducible refine gate_dst (N := 66) rfl ?_); (refine wpList_load_blk rfl 25 (.tmp 1) rfl w.heap.size 25 rfl (trc ⟨sp, co, firm⟩ A1 A2 c1 c2) _ hXrA.out Tryd.underlying25 rfl hiA.out ?_)) | (go_at_call 27; (with_reducible refine hOrA.out.mono ?_); rintro e w2 ⟨rfl, hb⟩; have hb2A := Aside0.mk (below_then hB2A.out hB2A.out.size hb); clear hb g0))
                go_loopw [6] (fun i wr => ∃ k : Nat, k ≤ sp.length ∧ i = .int .i64 (k : Int) ∧ tw sp k = false ∧ Below V.heap.size V wr) (fun i _ => sp.length - (intOf i).toNat)
                case atStart => exact ⟨0, by omega, rfl, rfl, hb2A.out⟩
                case round =>
                  clear hb2A hB2A hXrA hOrA
                  obtain ⟨k, hk, rfl, htw, hB2⟩ := hrel
                  have g0 := (hXA.out.below hB2).get 0 _ rfl
                  by_cases hlt : k < sp.length
                  · obtain ⟨s, hs⟩ : ∃ s, sp[k]? = some s := ⟨_, List.getElem?_eq_getElem hlt⟩
                    have hts := tw_succ sp k
                    rw [htw, Bool.false_or, List.getD_eq_getElem?_getD, hs, Option.getD_some] at hts
                    have htsA := Aside0.mk hts
                    have p9 : (k : Int) < (sp.length : Int) := by omega
                    have e2 : IntKind.i64.wrap ((k : Int) + 1) = (k : Int) + 1 := IntWalk.i64_in _ (by omega)
                    have hB2A := Aside0.mk hB2
                    clear htw hts hB2
                    go_wp2_with fail
                    go_loopw [7] (fun i wr => ∃ j : Nat, j ≤ k ∧ i = .int .i64 (j : Int) ∧ ((sp.take k).take j).any (fun o => samep o s) = false ∧ Below V.heap.size V wr) (fun i _ => k - (intOf i).toNat)
                    case atStart => exact ⟨0, by omega, rfl, by simp, hB2A.out⟩
                    case round =>
                      clear hB2A g0
                      obtain ⟨j, hj, rfl, hnone, hB2⟩ := hrel
                      by_cases hltj : j < k
                      · obtain ⟨s', hs'⟩ : ∃ s', sp[j]? = some s' := ⟨_, List.getElem?_eq_getElem (by omega)⟩
                        obtain ⟨ad, cc, rfl, ⟨hok, rfl⟩, -, -⟩ := row_at hSA.out k s hs
                        obtain ⟨ad2, cc2, e3, ⟨hok', rfl⟩, -, -⟩ := row_at hSA.out j s' hs'
                        cases e3
                        have haA : Aside0 (∀ W, Below V.heap.size V W → ∀ (i : Nat) u, (ptc s)[i]? = some u → W.cell? ((ad.add (k * 35)).add i) = some u) := Aside0.mk (fun W hW i u hu => by
                          obtain ⟨_, _, e, ⟨-, rfl⟩, -, h⟩ := row_at (hSA.out.imp_ hW (fun _ _ h => h)) k s hs
                          cases e
                          exact h i u (ptc_get s i u hu))
                        have hbA : Aside0 (∀ W, Below V.heap.size V W → ∀ (i : Nat) u, (ptc s')[i]? = some u → W.cell? ((ad.add (j * 35)).add i) = some u) := Aside0.mk (fun W hW i u hu => by
                          obtain ⟨_, _, e, ⟨-, rfl⟩, -, h⟩ := row_at (hSA.out.imp_ hW (fun _ _ h => h)) j s' hs'
                          cases e
                          exact h i u (ptc_get s' i u hu))
                        have gaA := Aside0.mk (fun W (hW : Below V.heap.size V W) => (hXA.out.below hW).get 0 _ rfl)
                        have hst : (sp.take k)[j]? = some s' := by rw [List.getElem?_take, if_pos hltj]; exact hs'
                        have hnx := any_take (fun o => samep o s) (sp.take k) j s' hst
                        rw [hnone, Bool.false_or] at hnx
                        have hyes : samep s' s = true → r = 8 := fun h => by
                          have h5 : tw sp (k + 1) = true := by rw [htsA.out]; exact List.any_eq_true.2 ⟨s', List.mem_of_getElem? hst, h⟩
                          have h6 : twice sp = true := tw_le sp (k + 1) sp.length h5 (by omega)
                          rw [← hr2, if_pos h6]; rfl
                        rw [samep_comm s' s] at hnx hyes
                        obtain ⟨o, ho⟩ : ∃ o, samep s s' = o := ⟨_, rfl⟩
                        rw [ho] at hnx hyes
                        have p0 : (0 : Int) ≤ (k : Int) := by omega
                        have p8 : (0 : Int) ≤ (j : Int) := by omega
                        have p7 : (j : Int) < (k : Int) := by omega
                        have p6 : (j : Int) < (sp.length : Int) := by omega
                        have e4 : IntKind.i64.wrap ((j : Int) + 1) = (j : Int) + 1 := IntWalk.i64_in _ (by omega)
                        have hokA := Aside0.mk hok.1; have hokA' := Aside0.mk hok'.1; have hnxA := Aside0.mk hnx; have hyesA := Aside0.mk hyes; have hoA := Aside0.mk ho; have hB2A := Aside0.mk hB2
                        clear hok hok' hnx hyes ho hst hnone hs' hB2
                        go_wp2_with fail
                        refine wp_region_noPanic ?_
                        have H0 : Below V.heap.size V wr.drew := pw_below_drewN hB2A.out 1
                        refine wp_region_held_drew (S := fun V1 => Below V.heap.size V V1) (by kernel_rfl) H0 (fun _ => ?_)
                        generalize wr.drew = V0 at *
                        -- REGION P
                        refine wpAnyH_take (i := 0) (v := .pointer (some ⟨w.heap.size, 0, none⟩)) (op_at rfl) (by kernel_rfl) (by kernel_rfl) (by kernel_rfl) (fun _ _ _ h => h) (Or.inl ⟨by rfl, fun w_ hSw => ?_⟩) H0 ?_
                        · skip; go_simp
                        try simp only [Act.put, List.setIfInBounds_toArray, List.set_cons_zero, List.set_cons_succ]
                        refine wpAnyH_take (i := 1) (v := .slice (some ad) sp.length c1) (op_at rfl) (by kernel_rfl) (by kernel_rfl) (by kernel_rfl) (fun _ _ _ h => h) (Or.inl ⟨by rfl, fun w_ hSw => ?_⟩) H0 ?_
                        · have hc_ := gaA.out w_ hSw; go_simp
                        try simp only [Act.put, List.setIfInBounds_toArray, List.set_cons_zero, List.set_cons_succ]
                        refine wpAnyH_take (i := 2) (v := .int .i64 (k : Int)) (op_at rfl) (by kernel_rfl) (by kernel_rfl) (by kernel_rfl) (fun _ _ _ h => h) (Or.inl ⟨by rfl, fun w_ hSw => ?_⟩) H0 ?_
                        · skip; go_simp
                        try simp only [Act.put, List.setIfInBounds_toArray, List.set_cons_zero, List.set_cons_succ]
                        refine wpAnyH_take (i := 3) (v := .pointer (some (ad.add (k * 35)))) (op_at rfl) (by kernel_rfl) (by kernel_rfl) (by kernel_rfl) (fun _ _ _ h => h) (Or.inl ⟨by rfl, fun w_ hSw => ?_⟩) H0 ?_
                        · skip; go_simp
                        try simp only [Act.put, List.setIfInBounds_toArray, List.set_cons_zero, List.set_cons_succ]
                        refine wpAnyH_take (i := 4) (v := .pointer (some (ad.add (k * 35)))) (op_at rfl) (by kernel_rfl) (by kernel_rfl) (by kernel_rfl) (fun _ _ _ h => h) (Or.inl ⟨by rfl, fun w_ hSw => ?_⟩) H0 ?_
                        · skip; go_simp
                        try simp only [Act.put, List.setIfInBounds_toArray, List.set_cons_zero, List.set_cons_succ]
                        refine wpAnyH_take (i := 5) (v := .agg (ptc s).toArray) (op_at rfl) (by kernel_rfl) (by kernel_rfl) (by kernel_rfl) (fun _ _ _ h => h) (yieldsIf_load_any (by rfl) _ _ rfl (ad.add (k * 35)) rfl _ _ (fun w_ hSw => haA.out w_ hSw) Tryd.underlying36 rfl (info_pt s (by first | exact hokA.out | exact hokA'.out))) H0 ?_
                        try simp only [Act.put, List.setIfInBounds_toArray, List.set_cons_zero, List.set_cons_succ]
                        refine wpAnyH_take (i := 6) (v := .pointer (some ⟨w.heap.size, 0, none⟩)) (op_at rfl) (by kernel_rfl) (by kernel_rfl) (by kernel_rfl) (fun _ _ _ h => h) (Or.inl ⟨by rfl, fun w_ hSw => ?_⟩) H0 ?_
                        · skip; go_simp
                        try simp only [Act.put, List.setIfInBounds_toArray, List.set_cons_zero, List.set_cons_succ]
                        refine wpAnyH_take (i := 7) (v := .slice (some ad) sp.length c1) (op_at rfl) (by kernel_rfl) (by kernel_rfl) (by kernel_rfl) (fun _ _ _ h => h) (Or.inl ⟨by rfl, fun w_ hSw => ?_⟩) H0 ?_
                        · have hc_ := gaA.out w_ hSw; go_simp
                        try simp only [Act.put, List.setIfInBounds_toArray, List.set_cons_zero, List.set_cons_succ]
                        refine wpAnyH_take (i := 8) (v := .int .i64 (j : Int)) (op_at rfl) (by kernel_rfl) (by kernel_rfl) (by kernel_rfl) (fun _ _ _ h => h) (Or.inl ⟨by rfl, fun w_ hSw => ?_⟩) H0 ?_
                        · skip; go_simp
                        try simp only [Act.put, List.setIfInBounds_toArray, List.set_cons_zero, List.set_cons_succ]
                        refine wpAnyH_take (i := 9) (v := .pointer (some (ad.add (j * 35)))) (op_at rfl) (by kernel_rfl) (by kernel_rfl) (by kernel_rfl) (fun _ _ _ h => h) (Or.inl ⟨by rfl, fun w_ hSw => ?_⟩) H0 ?_
                        · skip; go_simp
                        try simp only [Act.put, List.setIfInBounds_toArray, List.set_cons_zero, List.set_cons_succ]
                        refine wpAnyH_take (i := 10) (v := .pointer (some (ad.add (j * 35)))) (op_at rfl) (by kernel_rfl) (by kernel_rfl) (by kernel_rfl) (fun _ _ _ h => h) (Or.inl ⟨by rfl, fun w_ hSw => ?_⟩) H0 ?_
                        · skip; go_simp
                        try simp only [Act.put, List.setIfInBounds_toArray, List.set_cons_zero, List.set_cons_succ]
                        refine wpAnyH_take (i := 11) (v := .agg (ptc s').toArray) (op_at rfl) (by kernel_rfl) (by kernel_rfl) (by kernel_rfl) (fun _ _ _ h => h) (yieldsIf_load_any (by rfl) _ _ rfl (ad.add (j * 35)) rfl _ _ (fun w_ hSw => hbA.out w_ hSw) Tryd.underlying36 rfl (info_pt s' (by first | exact hokA.out | exact hokA'.out))) H0 ?_
                        try simp only [Act.put, List.setIfInBounds_toArray, List.set_cons_zero, List.set_cons_succ]
                        refine wpAnyH_take (i := 12) (v := .bool o) (op_at rfl) (by kernel_rfl) (by kernel_rfl) (by kernel_rfl) (fun _ _ _ h => h) (Or.inl ⟨by rfl, fun w_ hSw => (by rw [← hoA.out]; exact exec_eql_point (.tmp 90) (.tmp 96) rfl s s' rfl rfl hokA.out hokA'.out w_)⟩) H0 ?_
                        try simp only [Act.put, List.setIfInBounds_toArray, List.set_cons_zero, List.set_cons_succ]
                        refine wpAnyH_done (by kernel_rfl) ?_ _
                        refine NoPanic.normal ?_
                        cases o
                        · go_wp2
                          go_roundw
                          · exact ⟨j + 1, by omega, by go_num, hnxA.out, H0⟩
                          · simp [intOf]; omega
                        · go_wp2
                          go_ret
                          exact ⟨by rw [hyesA.out (by trivial)]; rfl, below_then hBA.out hBA.out.size H0⟩
                        -- END P
                      · obtain rfl : j = k := by omega
                        have p7 : ¬ (j : Int) < (j : Int) := by omega
                        rw [List.take_of_length_le (by rw [List.length_take]; omega)] at hnone
                        have hB2A := Aside0.mk hB2
                        have hnoneA := Aside0.mk hnone
                        clear hB2 hnone
                        go_wp2_with fail
                        go_roundw
                        · exact ⟨j + 1, by omega, by go_num, by rw [htsA.out, hnoneA.out], hB2A.out⟩
                        · simp [intOf]; omega
                  · obtain rfl : k = sp.length := by omega
                    have p9 : ¬ (sp.length : Int) < (sp.length : Int) := by omega
                    have h6 : twice sp = false := htw
                    have hr3 : r = 0 := by rw [← hr2, h6]; rfl
                    have hr3A := Aside0.mk hr3
                    have hB2A := Aside0.mk hB2
                    clear hB2 htw h6 hr2 hr3
                    go_wp2_with fail
                    go_ret
                    exact ⟨by rw [hr3A.out]; rfl, below_then hBA.out hBA.out.size hB2A.out⟩
              · simp only [nume, Option.getD] at hOrA
                have hr3 : r = 9 := by rw [← hr2]; rfl
                have hr3A := Aside0.mk hr3
                clear hr2 hr3
                go_wp2_with (first | ((with_reducible refine gate_dst (N := 66) rfl ?_); (refine wpList_load_blk rfl 25 (.tmp 1) rfl w.heap.size 25 rfl (trc ⟨sp, co, firm⟩ A1 A2 c1 c2) _ hXrA.out Tryd.underlying25 rfl hiA.out ?_)) | (go_at_call 27; (with_reducible refine hOrA.out.mono ?_); rintro e w2 ⟨rfl, hb⟩; have hb2A := Aside0.mk (below_then hB2A.out hB2A.out.size hb); clear hb g0))
                go_ret
                exact ⟨by rw [hr3A.out]; rfl, below_then hBA.out hBA.out.size hb2A.out⟩
end
end Go.Proofs.YtlgfekllkahfaaaDoor.Pack
/- Is there a coin of which a function value says yes? -/
set_option linter.unusedVariables false
set_option linter.unusedSimpArgs false
namespace Go.Proofs.YtlgfekllkahfaaaDoor.Pack
open Go.RowKit Go.Proofs.YtlgfekllkahfaaaDoorW.PrintWords Go.Proofs.YtlgfekllkahfaaaDoorW.PrintMore Go.Proofs.YtlgfekllkahfaaaDoor Go.Proofs.YtlgfekllkahfaaaDoor.Bits Sha ArrK ShaW
theorem any_takeC (p : Co → Bool) (l : List Co) (k : Nat) (s : Co) (h : l[k]? = some s) : (l.take (k + 1)).any p = ((l.take k).any p || p s) := by
  have hk := (List.getElem?_eq_some_iff.1 h)
  rw [List.take_succ_eq_append_getElem hk.1, List.any_append, hk.2]; simp
set_option maxRecDepth 100000 in
set_option maxHeartbeats 800000 in
theorem indexC_calls (w : World) (A : Option Addr) (c : Nat) (ss : List Co) (g : Nat) (lb : Array Value) (eg : ∀ args w, (callFunc g args).run Tryd.prog w = .ok (.enter g args) w) (p : Co → Bool) (hS : CoR w A ss.length ss) (hn : ss.length ≤ 1000)
    (hp : ∀ W s, s ∈ ss → Below w.heap.size w W → Calls Tryd.prog g (#[cov s] ++ lb) W fun e w' => e = .returned (.bool (p s)) ∧ Below w.heap.size w w') :
    Calls Tryd.prog 62 #[.slice A ss.length c, .func (.func g) #[] lb] w fun e w' => (∃ z : Int, e = .returned (.int .i64 z) ∧ decide (0 ≤ z) = ss.any p) ∧ Below w.heap.size w w' := by
  have hSA := Aside0.mk hS; have hpA := Aside0.mk hp
  clear hS hp
  go_enter Tryd.func62, Tryd.ntmps62
  go_wp2_with fail
  go_loopw [8] (fun i wr => ∃ k : Nat, k ≤ ss.length ∧ i = .int .i64 (k : Int) ∧ (ss.take k).any p = false ∧ Below w.heap.size w wr) (fun i _ => ss.length - (intOf i).toNat)
  case atStart => exact ⟨0, by omega, rfl, by simp, Below.refl _ _⟩
  case round =>
    obtain ⟨k, hk, rfl, hno, hB⟩ := hrel
    have hBA := Aside0.mk hB; have hnoA := Aside0.mk hno
    clear hB hno
    by_cases hlt : k < ss.length
    · obtain ⟨s, hs⟩ : ∃ s, ss[k]? = some s := ⟨_, List.getElem?_eq_getElem hlt⟩
      obtain ⟨ad, cc, rfl, ⟨hok, rfl⟩, -, hcell⟩ := row_at (hSA.out.imp_ hBA.out (fun _ _ h => h)) k s hs
      have p0 : (0 : Int) ≤ (k : Int) := by omega
      have p1 : (k : Int) < (ss.length : Int) := by omega
      have e2 : IntKind.i64.wrap ((k : Int) + 1) = (k : Int) + 1 := IntWalk.i64_in _ (by omega)
      have hnx := any_takeC p ss k s hs
      rw [hnoA.out, Bool.false_or] at hnx
      have hcall := hpA.out wr s (List.mem_of_getElem? hs) hBA.out
      have hmem := List.mem_of_getElem? hs
      have hany : p s = true → ss.any p = true := fun h => List.any_eq_true.2 ⟨s, hmem, h⟩
      generalize p s = o at *
      have hiA := Aside0.mk (info_coin s); have hceA := Aside0.mk hcell; have hnxA := Aside0.mk hnx; have hcA := Aside0.mk hcall; have hanyA := Aside0.mk hany
      clear hok hcell hnx hcall hany hs hmem
      cases o
      · go_wp2_with (first | ((with_reducible refine gate_dst (N := 15) rfl ?_); (refine wpList_load_any rfl 52 (.tmp 14) rfl (ad.add (k * 2)) rfl (coc s) _ hceA.out Tryd.underlying52 rfl hiA.out ?_)) | (go_at_fn g; refine hcA.out.mono ?_; rintro e w2 ⟨rfl, hb2⟩; have hb2A := Aside0.mk hb2; clear hb2))
        go_roundw
        · exact ⟨k + 1, by omega, by go_num, hnxA.out, hb2A.out⟩
        · simp [intOf]; omega
      · go_wp2_with (first | ((with_reducible refine gate_dst (N := 15) rfl ?_); (refine wpList_load_any rfl 52 (.tmp 14) rfl (ad.add (k * 2)) rfl (coc s) _ hceA.out Tryd.underlying52 rfl hiA.out ?_)) | (go_at_fn g; refine hcA.out.mono ?_; rintro e w2 ⟨rfl, hb2⟩; have hb2A := Aside0.mk hb2; clear hb2))
        go_ret
        exact ⟨⟨_, rfl, by rw [hanyA.out (by trivial), decide_eq_true_iff]; omega⟩, hb2A.out⟩
    · obtain rfl : k = ss.length := by omega
      have p1 : ¬ (ss.length : Int) < (ss.length : Int) := by omega
      rw [List.take_of_length_le (Nat.le_refl _)] at hnoA
      go_wp2_with fail
      go_ret
      exact ⟨⟨-1, rfl, by rw [hnoA.out]; rfl⟩, hBA.out⟩
set_option maxRecDepth 100000 in
set_option maxHeartbeats 800000 in
theorem containsC_calls (w : World) (A : Option Addr) (c : Nat) (ss : List Co) (g : Nat) (lb : Array Value) (eg : ∀ args w, (callFunc g args).run Tryd.prog w = .ok (.enter g args) w) (p : Co → Bool) (hS : CoR w A ss.length ss) (hn : ss.length ≤ 1000)
    (hp : ∀ W s, s ∈ ss → Below w.heap.size w W → Calls Tryd.prog g (#[cov s] ++ lb) W fun e w' => e = .returned (.bool (p s)) ∧ Below w.heap.size w w') :
    Calls Tryd.prog 34 #[.slice A ss.length c, .func (.func g) #[] lb] w fun e w' => e = .returned (.bool (ss.any p)) ∧ Below w.heap.size w w' := by
  have hI := Aside0.mk (indexC_calls w A c ss g lb eg p hS hn hp)
  clear hS hp
  go_enter Tryd.func34, Tryd.ntmps34
  go_wp2_with (go_at_call 62; (with_reducible refine hI.out.mono ?_); rintro e w2 ⟨⟨z, rfl, hz⟩, hb2⟩; have hF := Aside0.mk (And.intro hz hb2); clear hz hb2)
  go_ret
  exact ⟨by rw [← hF.out.1]; rfl, hF.out.2⟩
end Go.Proofs.YtlgfekllkahfaaaDoor.Pack
/- Bytes read one after another (pack.In): what is read, the next bytes. -/
set_option linter.unusedVariables false
set_option linter.unusedSimpArgs false
namespace Go.Proofs.YtlgfekllkahfaaaDoor.Pack
open Go.RowKit Go.Proofs.YtlgfekllkahfaaaDoorW.PrintWords Go.Proofs.YtlgfekllkahfaaaDoorW.PrintMore Go.Proofs.YtlgfekllkahfaaaDoor Go.Proofs.YtlgfekllkahfaaaDoor.Bits Sha ArrK ShaW
/-- what is left to read; none: something was wrong -/
abbrev Rd := Option (List Int)
def rdNext (n : Nat) : Rd → List Int × Rd
  | some l => if n ≤ l.length then (l.take n, some (l.drop n)) else ([], none)
  | none => ([], none)
/-- a number, the lowest byte first -/
def le : List Int → Int
  | [] => 0
  | x :: r => x + 256 * le r
def rdNum (n : Nat) (r : Rd) : Int × Rd := (le (rdNext n r).1, (rdNext n r).2)
theorem le_bound : ∀ l : List Int, Bytes l → 0 ≤ le l ∧ le l < 256 ^ l.length
  | [], _ => by simp [le]
  | x :: r, h => by
    have h1 := le_bound r (fun y hy => h y (List.mem_cons_of_mem _ hy))
    have h2 := h x List.mem_cons_self
    rw [le, List.length_cons, Int.pow_succ]
    omega
theorem le_append : ∀ l m : List Int, le (l ++ m) = le l + 256 ^ l.length * le m
  | [], m => by simp [le]
  | x :: r, m => by
    rw [List.cons_append, le, le_append r m, le, List.length_cons, Int.pow_succ, Int.mul_add, ← Int.mul_assoc, Int.add_assoc]
    congr 2
    rw [Int.mul_comm (256 ^ r.length) 256]
/-- a reader in memory: P, its block; N: what it reads lies below -/
def InH (N : Nat) (w : World) (P : Nat) : Rd → Prop
  | some l => N ≤ P ∧ Bytes l ∧ ∃ A c, Blk w P 92 [.slice A l.length c, .bool false] ∧ l.length ≤ c ∧ Kd.F (Kd.int .u8) w (fun k => k < N) A l.length l
  | none => N ≤ P ∧ Blk w P 92 [.slice none 0 0, .bool true]
section
variable {N P : Nat} {w w' : World} {r : Rd}
theorem InH.le (h : InH N w P r) : N ≤ P := by cases r <;> exact h.1
theorem InH.lt (h : InH N w P r) : P < w.heap.size := by
  cases r with
  | none => exact h.2.lt
  | some l => obtain ⟨_, _, _, _, hb, _⟩ := h; exact hb.lt
theorem InH.blk (h : InH N w P r) : ∃ cs, Blk w P 92 cs := by
  cases r with
  | none => exact ⟨_, h.2⟩
  | some l => obtain ⟨_, _, _, _, hb, _⟩ := h; exact ⟨_, hb⟩
theorem InH.move (h : InH N w P r) (hm : ∀ k, k < w.heap.size → (k < N ∨ k = P) → w'.heap[k]? = w.heap[k]?) : InH N w' P r := by
  cases r with
  | none => exact ⟨h.1, (hm P h.2.lt (.inr rfl)).trans h.2⟩
  | some l =>
    obtain ⟨h1, h2, A, c, hb, hc, hF⟩ := h
    exact ⟨h1, h2, A, c, (hm P hb.lt (.inr rfl)).trans hb, hc, Kd.F_step hF (fun k hk hlt => hm k hlt (.inl hk))⟩
theorem InH.below (h : InH N w P r) (hb : Below w.heap.size w w') : InH N w' P r := h.move (fun k hk _ => hb.block k hk)
theorem InH.grown (h : InH N w P r) {row : Option Nat} (hg : w.grownBy w' row) (hr : ∀ k, row = some k → N ≤ k ∧ k ≠ P) : InH N w' P r :=
  h.move (fun k hk hkP => hg.block k hk (fun e => by
    obtain ⟨h1, h2⟩ := hr k e.symm
    rcases hkP with h3 | h3
    · omega
    · exact h2 h3))
theorem grown_set (w : World) (P j : Nat) (u : Value) : w.grownBy (w.setCell ⟨P, j, none⟩ u) (some P) :=
  ⟨rfl, rfl, rfl, by simp [World.setCell], fun k hk hne => Below.heap_setCell w ⟨P, j, none⟩ u k (fun e => hne (by rw [e]))⟩
theorem grown_trans {w1 w2 : World} {row : Option Nat} (h : w.grownBy w1 row) (h2 : w1.grownBy w2 row) : w.grownBy w2 row :=
  ⟨h2.os.trans h.os, h2.tape.trans h.tape, h2.output.trans h.output, Nat.le_trans h.size h2.size, fun k hk hne => (h2.block k (by have := h.size; omega) hne).trans (h.block k hk hne)⟩
theorem grown_refl (w : World) (row : Option Nat) : w.grownBy w row := grown_of_below (Below.refl _ _) row
set_option maxRecDepth 100000 in
set_option maxHeartbeats 400000 in
theorem fail_calls (h : InH N w P r) : Calls Tryd.prog 59 #[.pointer (some ⟨P, 0, none⟩)] w fun e w' => (∃ v, e = .returned v) ∧ InH N w' P none ∧ w.grownBy w' (some P) := by
  obtain ⟨a, b, hb⟩ : ∃ a b, Blk w P 92 [a, b] := by
    cases r with
    | none => exact ⟨_, _, h.2⟩
    | some l => obtain ⟨_, _, _, _, hb, _⟩ := h; exact ⟨_, _, hb⟩
  have hN := h.le
  have hP : ∀ W : World, (Go.binOp BinOp.neq 60 (.pointer (some ⟨P, 0, none⟩)) (.pointer none)).run Tryd.prog W = Result.ok (.bool true) W := fun W => by go_simp
  have hb1 := hb.set 1 (.bool true)
  have hb2 := hb1.set 0 (.slice none 0 0)
  have g1 := hb.get 1 _ rfl
  have f1 := hb.fz 1
  have g0 := hb1.get 0 _ rfl
  have f0 := hb1.fz 0
  have hb2A := Aside0.mk hb2
  have hNA := Aside0.mk hN
  clear hb hb1 hb2 h hN
  go_enter Tryd.func59, Tryd.ntmps59
  go_wp2
  exact bodyPost_end (results_none rfl _ _ _) rfl ⟨⟨_, rfl⟩, ⟨hNA.out, hb2A.out⟩, grown_trans (grown_set _ _ _ _) (grown_set _ _ _ _)⟩
theorem next_no {n : Nat} (h : r = none ∨ ∃ l, r = some l ∧ l.length < n) : rdNext n r = ([], none) := by
  rcases h with rfl | ⟨l, rfl, h⟩
  · rfl
  · rw [rdNext, if_neg (by omega)]
theorem next_end {l : List Int} {A B : Option Addr} {c n : Nat} {d : Value} (hN : N ≤ P) (hbt : Bytes l) (hb : Blk w P 92 [.slice A l.length c, .bool false]) (hc : l.length ≤ c) (hF : Kd.F (Kd.int .u8) w (fun k => k < N) A l.length l) (q : n ≤ l.length) (hB : B = if c = n then A else A.map (·.add n)) (hd : d = .slice B (l.length - n) (c - n)) :
    (∃ A' c', Ending.returned (.slice A n c) = .returned (.slice A' (rdNext n (some l)).1.length c') ∧ (rdNext n (some l)).1.length ≤ c' ∧ Kd.F (Kd.int .u8) (w.setCell ⟨P, 0, none⟩ d) (fun k => k < N) A' (rdNext n (some l)).1.length (rdNext n (some l)).1) ∧ InH N (w.setCell ⟨P, 0, none⟩ d) P (rdNext n (some l)).2 ∧ w.grownBy (w.setCell ⟨P, 0, none⟩ d) (some P) := by
  subst hd
  have e1 : rdNext n (some l) = (l.take n, some (l.drop n)) := by rw [rdNext, if_pos q]
  rw [e1]
  have hl : (l.take n).length = n := by rw [List.length_take]; omega
  have hd : (l.drop n).length = l.length - n := List.length_drop
  have hg := grown_set w P 0 (.slice B (l.length - n) (c - n))
  have hF2 := Kd.F_grown hF hg (fun k hk e => by cases e; omega)
  have h1 := Kd.F_take hF2 q
  have h2 := Kd.F_cut hF2 q hc
  have h3 := hb.set 0 (.slice B (l.length - n) (c - n))
  refine ⟨⟨A, c, by rw [hl], by show (l.take n).length ≤ c; omega, h1⟩, ⟨hN, fun x hx => hbt x (List.mem_of_mem_drop hx), B, c - n, ?_, by omega, ?_⟩, hg⟩
  · rw [hd]; exact h3
  · have e : (n * (Kd.int .u8).sz) = n := Nat.mul_one n
    rw [e, ← hB] at h2
    exact h2
set_option maxRecDepth 100000 in
set_option maxHeartbeats 800000 in
theorem next_calls (n : Nat) (h : InH N w P r) : Calls Tryd.prog 60 #[.pointer (some ⟨P, 0, none⟩), .int .i64 (n : Int)] w fun e w' => (∃ A c, e = .returned (.slice A (rdNext n r).1.length c) ∧ (rdNext n r).1.length ≤ c ∧ Kd.F (Kd.int .u8) w' (fun k => k < N) A (rdNext n r).1.length (rdNext n r).1) ∧ InH N w' P (rdNext n r).2 ∧ w.grownBy w' (some P) := by
  have hP : ∀ W : World, (Go.binOp BinOp.eql 60 (.pointer (some ⟨P, 0, none⟩)) (.pointer none)).run Tryd.prog W = Result.ok (.bool false) W := fun W => by go_simp
  have hf := Aside0.mk (fail_calls h)
  have p0 : ¬ (n : Int) < 0 := by omega
  cases r with
  | none =>
    have g1 := h.2.get 1 _ rfl
    clear h
    go_enter Tryd.func60, Tryd.ntmps60
    go_wp2_with (go_at_call 59; (with_reducible refine hf.out.mono ?_); rintro e w2 ⟨⟨v, rfl⟩, hI, hg⟩; have hIA := Aside0.mk hI; have hgA := Aside0.mk hg; clear hI hg g1)
    go_ret
    exact ⟨⟨none, 0, rfl, Nat.le_refl _, Kd.F_nil _ _ _⟩, hIA.out, hgA.out⟩
  | some l =>
    obtain ⟨hN, hbt, A, c, hb, hc, hF⟩ := h
    have g0 := hb.get 0 _ rfl
    have g1 := hb.get 1 _ rfl
    have f0 := hb.fz 0
    by_cases q : n ≤ l.length
    · have p1 : ¬ (l.length : Int) < (n : Int) := by omega
      have p2 : (n : Int) ≤ (c : Int) := by omega
      have p3 : (0 : Int) ≤ (n : Int) := by omega
      have p4 : (n : Int) ≤ (l.length : Int) := by omega
      have hbA := Aside0.mk hb; have hFA := Aside0.mk hF; have hbtA := Aside0.mk hbt
      clear hb hF hbt hf
      go_enter Tryd.func60, Tryd.ntmps60
      go_wp2_with fail
      · obtain rfl : c = n := by assumption
        go_ret
        exact next_end hN hbtA.out hbA.out hc hFA.out q (by rw [if_pos rfl]) (by rw [Nat.sub_self])
      · go_ret
        exact next_end hN hbtA.out hbA.out hc hFA.out q (by rw [if_neg (by assumption)]) rfl
    · have p1 : (l.length : Int) < (n : Int) := by omega
      rw [next_no (.inr ⟨l, rfl, by omega⟩)]
      clear hb hF hbt
      go_enter Tryd.func60, Tryd.ntmps60
      go_wp2_with (go_at_call 59; (with_reducible refine hf.out.mono ?_); rintro e w2 ⟨⟨v, rfl⟩, hI, hg⟩; have hIA := Aside0.mk hI; have hgA := Aside0.mk hg; clear hI hg g1 g0 f0)
      go_ret
      exact ⟨⟨none, 0, rfl, Nat.le_refl _, Kd.F_nil _ _ _⟩, hIA.out, hgA.out⟩
end
end Go.Proofs.YtlgfekllkahfaaaDoor.Pack
/- Numbers read (pack.In's Num). -/
set_option linter.unusedVariables false
set_option linter.unusedSimpArgs false
namespace Go.Proofs.YtlgfekllkahfaaaDoor.Pack
open Go.RowKit Go.Proofs.YtlgfekllkahfaaaDoorW.PrintWords Go.Proofs.YtlgfekllkahfaaaDoorW.PrintMore Go.Proofs.YtlgfekllkahfaaaDoor Go.Proofs.YtlgfekllkahfaaaDoor.Bits Sha ArrK ShaW
theorem or_step (k : Nat) (hk : k < 8) (a c : Int) (ha : 0 ≤ a) (ha2 : a < 256 ^ k) (hc : 0 ≤ c) (hc2 : c < 256) : Go.bits .or .u64 a (c * 256 ^ k) = a + c * 256 ^ k := by
  obtain ⟨m, rfl⟩ := Int.eq_ofNat_of_zero_le ha
  obtain ⟨n, rfl⟩ := Int.eq_ofNat_of_zero_le hc
  have hp : (256 : Int) ^ k = ((2 ^ (8 * k) : Nat) : Int) := by rw [Nat.pow_mul]; simp
  rw [hp] at ha2 ⊢
  have h1 : m < 2 ^ (8 * k) := by omega
  have h2 : n < 256 := by omega
  have h3 : (2 : Nat) ^ (8 * k) * 256 ≤ 2 ^ 64 := by rw [show (256 : Nat) = 2 ^ 8 from rfl, ← Nat.pow_add]; exact Nat.pow_le_pow_right (by decide) (by omega)
  have h4 : n * 2 ^ (8 * k) + 2 ^ (8 * k) ≤ 2 ^ 64 := by
    have : (n + 1) * 2 ^ (8 * k) ≤ 256 * 2 ^ (8 * k) := Nat.mul_le_mul_right _ (by omega)
    rw [Nat.add_mul, Nat.one_mul] at this; omega
  have e1 : ((m : Nat) : Int) = q (BitVec.ofNat 64 m) := by unfold q; rw [BitVec.toNat_ofNat, Nat.mod_eq_of_lt (by omega)]
  have e2 : ((n : Nat) : Int) * ((2 ^ (8 * k) : Nat) : Int) = q (BitVec.ofNat 64 (n * 2 ^ (8 * k))) := by unfold q; rw [BitVec.toNat_ofNat, Nat.mod_eq_of_lt (by omega)]; simp
  rw [e2, e1, or_q]
  unfold q
  rw [BitVec.toNat_or, BitVec.toNat_ofNat, BitVec.toNat_ofNat, Nat.mod_eq_of_lt (by omega : m < 2 ^ 64), Nat.mod_eq_of_lt (by omega : n * 2 ^ (8 * k) < 2 ^ 64)]
  have h5 := Nat.shiftLeft_add_eq_or_of_lt h1 n
  rw [Nat.shiftLeft_eq] at h5
  rw [Nat.or_comm, ← h5]
  simp [Int.add_comm]
theorem le_step (l : List Int) (hl : Bytes l) (hn : l.length ≤ 8) (k : Nat) (hk : k < l.length) :
    Go.bits .or .u64 (le (l.take k)) (IntKind.u64.wrap (IntKind.u64.wrap (rd l (k : Int)) * 2 ^ (8 * k))) = le (l.take (k + 1)) := by
  have hr : rd l (k : Int) = l[k] := by unfold rd; rw [Int.toNat_natCast, List.getD_eq_getElem?_getD, List.getElem?_eq_getElem hk]; rfl
  have hc := hl l[k] (List.getElem_mem hk)
  have ht := le_bound (l.take k) (fun x hx => hl x (List.mem_of_mem_take hx))
  have hlt : (l.take k).length = k := by rw [List.length_take]; omega
  rw [hlt] at ht
  have e1 : IntKind.u64.wrap (l[k]) = l[k] := by rw [wrap_u64]; omega
  have e2 : (2 : Int) ^ (8 * k) = 256 ^ k := by rw [Int.pow_mul]; rfl
  have e3 : IntKind.u64.wrap (l[k] * 256 ^ k) = l[k] * 256 ^ k := by
    have h3 : (256 : Int) ^ k ≤ 256 ^ 7 := by
      have : (256 : Nat) ^ k ≤ 256 ^ 7 := Nat.pow_le_pow_right (by decide) (by omega)
      have h4 : ((256 ^ k : Nat) : Int) ≤ ((256 ^ 7 : Nat) : Int) := by omega
      simpa using h4
    have h5 : (0 : Int) < 256 ^ k := Int.pow_pos (by decide)
    have h6 : l[k] * 256 ^ k ≤ 255 * 256 ^ k := Int.mul_le_mul_of_nonneg_right (by omega) (by omega)
    have h7 : 0 ≤ l[k] * 256 ^ k := Int.mul_nonneg hc.1 (by omega)
    rw [wrap_u64]
    exact Int.emod_eq_of_lt h7 (by omega)
  rw [hr, e1, e2, e3, or_step k (by omega) _ _ ht.1 ht.2 hc.1 hc.2, List.take_succ_eq_append_getElem hk, le_append, hlt]
  simp only [le]
  rw [Int.mul_zero, Int.add_zero, Int.mul_comm]
theorem InH.bytes {N P : Nat} {w : World} {r : Rd} (h : InH N w P r) : ∀ l, r = some l → Bytes l := by rintro l rfl; exact h.2.1
theorem next_bytes {n : Nat} {r : Rd} (hb : ∀ l, r = some l → Bytes l) : Bytes (rdNext n r).1 ∧ ∀ l, (rdNext n r).2 = some l → Bytes l := by
  cases r with
  | none => exact ⟨fun x hx => by simp [rdNext] at hx, fun l h => by simp [rdNext] at h⟩
  | some m =>
    rw [rdNext]; split
    · exact ⟨fun x hx => hb m rfl x (List.mem_of_mem_take hx), fun l h => by cases h; exact fun x hx => hb m rfl x (List.mem_of_mem_drop hx)⟩
    · exact ⟨fun x hx => by simp at hx, fun l h => by cases h⟩
theorem next_len (n : Nat) (r : Rd) : (rdNext n r).1.length ≤ n := by
  cases r with
  | none => simp [rdNext]
  | some l => rw [rdNext]; split <;> simp; omega
theorem num_bound {n : Nat} {r : Rd} (hb : ∀ l, r = some l → Bytes l) : 0 ≤ (rdNum n r).1 ∧ (rdNum n r).1 < 256 ^ n := by
  have h := le_bound _ (next_bytes (n := n) hb).1
  refine ⟨h.1, Int.lt_of_lt_of_le h.2 ?_⟩
  have := Nat.pow_le_pow_right (show 0 < 256 by decide) (next_len n r)
  have h4 : ((256 ^ (rdNext n r).1.length : Nat) : Int) ≤ ((256 ^ n : Nat) : Int) := by omega
  simpa using h4
section
variable {N P : Nat} {w w' : World} {r : Rd}
set_option maxRecDepth 100000 in
set_option maxHeartbeats 800000 in
theorem inum_calls (n : Nat) (hn : n = 1 ∨ n = 2 ∨ n = 4 ∨ n = 8) (h : InH N w P r) : Calls Tryd.prog 31 #[.pointer (some ⟨P, 0, none⟩), .int .i64 (n : Int)] w fun e w' => e = .returned (.int .u64 (rdNum n r).1) ∧ InH N w' P (rdNum n r).2 ∧ w.grownBy w' (some P) := by
  have hb := h.bytes
  have hsz := Aside0.mk (sized_calls n hn)
  have hnx := Aside0.mk (fun W (hW : Below w.heap.size w W) => next_calls n (h.below hW))
  have hlen : (rdNext n r).1.length ≤ 8 := by
    cases r with
    | none => simp [rdNext]
    | some l => rw [rdNext]; split <;> simp <;> omega
  have hby : Bytes (rdNext n r).1 := by
    cases r with
    | none => intro x hx; simp [rdNext] at hx
    | some l =>
      rw [rdNext]; split
      · exact fun x hx => hb l rfl x (List.mem_of_mem_take hx)
      · intro x hx; simp at hx
  unfold rdNum
  clear h
  generalize rdNext n r = z at *
  obtain ⟨l, r2⟩ := z
  simp only at hlen hby hnx ⊢
  go_enter Tryd.func31, Tryd.ntmps31
  go_wp2_with (first | (go_at_call 58; (with_reducible refine (hsz.out w).mono ?_); rintro e w1 ⟨rfl, rfl⟩) | (go_at_call 60; (with_reducible refine (hnx.out w (Below.refl _ _)).mono ?_); rintro e w2 ⟨⟨A, c, rfl, hc, hF⟩, hI, hg⟩; have hFA := Aside0.mk hF; have hIA := Aside0.mk hI; have hgA := Aside0.mk hg; clear hF hI hg))
  go_loopw [17, 5] (fun i o wr => ∃ k : Nat, k ≤ l.length ∧ i = .int .i64 (k : Int) ∧ o = .int .u64 (le (l.take k)) ∧ Below w2.heap.size w2 wr) (fun i _ _ => l.length - (intOf i).toNat)
  case atStart => exact ⟨0, by omega, rfl, rfl, Below.refl _ _⟩
  case round =>
    obtain ⟨k, hk, rfl, rfl, hB⟩ := hrel
    by_cases hlt : k < l.length
    · have hC := Kd.F_now (Kd.F_below hFA.out hB)
      obtain ⟨ad, rfl, -⟩ := hC.2.2 (by omega)
      have p0 : (0 : Int) ≤ (k : Int) := by omega
      have p1 : (k : Int) < (l.length : Int) := by omega
      have g := Kd.foot_int hC (k : Int) p0 p1
      rw [Int.toNat_natCast] at g
      have e2 : IntKind.i64.wrap ((k : Int) + 1) = (k : Int) + 1 := IntWalk.i64_in _ (by omega)
      have e3 : IntKind.i64.wrap (8 * (k : Int)) = 8 * (k : Int) := IntWalk.i64_in _ (by omega)
      have hs := le_step l hby hlen k hlt
      have hsA := Aside0.mk hs
      have hBA := Aside0.mk hB
      clear hs hC hB
      go_wp2_with fail
      go_roundw
      · exact ⟨k + 1, by omega, by go_num, by rw [hsA.out], hBA.out⟩
      · simp [intOf]; omega
    · obtain rfl : k = l.length := by omega
      have p1 : ¬ (l.length : Int) < (l.length : Int) := by omega
      rw [List.take_of_length_le (Nat.le_refl _)]
      have hBA := Aside0.mk hB
      clear hB
      go_wp2_with fail
      go_ret
      exact ⟨rfl, hIA.out.below hBA.out, grown_trans hgA.out (grown_of_below hBA.out _)⟩
theorem inum_at (n : Nat) (z : Int) (hz : (n : Int) = z) (hn : n = 1 ∨ n = 2 ∨ n = 4 ∨ n = 8) (h : InH N w P r) : Calls Tryd.prog 31 #[.pointer (some ⟨P, 0, none⟩), .int .i64 z] w fun e w' => e = .returned (.int .u64 (rdNum n r).1) ∧ InH N w' P (rdNum n r).2 ∧ w.grownBy w' (some P) := by
  subst hz; exact inum_calls n hn h
theorem inext_at (n : Nat) (z : Int) (hz : (n : Int) = z) (h : InH N w P r) : Calls Tryd.prog 60 #[.pointer (some ⟨P, 0, none⟩), .int .i64 z] w fun e w' => (∃ A c, e = .returned (.slice A (rdNext n r).1.length c) ∧ (rdNext n r).1.length ≤ c ∧ Kd.F (Kd.int .u8) w' (fun k => k < N) A (rdNext n r).1.length (rdNext n r).1) ∧ InH N w' P (rdNext n r).2 ∧ w.grownBy w' (some P) := by
  subst hz; exact next_calls n h
end
end Go.Proofs.YtlgfekllkahfaaaDoor.Pack
/- Counts, texts, digests read; the end (pack.In). -/
set_option linter.unusedVariables false
set_option linter.unusedSimpArgs false
namespace Go.Proofs.YtlgfekllkahfaaaDoor.Pack
open Go.RowKit Go.Proofs.YtlgfekllkahfaaaDoorW.PrintWords Go.Proofs.YtlgfekllkahfaaaDoorW.PrintMore Go.Proofs.YtlgfekllkahfaaaDoor Go.Proofs.YtlgfekllkahfaaaDoor.Bits Sha ArrK ShaW
/-- the mark ahead of a count -/
def mark (m : Int) : Int := if m < 253 then 0 else if m ≤ 65535 then 253 else if m ≤ 4294967295 then 254 else 255
def wide (m : Int) : Int := if m < 253 then 1 else if m ≤ 65535 then 2 else if m ≤ 4294967295 then 4 else 8
def szk (b : Int) : Nat := if b = 253 then 2 else if b = 254 then 4 else if b = 255 then 8 else 0
theorem szk_is (b : Int) : szk b = 0 ∨ szk b = 1 ∨ szk b = 2 ∨ szk b = 4 ∨ szk b = 8 := by unfold szk; split; simp; split; simp; split <;> simp
theorem form_f (m : Int) : Go.Proofs.YtlgfekllkahfaaaDoor.Q.pack_form.f m = some (mark m, wide m) := by
  unfold Go.Proofs.YtlgfekllkahfaaaDoor.Q.pack_form.f mark wide
  split
  · rfl
  · split
    · rfl
    · split <;> rfl
theorem size_f (b : Int) : Go.Proofs.YtlgfekllkahfaaaDoor.Q.pack_size.f b = some ((szk b : Nat) : Int) := by
  unfold Go.Proofs.YtlgfekllkahfaaaDoor.Q.pack_size.f szk
  split
  · rfl
  · split
    · rfl
    · split <;> rfl
def rdCnt (r : Rd) : Int × Rd := if 0 < szk (rdNum 1 r).1 then ((rdNum (szk (rdNum 1 r).1) (rdNum 1 r).2).1, if mark (rdNum (szk (rdNum 1 r).1) (rdNum 1 r).2).1 = (rdNum 1 r).1 then (rdNum (szk (rdNum 1 r).1) (rdNum 1 r).2).2 else none) else rdNum 1 r
def rdCount (most : Nat) (r : Rd) : Nat × Rd := if (rdCnt r).2 = none ∨ (most : Int) < (rdCnt r).1 then (0, none) else ((rdCnt r).1.toNat, (rdCnt r).2)
section
variable {N P : Nat} {w w' : World} {r : Rd}
set_option maxRecDepth 100000 in
set_option maxHeartbeats 1600000 in
theorem icount_calls (most : Nat) (hm : most ≤ 1000000000) (h : InH N w P r) : Calls Tryd.prog 55 #[.pointer (some ⟨P, 0, none⟩), .int .i64 (most : Int)] w fun e w' => e = .returned (.int .i64 ((rdCount most r).1 : Int)) ∧ InH N w' P (rdCount most r).2 ∧ w.grownBy w' (some P) := by
  have hP : ∀ W : World, (Go.binOp BinOp.eql 60 (.pointer (some ⟨P, 0, none⟩)) (.pointer none)).run Tryd.prog W = Result.ok (.bool false) W := fun W => by go_simp
  have hb := h.bytes
  have hn1 := inum_at 1 1 rfl (.inl rfl) h
  have hb1 := num_bound (n := 1) hb
  have hby1 := (next_bytes (n := 1) hb).2
  have hcd : rdCount most r = rdCount most r := rfl
  unfold rdCount rdCnt
  have hr1 : (rdNum 1 r).2 = (rdNext 1 r).2 := rfl
  rw [← hr1] at hby1
  clear hr1 hcd hb h
  generalize rdNum 1 r = z1 at *
  obtain ⟨n, r1⟩ := z1
  simp only at hn1 hb1 hby1 ⊢
  have hm2 : IntKind.u64.wrap (most : Int) = (most : Int) := by rw [wrap_u64]; omega
  have hn2 : IntKind.u8.wrap n = n := by simp [IntKind.wrap, IntKind.bits, IntKind.signed]; omega
  have p0 : ¬ (most : Int) < 0 := by omega
  have hszA := Aside0.mk (fun W => Go.Proofs.YtlgfekllkahfaaaDoor.Q.pack_size.calls n _ W (size_f n))
  have hn1A := Aside0.mk hn1
  have hk := szk_is n
  generalize szk n = k at *
  clear hn1
  by_cases hk0 : k = 0
  · subst hk0
    rw [if_neg (Nat.lt_irrefl 0)]
    simp only
    cases r1 with
    | none =>
      rw [if_pos (Or.inl rfl)]
      go_enter Tryd.func55, Tryd.ntmps55
      go_wp2_with (first | (go_at_call 31; (with_reducible refine hn1A.out.mono ?_); rintro e w2 ⟨rfl, hI, hg⟩; have hI2A := Aside0.mk hI; have hg2A := Aside0.mk hg; clear hI hg) | (go_at_call 73; (with_reducible refine (hszA.out _).mono ?_); rintro e w3 ⟨rfl, hd⟩; have hd3 := hd.below; have hI3 := hI2A.out.below hd3; have g1 := hI3.2.get 1 _ rfl; have hI3A := Aside0.mk hI3; have hg3A := Aside0.mk (grown_trans hg2A.out (grown_of_below hd3 _)); clear hI3 hd hd3) | (go_at_call 59; (with_reducible refine (fail_calls hI3A.out).mono ?_); rintro e w9 ⟨⟨v, rfl⟩, hI, hg⟩; have hI9A := Aside0.mk hI; have hg9A := Aside0.mk (grown_trans hg3A.out hg); clear hI hg g1))
      go_ret
      exact ⟨rfl, hI9A.out, hg9A.out⟩
    | some l =>
      by_cases q : (most : Int) < n
      · rw [if_pos (Or.inr q)]
        go_enter Tryd.func55, Tryd.ntmps55
        go_wp2_with (first | (go_at_call 31; (with_reducible refine hn1A.out.mono ?_); rintro e w2 ⟨rfl, hI, hg⟩; have hI2A := Aside0.mk hI; have hg2A := Aside0.mk hg; clear hI hg) | (go_at_call 73; (with_reducible refine (hszA.out _).mono ?_); rintro e w3 ⟨rfl, hd⟩; have hd3 := hd.below; have hI3 := hI2A.out.below hd3; obtain ⟨A, c, hbk, -, -⟩ := hI3.2.2; have g1 := hbk.get 1 _ rfl; clear hbk; have hI3A := Aside0.mk hI3; have hg3A := Aside0.mk (grown_trans hg2A.out (grown_of_below hd3 _)); clear hI3 hd hd3) | (go_at_call 59; (with_reducible refine (fail_calls hI3A.out).mono ?_); rintro e w9 ⟨⟨v, rfl⟩, hI, hg⟩; have hI9A := Aside0.mk hI; have hg9A := Aside0.mk (grown_trans hg3A.out hg); clear hI hg g1))
        go_ret
        exact ⟨rfl, hI9A.out, hg9A.out⟩
      · rw [if_neg (by rintro (h | h); cases h; exact q h)]
        have en : ((n.toNat : Nat) : Int) = n := by omega
        have e64 : IntKind.i64.wrap n = n := IntWalk.i64_in _ (by omega)
        go_enter Tryd.func55, Tryd.ntmps55
        go_wp2_with (first | (go_at_call 31; (with_reducible refine hn1A.out.mono ?_); rintro e w2 ⟨rfl, hI, hg⟩; have hI2A := Aside0.mk hI; have hg2A := Aside0.mk hg; clear hI hg) | (go_at_call 73; (with_reducible refine (hszA.out _).mono ?_); rintro e w3 ⟨rfl, hd⟩; have hd3 := hd.below; have hI3 := hI2A.out.below hd3; obtain ⟨A, c, hbk, -, -⟩ := hI3.2.2; have g1 := hbk.get 1 _ rfl; clear hbk; have hI3A := Aside0.mk hI3; have hg3A := Aside0.mk (grown_trans hg2A.out (grown_of_below hd3 _)); clear hI3 hd hd3) | (go_at_call 59; (with_reducible refine (fail_calls hI3A.out).mono ?_); rintro e w9 ⟨⟨v, rfl⟩, hI, hg⟩; have hI9A := Aside0.mk hI; have hg9A := Aside0.mk (grown_trans hg3A.out hg); clear hI hg g1))
        go_ret
        exact ⟨by rw [en]; rfl, hI3A.out, hg3A.out⟩
  · have hk1 : 0 < k := by omega
    have hk2 : k = 1 ∨ k = 2 ∨ k = 4 ∨ k = 8 := by omega
    have p5 : (0 : Int) < (k : Int) := by omega
    rw [if_pos hk1]
    have hn2A := Aside0.mk (fun W (hI : InH N W P r1) => inum_calls k hk2 hI)
    have hb2 := num_bound (n := k) (r := r1) hby1
    have hfmA := Aside0.mk (fun W => Go.Proofs.YtlgfekllkahfaaaDoor.Q.pack_form.calls (rdNum k r1).1 _ _ W (form_f _))
    clear hk0 hk hk1 hby1
    simp only
    have hb3 : 0 ≤ (rdNum k r1).1 ∧ (rdNum k r1).1 < 18446744073709551616 := by
      refine ⟨hb2.1, Int.lt_of_lt_of_le hb2.2 ?_⟩
      have h := Nat.pow_le_pow_right (show 0 < 256 by decide) (show k ≤ 8 by omega)
      have h4 : ((256 ^ k : Nat) : Int) ≤ ((256 ^ 8 : Nat) : Int) := by omega
      simpa using h4
    clear hb2
    generalize rdNum k r1 = z2 at *
    obtain ⟨m, r2⟩ := z2
    simp only at hn2A hfmA hb3 ⊢
    generalize wide m = wd at *
    by_cases hmk : mark m = n
    · rw [if_pos hmk]
      cases r2 with
      | none =>
        rw [if_pos (Or.inl rfl)]
        rw [hmk] at hfmA
        go_enter Tryd.func55, Tryd.ntmps55
        go_wp2_with (first | (go_at_call 31; first | ((with_reducible refine hn1A.out.mono ?_); rintro e w2 ⟨rfl, hI, hg⟩; have hI2A := Aside0.mk hI; have hg2A := Aside0.mk hg; clear hI hg hn1A) | ((with_reducible refine (hn2A.out _ hI3A.out).mono ?_); rintro e w4 ⟨rfl, hI, hg⟩; have hI4A := Aside0.mk hI; have hg4A := Aside0.mk (grown_trans hg3A.out hg); clear hI hg)) | (go_at_call 73; (with_reducible refine (hszA.out _).mono ?_); rintro e w3 ⟨rfl, hd⟩; have hd3 := hd.below; have hI3A := Aside0.mk (hI2A.out.below hd3); have hg3A := Aside0.mk (grown_trans hg2A.out (grown_of_below hd3 _)); clear hd hd3) | (go_at_call 70; (with_reducible refine (hfmA.out _).mono ?_); rintro e w5 ⟨rfl, hd⟩; have hd5 := hd.below; have hI5 := hI4A.out.below hd5; have g1 := hI5.2.get 1 _ rfl; have hI5A := Aside0.mk hI5; have hg5A := Aside0.mk (grown_trans hg4A.out (grown_of_below hd5 _)); clear hI5 hd hd5) | (go_at_call 59; (with_reducible refine (fail_calls hI5A.out).mono ?_); rintro e w9 ⟨⟨v, rfl⟩, hI, hg⟩; have hI9A := Aside0.mk hI; have hg9A := Aside0.mk (grown_trans hg5A.out hg); clear hI hg g1))
        go_ret
        exact ⟨rfl, hI9A.out, hg9A.out⟩
      | some l =>
        by_cases q : (most : Int) < m
        · rw [if_pos (Or.inr q)]
          rw [hmk] at hfmA
          go_enter Tryd.func55, Tryd.ntmps55
          go_wp2_with (first | (go_at_call 31; first | ((with_reducible refine hn1A.out.mono ?_); rintro e w2 ⟨rfl, hI, hg⟩; have hI2A := Aside0.mk hI; have hg2A := Aside0.mk hg; clear hI hg hn1A) | ((with_reducible refine (hn2A.out _ hI3A.out).mono ?_); rintro e w4 ⟨rfl, hI, hg⟩; have hI4A := Aside0.mk hI; have hg4A := Aside0.mk (grown_trans hg3A.out hg); clear hI hg)) | (go_at_call 73; (with_reducible refine (hszA.out _).mono ?_); rintro e w3 ⟨rfl, hd⟩; have hd3 := hd.below; have hI3A := Aside0.mk (hI2A.out.below hd3); have hg3A := Aside0.mk (grown_trans hg2A.out (grown_of_below hd3 _)); clear hd hd3) | (go_at_call 70; (with_reducible refine (hfmA.out _).mono ?_); rintro e w5 ⟨rfl, hd⟩; have hd5 := hd.below; have hI5 := hI4A.out.below hd5; obtain ⟨A, c, hbk, -, -⟩ := hI5.2.2; have g1 := hbk.get 1 _ rfl; clear hbk; have hI5A := Aside0.mk hI5; have hg5A := Aside0.mk (grown_trans hg4A.out (grown_of_below hd5 _)); clear hI5 hd hd5) | (go_at_call 59; (with_reducible refine (fail_calls hI5A.out).mono ?_); rintro e w9 ⟨⟨v, rfl⟩, hI, hg⟩; have hI9A := Aside0.mk hI; have hg9A := Aside0.mk (grown_trans hg5A.out hg); clear hI hg g1))
          go_ret
          exact ⟨rfl, hI9A.out, hg9A.out⟩
        · rw [if_neg (by rintro (h | h); cases h; exact q h)]
          rw [hmk] at hfmA
          have en : ((m.toNat : Nat) : Int) = m := by omega
          have e64 : IntKind.i64.wrap m = m := IntWalk.i64_in _ (by omega)
          go_enter Tryd.func55, Tryd.ntmps55
          go_wp2_with (first | (go_at_call 31; first | ((with_reducible refine hn1A.out.mono ?_); rintro e w2 ⟨rfl, hI, hg⟩; have hI2A := Aside0.mk hI; have hg2A := Aside0.mk hg; clear hI hg hn1A) | ((with_reducible refine (hn2A.out _ hI3A.out).mono ?_); rintro e w4 ⟨rfl, hI, hg⟩; have hI4A := Aside0.mk hI; have hg4A := Aside0.mk (grown_trans hg3A.out hg); clear hI hg)) | (go_at_call 73; (with_reducible refine (hszA.out _).mono ?_); rintro e w3 ⟨rfl, hd⟩; have hd3 := hd.below; have hI3A := Aside0.mk (hI2A.out.below hd3); have hg3A := Aside0.mk (grown_trans hg2A.out (grown_of_below hd3 _)); clear hd hd3) | (go_at_call 70; (with_reducible refine (hfmA.out _).mono ?_); rintro e w5 ⟨rfl, hd⟩; have hd5 := hd.below; have hI5 := hI4A.out.below hd5; obtain ⟨A, c, hbk, -, -⟩ := hI5.2.2; have g1 := hbk.get 1 _ rfl; clear hbk; have hI5A := Aside0.mk hI5; have hg5A := Aside0.mk (grown_trans hg4A.out (grown_of_below hd5 _)); clear hI5 hd hd5) | (go_at_call 59; (with_reducible refine (fail_calls hI5A.out).mono ?_); rintro e w9 ⟨⟨v, rfl⟩, hI, hg⟩; have hI9A := Aside0.mk hI; have hg9A := Aside0.mk (grown_trans hg5A.out hg); clear hI hg g1))
          go_ret
          exact ⟨by rw [en]; rfl, hI5A.out, hg5A.out⟩
    · rw [if_neg hmk, if_pos (Or.inl rfl)]
      go_enter Tryd.func55, Tryd.ntmps55
      go_wp2_with (first | (go_at_call 31; first | ((with_reducible refine hn1A.out.mono ?_); rintro e w2 ⟨rfl, hI, hg⟩; have hI2A := Aside0.mk hI; have hg2A := Aside0.mk hg; clear hI hg hn1A) | ((with_reducible refine (hn2A.out _ hI3A.out).mono ?_); rintro e w4 ⟨rfl, hI, hg⟩; have hI4A := Aside0.mk hI; have hg4A := Aside0.mk (grown_trans hg3A.out hg); clear hI hg)) | (go_at_call 73; (with_reducible refine (hszA.out _).mono ?_); rintro e w3 ⟨rfl, hd⟩; have hd3 := hd.below; have hI3A := Aside0.mk (hI2A.out.below hd3); have hg3A := Aside0.mk (grown_trans hg2A.out (grown_of_below hd3 _)); clear hd hd3) | (go_at_call 70; (with_reducible refine (hfmA.out _).mono ?_); rintro e w5 ⟨rfl, hd⟩; have hd5 := hd.below; have hI5 := hI4A.out.below hd5; have hI5A := Aside0.mk hI5; have hg5A := Aside0.mk (grown_trans hg4A.out (grown_of_below hd5 _)); clear hI5 hd hd5) | (go_at_call 59; first | ((with_reducible refine (fail_calls hI5A.out).mono ?_); rintro e w8 ⟨⟨v, rfl⟩, hI, hg⟩; have g1 := hI.2.get 1 _ rfl; have hI8A := Aside0.mk hI; have hg8A := Aside0.mk (grown_trans hg5A.out hg); clear hI hg hI5A) | ((with_reducible refine (fail_calls hI8A.out).mono ?_); rintro e w9 ⟨⟨v, rfl⟩, hI, hg⟩; have hI9A := Aside0.mk hI; have hg9A := Aside0.mk (grown_trans hg8A.out hg); clear hI hg g1)))
      go_ret
      exact ⟨rfl, hI9A.out, hg9A.out⟩
end
end Go.Proofs.YtlgfekllkahfaaaDoor.Pack
/- Texts and digests read; the end (pack.In). -/
set_option linter.unusedVariables false
set_option linter.unusedSimpArgs false
namespace Go.Proofs.YtlgfekllkahfaaaDoor.Pack
open Go.RowKit Go.Proofs.YtlgfekllkahfaaaDoorW.PrintWords Go.Proofs.YtlgfekllkahfaaaDoorW.PrintMore Go.Proofs.YtlgfekllkahfaaaDoor Go.Proofs.YtlgfekllkahfaaaDoor.Bits Sha ArrK ShaW
open Go.Proofs.YtlgfekllkahfaaaDoor.InRound (op_at)
/-- 'string(b)' -/
theorem run_text (w : World) (A : Option Addr) (c : Nat) (l : List Int) (hC : Kd.C (Kd.int .u8) w A l.length l) : (convert 40 9 (.slice A l.length c)).run Tryd.prog w = .ok (.string (strOfNums l)) w := by
  rw [run_convert_bytes_string w 40 9 5 A l.length c Tryd.underlying40 Tryd.underlying5 Tryd.underlying9]
  cases A with
  | none =>
    have h0 : l = [] := by
      cases l with
      | nil => rfl
      | cons x r => obtain ⟨ad, e, _⟩ := hC.2.2 (by simp); cases e
    subst h0
    simp [Conv.bytesToString]; rfl
  | some ad =>
    have hl := run_loadCells_list (P := Tryd.prog) w ad (l.map (Value.int .u8)) (fun j v hj => by
      have hj' : j < l.length := by simpa using (List.getElem?_eq_some_iff.1 hj).1
      have g := Kd.foot_int hC (j : Int) (by omega) (by omega)
      rw [Int.toNat_natCast] at g
      rw [g]
      have hr : rd l (j : Int) = l[j] := by unfold rd; rw [Int.toNat_natCast, List.getD_eq_getElem?_getD, List.getElem?_eq_getElem hj']; rfl
      rw [hr]
      simp [List.getElem?_eq_getElem hj'] at hj
      rw [hj])
    rw [List.length_map] at hl
    rw [run_bytesToString w ad l.length c l hl, foldl_push_bytes]
    simp [strOfNums, ByteArray.empty, ByteArray.emptyWithCapacity]
    rfl
def rdText (most : Nat) (r : Rd) : List Int × Rd := rdNext (rdCount most r).1 (rdCount most r).2
def rdHash (r : Rd) : List Int × Rd := (if (rdNext 32 r).1.length = 32 then (rdNext 32 r).1 else zero32, (rdNext 32 r).2)
section
variable {N P : Nat} {w w' : World} {r : Rd}
set_option maxRecDepth 100000 in
set_option maxHeartbeats 800000 in
theorem itext_calls (most : Nat) (hm : most ≤ 1000000000) (h : InH N w P r) : Calls Tryd.prog 57 #[.pointer (some ⟨P, 0, none⟩), .int .i64 (most : Int)] w fun e w' => e = .returned (.string (strOfNums (rdText most r).1)) ∧ InH N w' P (rdText most r).2 ∧ w.grownBy w' (some P) := by
  have h1 := Aside0.mk (icount_calls most hm h)
  unfold rdText
  generalize rdCount most r = z at *
  obtain ⟨n, r1⟩ := z
  simp only at h1 ⊢
  have h2 := Aside0.mk (fun W (hI : InH N W P r1) => next_calls n hI)
  generalize rdNext n r1 = y at *
  obtain ⟨l, r2⟩ := y
  simp only at h2 ⊢
  go_enter Tryd.func57, Tryd.ntmps57
  go_wp2_with (first | (go_at_call 55; (with_reducible refine h1.out.mono ?_); rintro e w2 ⟨rfl, hI, hg⟩; have hI2A := Aside0.mk hI; have hg2A := Aside0.mk hg; clear hI hg) | (go_at_call 60; (with_reducible refine (h2.out _ hI2A.out).mono ?_); rintro e w3 ⟨⟨A, c, rfl, hc, hF⟩, hI, hg⟩; have hcv := run_text w3 A c l (Kd.F_now hF); have hI3A := Aside0.mk hI; have hg3A := Aside0.mk (grown_trans hg2A.out hg); clear hI hg hF))
  go_ret
  exact ⟨rfl, hI3A.out, hg3A.out⟩
/-- copy(h[:], b), drawn -/
theorem step_copy {ops : Array Oper} {o : Oper} {a : Act} {w : World} {K : Act → World → Prop} {Q : Exit → Act → World → Prop} (hw : Region.wanted o (yielded ops a.tmps) = true) (x y : Operand) (ho : o.op = .call { callee := .builtin .copy, args := #[x, y], argTypes := #[40, 40] })
    (b t : Nat) (h0 l : List Int) (h32 : h0.length = 32) (A : Option Addr) (c : Nat) (hx : a.eval x = .slice (some ⟨b, 0, none⟩) 32 32) (hy : a.eval y = .slice A l.length c) (hl : l.length = 32 ∨ l = []) (hC : Kd.C (Kd.int .u8) w A l.length l) (hbk : Blk w b t (nums .u8 h0))
    (hk : ∀ W1 z, Blk W1 b t (nums .u8 (if l.length = 32 then l else h0)) → w.grownBy W1 (some b) → W1.heap.size = w.heap.size → K (a.put o.dst z) W1) : if Region.wanted o (yielded ops a.tmps) = true then Oper.wp Tryd.prog o a w K Q else K (a.put o.dst undef) w := by
  rw [if_pos hw]
  have fin : ∀ z w1, (Builtin.copy_ #[40, 40] o.type #[.slice (some ⟨b, 0, none⟩) 32 32, .slice A l.length c]).run Tryd.prog w = .ok z w1 → (∀ z, K (a.put o.dst z) w1) → Oper.wp Tryd.prog o a w K Q := by
    intro z w1 hr hK
    unfold Oper.wp execOp
    simp only [ho, resolve, invoke, builtin, Sem.run_bind, Sem.run_pure, Result.andThen_ok, List.map_toArray, List.map_cons, List.map_nil, hx, hy, hr]
    exact hK _
  rcases hl with hl | rfl
  · obtain ⟨ad, rfl, -⟩ := hC.2.2 (by omega)
    have hr := run_copy_cells (P := Tryd.prog) w 40 40 o.type 5 b 0 32 32 ad l.length c (nums .u8 l) Tryd.underlying40 (by kernel_rfl) (by rw [hl]; simp [nums, hl]) (fun j v hj => by
      have hj' : j < l.length := by simpa [nums] using (List.getElem?_eq_some_iff.1 hj).1
      have g := Kd.foot_int hC (j : Int) (by omega) (by omega)
      rw [Int.toNat_natCast] at g
      rw [g]
      have hr : rd l (j : Int) = l[j] := by unfold rd; rw [Int.toNat_natCast, List.getD_eq_getElem?_getD, List.getElem?_eq_getElem hj']; rfl
      rw [hr]
      simp [nums, List.getElem?_eq_getElem hj'] at hj
      rw [hj]) (fun j hj => by
        have hj' : j < 32 := by simpa [nums, hl] using hj
        rw [hbk.get (0 + j) (.int .u8 (h0[j]'(by omega))) (by simp [nums, h32, hj'])]; rfl) (fun j _ => hbk.fz _) (u8_one l)
    have hb := blk_setCells (nums .u8 l) 0 w (nums .u8 h0) hbk (by simp [nums, hl, h32])
    rw [List.take_zero, List.nil_append, Nat.zero_add, List.drop_of_length_le (by simp [nums, hl, h32]), List.append_nil] at hb
    have hs : (w.setCells b 0 (nums .u8 l)).heap.size = w.heap.size := by
      have : ∀ (l : List Value) (o : Nat) (W : World), (W.setCells b o l).heap.size = W.heap.size := by
        intro l
        induction l with
        | nil => intro o W; rfl
        | cons u l ih => intro o W; rw [World.setCells, ih]; simp [World.setCell]
      exact this _ 0 w
    have hg : w.grownBy (w.setCells b 0 (nums .u8 l)) (some b) := by
      have hbl := ArrK.below_setCells (w := w) b (Nat.le_refl b) (nums .u8 l) 0 w (Below.refl _ _)
      refine ⟨hbl.os, hbl.tape, hbl.output, by omega, fun k hk hne => World.heap_setCells_other w b 0 _ hk (fun e => hne (by rw [e]))⟩
    exact fin _ _ hr (fun z => hk _ z (by rw [if_pos hl]; exact hb) hg hs)
  · have hr := run_copy_none (P := Tryd.prog) w 40 40 o.type 5 (some ⟨b, 0, none⟩) A 32 32 0 c Tryd.underlying40 (by kernel_rfl) rfl
    exact fin _ _ hr (fun z => hk _ z hbk (grown_refl w _) rfl)
theorem next32 (r : Rd) : (rdNext 32 r).1.length = 32 ∨ (rdNext 32 r).1 = [] := by
  cases r with
  | none => right; rfl
  | some l => rw [rdNext]; split
              · left; simp; omega
              · right; rfl
set_option maxRecDepth 100000 in
set_option maxHeartbeats 800000 in
theorem ihash_calls (h : InH N w P r) : Calls Tryd.prog 56 #[.pointer (some ⟨P, 0, none⟩)] w fun e w' => e = .returned (hv (rdHash r).1) ∧ InH N w' P (rdHash r).2 ∧ w.grownBy w' (some P) := by
  have hl := next32 r
  have hN := h.le
  have hPlt := h.lt
  obtain ⟨V, hV⟩ : ∃ V, V = (w.alloc (.cells (nums .u8 zero32).toArray 34)).alloc (.cells (nums .u8 zero32).toArray 34) := ⟨_, rfl⟩
  have hX : Blk V w.heap.size 34 (nums .u8 zero32) := by rw [hV]; exact (Blk.new w _ _).alloc _
  have hZ : Blk V (w.heap.size + 1) 34 (nums .u8 zero32) := by
    have := Blk.new (w.alloc (.cells (nums .u8 zero32).toArray 34)) 34 (nums .u8 zero32)
    rw [hV]; rwa [World.size_alloc] at this
  have hB : Below w.heap.size w V := by rw [hV]; exact below_alloc (below_alloc (Below.refl _ _) _) _
  have hI := h.below hB
  have h2 := Aside0.mk (fun W (hI : InH N W P r) => inext_at 32 32 rfl hI)
  unfold rdHash
  generalize rdNext 32 r = y at *
  obtain ⟨l, r2⟩ := y
  simp only at h2 hl ⊢
  obtain ⟨q, hq⟩ : ∃ q, q = (if l.length = 32 then l else zero32) := ⟨_, rfl⟩
  rw [← hq]
  have hq32 : q.length = 32 := by rw [hq]; split <;> first | assumption | rfl
  have hqeA := Aside0.mk hq
  have hqA := Aside0.mk hq32
  clear hq
  have hVA := Aside0.mk hV; have hXA := Aside0.mk hX; have hZA := Aside0.mk hZ; have hBA := Aside0.mk hB; have hIA := Aside0.mk hI
  clear hV hX hZ hB hI h
  go_enter Tryd.func56, Tryd.ntmps56
  go_wp2_with fail
  rw [show (w.alloc (.cells #[.int .u8 0, .int .u8 0, .int .u8 0, .int .u8 0, .int .u8 0, .int .u8 0, .int .u8 0, .int .u8 0, .int .u8 0, .int .u8 0, .int .u8 0, .int .u8 0, .int .u8 0, .int .u8 0, .int .u8 0, .int .u8 0, .int .u8 0, .int .u8 0, .int .u8 0, .int .u8 0, .int .u8 0, .int .u8 0, .int .u8 0, .int .u8 0, .int .u8 0, .int .u8 0, .int .u8 0, .int .u8 0, .int .u8 0, .int .u8 0, .int .u8 0, .int .u8 0] 34)).alloc (.cells #[.int .u8 0, .int .u8 0, .int .u8 0, .int .u8 0, .int .u8 0, .int .u8 0, .int .u8 0, .int .u8 0, .int .u8 0, .int .u8 0, .int .u8 0, .int .u8 0, .int .u8 0, .int .u8 0, .int .u8 0, .int .u8 0, .int .u8 0, .int .u8 0, .int .u8 0, .int .u8 0, .int .u8 0, .int .u8 0, .int .u8 0, .int .u8 0, .int .u8 0, .int .u8 0, .int .u8 0, .int .u8 0, .int .u8 0, .int .u8 0, .int .u8 0, .int .u8 0] 34) = V from hVA.out.symm]
  refine wp_region_noPanic ?_
  refine wp_region_held_drew (S := fun _ => True) (by kernel_rfl) trivial (fun _ => ?_)
  have H0 : True := trivial
  have hX0 : Blk V.drew w.heap.size 34 (nums .u8 zero32) := hXA.out
  have hZ0 : Blk V.drew (w.heap.size + 1) 34 (nums .u8 zero32) := hZA.out
  have hB0 : w.grownBy V.drew (some P) := grown_of_below (pw_below_drewN hBA.out 1) _
  have hI0 : InH N V.drew P r := hIA.out.below (pw_below_drewN (Below.refl _ _) 1)
  have hB0 := Aside0.mk hB0
  have hI0 := Aside0.mk hI0
  have hX0 := Aside0.mk hX0
  have hZ0 := Aside0.mk hZ0
  clear hVA hXA hZA hBA hIA
  generalize V.drew = V0 at *
  -- REGION A
  refine wpAnyH_take (i := 0) (v := .slice (some ⟨w.heap.size + 1, 0, none⟩) 32 32) (op_at rfl) (by kernel_rfl) (by kernel_rfl) (by kernel_rfl) (fun _ _ _ h => h) (Or.inl ⟨by rfl, fun w_ hSw => ?_⟩) H0 ?_
  · go_simp
  try simp only [Act.put, List.setIfInBounds_toArray, List.set_cons_zero, List.set_cons_succ]
  refine wpAnyH_take (i := 1) (v := .pointer (some ⟨P, 0, none⟩)) (op_at rfl) (by kernel_rfl) (by kernel_rfl) (by kernel_rfl) (fun _ _ _ h => h) (Or.inl ⟨by rfl, fun w_ hSw => ?_⟩) H0 ?_
  · go_simp
  try simp only [Act.put, List.setIfInBounds_toArray, List.set_cons_zero, List.set_cons_succ]
  refine wpAnyH_ready (rs := [2]) (by kernel_rfl) (by simp) ?_
  refine AllReadyH.cons (op_at rfl) (fun K hK => ?_) AllReadyH.nil
  go_simp
  go_at_call 60
  refine (h2.out _ hI0.out).mono ?_
  rintro e V1 ⟨⟨A, c, rfl, hc, hF⟩, hI1, hg1⟩
  go_wp2_with fail
  refine hK.out _ _ trivial (fun H1_ => ?_)
  have hX1 := Aside0.mk (hX0.out.grown hg1 (by intro e; have := Option.some.inj e; omega))
  have hZ1 := Aside0.mk (hZ0.out.grown hg1 (by intro e; have := Option.some.inj e; omega))
  have hC1 := Aside0.mk (Kd.F_now hF)
  have hI1 := Aside0.mk hI1
  have hg1 := Aside0.mk (grown_trans hB0.out hg1)
  clear hK K hF hI0 hX0 hZ0
  try simp only [Act.put, List.setIfInBounds_toArray, List.set_cons_zero, List.set_cons_succ]
  refine wpAnyH_ready (rs := [3]) (by kernel_rfl) (by simp) ?_
  refine AllReadyH.cons (op_at rfl) (fun K hK => ?_) AllReadyH.nil
  refine step_copy (by rfl) (.tmp 4) (.tmp 6) rfl (w.heap.size + 1) 34 zero32 l rfl A c rfl rfl hl hC1.out hZ1.out ?_
  intro V2 z hZ2 hg2 hs2
  refine hK.out _ _ trivial (fun H2_ => ?_)
  rw [← hqeA.out] at hZ2
  have hX2 := Aside0.mk (hX1.out.grown hg2 (by intro e; have := Option.some.inj e; omega))
  have hZ2 := Aside0.mk hZ2
  have hI2 := Aside0.mk (hI1.out.grown hg2 (by intro k e; have := Option.some.inj e; exact ⟨by omega, by omega⟩))
  have hg2 := Aside0.mk (show w.grownBy V2 (some P) from ⟨hg2.os.trans hg1.out.os, hg2.tape.trans hg1.out.tape, hg2.output.trans hg1.out.output, Nat.le_trans hg1.out.size hg2.size, fun k hk hne => (hg2.block k (by have := hg1.out.size; omega) (by intro e; have := Option.some.inj e; omega)).trans (hg1.out.block k hk hne)⟩)
  clear hK K hX1 hZ1 hI1 hg1 hC1
  try simp only [Act.put, List.setIfInBounds_toArray, List.set_cons_zero, List.set_cons_succ]
  refine wpAnyH_done (by kernel_rfl) ?_ _
  refine NoPanic.normal ?_
  -- END A
  go_wp2_with (first | ((with_reducible refine gate_dst (N := 8) rfl ?_); refine wpList_load_blk rfl 34 (.tmp 3) rfl (w.heap.size + 1) 34 rfl (nums .u8 q) _ hZ2.out Tryd.underlying34 rfl (info_hash q hqA.out) ?_) | (refine wpList_put_blk rfl 34 (.tmp 2) (.tmp 8) rfl w.heap.size 34 (nums .u8 q) (nums .u8 zero32) (by simp [nums, hqA.out]) rfl rfl hX2.out (info_hash q hqA.out) (u8_one q) ?_; intro w7 hX7 hg7 hs7))
  exact bodyPost_ret (results_cell_row rfl _ _ w.heap.size 34 (nums .u8 q).toArray (0, 0) _ rfl hX7 Tryd.underlying34 rfl (info_hash q hqA.out)) rfl ⟨rfl, hI2.out.grown hg7 (by intro k e; have := Option.some.inj e; exact ⟨by omega, by omega⟩), ⟨hg7.os.trans hg2.out.os, hg7.tape.trans hg2.out.tape, hg7.output.trans hg2.out.output, Nat.le_trans hg2.out.size hg7.size, fun k hk hne => (hg7.block k (by have := hg2.out.size; omega) (by intro e; have := Option.some.inj e; omega)).trans (hg2.out.block k hk hne)⟩⟩
end
end Go.Proofs.YtlgfekllkahfaaaDoor.Pack
/- The end of what is read; spends and coins read. -/
set_option linter.unusedVariables false
set_option linter.unusedSimpArgs false
namespace Go.Proofs.YtlgfekllkahfaaaDoor.Pack
open Go.RowKit Go.Proofs.YtlgfekllkahfaaaDoorW.PrintWords Go.Proofs.YtlgfekllkahfaaaDoorW.PrintMore Go.Proofs.YtlgfekllkahfaaaDoor Go.Proofs.YtlgfekllkahfaaaDoor.Bits Sha ArrK ShaW
open Go.Proofs.YtlgfekllkahfaaaDoor.InRound (op_at)
theorem list32 (h : List Int) (hl : h.length = 32) : ∃ x0 x1 x2 x3 x4 x5 x6 x7 x8 x9 x10 x11 x12 x13 x14 x15 x16 x17 x18 x19 x20 x21 x22 x23 x24 x25 x26 x27 x28 x29 x30 x31 : Int, h = [x0, x1, x2, x3, x4, x5, x6, x7, x8, x9, x10, x11, x12, x13, x14, x15, x16, x17, x18, x19, x20, x21, x22, x23, x24, x25, x26, x27, x28, x29, x30, x31] := by
  obtain _ | ⟨x0, h⟩ := h
  · simp at hl
  obtain _ | ⟨x1, h⟩ := h
  · simp at hl
  obtain _ | ⟨x2, h⟩ := h
  · simp at hl
  obtain _ | ⟨x3, h⟩ := h
  · simp at hl
  obtain _ | ⟨x4, h⟩ := h
  · simp at hl
  obtain _ | ⟨x5, h⟩ := h
  · simp at hl
  obtain _ | ⟨x6, h⟩ := h
  · simp at hl
  obtain _ | ⟨x7, h⟩ := h
  · simp at hl
  obtain _ | ⟨x8, h⟩ := h
  · simp at hl
  obtain _ | ⟨x9, h⟩ := h
  · simp at hl
  obtain _ | ⟨x10, h⟩ := h
  · simp at hl
  obtain _ | ⟨x11, h⟩ := h
  · simp at hl
  obtain _ | ⟨x12, h⟩ := h
  · simp at hl
  obtain _ | ⟨x13, h⟩ := h
  · simp at hl
  obtain _ | ⟨x14, h⟩ := h
  · simp at hl
  obtain _ | ⟨x15, h⟩ := h
  · simp at hl
  obtain _ | ⟨x16, h⟩ := h
  · simp at hl
  obtain _ | ⟨x17, h⟩ := h
  · simp at hl
  obtain _ | ⟨x18, h⟩ := h
  · simp at hl
  obtain _ | ⟨x19, h⟩ := h
  · simp at hl
  obtain _ | ⟨x20, h⟩ := h
  · simp at hl
  obtain _ | ⟨x21, h⟩ := h
  · simp at hl
  obtain _ | ⟨x22, h⟩ := h
  · simp at hl
  obtain _ | ⟨x23, h⟩ := h
  · simp at hl
  obtain _ | ⟨x24, h⟩ := h
  · simp at hl
  obtain _ | ⟨x25, h⟩ := h
  · simp at hl
  obtain _ | ⟨x26, h⟩ := h
  · simp at hl
  obtain _ | ⟨x27, h⟩ := h
  · simp at hl
  obtain _ | ⟨x28, h⟩ := h
  · simp at hl
  obtain _ | ⟨x29, h⟩ := h
  · simp at hl
  obtain _ | ⟨x30, h⟩ := h
  · simp at hl
  obtain _ | ⟨x31, h⟩ := h
  · simp at hl
  obtain _ | ⟨y, h⟩ := h
  · exact ⟨x0, x1, x2, x3, x4, x5, x6, x7, x8, x9, x10, x11, x12, x13, x14, x15, x16, x17, x18, x19, x20, x21, x22, x23, x24, x25, x26, x27, x28, x29, x30, x31, rfl⟩
  · simp at hl
set_option maxRecDepth 100000 in
theorem built_point (h : List Int) (n : Int) (hl : h.length = 32) : Tryd.prog.built 36 [(0, hv h), (1, .int .i64 n)] = some (nums .u8 h ++ [Value.int .i64 n]).toArray := by
  obtain ⟨x0, x1, x2, x3, x4, x5, x6, x7, x8, x9, x10, x11, x12, x13, x14, x15, x16, x17, x18, x19, x20, x21, x22, x23, x24, x25, x26, x27, x28, x29, x30, x31, rfl⟩ := list32 h hl
  kernel_rfl
set_option maxRecDepth 100000 in
theorem built_spend (h : List Int) (n : Int) (hl : h.length = 32) : Tryd.prog.built 38 [(0, .agg (nums .u8 h ++ [Value.int .i64 n]).toArray)] = some (spc ⟨h, n, ByteArray.empty, 0⟩).toArray := by
  obtain ⟨x0, x1, x2, x3, x4, x5, x6, x7, x8, x9, x10, x11, x12, x13, x14, x15, x16, x17, x18, x19, x20, x21, x22, x23, x24, x25, x26, x27, x28, x29, x30, x31, rfl⟩ := list32 h hl
  kernel_rfl
theorem wpList_built {ops : Array Oper} {rest : List Oper} {op : Oper} {a : Act} {w : World} {Q : Exit → Act → World → Prop} (hg : op.guard = none) (t : TypeId) (pl : List (Nat × Operand)) (ho : op.op = .build t pl.toArray) (cells : Array Value)
    (hb : Tryd.prog.built t (pl.map fun (i, x) => (i, a.eval x)) = some cells) (h : wpList Tryd.prog ops Q rest (a.put op.dst (.agg cells)) w) : wpList Tryd.prog ops Q (op :: rest) a w := by
  have e : (pl.toArray.map fun (i, x) => (i, a.eval x)).toList = pl.map fun (i, x) => (i, a.eval x) := by simp
  exact wpList_build hg t pl.toArray ho (by rw [e, hb]; rfl) (by rw [e, hb]; exact h)
/-- a whole value, laid over cells as many -/
theorem fill_one_ {place : Nat → Option (Nat × Nat)} {cells vs : Array Value} {n : Nat} (hp : place 0 = some (0, n)) (hn : vs.size = n) (hc : cells.size = n) : Instr.fill place cells [(0, .agg vs)] = some vs := by
  have e : ∀ (l : List Value) (k : Nat) (cs : Array Value), k + l.length = cs.size → ((l.zipIdx k).foldl (fun cs (p : Value × Nat) => cs.setIfInBounds (0 + p.2) p.1) cs).toList = cs.toList.take k ++ l := by
    intro l
    induction l with
    | nil => intro k cs hk; simp at hk; rw [hk, List.append_nil, List.take_of_length_le (by simp)]; rfl
    | cons v r ih =>
      intro k cs hk
      simp only [List.zipIdx_cons, List.foldl_cons]
      rw [ih (k + 1) _ (by simp at hk ⊢; omega)]
      simp only [Nat.zero_add, Array.toList_setIfInBounds]
      have hlt : k < cs.toList.length := by simp at hk ⊢; omega
      rw [List.take_succ_eq_append_getElem (by rw [List.length_set]; exact hlt), List.take_set_of_le (Nat.le_refl _), List.getElem_set_self]
      simp
  have hcl : (Value.agg vs).cells = vs := rfl
  simp only [Instr.fill, hp, hcl, hn, ne_eq, not_true_eq_false, decide_false, Bool.false_or, Nat.zero_add]
  rw [if_neg (by simp; omega)]
  congr 1
  apply Array.toList_inj.1
  have h := e vs.toList 0 cells (by simp; omega)
  rw [List.take_zero, List.nil_append] at h
  rw [← Array.foldl_toList, Array.toList_zipIdx]
  simpa using h
/-- a slice literal of one whole value -/
theorem run_slice_one (w : World) (t e : TypeId) (vs : List Value) (z : Value) (n b : Nat) (hl : vs.length = n) (hu : Tryd.prog.underlying t = some (.slice e)) (hi : (Tryd.prog.info? e).map (fun i => (i.zero, i.size, i.bytes)) = some (some z, n, b)) (hz : z.cells.size = n) (hn0 : 0 < n) (hn : n ≤ 100) :
    (Instr.buildSlice t 1 #[(0, .agg vs.toArray)]).run Tryd.prog w = .ok (.slice (some ⟨w.heap.size, 0, none⟩) 1 1) (w.alloc (.cells vs.toArray e)) := by
  cases hq : Tryd.prog.info? e with
  | none => simp [hq] at hi
  | some i =>
    simp only [hq, Option.map_some, Option.some.injEq, Prod.mk.injEq] at hi
    obtain ⟨h1, h2, h3⟩ := hi
    refine run_buildSlice w t e 1 _ _ i z hu hq h1 (by rw [h2]; simp only [Nat.reducePow]; omega) (by rw [h2]; omega) ?_
    exact fill_one_ (n := n) (by rw [h2, Nat.zero_mul]) (by simp [hl]) (by rw [h2]; simp [hz])
theorem wpList_slice_one {ops : Array Oper} {rest : List Oper} {o : Oper} {a : Act} {w : World} {Q : Exit → Act → World → Prop} (hg : o.guard = none) (t e : TypeId) (x : Operand) (ho : o.op = .buildSlice t 1 #[(0, x)]) (vs : List Value) (z : Value) (n b : Nat) (hx : a.eval x = .agg vs.toArray) (hl : vs.length = n)
    (hu : Tryd.prog.underlying t = some (.slice e)) (hi : (Tryd.prog.info? e).map (fun i => (i.zero, i.size, i.bytes)) = some (some z, n, b)) (hz : z.cells.size = n) (hn0 : 0 < n) (hn : n ≤ 100)
    (hk : wpList Tryd.prog ops Q rest (a.put o.dst (.slice (some ⟨w.heap.size, 0, none⟩) 1 1)) (w.alloc (.cells vs.toArray e))) : wpList Tryd.prog ops Q (o :: rest) a w :=
  wpList_plain hg fun K hK => by
    have hp : (#[(0, x)] : Array (Nat × Operand)).map (fun (i, y) => (i, a.eval y)) = #[(0, .agg vs.toArray)] := by simp [hx]
    unfold Oper.wp execOp
    simp only [ho, hp, Sem.run_bind, run_slice_one w t e vs z n b hl hu hi hz hn0 hn, Result.andThen_ok]
    exact hK _ _ hk
theorem spc_set33 (h : List Int) (n : Int) (k k' : ByteArray) (s : Int) (hl : h.length = 32) : (spc ⟨h, n, k, s⟩).set 33 (.string k') = spc ⟨h, n, k', s⟩ := by
  unfold spc; rw [List.set_append_right _ _ (by simp [nums, hl])]; simp [nums, hl]
theorem spc_set34 (h : List Int) (n : Int) (k : ByteArray) (s s' : Int) (hl : h.length = 32) : (spc ⟨h, n, k, s⟩).set 34 (.int .u64 s') = spc ⟨h, n, k, s'⟩ := by
  unfold spc; rw [List.set_append_right _ _ (by simp [nums, hl])]; simp [nums, hl]
/-- was all read? -/
def rdEnd : Rd → Option Int
  | some [] => none
  | _ => some 2
def rdList {α : Type} (f : Rd → α × Rd) : Nat → Rd → List α × Rd
  | 0, r => ([], r)
  | k + 1, r => ((rdList f k r).1 ++ [(f (rdList f k r).2).1], (f (rdList f k r).2).2)
theorem rdList_len {α : Type} (f : Rd → α × Rd) : ∀ (k : Nat) (r : Rd), (rdList f k r).1.length = k
  | 0, r => rfl
  | k + 1, r => by rw [rdList]; simp [rdList_len f k r]
def rdSpend (r : Rd) : Sp × Rd :=
  (⟨(rdHash r).1, (rdNum 4 (rdHash r).2).1, strOfNums (rdText 32 (rdNum 4 (rdHash r).2).2).1, (rdNum 8 (rdText 32 (rdNum 4 (rdHash r).2).2).2).1⟩, (rdNum 8 (rdText 32 (rdNum 4 (rdHash r).2).2).2).2)
def rdCoin (r : Rd) : Co × Rd := (⟨IntKind.i64.wrap (rdNum 8 r).1, (rdNum 8 (rdNum 8 r).2).1⟩, (rdNum 8 (rdNum 8 r).2).2)
def rdSpends (r : Rd) : List Sp × Rd := rdList rdSpend (rdCount 8 r).1 (rdCount 8 r).2
def rdCoins (r : Rd) : List Co × Rd := rdList rdCoin (rdCount 8 r).1 (rdCount 8 r).2
/-- what is left are bytes -/
def RB (r : Rd) : Prop := ∀ l, r = some l → Bytes l
theorem rb_next {n : Nat} {r : Rd} (h : RB r) : RB (rdNext n r).2 := (next_bytes h).2
theorem rb_num {n : Nat} {r : Rd} (h : RB r) : RB (rdNum n r).2 := rb_next h
theorem rb_none : RB none := fun _ h => by cases h
theorem rb_cnt {r : Rd} (h : RB r) : RB (rdCnt r).2 := by
  unfold rdCnt
  split
  · show RB (if _ then _ else _)
    split
    · exact rb_num (rb_num h)
    · exact rb_none
  · exact rb_num h
theorem rb_count {most : Nat} {r : Rd} (h : RB r) : RB (rdCount most r).2 := by
  unfold rdCount
  split
  · exact rb_none
  · exact rb_cnt h
theorem rb_text {most : Nat} {r : Rd} (h : RB r) : RB (rdText most r).2 := rb_next (rb_count h)
theorem rb_hash {r : Rd} (h : RB r) : RB (rdHash r).2 := rb_next h
theorem rb_list {α : Type} {f : Rd → α × Rd} (hf : ∀ r, RB r → RB (f r).2) : ∀ (k : Nat) {r : Rd}, RB r → RB (rdList f k r).2
  | 0, _, h => h
  | k + 1, _, h => hf _ (rb_list hf k h)
theorem rb_spend (r : Rd) (h : RB r) : RB (rdSpend r).2 := rb_num (rb_text (rb_num (rb_hash h)))
theorem rb_coin (r : Rd) (h : RB r) : RB (rdCoin r).2 := rb_num (rb_num h)
theorem hash_ok {r : Rd} (h : RB r) : (rdHash r).1.length = 32 ∧ Bytes (rdHash r).1 := by
  unfold rdHash
  refine ⟨?_, ?_⟩
  · show (if _ then _ else _ : List Int).length = 32
    split
    · assumption
    · rfl
  · show Bytes (if _ then _ else _)
    split
    · exact (next_bytes h).1
    · intro x hx; simp [zero32] at hx; omega
theorem count_le (most : Nat) (r : Rd) : (rdCount most r).1 ≤ most := by
  unfold rdCount
  split
  · exact Nat.zero_le _
  · show (rdCnt r).1.toNat ≤ most; omega
theorem text_len (most : Nat) (r : Rd) : (rdText most r).1.length ≤ most := Nat.le_trans (next_len _ _) (count_le _ _)
theorem spend_ok {r : Rd} (h : RB r) : SpO (rdSpend r).1 := by
  have h1 := hash_ok h
  have h2 := num_bound (n := 8) (rb_text (most := 32) (rb_num (n := 4) (rb_hash h)))
  refine ⟨h1.1, h1.2, h2.1, h2.2, ?_⟩
  show (strOfNums _).size ≤ _
  rw [strOfNums_size]
  exact Nat.le_trans (text_len 32 _) (by decide)
theorem coin_ok {r : Rd} (h : RB r) : CoOk (rdCoin r).1 := num_bound (n := 8) (rb_num (n := 8) h)
section
variable {N P : Nat} {w w' : World} {r : Rd}
set_option maxRecDepth 100000 in
set_option maxHeartbeats 800000 in
theorem iend_calls (h : InH N w P r) : Calls Tryd.prog 37 #[.pointer (some ⟨P, 0, none⟩)] w fun e w' => e = .returned (Go.Proofs.YtlgfekllkahfaaaDoor.Q.errW (rdEnd r)) ∧ w = w' := by
  have hP : ∀ W : World, (Go.binOp BinOp.eql 60 (.pointer (some ⟨P, 0, none⟩)) (.pointer none)).run Tryd.prog W = Result.ok (.bool false) W := fun W => by go_simp
  cases r with
  | none =>
    have g1 := h.2.get 1 _ rfl
    clear h
    go_enter Tryd.func37, Tryd.ntmps37
    go_wp2
    go_ret
    exact ⟨rfl, rfl⟩
  | some l =>
    obtain ⟨hN, hbt, A, c, hb, hc, hF⟩ := h
    have g0 := hb.get 0 _ rfl
    have g1 := hb.get 1 _ rfl
    clear hb hF hbt
    cases l with
    | nil =>
      go_enter Tryd.func37, Tryd.ntmps37
      go_wp2
      go_ret
      exact ⟨rfl, rfl⟩
    | cons x l =>
      have p0 : (0 : Int) < (((x :: l).length : Nat) : Int) := by simp; try omega
      generalize hk : (x :: l).length = k at *
      have hr : rdEnd (some (x :: l)) = some 2 := rfl
      rw [hr]
      clear hk hr
      go_enter Tryd.func37, Tryd.ntmps37
      go_wp2
      go_ret
      exact ⟨rfl, rfl⟩
theorem R_over_P {α : Type} {d : Kd α} {e base : Nat} {ok : Nat → Prop} {W W1 : World} {v : Value} {l : List α} (hR : Kd.R d e W base ok v l) (hP : P < base) (hg : W.grownBy W1 (some P)) : Kd.R d e W1 base ok v l :=
  Kd.R_mono (Kd.R_grown (Kd.R_bound hR) hg (fun k hk e => by have := hk.2.1; have := Option.some.inj e; omega)) (fun _ hk => hk.1)
theorem R_elders {α : Type} {d : Kd α} {e base : Nat} {ok : Nat → Prop} {W : World} {v : Value} {l : List α} (hR : Kd.R d e W base ok v l) : Kd.R d e W base (fun k => k ≠ W.heap.size) v l :=
  Kd.R_mono (Kd.R_bound hR) (fun k hk => by have := hk.2.2.1; omega)
theorem grown_trans2 {w1 w2 : World} {S : Nat} (h : w.grownBy w1 (some P)) (h2 : w1.grownBy w2 (some S)) (hS : w.heap.size ≤ S) : w.grownBy w2 (some P) :=
  ⟨h2.os.trans h.os, h2.tape.trans h.tape, h2.output.trans h.output, Nat.le_trans h.size h2.size, fun k hk hne => (h2.block k (by have := h.size; omega) (by intro e; have := Option.some.inj e; omega)).trans (h.block k hk hne)⟩
theorem grown_trans3 {w1 w2 : World} {row : Option Nat} (h : w.grownBy w1 (some P)) (h2 : w1.grownBy w2 row) (hS : ∀ k, row = some k → w.heap.size ≤ k) : w.grownBy w2 (some P) :=
  ⟨h2.os.trans h.os, h2.tape.trans h.tape, h2.output.trans h.output, Nat.le_trans h.size h2.size, fun k hk hne => (h2.block k (by have := h.size; omega) (by intro e; have := hS k e.symm; omega)).trans (h.block k hk hne)⟩
theorem spend_row {α : Type} {d : Kd α} {e base : Nat} {ok : Nat → Prop} {W : World} {v : Value} {l : List α} (hR : Kd.R d e W base ok v l) (hP : P < base) (hN : N ≤ P) : ∀ k, v.ownBlock = some k → N ≤ k ∧ k ≠ P := fun k hk => by
  have := Kd.R_base hR k hk
  exact ⟨by omega, by omega⟩
set_option maxRecDepth 100000 in
set_option maxHeartbeats 1600000 in
theorem spends_calls (h : InH N w P r) : Calls Tryd.prog 29 #[.pointer (some ⟨P, 0, none⟩)] w fun e w' => ∃ v, e = .returned v ∧ RSp w.heap.size w' v (rdSpends r).1 ∧ InH N w' P (rdSpends r).2 ∧ w.grownBy w' (some P) := by
  have hrb : RB r := h.bytes
  have hPlt := h.lt
  have hNP := h.le
  have hcA := Aside0.mk (show Calls Tryd.prog 55 #[.pointer (some ⟨P, 0, none⟩), .int .i64 8] w fun e w' => e = .returned (.int .i64 ((rdCount 8 r).1 : Int)) ∧ InH N w' P (rdCount 8 r).2 ∧ w.grownBy w' (some P) from icount_calls 8 (by decide) h)
  have hle := count_le 8 r
  have hrb1 := rb_count (most := 8) hrb
  unfold rdSpends
  clear h hrb
  generalize rdCount 8 r = z at *
  obtain ⟨n, r1⟩ := z
  simp only at hcA hle hrb1 ⊢
  go_enter Tryd.func29, Tryd.ntmps29
  go_wp2_with (go_at_call 55; (with_reducible refine hcA.out.mono ?_); rintro e w2 ⟨rfl, hI, hg⟩; have hI2A := Aside0.mk hI; have hg2A := Aside0.mk hg; clear hI hg)
  go_loopw [7, 3] (fun i u wr => ∃ k : Nat, k ≤ n ∧ i = .int .i64 (k : Int) ∧ RSp w.heap.size wr u (rdList rdSpend k r1).1 ∧ InH N wr P (rdList rdSpend k r1).2 ∧ w.grownBy wr (some P)) (fun i _ _ => n - (intOf i).toNat)
  case atStart => exact ⟨0, by omega, rfl, Kd.R_nil _ _ _ _ _, hI2A.out, hg2A.out⟩
  case round =>
    obtain ⟨k, hk, rfl, hR, hI, hg⟩ := hrel
    by_cases hlt : k < n
    · have p1 : (k : Int) < (n : Int) := by omega
      have e2 : IntKind.i64.wrap ((k : Int) + 1) = (k : Int) + 1 := IntWalk.i64_in _ (by omega)
      have hll := rdList_len rdSpend k r1
      have hrk : RB (rdList rdSpend k r1).2 := rb_list rb_spend k hrb1
      have hso := spend_ok hrk
      have hstep : rdList rdSpend (k + 1) r1 = ((rdList rdSpend k r1).1 ++ [(rdSpend (rdList rdSpend k r1).2).1], (rdSpend (rdList rdSpend k r1).2).2) := rfl
      generalize hrl : rdList rdSpend k r1 = y at *
      obtain ⟨l, rk⟩ := y
      have hsp : rdSpend rk = (⟨(rdHash rk).1, (rdNum 4 (rdHash rk).2).1, strOfNums (rdText 32 (rdNum 4 (rdHash rk).2).2).1, (rdNum 8 (rdText 32 (rdNum 4 (rdHash rk).2).2).2).1⟩, (rdNum 8 (rdText 32 (rdNum 4 (rdHash rk).2).2).2).2) := rfl
      simp only at hll hrk hso hstep hR hI
      rw [hsp] at hso hstep
      clear hsp
      have cH := Aside0.mk (fun W (h : InH N W P rk) => ihash_calls h)
      have cM := Aside0.mk (fun W (h : InH N W P (rdHash rk).2) => inum_at 4 4 rfl (.inr (.inr (.inl rfl))) h)
      have cT := Aside0.mk (fun W (h : InH N W P (rdNum 4 (rdHash rk).2).2) => (show Calls Tryd.prog 57 #[.pointer (some ⟨P, 0, none⟩), .int .i64 32] W fun e w' => e = .returned (.string (strOfNums (rdText 32 (rdNum 4 (rdHash rk).2).2).1)) ∧ InH N w' P (rdText 32 (rdNum 4 (rdHash rk).2).2).2 ∧ W.grownBy w' (some P) from itext_calls 32 (by decide) h))
      have cS := Aside0.mk (fun W (h : InH N W P (rdText 32 (rdNum 4 (rdHash rk).2).2).2) => inum_at 8 8 rfl (.inr (.inr (.inr rfl))) h)
      have hh := (hash_ok hrk).1
      have hm := num_bound (n := 4) (rb_hash hrk)
      generalize rdHash rk = zh at *
      obtain ⟨hd, rh⟩ := zh
      simp only at cH cM cT cS hh hm hso hstep
      generalize rdNum 4 rh = zm at *
      obtain ⟨m, rm⟩ := zm
      simp only at cM cT cS hm hso hstep
      generalize rdText 32 rm = zt at *
      obtain ⟨tx, rt⟩ := zt
      simp only at cT cS hso hstep
      generalize rdNum 8 rt = zs at *
      obtain ⟨sl, rs⟩ := zs
      simp only at cS hso hstep
      have e4 : IntKind.i64.wrap m = m := IntWalk.i64_in _ (by omega)
      generalize strOfNums tx = key at *
      have hstepA := Aside0.mk hstep
      clear hstep
      have hRA := Aside0.mk hR; have hIA := Aside0.mk hI; have hgA := Aside0.mk hg; have hllA := Aside0.mk hll; have hsoA := Aside0.mk hso; have hhA := Aside0.mk hh
      have hz0 : (spc zsp).length = (spc ⟨hd, m, ByteArray.empty, 0⟩).length := by rw [spc_length zsp (by rfl), spc_length ⟨hd, m, ByteArray.empty, 0⟩ hh]
      have hz0A := Aside0.mk hz0
      have hsl := spc_length ⟨hd, m, key, sl⟩ hh
      clear hR hI hg hll hso hrk hrb1 hm hz0 hh
      go_wp2_with (first | (go_at_call 56; (with_reducible refine (cH.out _ hIA.out).mono ?_); rintro e w3 ⟨rfl, hI, hg⟩; have hI3A := Aside0.mk hI; have hR3A := Aside0.mk (R_over_P hRA.out hPlt hg); have hg3A := Aside0.mk (grown_trans hgA.out hg); clear hI hg) | (go_at_call 31; (with_reducible refine (cM.out _ hI3A.out).mono ?_); rintro e w4 ⟨rfl, hI, hg⟩; have hI4A := Aside0.mk hI; have hR4A := Aside0.mk (R_elders (R_over_P hR3A.out hPlt hg)); have hg4A := Aside0.mk (grown_trans hg3A.out hg); clear hI hg) | ((with_reducible refine gate_dst (N := 13) rfl ?_); (refine Kd.event_run (v := .int .i64 m) (w1 := w4) rfl ?hr ?_; (case hr => first | (go_simp; done) | (go_simp; rfl)); refine wpList_built rfl 36 [(0, .tmp 10), (1, .tmp 13)] rfl (nums .u8 hd ++ [Value.int .i64 m]).toArray (built_point hd m hhA.out) ?_; refine wpList_built rfl 38 [(0, .tmp 14)] rfl (spc ⟨hd, m, ByteArray.empty, 0⟩).toArray (built_spend hd m hhA.out) ?_)) | ((with_reducible refine gate_dst (N := 4) rfl ?_); (refine wpList_new_put rfl (N := 4) rfl rfl 38 (.tmp 15) rfl (spc ⟨hd, m, ByteArray.empty, 0⟩) (spc zsp) hz0A.out ?hr rfl rfl (info_spend _ hhA.out) (spc_one _) ?_; (case hr => first | (go_simp; done) | (go_simp; rfl)); intro w5 hX5 hb5 hs5; have hX5A := Aside0.mk hX5; have hI5A := Aside0.mk (hI4A.out.below hb5); have hR5A := Aside0.mk (Kd.R_below hR4A.out hb5); have hg5A := Aside0.mk (grown_trans hg4A.out (grown_of_below hb5 _)); have hS5 := hI4A.out.lt; have hS6 := hg4A.out.size; clear hX5 hb5 hs5)) | (go_at_call 57; (with_reducible refine (cT.out _ hI5A.out).mono ?_); rintro e w6 ⟨rfl, hI, hg⟩; have hX6 := hX5A.out.grown hg (by intro e; have := Option.some.inj e; omega); have g33 := hX6.get 33 _ (spc_key _ hhA.out); have f33 := hX6.fz 33; have hI7A := Aside0.mk (hI.grown (grown_set w6 w4.heap.size 33 (.string key)) (by intro k e; have := Option.some.inj e; exact ⟨by omega, by omega⟩)); have hR6 := R_over_P hR5A.out hPlt hg; have hR7A := Aside0.mk (Kd.R_far (p := ⟨w4.heap.size, 33, none⟩) hR6 (fun _ h => h) (.string key)); have hX7 := hX6.set 33 (.string key); rw [spc_set33 _ _ _ _ _ hhA.out] at hX7; have hX7A := Aside0.mk hX7; have hg7A := Aside0.mk (show w.grownBy (w6.setCell ⟨w4.heap.size, 33, none⟩ (.string key)) (some P) from grown_trans2 (grown_trans hg5A.out hg) (grown_set w6 w4.heap.size 33 (.string key)) hS6); clear hI hg hX6 hR6 hX7) | (go_at_call 31; (with_reducible refine (cS.out _ hI7A.out).mono ?_); rintro e w8 ⟨rfl, hI, hg⟩; clear g33 f33; have hX8 := hX7A.out.grown hg (by intro e; have := Option.some.inj e; omega); have g34 := hX8.get 34 _ (spc_seal _ hhA.out); have f34 := hX8.fz 34; have hI9A := Aside0.mk (hI.grown (grown_set w8 w4.heap.size 34 (.int .u64 sl)) (by intro k e; have := Option.some.inj e; exact ⟨by omega, by omega⟩)); have hR8 := R_over_P hR7A.out hPlt hg; have hR9A := Aside0.mk (Kd.R_far (p := ⟨w4.heap.size, 34, none⟩) hR8 (fun _ h => h) (.int .u64 sl)); have hX9 := hX8.set 34 (.int .u64 sl); rw [spc_set34 _ _ _ _ _ hhA.out] at hX9; have hX9A := Aside0.mk hX9; have hL9A := Aside0.mk hX9.lt; have hg9A := Aside0.mk (show w.grownBy (w8.setCell ⟨w4.heap.size, 34, none⟩ (.int .u64 sl)) (some P) from grown_trans2 (grown_trans hg7A.out hg) (grown_set w8 w4.heap.size 34 (.int .u64 sl)) hS6); clear hI hg hX8 hR8 hX9) | ((with_reducible refine gate_dst (N := 23) rfl ?_); (clear g34 f34; refine wpList_load_blk rfl 38 (.tmp 4) rfl w4.heap.size 38 rfl (spc ⟨hd, m, key, sl⟩) _ hX9A.out Tryd.underlying38 rfl (info_spend _ hhA.out) ?_)) | ((with_reducible refine gate_dst (N := 24) rfl ?_); (refine wpList_slice_one rfl 22 38 (.tmp 23) rfl (spc ⟨hd, m, key, sl⟩) (spv zsp) 35 64 rfl (spc_length _ hhA.out) Tryd.underlying22 info_sp rfl (by decide) (by decide) ?_)) | ((with_reducible refine gate_dst (N := 25) rfl ?_); at_builtin; (refine Kd.R_append kSp (w0 := w8.setCell ⟨w4.heap.size, 34, none⟩ (.int .u64 sl)) (W := w8.setCell ⟨w4.heap.size, 34, none⟩ (.int .u64 sl)) w.heap.size rfl (.tmp 22) (.tmp 24) 22 38 (spv zsp) 64 rfl Tryd.underlying22 info_sp rfl (by decide) (by omega) _ l ⟨hd, m, key, sl⟩ (spc ⟨hd, m, key, sl⟩) (fun k => k ≠ w4.heap.size) (fun _ => False) rfl (by rw [show (w8.setCell ⟨w4.heap.size, 34, none⟩ (.int .u64 sl)).heap.size = w8.heap.size by simp [World.setCell]]; rfl) ⟨hsoA.out, rfl⟩ (fun _ hk => hk.elim) (fun k hk => by have := hL9A.out; omega) hR9A.out (Below.refl _ _) hg9A.out.size (by have := hllA.out; omega) ?_; intro v9 w10 hR10 hb10 hg10 _; have hR10A := Aside0.mk (Kd.R_mono hR10 (fun _ _ => trivial)); have hI10A := Aside0.mk (hI9A.out.grown hg10 (spend_row hR9A.out hPlt hNP)); have hg10A := Aside0.mk (grown_trans3 hg9A.out hg10 (Kd.R_base hR9A.out)); clear hR10 hb10 hg10)))
      go_roundw
      · exact ⟨k + 1, by omega, by go_num, by rw [hstepA.out]; exact hR10A.out, by rw [hstepA.out]; exact hI10A.out, hg10A.out⟩
      · simp [intOf]; omega
    · obtain rfl : k = n := by omega
      have p1 : ¬ (k : Int) < (k : Int) := by omega
      have hRA := Aside0.mk hR; have hIA := Aside0.mk hI; have hgA := Aside0.mk hg
      clear hR hI hg
      go_wp2_with fail
      go_ret
      exact ⟨_, rfl, hRA.out, hIA.out, hgA.out⟩
set_option maxRecDepth 100000 in
set_option maxHeartbeats 1600000 in
theorem coins_calls (h : InH N w P r) : Calls Tryd.prog 30 #[.pointer (some ⟨P, 0, none⟩)] w fun e w' => ∃ v, e = .returned v ∧ RCo w.heap.size w' v (rdCoins r).1 ∧ InH N w' P (rdCoins r).2 ∧ w.grownBy w' (some P) := by
  have hrb : RB r := h.bytes
  have hPlt := h.lt
  have hNP := h.le
  have hcA := Aside0.mk (show Calls Tryd.prog 55 #[.pointer (some ⟨P, 0, none⟩), .int .i64 8] w fun e w' => e = .returned (.int .i64 ((rdCount 8 r).1 : Int)) ∧ InH N w' P (rdCount 8 r).2 ∧ w.grownBy w' (some P) from icount_calls 8 (by decide) h)
  have hle := count_le 8 r
  have hrb1 := rb_count (most := 8) hrb
  unfold rdCoins
  clear h hrb
  generalize rdCount 8 r = z at *
  obtain ⟨n, r1⟩ := z
  simp only at hcA hle hrb1 ⊢
  go_enter Tryd.func30, Tryd.ntmps30
  go_wp2_with (go_at_call 55; (with_reducible refine hcA.out.mono ?_); rintro e w2 ⟨rfl, hI, hg⟩; have hI2A := Aside0.mk hI; have hg2A := Aside0.mk hg; clear hI hg)
  go_loopw [7, 3] (fun i u wr => ∃ k : Nat, k ≤ n ∧ i = .int .i64 (k : Int) ∧ RCo w.heap.size wr u (rdList rdCoin k r1).1 ∧ InH N wr P (rdList rdCoin k r1).2 ∧ w.grownBy wr (some P)) (fun i _ _ => n - (intOf i).toNat)
  case atStart => exact ⟨0, by omega, rfl, Kd.R_nil _ _ _ _ _, hI2A.out, hg2A.out⟩
  case round =>
    obtain ⟨k, hk, rfl, hR, hI, hg⟩ := hrel
    by_cases hlt : k < n
    · have p1 : (k : Int) < (n : Int) := by omega
      have e2 : IntKind.i64.wrap ((k : Int) + 1) = (k : Int) + 1 := IntWalk.i64_in _ (by omega)
      have hll := rdList_len rdCoin k r1
      have hrk : RB (rdList rdCoin k r1).2 := rb_list rb_coin k hrb1
      have hso := coin_ok hrk
      have hstep : rdList rdCoin (k + 1) r1 = ((rdList rdCoin k r1).1 ++ [(rdCoin (rdList rdCoin k r1).2).1], (rdCoin (rdList rdCoin k r1).2).2) := rfl
      generalize hrl : rdList rdCoin k r1 = y at *
      obtain ⟨l, rk⟩ := y
      have hsp : rdCoin rk = (⟨IntKind.i64.wrap (rdNum 8 rk).1, (rdNum 8 (rdNum 8 rk).2).1⟩, (rdNum 8 (rdNum 8 rk).2).2) := rfl
      simp only at hll hrk hso hstep hR hI
      rw [hsp] at hso hstep
      clear hsp
      have cM := Aside0.mk (fun W (h : InH N W P rk) => inum_at 8 8 rfl (.inr (.inr (.inr rfl))) h)
      have cS := Aside0.mk (fun W (h : InH N W P (rdNum 8 rk).2) => inum_at 8 8 rfl (.inr (.inr (.inr rfl))) h)
      generalize rdNum 8 rk = zm at *
      obtain ⟨m, rm⟩ := zm
      simp only at cM cS hso hstep
      generalize rdNum 8 rm = zs at *
      obtain ⟨sl, rs⟩ := zs
      simp only at cS hso hstep
      obtain ⟨q, hq⟩ : ∃ q, IntKind.i64.wrap m = q := ⟨_, rfl⟩
      rw [hq] at hso hstep
      have hsl : (coc ⟨q, sl⟩).length = 2 := rfl
      have hstepA := Aside0.mk hstep
      clear hstep
      have hRA := Aside0.mk hR; have hIA := Aside0.mk hI; have hgA := Aside0.mk hg; have hllA := Aside0.mk hll; have hsoA := Aside0.mk hso
      clear hR hI hg hll hso hrk hrb1
      go_wp2_with (first | (go_at_call 31; (first | ((with_reducible refine (cM.out _ hIA.out).mono ?_); rintro e w4 ⟨rfl, hI, hg⟩; have hI4A := Aside0.mk hI; have hR4A := Aside0.mk (R_elders (R_over_P hRA.out hPlt hg)); have hg4A := Aside0.mk (grown_trans hgA.out hg); clear hI hg cM hIA hRA hgA) | ((with_reducible refine (cS.out _ hI5A.out).mono ?_); rintro e w8 ⟨rfl, hI, hg⟩; have hX8 := hX5A.out.grown hg (by intro e; have := Option.some.inj e; omega); have g1 := hX8.get 1 _ rfl; have f1 := hX8.fz 1; have hI9A := Aside0.mk (hI.grown (grown_set w8 w4.heap.size 1 (.int .u64 sl)) (by intro k e; have := Option.some.inj e; exact ⟨by omega, by omega⟩)); have hR8 := R_over_P hR5A.out hPlt hg; have hR9A := Aside0.mk (Kd.R_far (p := ⟨w4.heap.size, 1, none⟩) hR8 (fun _ h => h) (.int .u64 sl)); have hX9 := hX8.set 1 (.int .u64 sl); have hX9A := Aside0.mk (show Blk _ w4.heap.size 52 (coc ⟨q, sl⟩) from hX9); have hL9A := Aside0.mk hX9.lt; have hg9A := Aside0.mk (show w.grownBy (w8.setCell ⟨w4.heap.size, 1, none⟩ (.int .u64 sl)) (some P) from grown_trans2 (grown_trans hg5A.out hg) (grown_set w8 w4.heap.size 1 (.int .u64 sl)) hS6); clear hI hg hX8 hR8 hX9))) | ((with_reducible refine gate_dst (N := 4) rfl ?_); (refine wpList_new_put rfl (N := 4) rfl rfl 52 (.tmp 12) rfl (coc ⟨q, 0⟩) (coc ⟨0, 0⟩) rfl ?hr rfl rfl (info_coin _) (coc_one _) ?_; (case hr => first | (go_simp; done) | (go_simp; rfl)); intro w5 hX5 hb5 hs5; have hX5A := Aside0.mk hX5; have hI5A := Aside0.mk (hI4A.out.below hb5); have hR5A := Aside0.mk (Kd.R_below hR4A.out hb5); have hg5A := Aside0.mk (grown_trans hg4A.out (grown_of_below hb5 _)); have hS5 := hI4A.out.lt; have hS6 := hg4A.out.size; clear hX5 hb5 hs5)) | ((with_reducible refine gate_dst (N := 17) rfl ?_); (clear g1 f1; refine wpList_load_blk rfl 52 (.tmp 4) rfl w4.heap.size 52 rfl (coc ⟨q, sl⟩) _ hX9A.out Tryd.underlying52 rfl (info_coin _) ?_)) | ((with_reducible refine gate_dst (N := 19) rfl ?_); at_builtin; (refine Kd.R_append kCo (w0 := w8.setCell ⟨w4.heap.size, 1, none⟩ (.int .u64 sl)) (W := w8.setCell ⟨w4.heap.size, 1, none⟩ (.int .u64 sl)) w.heap.size rfl (.tmp 16) (.tmp 18) 23 52 (cov ⟨0, 0⟩) 16 rfl Tryd.underlying23 info_co rfl (by decide) (by omega) _ l ⟨q, sl⟩ (coc ⟨q, sl⟩) (fun k => k ≠ w4.heap.size) (fun _ => False) rfl (by rw [show (w8.setCell ⟨w4.heap.size, 1, none⟩ (.int .u64 sl)).heap.size = w8.heap.size by simp [World.setCell]]; rfl) ⟨hsoA.out, rfl⟩ (fun _ hk => hk.elim) (fun k hk => by have := hL9A.out; omega) hR9A.out (Below.refl _ _) hg9A.out.size (by have := hllA.out; omega) ?_; intro v9 w10 hR10 hb10 hg10 _; have hR10A := Aside0.mk (Kd.R_mono hR10 (fun _ _ => trivial)); have hI10A := Aside0.mk (hI9A.out.grown hg10 (spend_row hR9A.out hPlt hNP)); have hg10A := Aside0.mk (grown_trans3 hg9A.out hg10 (Kd.R_base hR9A.out)); clear hR10 hb10 hg10)))
      go_roundw
      · exact ⟨k + 1, by omega, by go_num, by rw [hstepA.out]; exact hR10A.out, by rw [hstepA.out]; exact hI10A.out, hg10A.out⟩
      · simp [intOf]; omega
    · obtain rfl : k = n := by omega
      have p1 : ¬ (k : Int) < (k : Int) := by omega
      have hRA := Aside0.mk hR; have hIA := Aside0.mk hI; have hgA := Aside0.mk hg
      clear hR hI hg
      go_wp2_with fail
      go_ret
      exact ⟨_, rfl, hRA.out, hIA.out, hgA.out⟩
end
end Go.Proofs.YtlgfekllkahfaaaDoor.Pack
/- A transaction read. -/
set_option linter.unusedVariables false
set_option linter.unusedSimpArgs false
namespace Go.Proofs.YtlgfekllkahfaaaDoor.Pack
open Go.RowKit Go.Proofs.YtlgfekllkahfaaaDoorW.PrintWords Go.Proofs.YtlgfekllkahfaaaDoorW.PrintMore Go.Proofs.YtlgfekllkahfaaaDoor Go.Proofs.YtlgfekllkahfaaaDoor.Bits Sha ArrK ShaW
open Go.Proofs.YtlgfekllkahfaaaDoor.InRound (op_at)
theorem F_of_C8 {w : World} {A : Option Addr} {n : Nat} {xs : List Int} (h : Kd.C (Kd.int .u8) w A n xs) : Kd.F (Kd.int .u8) w (fun k => k < w.heap.size) A n xs := fun W' hW => ⟨h.1, h.2.1, fun hn => by
  obtain ⟨ad, e, hc⟩ := h.2.2 hn
  refine ⟨ad, e, fun j p hj => ?_⟩
  obtain ⟨c, h1, h2, h3⟩ := hc j p hj
  refine ⟨c, h1, h2, fun i u hu => ?_⟩
  have h4 := h3 i u hu
  have hlt := World.block_lt_of_cell? w _ h4
  have := hW _ hlt hlt
  simpa [World.cell?, this] using h4⟩
set_option maxRecDepth 100000 in
set_option maxHeartbeats 800000 in
theorem read_calls (w : World) (A : Option Addr) (c : Nat) (l : List Int) (hC : Kd.C (Kd.int .u8) w A l.length l) (hc : l.length ≤ c) (hb : Bytes l) (hl : l.length ≤ 1000000000) :
    Calls Tryd.prog 28 #[.slice A l.length c] w fun e w' => ∃ P, e = .returned (.pointer (some ⟨P, 0, none⟩)) ∧ w.heap.size ≤ P ∧ InH P w' P (some l) ∧ Below w.heap.size w w' := by
  have hcl := Aside0.mk (Go.Proofs.YtlgfekllkahfaaaDoor.Q.slices_Clone_byte_byte.calls A c l l w hC hc (by
    unfold Go.Proofs.YtlgfekllkahfaaaDoor.Q.slices_Clone_byte_byte.f
    rw [Option.bind_some, if_pos (by simp; omega)]; rfl))
  clear hC hc
  go_enter Tryd.func28, Tryd.ntmps28
  go_wp2_with (go_at_call 54; ((with_reducible refine hcl.out.mono ?_); rintro e w2 ⟨v, rfl, hR, hb2⟩; obtain ⟨A2, c2, rfl⟩ := Kd.R_slice hR; have hR2A := Aside0.mk hR; have hb2A := Aside0.mk hb2; clear hR hb2))
  go_ret
  obtain ⟨-, h1, h2⟩ := Kd.R_reads' hR2A.out
  exact ⟨w2.heap.size, rfl, hb2A.out.size, ⟨Nat.le_refl _, hb, A2, c2, Blk.new w2 92 [.slice A2 l.length c2, .bool false], h1, Kd.F_below (F_of_C8 h2) (below_alloc (Below.refl _ _) _)⟩, below_alloc hb2A.out _⟩
def far (s : Sp) : Bool := decide (s.n ≥ 8)
def oddc (c : Co) : Bool := !good c.value
theorem far_enters (args : Array Value) (w : World) : (callFunc 33 args).run Tryd.prog w = .ok (.enter 33 args) w := Go.Proofs.enters_of Tryd.func33 (by kernel_rfl) rfl args w
theorem oddc_enters (args : Array Value) (w : World) : (callFunc 35 args).run Tryd.prog w = .ok (.enter 35 args) w := Go.Proofs.enters_of Tryd.func35 (by kernel_rfl) rfl args w
set_option maxRecDepth 100000 in
set_option maxHeartbeats 800000 in
theorem far_calls (s : Sp) (hs : s.tx.length = 32) (W : World) : Calls Tryd.prog 33 #[spv s] W fun e w' => e = .returned (.bool (far s)) ∧ Below W.heap.size W w' := by
  obtain ⟨V, hV⟩ : ∃ V, V = W.alloc (.cells (spc s).toArray 38) := ⟨_, rfl⟩
  have hX : Blk V W.heap.size 38 (spc s) := by rw [hV]; exact Blk.new W _ _
  have hB : Below W.heap.size W V := by rw [hV]; exact below_alloc (Below.refl _ _) _
  have g32 := hX.get 32 _ (spc_n s hs)
  have hVA := Aside0.mk hV; have hBA := Aside0.mk hB
  clear hV hX hB
  unfold far
  generalize s.n = n at *
  go_enter Tryd.func33, Tryd.ntmps33
  go_wp2_with ((with_reducible refine gate_dst (N := 3) rfl ?_); rw [← hVA.out])
  go_ret
  exact ⟨rfl, hBA.out⟩
set_option maxRecDepth 100000 in
set_option maxHeartbeats 800000 in
theorem oddc_calls (s : Co) (W : World) : Calls Tryd.prog 35 #[cov s] W fun e w' => e = .returned (.bool (oddc s)) ∧ Below W.heap.size W w' := by
  obtain ⟨V, hV⟩ : ∃ V, V = W.alloc (.cells (coc s).toArray 52) := ⟨_, rfl⟩
  have hX : Blk V W.heap.size 52 (coc s) := by rw [hV]; exact Blk.new W _ _
  have hB : Below W.heap.size W V := by rw [hV]; exact below_alloc (Below.refl _ _) _
  have g0 := hX.get 0 _ rfl
  have hg := Aside0.mk (fun W => Go.Proofs.YtlgfekllkahfaaaDoor.Q.amount_Good.calls s.value (good s.value) W (good_f s.value))
  have hVA := Aside0.mk hV; have hBA := Aside0.mk hB
  clear hV hX hB
  unfold oddc
  generalize good s.value = b at *
  go_enter Tryd.func35, Tryd.ntmps35
  go_wp2_with (first | ((with_reducible refine gate_dst (N := 3) rfl ?_); rw [← hVA.out]) | (go_at_call 36; ((with_reducible refine (hg.out _).mono ?_); rintro e w2 ⟨rfl, hd⟩; have hdA := Aside0.mk (below_then hBA.out hBA.out.size hd.below); clear hd)))
  go_ret
  exact ⟨rfl, hdA.out⟩
end Go.Proofs.YtlgfekllkahfaaaDoor.Pack
/- tx.Read. -/
set_option linter.unusedVariables false
set_option linter.unusedSimpArgs false
namespace Go.Proofs.YtlgfekllkahfaaaDoor.Pack
open Go.RowKit Go.Proofs.YtlgfekllkahfaaaDoorW.PrintWords Go.Proofs.YtlgfekllkahfaaaDoorW.PrintMore Go.Proofs.YtlgfekllkahfaaaDoor Go.Proofs.YtlgfekllkahfaaaDoor.Bits Sha ArrK ShaW
open Go.Proofs.YtlgfekllkahfaaaDoor.InRound (op_at)
theorem rowS_ {base : Nat} {ok : Nat → Prop} {W : World} {A : Option Addr} {n c : Nat} {l : List Sp} (h : Kd.R kSp 38 W base ok (.slice A n c) l) : SpR0 W A l.length l := (Kd.R_reads' h).2.2
theorem rowC_ {base : Nat} {ok : Nat → Prop} {W : World} {A : Option Addr} {n c : Nat} {l : List Co} (h : Kd.R kCo 52 W base ok (.slice A n c) l) : CoR W A l.length l := (Kd.R_reads' h).2.2
theorem info_tx3_ (x y z : Value) : (Tryd.prog.info? 25).map (·.size) = some [x, y, z].length := by show _ = some 3; kernel_rfl
def rdFirm (l : List Int) : Int × Rd := rdNum 1 (rdCoins (rdSpends (some l)).2).2
def rdBad (l : List Int) : Bool := (rdEnd (rdFirm l).2).isSome || (decide (1 < (rdFirm l).1) || ((rdSpends (some l)).1.any far || (rdCoins (rdSpends (some l)).2).1.any oddc))
/-- the transaction of bytes -/
def rdTx (l : List Int) : Option Tr := if rdBad l = true then none else some ⟨(rdSpends (some l)).1, (rdCoins (rdSpends (some l)).2).1, (rdFirm l).1 == 1⟩
def ztx : Tr := ⟨[], [], false⟩
theorem rdList_ok {α : Type} {f : Rd → α × Rd} {p : α → Prop} (hf : ∀ r, RB r → RB (f r).2) (hp : ∀ r, RB r → p (f r).1) : ∀ (k : Nat) {r : Rd}, RB r → ∀ x ∈ (rdList f k r).1, p x
  | 0, _, _, x, hx => by simp [rdList] at hx
  | k + 1, r, h, x, hx => by
    rw [rdList] at hx
    rcases List.mem_append.1 hx with hx | hx
    · exact rdList_ok hf hp k h x hx
    · rw [List.mem_singleton] at hx; subst hx; exact hp _ (rb_list hf k h)
theorem below_P {b P : Nat} {w W W1 : World} (h : Below b w W) (hP : b ≤ P) (hb : b ≤ W.heap.size) (hg : W.grownBy W1 (some P)) : Below b w W1 := h.grown hg hb (fun k e => by have := Option.some.inj e; omega)
set_option maxRecDepth 100000 in
set_option maxHeartbeats 3200000 in
theorem txread_calls (w : World) (A : Option Addr) (c : Nat) (l : List Int) (hC : Kd.C (Kd.int .u8) w A l.length l) (hc : l.length ≤ c) (hb : Bytes l) (hl : l.length ≤ 1000000000) :
    Calls Tryd.prog 21 #[.slice A l.length c] w fun e w' => (∃ v1 v2, e = .returned (.tuple #[.agg #[v1, v2, .bool ((rdTx l).getD ztx).firm], Go.Proofs.YtlgfekllkahfaaaDoor.Q.errW (if rdBad l = true then some 2 else none)]) ∧ RSp w.heap.size w' v1 ((rdTx l).getD ztx).sp ∧ RCo w.heap.size w' v2 ((rdTx l).getD ztx).co) ∧ Below w.heap.size w w' := by
  have hrb0 : RB (some l) := fun m h => by cases h; exact hb
  have hls8 : (rdSpends (some l)).1.length ≤ 8 := by unfold rdSpends; rw [rdList_len]; exact count_le 8 _
  have hlc8 : (rdCoins (rdSpends (some l)).2).1.length ≤ 8 := by unfold rdCoins; rw [rdList_len]; exact count_le 8 _
  have hrb1 : RB (rdSpends (some l)).2 := rb_list rb_spend _ (rb_count hrb0)
  have hrb2 : RB (rdCoins (rdSpends (some l)).2).2 := rb_list rb_coin _ (rb_count hrb1)
  have hf := num_bound (n := 1) hrb2
  have hrd := Aside0.mk (fun W (hW : Below w.heap.size w W) => read_calls W A c l (Kd.C_below hC hW) hc hb hl)
  have hsp := Aside0.mk (fun W P (h : InH P W P (some l)) => spends_calls h)
  have hco := Aside0.mk (fun W P (h : InH P W P (rdSpends (some l)).2) => coins_calls h)
  have hnm := Aside0.mk (fun W P (h : InH P W P (rdCoins (rdSpends (some l)).2).2) => inum_at 1 1 rfl (.inl rfl) h)
  have hen := Aside0.mk (fun W P (h : InH P W P (rdFirm l).2) => iend_calls h)
  have hfc := Aside0.mk (fun W E k (h : SpR0 W E (rdSpends (some l)).1.length (rdSpends (some l)).1) => contains_calls W E k (rdSpends (some l)).1 33 #[] far_enters far h (by omega) (fun W' s hs hW' => by
    obtain ⟨j, hj⟩ := List.mem_iff_getElem?.1 hs
    obtain ⟨_, _, _, ⟨hok, -⟩, -, -⟩ := row_at h j s hj
    exact (far_calls s hok.1 W').mono fun e w' ⟨h1, h2⟩ => ⟨h1, below_then hW' hW'.size h2⟩))
  have hoc := Aside0.mk (fun W E k (h : CoR W E (rdCoins (rdSpends (some l)).2).1.length (rdCoins (rdSpends (some l)).2).1) => containsC_calls W E k (rdCoins (rdSpends (some l)).2).1 35 #[] oddc_enters oddc h (by omega) (fun W' s hs hW' => (oddc_calls s W').mono fun e w' ⟨h1, h2⟩ => ⟨h1, below_then hW' hW'.size h2⟩))
  unfold rdTx rdBad
  unfold rdFirm at hen ⊢
  clear hrb0 hrb1 hrb2 hC hb hc hl
  generalize rdSpends (some l) = z1 at *
  obtain ⟨ls, r1⟩ := z1
  simp only at hls8 hlc8 hf hsp hco hnm hen hfc hoc ⊢
  generalize rdCoins r1 = z2 at *
  obtain ⟨lc, r2⟩ := z2
  simp only at hlc8 hf hco hnm hen hoc ⊢
  generalize rdNum 1 r2 = z3 at *
  obtain ⟨f, r3⟩ := z3
  simp only at hf hnm hen ⊢
  generalize rdEnd r3 = en at *
  generalize ls.any far = bf at *
  generalize lc.any oddc = bo at *
  have e0 : Below w.heap.size w (w.alloc (.cells #[.slice none 0 0, .slice none 0 0, .bool false] 25)) := below_alloc (Below.refl _ _) _
  have eX : Blk (w.alloc (.cells #[.slice none 0 0, .slice none 0 0, .bool false] 25)) w.heap.size 25 [.slice none 0 0, .slice none 0 0, .bool false] := Blk.new w 25 [.slice none 0 0, .slice none 0 0, .bool false]
  have e0A := Aside0.mk e0
  have eXA := Aside0.mk eX
  clear e0 eX
  cases en with
  | some x =>
    simp only [Go.Proofs.YtlgfekllkahfaaaDoor.Q.errW] at hen
    simp only [Option.isSome, Bool.true_or, if_true, Option.getD]
    go_enter Tryd.func21, Tryd.ntmps21
    go_wp2_with (first | (go_at_call 28; ((with_reducible refine (hrd.out _ e0A.out).mono ?_); rintro e w2 ⟨P, rfl, hP, hI, hb⟩; have hPb : w.heap.size < P := (by have := hP; simp at this; omega); have hX2A := Aside0.mk (eXA.out.below hb); have hI2A := Aside0.mk hI; have hb2A := Aside0.mk (below_then e0A.out e0A.out.size hb); clear hI hb hP)) | (go_at_call 29; ((with_reducible refine (hsp.out _ _ hI2A.out).mono ?_); rintro e w3 ⟨v1, rfl, hR, hI, hg⟩; obtain ⟨E1, k1, rfl⟩ := Kd.R_slice hR; have hX3A := Aside0.mk (hX2A.out.grown hg (by intro e; have := Option.some.inj e; omega)); have hS3 := hI2A.out.lt; have hI3A := Aside0.mk hI; have hR3A := Aside0.mk hR; have hb3A := Aside0.mk (below_P hb2A.out (by omega) hb2A.out.size hg); clear hI hR hg)) | (go_at_call 30; ((with_reducible refine (hco.out _ _ hI3A.out).mono ?_); rintro e w4 ⟨v2, rfl, hR, hI, hg⟩; obtain ⟨E2, k2, rfl⟩ := Kd.R_slice hR; have hX4A := Aside0.mk (hX3A.out.grown hg (by intro e; have := Option.some.inj e; omega)); have hS4 := hI3A.out.lt; have hI4A := Aside0.mk hI; have hC4A := Aside0.mk hR; have hR4A := Aside0.mk (R_over_P hR3A.out hS3 hg); have hb4A := Aside0.mk (below_P hb3A.out (by omega) hb3A.out.size hg); clear hI hR hg)) | (go_at_call 31; (obtain ⟨W5, hW5⟩ : ∃ W5, W5 = w4.alloc (.cells #[.slice E1 ls.length k1, .slice E2 lc.length k2, .bool false] 25) := ⟨_, rfl⟩; rw [show w4.alloc (.cells #[.slice E1 ls.length k1, .slice E2 lc.length k2, .bool false] 25) = W5 from hW5.symm]; have hZ5 : Blk W5 w4.heap.size 25 [.slice E1 ls.length k1, .slice E2 lc.length k2, .bool false] := (by rw [hW5]; exact Blk.new w4 25 [.slice E1 ls.length k1, .slice E2 lc.length k2, .bool false]); have h45 : Below w4.heap.size w4 W5 := (by rw [hW5]; exact below_alloc (Below.refl _ _) _); have hS5 := hI4A.out.lt; have hX5 := hX4A.out.below h45; have hI5 := hI4A.out.below h45; have hR5 := Kd.R_below hR4A.out h45; have hC5 := Kd.R_below hC4A.out h45; have hb5 := below_then hb4A.out hb4A.out.size h45; clear hW5; (with_reducible refine (hnm.out _ _ hI5).mono ?_); rintro e w6 ⟨rfl, hI, hg⟩; have hZ6 := hZ5.grown hg (by intro e; have := Option.some.inj e; omega); have hX6 := hX5.grown hg (by intro e; have := Option.some.inj e; omega); have g2 := hZ6.get 2 _ rfl; have f2 := hZ6.fz 2; have hI7A := Aside0.mk (hI.grown (grown_set w6 w4.heap.size 2 (.bool (f == 1))) (by intro k e; have := Option.some.inj e; exact ⟨by omega, by omega⟩)); have hX7A := Aside0.mk (hX6.far (p := ⟨w4.heap.size, 2, none⟩) (by show w.heap.size ≠ w4.heap.size; omega) (.bool (f == 1))); have hR7A := Aside0.mk (Kd.R_set (R_over_P hR5 hS3 hg) hZ6 (by decide) 2 (.bool (f == 1))); have hC7A := Aside0.mk (Kd.R_set (R_over_P hC5 hS4 hg) hZ6 (by decide) 2 (.bool (f == 1))); have hZ7 : Blk (w6.setCell ⟨w4.heap.size, 2, none⟩ (.bool (f == 1))) w4.heap.size 25 [.slice E1 ls.length k1, .slice E2 lc.length k2, .bool (f == 1)] := hZ6.set 2 (.bool (f == 1)); have q0 := hZ7.get 0 _ rfl; have hZ7A := Aside0.mk hZ7; have hb7A := Aside0.mk ((below_P hb5 (by omega) hb5.size hg).setCell (p := ⟨w4.heap.size, 2, none⟩) (by show w.heap.size ≤ w4.heap.size; omega) (.bool (f == 1))); clear hI hg hX5 hI5 hR5 hC5 hb5 h45 hZ5 hZ6 hX6 hZ7)) | (go_at_call 32; ((with_reducible refine (hfc.out _ _ _ (rowS_ hR7A.out)).mono ?_); rintro e w8 ⟨rfl, hb⟩; have hZ8 := hZ7A.out.below hb; clear q0 g2 f2; have q1 := hZ8.get 1 _ rfl; have hZ8A := Aside0.mk hZ8; have hX8A := Aside0.mk (hX7A.out.below hb); have hI8A := Aside0.mk (hI7A.out.below hb); have hR8A := Aside0.mk (Kd.R_below hR7A.out hb); have hC8A := Aside0.mk (Kd.R_below hC7A.out hb); have hb8A := Aside0.mk (below_then hb7A.out hb7A.out.size hb); clear hb hZ8)) | (go_at_call 34; ((with_reducible refine (hoc.out _ _ _ (rowC_ hC8A.out)).mono ?_); rintro e w9 ⟨rfl, hb⟩; have hZ9A := Aside0.mk (hZ8A.out.below hb); clear q1; have hX9A := Aside0.mk (hX8A.out.below hb); have hI9A := Aside0.mk (hI8A.out.below hb); have hR9A := Aside0.mk (Kd.R_below hR8A.out hb); have hC9A := Aside0.mk (Kd.R_below hC8A.out hb); have hb9A := Aside0.mk (below_then hb8A.out hb8A.out.size hb); clear hb)) | (go_at_call 37; ((with_reducible refine (hen.out _ _ hI9A.out).mono ?_); rintro e w10 ⟨rfl, rfl⟩)) | (refine wpList_put_blk rfl 25 (.tmp 2) (.tmp 40) rfl w.heap.size 25 [.slice none 0 0, .slice none 0 0, .bool false] [.slice none 0 0, .slice none 0 0, .bool false] rfl rfl rfl hX9A.out (info_tx3_ _ _ _) (by intro u hu; simp at hu; rcases hu with rfl | rfl | rfl <;> rfl) ?_; intro w11 hX11 hg11 hs11))
    exact bodyPost_ret (results_ct rfl _ _ w.heap.size 25 #[.slice none 0 0, .slice none 0 0, .bool false] (0, 0) _ rfl hX11 Tryd.underlying25 rfl (info_tx3_ _ _ _)) rfl ⟨⟨_, _, rfl, Kd.R_nil _ _ _ _ _, Kd.R_nil _ _ _ _ _⟩, hb9A.out.grown hg11 hb9A.out.size (fun k e => by have := Option.some.inj e; omega)⟩
  | none =>
    simp only [Go.Proofs.YtlgfekllkahfaaaDoor.Q.errW] at hen
    by_cases q1 : 1 < f
    · simp only [Option.isSome, Bool.false_or, q1, decide_true, Bool.true_or, if_true, Option.getD]
      go_enter Tryd.func21, Tryd.ntmps21
      go_wp2_with (first | (go_at_call 28; ((with_reducible refine (hrd.out _ e0A.out).mono ?_); rintro e w2 ⟨P, rfl, hP, hI, hb⟩; have hPb : w.heap.size < P := (by have := hP; simp at this; omega); have hX2A := Aside0.mk (eXA.out.below hb); have hI2A := Aside0.mk hI; have hb2A := Aside0.mk (below_then e0A.out e0A.out.size hb); clear hI hb hP)) | (go_at_call 29; ((with_reducible refine (hsp.out _ _ hI2A.out).mono ?_); rintro e w3 ⟨v1, rfl, hR, hI, hg⟩; obtain ⟨E1, k1, rfl⟩ := Kd.R_slice hR; have hX3A := Aside0.mk (hX2A.out.grown hg (by intro e; have := Option.some.inj e; omega)); have hS3 := hI2A.out.lt; have hI3A := Aside0.mk hI; have hR3A := Aside0.mk hR; have hb3A := Aside0.mk (below_P hb2A.out (by omega) hb2A.out.size hg); clear hI hR hg)) | (go_at_call 30; ((with_reducible refine (hco.out _ _ hI3A.out).mono ?_); rintro e w4 ⟨v2, rfl, hR, hI, hg⟩; obtain ⟨E2, k2, rfl⟩ := Kd.R_slice hR; have hX4A := Aside0.mk (hX3A.out.grown hg (by intro e; have := Option.some.inj e; omega)); have hS4 := hI3A.out.lt; have hI4A := Aside0.mk hI; have hC4A := Aside0.mk hR; have hR4A := Aside0.mk (R_over_P hR3A.out hS3 hg); have hb4A := Aside0.mk (below_P hb3A.out (by omega) hb3A.out.size hg); clear hI hR hg)) | (go_at_call 31; (obtain ⟨W5, hW5⟩ : ∃ W5, W5 = w4.alloc (.cells #[.slice E1 ls.length k1, .slice E2 lc.length k2, .bool false] 25) := ⟨_, rfl⟩; rw [show w4.alloc (.cells #[.slice E1 ls.length k1, .slice E2 lc.length k2, .bool false] 25) = W5 from hW5.symm]; have hZ5 : Blk W5 w4.heap.size 25 [.slice E1 ls.length k1, .slice E2 lc.length k2, .bool false] := (by rw [hW5]; exact Blk.new w4 25 [.slice E1 ls.length k1, .slice E2 lc.length k2, .bool false]); have h45 : Below w4.heap.size w4 W5 := (by rw [hW5]; exact below_alloc (Below.refl _ _) _); have hS5 := hI4A.out.lt; have hX5 := hX4A.out.below h45; have hI5 := hI4A.out.below h45; have hR5 := Kd.R_below hR4A.out h45; have hC5 := Kd.R_below hC4A.out h45; have hb5 := below_then hb4A.out hb4A.out.size h45; clear hW5; (with_reducible refine (hnm.out _ _ hI5).mono ?_); rintro e w6 ⟨rfl, hI, hg⟩; have hZ6 := hZ5.grown hg (by intro e; have := Option.some.inj e; omega); have hX6 := hX5.grown hg (by intro e; have := Option.some.inj e; omega); have g2 := hZ6.get 2 _ rfl; have f2 := hZ6.fz 2; have hI7A := Aside0.mk (hI.grown (grown_set w6 w4.heap.size 2 (.bool (f == 1))) (by intro k e; have := Option.some.inj e; exact ⟨by omega, by omega⟩)); have hX7A := Aside0.mk (hX6.far (p := ⟨w4.heap.size, 2, none⟩) (by show w.heap.size ≠ w4.heap.size; omega) (.bool (f == 1))); have hR7A := Aside0.mk (Kd.R_set (R_over_P hR5 hS3 hg) hZ6 (by decide) 2 (.bool (f == 1))); have hC7A := Aside0.mk (Kd.R_set (R_over_P hC5 hS4 hg) hZ6 (by decide) 2 (.bool (f == 1))); have hZ7 : Blk (w6.setCell ⟨w4.heap.size, 2, none⟩ (.bool (f == 1))) w4.heap.size 25 [.slice E1 ls.length k1, .slice E2 lc.length k2, .bool (f == 1)] := hZ6.set 2 (.bool (f == 1)); have q0 := hZ7.get 0 _ rfl; have hZ7A := Aside0.mk hZ7; have hb7A := Aside0.mk ((below_P hb5 (by omega) hb5.size hg).setCell (p := ⟨w4.heap.size, 2, none⟩) (by show w.heap.size ≤ w4.heap.size; omega) (.bool (f == 1))); clear hI hg hX5 hI5 hR5 hC5 hb5 h45 hZ5 hZ6 hX6 hZ7)) | (go_at_call 32; ((with_reducible refine (hfc.out _ _ _ (rowS_ hR7A.out)).mono ?_); rintro e w8 ⟨rfl, hb⟩; have hZ8 := hZ7A.out.below hb; clear q0 g2 f2; have q1 := hZ8.get 1 _ rfl; have hZ8A := Aside0.mk hZ8; have hX8A := Aside0.mk (hX7A.out.below hb); have hI8A := Aside0.mk (hI7A.out.below hb); have hR8A := Aside0.mk (Kd.R_below hR7A.out hb); have hC8A := Aside0.mk (Kd.R_below hC7A.out hb); have hb8A := Aside0.mk (below_then hb7A.out hb7A.out.size hb); clear hb hZ8)) | (go_at_call 34; ((with_reducible refine (hoc.out _ _ _ (rowC_ hC8A.out)).mono ?_); rintro e w9 ⟨rfl, hb⟩; have hZ9A := Aside0.mk (hZ8A.out.below hb); clear q1; have hX9A := Aside0.mk (hX8A.out.below hb); have hI9A := Aside0.mk (hI8A.out.below hb); have hR9A := Aside0.mk (Kd.R_below hR8A.out hb); have hC9A := Aside0.mk (Kd.R_below hC8A.out hb); have hb9A := Aside0.mk (below_then hb8A.out hb8A.out.size hb); clear hb)) | (go_at_call 37; ((with_reducible refine (hen.out _ _ hI9A.out).mono ?_); rintro e w10 ⟨rfl, rfl⟩)) | (refine wpList_put_blk rfl 25 (.tmp 2) (.tmp 40) rfl w.heap.size 25 [.slice none 0 0, .slice none 0 0, .bool false] [.slice none 0 0, .slice none 0 0, .bool false] rfl rfl rfl hX9A.out (info_tx3_ _ _ _) (by intro u hu; simp at hu; rcases hu with rfl | rfl | rfl <;> rfl) ?_; intro w11 hX11 hg11 hs11))
      exact bodyPost_ret (results_ct rfl _ _ w.heap.size 25 #[.slice none 0 0, .slice none 0 0, .bool false] (0, 0) _ rfl hX11 Tryd.underlying25 rfl (info_tx3_ _ _ _)) rfl ⟨⟨_, _, rfl, Kd.R_nil _ _ _ _ _, Kd.R_nil _ _ _ _ _⟩, hb9A.out.grown hg11 hb9A.out.size (fun k e => by have := Option.some.inj e; omega)⟩
    · cases bf
      · cases bo
        · simp only [Option.isSome, Bool.false_or, q1, decide_false, Option.getD, Bool.false_eq_true, if_false]
          go_enter Tryd.func21, Tryd.ntmps21
          go_wp2_with (first | (go_at_call 28; ((with_reducible refine (hrd.out _ e0A.out).mono ?_); rintro e w2 ⟨P, rfl, hP, hI, hb⟩; have hPb : w.heap.size < P := (by have := hP; simp at this; omega); have hX2A := Aside0.mk (eXA.out.below hb); have hI2A := Aside0.mk hI; have hb2A := Aside0.mk (below_then e0A.out e0A.out.size hb); clear hI hb hP)) | (go_at_call 29; ((with_reducible refine (hsp.out _ _ hI2A.out).mono ?_); rintro e w3 ⟨v1, rfl, hR, hI, hg⟩; obtain ⟨E1, k1, rfl⟩ := Kd.R_slice hR; have hX3A := Aside0.mk (hX2A.out.grown hg (by intro e; have := Option.some.inj e; omega)); have hS3 := hI2A.out.lt; have hI3A := Aside0.mk hI; have hR3A := Aside0.mk hR; have hb3A := Aside0.mk (below_P hb2A.out (by omega) hb2A.out.size hg); clear hI hR hg)) | (go_at_call 30; ((with_reducible refine (hco.out _ _ hI3A.out).mono ?_); rintro e w4 ⟨v2, rfl, hR, hI, hg⟩; obtain ⟨E2, k2, rfl⟩ := Kd.R_slice hR; have hX4A := Aside0.mk (hX3A.out.grown hg (by intro e; have := Option.some.inj e; omega)); have hS4 := hI3A.out.lt; have hI4A := Aside0.mk hI; have hC4A := Aside0.mk hR; have hR4A := Aside0.mk (R_over_P hR3A.out hS3 hg); have hb4A := Aside0.mk (below_P hb3A.out (by omega) hb3A.out.size hg); clear hI hR hg)) | (go_at_call 31; (obtain ⟨W5, hW5⟩ : ∃ W5, W5 = w4.alloc (.cells #[.slice E1 ls.length k1, .slice E2 lc.length k2, .bool false] 25) := ⟨_, rfl⟩; rw [show w4.alloc (.cells #[.slice E1 ls.length k1, .slice E2 lc.length k2, .bool false] 25) = W5 from hW5.symm]; have hZ5 : Blk W5 w4.heap.size 25 [.slice E1 ls.length k1, .slice E2 lc.length k2, .bool false] := (by rw [hW5]; exact Blk.new w4 25 [.slice E1 ls.length k1, .slice E2 lc.length k2, .bool false]); have h45 : Below w4.heap.size w4 W5 := (by rw [hW5]; exact below_alloc (Below.refl _ _) _); have hS5 := hI4A.out.lt; have hX5 := hX4A.out.below h45; have hI5 := hI4A.out.below h45; have hR5 := Kd.R_below hR4A.out h45; have hC5 := Kd.R_below hC4A.out h45; have hb5 := below_then hb4A.out hb4A.out.size h45; clear hW5; (with_reducible refine (hnm.out _ _ hI5).mono ?_); rintro e w6 ⟨rfl, hI, hg⟩; have hZ6 := hZ5.grown hg (by intro e; have := Option.some.inj e; omega); have hX6 := hX5.grown hg (by intro e; have := Option.some.inj e; omega); have g2 := hZ6.get 2 _ rfl; have f2 := hZ6.fz 2; have hI7A := Aside0.mk (hI.grown (grown_set w6 w4.heap.size 2 (.bool (f == 1))) (by intro k e; have := Option.some.inj e; exact ⟨by omega, by omega⟩)); have hX7A := Aside0.mk (hX6.far (p := ⟨w4.heap.size, 2, none⟩) (by show w.heap.size ≠ w4.heap.size; omega) (.bool (f == 1))); have hR7A := Aside0.mk (Kd.R_set (R_over_P hR5 hS3 hg) hZ6 (by decide) 2 (.bool (f == 1))); have hC7A := Aside0.mk (Kd.R_set (R_over_P hC5 hS4 hg) hZ6 (by decide) 2 (.bool (f == 1))); have hZ7 : Blk (w6.setCell ⟨w4.heap.size, 2, none⟩ (.bool (f == 1))) w4.heap.size 25 [.slice E1 ls.length k1, .slice E2 lc.length k2, .bool (f == 1)] := hZ6.set 2 (.bool (f == 1)); have q0 := hZ7.get 0 _ rfl; have hZ7A := Aside0.mk hZ7; have hb7A := Aside0.mk ((below_P hb5 (by omega) hb5.size hg).setCell (p := ⟨w4.heap.size, 2, none⟩) (by show w.heap.size ≤ w4.heap.size; omega) (.bool (f == 1))); clear hI hg hX5 hI5 hR5 hC5 hb5 h45 hZ5 hZ6 hX6 hZ7)) | (go_at_call 32; ((with_reducible refine (hfc.out _ _ _ (rowS_ hR7A.out)).mono ?_); rintro e w8 ⟨rfl, hb⟩; have hZ8 := hZ7A.out.below hb; clear q0 g2 f2; have q1 := hZ8.get 1 _ rfl; have hZ8A := Aside0.mk hZ8; have hX8A := Aside0.mk (hX7A.out.below hb); have hI8A := Aside0.mk (hI7A.out.below hb); have hR8A := Aside0.mk (Kd.R_below hR7A.out hb); have hC8A := Aside0.mk (Kd.R_below hC7A.out hb); have hb8A := Aside0.mk (below_then hb7A.out hb7A.out.size hb); clear hb hZ8)) | (go_at_call 34; ((with_reducible refine (hoc.out _ _ _ (rowC_ hC8A.out)).mono ?_); rintro e w9 ⟨rfl, hb⟩; have hZ9A := Aside0.mk (hZ8A.out.below hb); clear q1; have hX9A := Aside0.mk (hX8A.out.below hb); have hI9A := Aside0.mk (hI8A.out.below hb); have hR9A := Aside0.mk (Kd.R_below hR8A.out hb); have hC9A := Aside0.mk (Kd.R_below hC8A.out hb); have hb9A := Aside0.mk (below_then hb8A.out hb8A.out.size hb); clear hb)) | (go_at_call 37; ((with_reducible refine (hen.out _ _ hI9A.out).mono ?_); rintro e w10 ⟨rfl, rfl⟩)) | ((with_reducible refine gate_dst (N := 42) rfl ?_); refine wpList_load_blk rfl 25 (.tmp 5) rfl w4.heap.size 25 rfl [.slice E1 ls.length k1, .slice E2 lc.length k2, .bool (f == 1)] _ hZ9A.out Tryd.underlying25 rfl (info_tx3_ _ _ _) ?_) | (refine wpList_put_blk rfl 25 (.tmp 2) (.tmp 42) rfl w.heap.size 25 [.slice E1 ls.length k1, .slice E2 lc.length k2, .bool (f == 1)] [.slice none 0 0, .slice none 0 0, .bool false] rfl rfl rfl hX9A.out (info_tx3_ _ _ _) (by intro u hu; simp at hu; rcases hu with rfl | rfl | rfl <;> rfl) ?_; intro w11 hX11 hg11 hs11))
          exact bodyPost_ret (results_ct rfl _ _ w.heap.size 25 #[.slice E1 ls.length k1, .slice E2 lc.length k2, .bool (f == 1)] (0, 0) _ rfl hX11 Tryd.underlying25 rfl (info_tx3_ _ _ _)) rfl ⟨⟨_, _, rfl, Kd.R_lower (Kd.R_mono (Kd.R_grown (Kd.R_types hR9A.out hX9A.out (by decide)) hg11 (fun k hk e => hk.2 (Option.some.inj e))) (fun _ _ => trivial)) (by omega), Kd.R_lower (Kd.R_mono (Kd.R_grown (Kd.R_types hC9A.out hX9A.out (by decide)) hg11 (fun k hk e => hk.2 (Option.some.inj e))) (fun _ _ => trivial)) (by omega)⟩, hb9A.out.grown hg11 hb9A.out.size (fun k e => by have := Option.some.inj e; omega)⟩
        · simp only [Option.isSome, Bool.false_or, q1, decide_false, if_true, Option.getD]
          go_enter Tryd.func21, Tryd.ntmps21
          go_wp2_with (first | (go_at_call 28; ((with_reducible refine (hrd.out _ e0A.out).mono ?_); rintro e w2 ⟨P, rfl, hP, hI, hb⟩; have hPb : w.heap.size < P := (by have := hP; simp at this; omega); have hX2A := Aside0.mk (eXA.out.below hb); have hI2A := Aside0.mk hI; have hb2A := Aside0.mk (below_then e0A.out e0A.out.size hb); clear hI hb hP)) | (go_at_call 29; ((with_reducible refine (hsp.out _ _ hI2A.out).mono ?_); rintro e w3 ⟨v1, rfl, hR, hI, hg⟩; obtain ⟨E1, k1, rfl⟩ := Kd.R_slice hR; have hX3A := Aside0.mk (hX2A.out.grown hg (by intro e; have := Option.some.inj e; omega)); have hS3 := hI2A.out.lt; have hI3A := Aside0.mk hI; have hR3A := Aside0.mk hR; have hb3A := Aside0.mk (below_P hb2A.out (by omega) hb2A.out.size hg); clear hI hR hg)) | (go_at_call 30; ((with_reducible refine (hco.out _ _ hI3A.out).mono ?_); rintro e w4 ⟨v2, rfl, hR, hI, hg⟩; obtain ⟨E2, k2, rfl⟩ := Kd.R_slice hR; have hX4A := Aside0.mk (hX3A.out.grown hg (by intro e; have := Option.some.inj e; omega)); have hS4 := hI3A.out.lt; have hI4A := Aside0.mk hI; have hC4A := Aside0.mk hR; have hR4A := Aside0.mk (R_over_P hR3A.out hS3 hg); have hb4A := Aside0.mk (below_P hb3A.out (by omega) hb3A.out.size hg); clear hI hR hg)) | (go_at_call 31; (obtain ⟨W5, hW5⟩ : ∃ W5, W5 = w4.alloc (.cells #[.slice E1 ls.length k1, .slice E2 lc.length k2, .bool false] 25) := ⟨_, rfl⟩; rw [show w4.alloc (.cells #[.slice E1 ls.length k1, .slice E2 lc.length k2, .bool false] 25) = W5 from hW5.symm]; have hZ5 : Blk W5 w4.heap.size 25 [.slice E1 ls.length k1, .slice E2 lc.length k2, .bool false] := (by rw [hW5]; exact Blk.new w4 25 [.slice E1 ls.length k1, .slice E2 lc.length k2, .bool false]); have h45 : Below w4.heap.size w4 W5 := (by rw [hW5]; exact below_alloc (Below.refl _ _) _); have hS5 := hI4A.out.lt; have hX5 := hX4A.out.below h45; have hI5 := hI4A.out.below h45; have hR5 := Kd.R_below hR4A.out h45; have hC5 := Kd.R_below hC4A.out h45; have hb5 := below_then hb4A.out hb4A.out.size h45; clear hW5; (with_reducible refine (hnm.out _ _ hI5).mono ?_); rintro e w6 ⟨rfl, hI, hg⟩; have hZ6 := hZ5.grown hg (by intro e; have := Option.some.inj e; omega); have hX6 := hX5.grown hg (by intro e; have := Option.some.inj e; omega); have g2 := hZ6.get 2 _ rfl; have f2 := hZ6.fz 2; have hI7A := Aside0.mk (hI.grown (grown_set w6 w4.heap.size 2 (.bool (f == 1))) (by intro k e; have := Option.some.inj e; exact ⟨by omega, by omega⟩)); have hX7A := Aside0.mk (hX6.far (p := ⟨w4.heap.size, 2, none⟩) (by show w.heap.size ≠ w4.heap.size; omega) (.bool (f == 1))); have hR7A := Aside0.mk (Kd.R_set (R_over_P hR5 hS3 hg) hZ6 (by decide) 2 (.bool (f == 1))); have hC7A := Aside0.mk (Kd.R_set (R_over_P hC5 hS4 hg) hZ6 (by decide) 2 (.bool (f == 1))); have hZ7 : Blk (w6.setCell ⟨w4.heap.size, 2, none⟩ (.bool (f == 1))) w4.heap.size 25 [.slice E1 ls.length k1, .slice E2 lc.length k2, .bool (f == 1)] := hZ6.set 2 (.bool (f == 1)); have q0 := hZ7.get 0 _ rfl; have hZ7A := Aside0.mk hZ7; have hb7A := Aside0.mk ((below_P hb5 (by omega) hb5.size hg).setCell (p := ⟨w4.heap.size, 2, none⟩) (by show w.heap.size ≤ w4.heap.size; omega) (.bool (f == 1))); clear hI hg hX5 hI5 hR5 hC5 hb5 h45 hZ5 hZ6 hX6 hZ7)) | (go_at_call 32; ((with_reducible refine (hfc.out _ _ _ (rowS_ hR7A.out)).mono ?_); rintro e w8 ⟨rfl, hb⟩; have hZ8 := hZ7A.out.below hb; clear q0 g2 f2; have q1 := hZ8.get 1 _ rfl; have hZ8A := Aside0.mk hZ8; have hX8A := Aside0.mk (hX7A.out.below hb); have hI8A := Aside0.mk (hI7A.out.below hb); have hR8A := Aside0.mk (Kd.R_below hR7A.out hb); have hC8A := Aside0.mk (Kd.R_below hC7A.out hb); have hb8A := Aside0.mk (below_then hb7A.out hb7A.out.size hb); clear hb hZ8)) | (go_at_call 34; ((with_reducible refine (hoc.out _ _ _ (rowC_ hC8A.out)).mono ?_); rintro e w9 ⟨rfl, hb⟩; have hZ9A := Aside0.mk (hZ8A.out.below hb); clear q1; have hX9A := Aside0.mk (hX8A.out.below hb); have hI9A := Aside0.mk (hI8A.out.below hb); have hR9A := Aside0.mk (Kd.R_below hR8A.out hb); have hC9A := Aside0.mk (Kd.R_below hC8A.out hb); have hb9A := Aside0.mk (below_then hb8A.out hb8A.out.size hb); clear hb)) | (go_at_call 37; ((with_reducible refine (hen.out _ _ hI9A.out).mono ?_); rintro e w10 ⟨rfl, rfl⟩)) | (refine wpList_put_blk rfl 25 (.tmp 2) (.tmp 40) rfl w.heap.size 25 [.slice none 0 0, .slice none 0 0, .bool false] [.slice none 0 0, .slice none 0 0, .bool false] rfl rfl rfl hX9A.out (info_tx3_ _ _ _) (by intro u hu; simp at hu; rcases hu with rfl | rfl | rfl <;> rfl) ?_; intro w11 hX11 hg11 hs11))
          exact bodyPost_ret (results_ct rfl _ _ w.heap.size 25 #[.slice none 0 0, .slice none 0 0, .bool false] (0, 0) _ rfl hX11 Tryd.underlying25 rfl (info_tx3_ _ _ _)) rfl ⟨⟨_, _, rfl, Kd.R_nil _ _ _ _ _, Kd.R_nil _ _ _ _ _⟩, hb9A.out.grown hg11 hb9A.out.size (fun k e => by have := Option.some.inj e; omega)⟩
      · simp only [Option.isSome, Bool.false_or, q1, decide_false, Bool.true_or, if_true, Option.getD]
        go_enter Tryd.func21, Tryd.ntmps21
        go_wp2_with (first | (go_at_call 28; ((with_reducible refine (hrd.out _ e0A.out).mono ?_); rintro e w2 ⟨P, rfl, hP, hI, hb⟩; have hPb : w.heap.size < P := (by have := hP; simp at this; omega); have hX2A := Aside0.mk (eXA.out.below hb); have hI2A := Aside0.mk hI; have hb2A := Aside0.mk (below_then e0A.out e0A.out.size hb); clear hI hb hP)) | (go_at_call 29; ((with_reducible refine (hsp.out _ _ hI2A.out).mono ?_); rintro e w3 ⟨v1, rfl, hR, hI, hg⟩; obtain ⟨E1, k1, rfl⟩ := Kd.R_slice hR; have hX3A := Aside0.mk (hX2A.out.grown hg (by intro e; have := Option.some.inj e; omega)); have hS3 := hI2A.out.lt; have hI3A := Aside0.mk hI; have hR3A := Aside0.mk hR; have hb3A := Aside0.mk (below_P hb2A.out (by omega) hb2A.out.size hg); clear hI hR hg)) | (go_at_call 30; ((with_reducible refine (hco.out _ _ hI3A.out).mono ?_); rintro e w4 ⟨v2, rfl, hR, hI, hg⟩; obtain ⟨E2, k2, rfl⟩ := Kd.R_slice hR; have hX4A := Aside0.mk (hX3A.out.grown hg (by intro e; have := Option.some.inj e; omega)); have hS4 := hI3A.out.lt; have hI4A := Aside0.mk hI; have hC4A := Aside0.mk hR; have hR4A := Aside0.mk (R_over_P hR3A.out hS3 hg); have hb4A := Aside0.mk (below_P hb3A.out (by omega) hb3A.out.size hg); clear hI hR hg)) | (go_at_call 31; (obtain ⟨W5, hW5⟩ : ∃ W5, W5 = w4.alloc (.cells #[.slice E1 ls.length k1, .slice E2 lc.length k2, .bool false] 25) := ⟨_, rfl⟩; rw [show w4.alloc (.cells #[.slice E1 ls.length k1, .slice E2 lc.length k2, .bool false] 25) = W5 from hW5.symm]; have hZ5 : Blk W5 w4.heap.size 25 [.slice E1 ls.length k1, .slice E2 lc.length k2, .bool false] := (by rw [hW5]; exact Blk.new w4 25 [.slice E1 ls.length k1, .slice E2 lc.length k2, .bool false]); have h45 : Below w4.heap.size w4 W5 := (by rw [hW5]; exact below_alloc (Below.refl _ _) _); have hS5 := hI4A.out.lt; have hX5 := hX4A.out.below h45; have hI5 := hI4A.out.below h45; have hR5 := Kd.R_below hR4A.out h45; have hC5 := Kd.R_below hC4A.out h45; have hb5 := below_then hb4A.out hb4A.out.size h45; clear hW5; (with_reducible refine (hnm.out _ _ hI5).mono ?_); rintro e w6 ⟨rfl, hI, hg⟩; have hZ6 := hZ5.grown hg (by intro e; have := Option.some.inj e; omega); have hX6 := hX5.grown hg (by intro e; have := Option.some.inj e; omega); have g2 := hZ6.get 2 _ rfl; have f2 := hZ6.fz 2; have hI7A := Aside0.mk (hI.grown (grown_set w6 w4.heap.size 2 (.bool (f == 1))) (by intro k e; have := Option.some.inj e; exact ⟨by omega, by omega⟩)); have hX7A := Aside0.mk (hX6.far (p := ⟨w4.heap.size, 2, none⟩) (by show w.heap.size ≠ w4.heap.size; omega) (.bool (f == 1))); have hR7A := Aside0.mk (Kd.R_set (R_over_P hR5 hS3 hg) hZ6 (by decide) 2 (.bool (f == 1))); have hC7A := Aside0.mk (Kd.R_set (R_over_P hC5 hS4 hg) hZ6 (by decide) 2 (.bool (f == 1))); have hZ7 : Blk (w6.setCell ⟨w4.heap.size, 2, none⟩ (.bool (f == 1))) w4.heap.size 25 [.slice E1 ls.length k1, .slice E2 lc.length k2, .bool (f == 1)] := hZ6.set 2 (.bool (f == 1)); have q0 := hZ7.get 0 _ rfl; have hZ7A := Aside0.mk hZ7; have hb7A := Aside0.mk ((below_P hb5 (by omega) hb5.size hg).setCell (p := ⟨w4.heap.size, 2, none⟩) (by show w.heap.size ≤ w4.heap.size; omega) (.bool (f == 1))); clear hI hg hX5 hI5 hR5 hC5 hb5 h45 hZ5 hZ6 hX6 hZ7)) | (go_at_call 32; ((with_reducible refine (hfc.out _ _ _ (rowS_ hR7A.out)).mono ?_); rintro e w8 ⟨rfl, hb⟩; have hZ8 := hZ7A.out.below hb; clear q0 g2 f2; have q1 := hZ8.get 1 _ rfl; have hZ8A := Aside0.mk hZ8; have hX8A := Aside0.mk (hX7A.out.below hb); have hI8A := Aside0.mk (hI7A.out.below hb); have hR8A := Aside0.mk (Kd.R_below hR7A.out hb); have hC8A := Aside0.mk (Kd.R_below hC7A.out hb); have hb8A := Aside0.mk (below_then hb7A.out hb7A.out.size hb); clear hb hZ8)) | (go_at_call 34; ((with_reducible refine (hoc.out _ _ _ (rowC_ hC8A.out)).mono ?_); rintro e w9 ⟨rfl, hb⟩; have hZ9A := Aside0.mk (hZ8A.out.below hb); clear q1; have hX9A := Aside0.mk (hX8A.out.below hb); have hI9A := Aside0.mk (hI8A.out.below hb); have hR9A := Aside0.mk (Kd.R_below hR8A.out hb); have hC9A := Aside0.mk (Kd.R_below hC8A.out hb); have hb9A := Aside0.mk (below_then hb8A.out hb8A.out.size hb); clear hb)) | (go_at_call 37; ((with_reducible refine (hen.out _ _ hI9A.out).mono ?_); rintro e w10 ⟨rfl, rfl⟩)) | (refine wpList_put_blk rfl 25 (.tmp 2) (.tmp 40) rfl w.heap.size 25 [.slice none 0 0, .slice none 0 0, .bool false] [.slice none 0 0, .slice none 0 0, .bool false] rfl rfl rfl hX9A.out (info_tx3_ _ _ _) (by intro u hu; simp at hu; rcases hu with rfl | rfl | rfl <;> rfl) ?_; intro w11 hX11 hg11 hs11))
        exact bodyPost_ret (results_ct rfl _ _ w.heap.size 25 #[.slice none 0 0, .slice none 0 0, .bool false] (0, 0) _ rfl hX11 Tryd.underlying25 rfl (info_tx3_ _ _ _)) rfl ⟨⟨_, _, rfl, Kd.R_nil _ _ _ _ _, Kd.R_nil _ _ _ _ _⟩, hb9A.out.grown hg11 hb9A.out.size (fun k e => by have := Option.some.inj e; omega)⟩
end Go.Proofs.YtlgfekllkahfaaaDoor.Pack
/- A good transaction's bytes are read to it. -/
set_option linter.unusedVariables false
set_option linter.unusedSimpArgs false
namespace Go.Proofs.YtlgfekllkahfaaaDoor.Pack
open Go.RowKit Go.Proofs.YtlgfekllkahfaaaDoorW.PrintWords Go.Proofs.YtlgfekllkahfaaaDoorW.PrintMore Go.Proofs.YtlgfekllkahfaaaDoor Go.Proofs.YtlgfekllkahfaaaDoor.Bits Sha ArrK ShaW
theorem next_app (a m : List Int) (n : Nat) (h : a.length = n) : rdNext n (some (a ++ m)) = (a, some m) := by
  rw [rdNext]
  rw [if_pos (by rw [List.length_append]; omega), List.take_left' h, List.drop_left' h]
theorem numb_cons' (n : Int) (k : Nat) : numb n (k + 1) = (n % 256) :: numb (n / 256) k := by
  unfold numb
  rw [List.range_succ_eq_map, List.map_cons, List.map_map]
  congr 1
  · simp
  · apply List.map_congr_left
    intro i _
    simp only [Function.comp]
    have e : (2 : Int) ^ (8 * (i + 1)) = 256 * 2 ^ (8 * i) := by rw [show 8 * (i + 1) = 8 + 8 * i by omega, Int.pow_add]; rfl
    rw [show 8 * Nat.succ i = 8 * (i + 1) from rfl, e, ← Int.ediv_ediv_of_nonneg (by decide)]
theorem le_numb : ∀ (k : Nat) (n : Int), 0 ≤ n → n < 256 ^ k → le (numb n k) = n
  | 0, n, h1, h2 => by simp at h2; have : n = 0 := by omega
                       subst this; rfl
  | k + 1, n, h1, h2 => by
    rw [Int.pow_succ] at h2
    rw [numb_cons', le, le_numb k (n / 256) (by omega) (by omega)]
    omega
theorem num_app (n : Int) (k : Nat) (m : List Int) (h1 : 0 ≤ n) (h2 : n < 256 ^ k) : rdNum k (some (numb n k ++ m)) = (n, some m) := by
  unfold rdNum
  rw [next_app _ m k (numb_length n k)]
  simp only [le_numb k n h1 h2]
theorem count_app (most k : Nat) (m : List Int) (h : k ≤ most) (hm : most < 253) : rdCount most (some (cnt k ++ m)) = (k, some m) := by
  have hc : cnt k = numb (k : Int) 1 := by unfold cnt; rw [if_pos (by omega)]
  have hn := num_app (k : Int) 1 m (by omega) (by omega)
  have hr : rdCnt (some (cnt k ++ m)) = ((k : Int), some m) := by
    unfold rdCnt
    rw [hc, hn]
    simp only
    rw [if_neg]
    unfold szk
    rw [if_neg (by omega), if_neg (by omega), if_neg (by omega)]
    omega
  unfold rdCount
  rw [hr]
  simp only
  rw [if_neg (by simp; omega)]
  simp
theorem hash_app (h m : List Int) (hl : h.length = 32) : rdHash (some (h ++ m)) = (h, some m) := by
  unfold rdHash
  rw [next_app h m 32 hl]
  simp only
  rw [if_pos hl]
theorem text_app (most : Nat) (k : ByteArray) (m : List Int) (h : k.size ≤ most) (hm : most < 253) : rdText most (some (cnt k.size ++ (bytesOf k ++ m))) = (bytesOf k, some m) := by
  unfold rdText
  rw [count_app most k.size _ h hm]
  simp only
  exact next_app _ m _ (bytesOf_length k)
theorem str_bytesOf (k : ByteArray) : strOfNums (bytesOf k) = k := by
  unfold strOfNums bytesOf
  rw [List.map_map]
  have e : ∀ b : UInt8, ((fun n : Int => UInt8.ofNat n.toNat) ∘ fun b : UInt8 => (b.toNat : Int)) b = b := fun b => by simp
  rw [List.map_congr_left (fun b _ => e b), List.map_id']
theorem spend_app (s : Sp) (m : List Int) (h : SpOk s) (ho : odd s = false) : rdSpend (some (encS true s ++ m)) = (s, some m) := by
  simp only [odd, Bool.or_eq_false_iff, decide_eq_false_iff_not] at ho
  obtain ⟨o1, o2, o3⟩ := ho
  have hw : IntKind.u64.wrap s.n = s.n := by rw [wrap_u64]; omega
  have e : encS true s ++ m = s.tx ++ (numb s.n 4 ++ (cnt s.key.size ++ (bytesOf s.key ++ (numb s.sel 8 ++ m)))) := by
    simp only [encS, hw, if_pos, List.append_assoc]
  unfold rdSpend
  rw [e, hash_app _ _ h.1]
  simp only
  rw [num_app s.n 4 _ (by omega) (by omega)]
  simp only
  rw [text_app 32 s.key _ (by omega) (by omega)]
  simp only
  rw [num_app s.sel 8 _ h.2.2.1 (by have := h.2.2.2.1; omega)]
  simp only [str_bytesOf]
theorem coin_app (c : Co) (m : List Int) (h : CoOk c) (ho : oddc c = false) : rdCoin (some (encC c ++ m)) = (c, some m) := by
  have hg := good_is (x := c.value) (by simpa [oddc] using ho)
  have hw : IntKind.u64.wrap c.value = c.value := by rw [wrap_u64]; omega
  have e : encC c ++ m = numb c.value 8 ++ (numb c.lock 8 ++ m) := by simp only [encC, hw, List.append_assoc]
  unfold rdCoin
  rw [e, num_app c.value 8 _ (by omega) (by omega)]
  simp only
  rw [num_app c.lock 8 _ h.1 (by have := h.2; omega)]
  simp only
  rw [IntWalk.i64_in _ (by omega)]
theorem list_app {α : Type} (f : Rd → α × Rd) (g : α → List Int) (l : List α) (m : List Int) (hf : ∀ x ∈ l, ∀ m, f (some (g x ++ m)) = (x, some m)) : ∀ k, k ≤ l.length → rdList f k (some (l.flatMap g ++ m)) = (l.take k, some ((l.drop k).flatMap g ++ m))
  | 0, _ => by simp [rdList]
  | k + 1, h => by
    have hlt : k < l.length := by omega
    rw [rdList, list_app f g l m hf k (by omega), List.drop_eq_getElem_cons hlt, List.flatMap_cons, List.append_assoc]
    simp only
    rw [hf _ (List.getElem_mem hlt), List.take_succ_eq_append_getElem hlt]
theorem totl_all : ∀ (l : List Int) (s : Int), (totl s l).2 = none → ∀ x ∈ l, good x = true
  | [], _, _, x, hx => by cases hx
  | y :: l, s, h, x, hx => by
    rw [totl] at h
    by_cases q : good y = true ∧ good (s + y) = true
    · rw [if_pos q] at h
      rcases List.mem_cons.1 hx with rfl | hx
      · exact q.1
      · exact totl_all l _ h x hx
    · rw [if_neg q] at h; cases h
/-- what a good transaction's bytes are read to -/
theorem rdTx_of (t : Tr) (hS : ∀ s ∈ t.sp, SpOk s) (hC : ∀ c ∈ t.co, CoOk c) (h : chkv t = none) : rdTx (enc true t) = some t := by
  unfold chkv at h
  by_cases hs : shaped t = true
  · rw [if_pos hs] at h
    have ho : (outv t).2 = none := by
      cases e : (outv t).2 with
      | none => rfl
      | some x => rw [e] at h; cases h
    have hco : ∀ c ∈ t.co, oddc c = false := fun c hc => by
      have := totl_all _ _ ho c.value (List.mem_map_of_mem hc)
      simp [oddc, this]
    obtain ⟨sp, co, firm⟩ := t
    simp only [shaped, Bool.and_eq_true, decide_eq_true_eq, Bool.not_eq_true'] at hs
    obtain ⟨h1, h2, h3, h4, h5⟩ := hs
    have hod : ∀ s ∈ sp, odd s = false := fun s hs => by
      have := List.any_eq_false.1 h5 s hs
      simpa using this
    simp only at hS hC hco ho
    have r1 : rdSpends (some (enc true ⟨sp, co, firm⟩)) = (sp, some (cnt co.length ++ (co.flatMap encC ++ [if firm then 1 else 0]))) := by
      unfold rdSpends enc
      simp only [List.append_assoc]
      rw [count_app 8 sp.length _ h2 (by decide)]
      simp only
      rw [list_app rdSpend (encS true) sp _ (fun s hs m => spend_app s m (hS s hs) (hod s hs)) sp.length (Nat.le_refl _)]
      simp
    have r2 : rdCoins (some (cnt co.length ++ (co.flatMap encC ++ [if firm then 1 else 0]))) = (co, some [if firm then 1 else 0]) := by
      unfold rdCoins
      rw [count_app 8 co.length _ h4 (by decide)]
      simp only
      rw [list_app rdCoin encC co _ (fun c hc m => coin_app c m (hC c hc) (hco c hc)) co.length (Nat.le_refl _)]
      simp
    have r3 : rdNum 1 (some [if firm then (1 : Int) else 0]) = (if firm then 1 else 0, some []) := by cases firm <;> rfl
    have r4 : rdFirm (enc true ⟨sp, co, firm⟩) = (if firm then 1 else 0, some []) := by unfold rdFirm; rw [r1]; simp only; rw [r2]; simp only; rw [r3]
    unfold rdTx rdBad
    rw [r4, r1]
    simp only
    rw [r2]
    simp only
    have a1 : sp.any far = false := by
      rw [List.any_eq_false]
      intro s hs
      have := hod s hs
      simp only [odd, Bool.or_eq_false_iff, decide_eq_false_iff_not] at this
      simp only [far, decide_eq_true_eq]; omega
    have a2 : co.any oddc = false := by
      rw [List.any_eq_false]
      intro c hc
      rw [hco c hc]; simp
    rw [a1, a2]
    cases firm <;> simp [rdEnd]
  · rw [if_neg hs] at h; cases h
end Go.Proofs.YtlgfekllkahfaaaDoor.Pack
