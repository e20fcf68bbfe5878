/- Bytes as texts; transactions that have the same bytes. -/
import Derived.Test.YtlgfekllkahfaaaDoorMPb
import Derived.Test.YtlgfekllkahfaaaDoorMTy
import Derived.Laws.BytesArg
set_option linter.unusedVariables false
set_option linter.unusedSimpArgs false
namespace Go.Proofs.YtlgfekllkahfaaaDoor.Wt
open Go.RowKit Go.Proofs.YtlgfekllkahfaaaDoorW.PrintWords Go.Proofs.YtlgfekllkahfaaaDoorW.PrintMore Go.Proofs.YtlgfekllkahfaaaDoor Go.Proofs.YtlgfekllkahfaaaDoor.Bits Sha ArrK ShaW Pack
theorem run_text (w : World) (A : Option Addr) (c : Nat) (l : List Int) (hC : Kd.C (Kd.int .u8) w A l.length l) : (convert 40 9 (.slice A l.length c)).run Tryd.prog w = .ok (.string (strOfNums l)) w := by
  rw [run_convert_bytes_string w 40 9 5 A l.length c Tryd.underlying40 Tryd.underlying5 Tryd.underlying9]
  cases A with
  | none =>
    have h0 : l = [] := by
      cases l with
      | nil => rfl
      | cons x r => obtain ⟨ad, e, _⟩ := hC.2.2 (by simp); cases e
    subst h0
    simp [Conv.bytesToString]; rfl
  | some ad =>
    have hl := run_loadCells_list (P := Tryd.prog) w ad (l.map (Value.int .u8)) (fun j v hj => by
      have hj' : j < l.length := by simpa using (List.getElem?_eq_some_iff.1 hj).1
      have g := Kd.foot_int hC (j : Int) (by omega) (by omega)
      rw [Int.toNat_natCast] at g
      rw [g]
      have hr : rd l (j : Int) = l[j] := by unfold rd; rw [Int.toNat_natCast, List.getD_eq_getElem?_getD, List.getElem?_eq_getElem hj']; rfl
      rw [hr]
      simp [List.getElem?_eq_getElem hj'] at hj
      rw [hj])
    rw [List.length_map] at hl
    rw [run_bytesToString w ad l.length c l hl, foldl_push_bytes]
    simp [strOfNums, ByteArray.empty, ByteArray.emptyWithCapacity]
    rfl
theorem exec_text {a : Act} {o : Oper} (x : Operand) (ho : o.op = .convert 40 9 x) (A : Option Addr) (c n : Nat) (l : List Int) (hx : a.eval x = .slice A n c) (w : World) (hn : l.length = n) (hC : Kd.C (Kd.int .u8) w A l.length l) : (execOp a.eval o).run Tryd.prog w = .ok (.value (.string (strOfNums l))) w := by
  subst hn
  have h := run_text w A c l hC
  unfold execOp
  simp only [ho, hx, Sem.run_bind, h, Result.andThen_ok, Sem.run_pure]
theorem bytesOf_str (b : List Int) (hb : Bytes b) : bytesOf (strOfNums b) = b := by
  unfold bytesOf strOfNums
  simp only [List.map_map]
  have : ∀ x ∈ b, ((fun c : UInt8 => (c.toNat : Int)) ∘ fun n : Int => UInt8.ofNat n.toNat) x = x := by
    intro x hx
    have := hb x hx
    simp only [Function.comp, UInt8.toNat_ofNat']
    omega
  rw [List.map_congr_left this]; simp
theorem numb_cons (x : Int) (z : Int) (k : Nat) (hx : 0 ≤ x ∧ x < 256) : numb (x + 256 * z) (k + 1) = x :: numb z k := by
  unfold numb
  rw [List.range_succ_eq_map, List.map_cons, List.map_map]
  congr 1
  · simp; omega
  · apply List.map_congr_left
    intro i _
    simp only [Function.comp]
    have e : (2 : Int) ^ (8 * (i + 1)) = 256 * 2 ^ (8 * i) := by rw [show 8 * (i + 1) = 8 + 8 * i by omega, Int.pow_add]; rfl
    rw [show 8 * Nat.succ i = 8 * (i + 1) from rfl, e, ← Int.ediv_ediv_of_nonneg (by decide), show (x + 256 * z) / 256 = z by omega]
theorem alike_self {α : Type} (f : α → α → Bool) (hf : ∀ x, f x x = true) (l : List α) : alike f l l = true := by
  unfold alike
  rw [List.all_eq_true]
  intro p hp
  have : p.1 = p.2 := by
    obtain ⟨i, hi⟩ := List.mem_iff_getElem?.1 hp
    rw [List.getElem?_zip_eq_some] at hi
    exact Option.some.inj (hi.1.symm.trans hi.2)
  rw [this]; exact hf _
theorem sameT_self (a : Tr) : sameT a a = true := by
  simp [sameT, alike_self eqS (fun s => by simp [eqS]), alike_self eqC (fun s => by simp [eqC])]
theorem enc_false (t : Tr) : enc false t = cnt t.sp.length ++ (t.sp.map fun s => (s.tx, s.n)).flatMap (fun p => p.1 ++ (numb (IntKind.u64.wrap p.2) 4 ++ [])) ++ (cnt t.co.length ++ (t.co.flatMap encC ++ [if t.firm then 1 else 0])) := by
  unfold enc encS
  rw [List.flatMap_map]
  rfl
theorem idv_of {t t' : Tr} (h1 : (t.sp.map fun s => (s.tx, s.n)) = t'.sp.map fun s => (s.tx, s.n)) (h2 : t.co = t'.co) (h3 : t.firm = t'.firm) : idv t = idv t' := by
  have hl : t.sp.length = t'.sp.length := by have := congrArg List.length h1; simpa using this
  unfold idv
  rw [enc_false, enc_false, h1, h2, h3, hl]
theorem numb_inj : ∀ (k : Nat) (x y : Int), 0 ≤ x → x < 256 ^ k → 0 ≤ y → y < 256 ^ k → numb x k = numb y k → x = y
  | 0, x, y, h1, h2, h3, h4, _ => by simp at h2 h4; omega
  | k + 1, x, y, h1, h2, h3, h4, h => by
    rw [Int.pow_succ] at h2 h4
    have ex : x = x % 256 + 256 * (x / 256) := by omega
    have ey : y = y % 256 + 256 * (y / 256) := by omega
    rw [ex, ey, numb_cons _ _ _ (by omega), numb_cons _ _ _ (by omega)] at h
    injection h with h5 h6
    have := numb_inj k (x / 256) (y / 256) (by omega) (by omega) (by omega) (by omega) h6
    omega
theorem cnt_len (n : Nat) : (cnt n).length = if n < 253 then 1 else if n ≤ 65535 then 3 else 5 := by
  unfold cnt; split
  · simp [numb_length]
  · split <;> simp [numb_length]
theorem bytesOf_inj {s s' : ByteArray} (h : bytesOf s = bytesOf s') : s = s' := by
  have h1 : s.data.toList = s'.data.toList := by
    refine List.map_inj_right (f := fun b : UInt8 => (b.toNat : Int)) (fun x y e => ?_) |>.1 h
    have : x.toNat = y.toNat := by have e : (x.toNat : Int) = (y.toNat : Int) := e; omega
    exact UInt8.toNat_inj.1 this
  cases s; cases s'
  simpa using Array.toList_inj.1 h1
theorem str_inj {l l' : List Int} (h : strOfNums l = strOfNums l') (hb : Bytes l) (hb' : Bytes l') : l = l' := by
  rw [← bytesOf_str l hb, ← bytesOf_str l' hb', h]
theorem alike_eq {α : Type} (f : α → α → Bool) (hf : ∀ x y, f x y = true → x = y) : ∀ (l l' : List α), l.length = l'.length → alike f l l' = true → l = l'
  | [], [], _, _ => rfl
  | [], _ :: _, h, _ => by simp at h
  | _ :: _, [], h, _ => by simp at h
  | x :: l, y :: l', h, ha => by
    simp only [alike, List.zip_cons_cons, List.all_cons, Bool.and_eq_true] at ha
    rw [hf x y ha.1, alike_eq f hf l l' (by simpa using h) ha.2]
theorem eqS_eq (s s' : Sp) (h : eqS s s' = true) : s = s' := by
  obtain ⟨a, b, c, d⟩ := s
  obtain ⟨a', b', c', d'⟩ := s'
  simp only [eqS, Bool.and_eq_true, decide_eq_true_eq, beq_iff_eq] at h
  obtain ⟨⟨rfl, rfl⟩, h3, rfl⟩ := h
  rw [ByteArray.toList_eq, ByteArray.toList_eq] at h3
  have : c = c' := by cases c; cases c'; simpa using Array.toList_inj.1 h3
  rw [this]
theorem eqC_eq (s s' : Co) (h : eqC s s' = true) : s = s' := by
  obtain ⟨a, b⟩ := s
  obtain ⟨a', b'⟩ := s'
  simp only [eqC, Bool.and_eq_true, beq_iff_eq] at h
  obtain ⟨rfl, rfl⟩ := h
  rfl
theorem sameT_eq {a b : Tr} (h : sameT a b = true) : a = b := by
  obtain ⟨s, c, f⟩ := a
  obtain ⟨s', c', f'⟩ := b
  simp only [sameT, Bool.and_eq_true, decide_eq_true_eq, beq_iff_eq] at h
  obtain ⟨⟨h1, h2⟩, ⟨h3, h4⟩, rfl⟩ := h
  rw [alike_eq eqS eqS_eq s s' h1 h2, alike_eq eqC eqC_eq c c' h3 h4]
theorem sameT_iff (a b : Tr) : sameT a b = true ↔ a = b := ⟨sameT_eq, fun h => by rw [h]; exact sameT_self b⟩
/-- one spend's witness put anew -/
def wit (s : Sp) (key : ByteArray) (sel : Int) : Sp := { s with key := key, sel := sel }
theorem key_size {a b : Nat} (h : (if a < 253 then 1 else if a ≤ 65535 then 3 else 5) + a = (if b < 253 then 1 else if b ≤ 65535 then 3 else 5) + b) : a = b := by
  split at h <;> split at h <;> (try split at h) <;> (try split at h) <;> omega
theorem encS_wit {s : Sp} {key : ByteArray} {sel : Int} (h1 : 0 ≤ sel) (h2 : sel < 18446744073709551616) (h3 : 0 ≤ s.sel) (h4 : s.sel < 18446744073709551616) (h : encS true (wit s key sel) = encS true s) : wit s key sel = s := by
  have h := h
  unfold encS wit at h
  simp only [if_pos] at h
  have h := List.append_cancel_left (List.append_cancel_left h)
  have hl := congrArg List.length h
  simp only [List.length_append, bytesOf_length, numb_length, cnt_len] at hl
  have hz : key.size = s.key.size := key_size (by omega)
  rw [hz, List.append_assoc, List.append_assoc] at h
  have h := List.append_cancel_left h
  obtain ⟨h5, h6⟩ := List.append_inj h (by rw [bytesOf_length, bytesOf_length, hz])
  have h7 := bytesOf_inj h5
  have h8 := numb_inj 8 _ _ h1 (by omega) h3 (by omega) h6
  obtain ⟨a, b, c, d⟩ := s
  simp only [wit] at h7 h8 ⊢
  rw [h7, h8]
theorem enc_wit {t : Tr} {k : Nat} {s : Sp} {key : ByteArray} {sel : Int} (hs : t.sp[k]? = some s) (h1 : 0 ≤ sel) (h2 : sel < 18446744073709551616) (h3 : 0 ≤ s.sel) (h4 : s.sel < 18446744073709551616) (h : enc true ⟨t.sp.set k (wit s key sel), t.co, t.firm⟩ = enc true t) :
    (⟨t.sp.set k (wit s key sel), t.co, t.firm⟩ : Tr) = t := by
  obtain ⟨sp, co, firm⟩ := t
  simp only at hs h ⊢
  obtain ⟨hlt, he⟩ := List.getElem?_eq_some_iff.1 hs
  have e1 : sp = sp.take k ++ s :: sp.drop (k + 1) := by rw [← he]; simp
  have e2 : sp.set k (wit s key sel) = sp.take k ++ wit s key sel :: sp.drop (k + 1) := by rw [List.set_eq_take_append_cons_drop, if_pos hlt]
  unfold enc at h
  simp only [List.length_set] at h
  rw [List.append_assoc, List.append_assoc] at h
  have h := List.append_cancel_left h
  rw [e2] at h
  have hb : (sp.flatMap (encS true)) = (sp.take k).flatMap (encS true) ++ (encS true s ++ (sp.drop (k + 1)).flatMap (encS true)) := by
    conv => lhs; rw [e1]
    rw [List.flatMap_append, List.flatMap_cons]
  rw [hb, List.flatMap_append, List.flatMap_cons] at h
  simp only [List.append_assoc] at h
  have h := List.append_cancel_left h
  have h5 := List.append_cancel_right h
  rw [e2, encS_wit h1 h2 h3 h4 h5, ← e1]
theorem idv_wit {t : Tr} {k : Nat} {s : Sp} {key : ByteArray} {sel : Int} (hs : t.sp[k]? = some s) : ((t.sp.set k (wit s key sel)).map fun s => (s.tx, s.n)) = t.sp.map fun s => (s.tx, s.n) := by
  rw [List.map_set]
  apply List.ext_getElem?
  intro i
  by_cases e : k = i
  · subst e
    rw [List.getElem?_map, hs, List.getElem?_set_self (by rw [List.length_map]; exact (List.getElem?_eq_some_iff.1 hs).1)]; rfl
  · rw [List.getElem?_set_ne e]
theorem idv_w {t : Tr} {k : Nat} {s : Sp} {key : ByteArray} {sel : Int} (hs : t.sp[k]? = some s) : idv ⟨t.sp.set k (wit s key sel), t.co, t.firm⟩ = idv t := idv_of (idv_wit hs) rfl rfl
theorem encf_w {t : Tr} {k : Nat} {s : Sp} {key : ByteArray} {sel : Int} (hs : t.sp[k]? = some s) : enc false ⟨t.sp.set k (wit s key sel), t.co, t.firm⟩ = enc false t := by
  rw [enc_false, enc_false]
  simp only [idv_wit hs, List.length_set]
end Go.Proofs.YtlgfekllkahfaaaDoor.Wt
/- Spends of rows of one's own written; long loads at an address. -/
set_option linter.unusedVariables false
set_option linter.unusedSimpArgs false
namespace Go.Proofs.YtlgfekllkahfaaaDoor.Wt
open Go.RowKit Go.Proofs.YtlgfekllkahfaaaDoorW.PrintWords Go.Proofs.YtlgfekllkahfaaaDoorW.PrintMore Go.Proofs.YtlgfekllkahfaaaDoor Go.Proofs.YtlgfekllkahfaaaDoor.Bits Sha ArrK ShaW Pack
open Go.Proofs.YtlgfekllkahfaaaDoor.InRound (op_at)
theorem RSp_put {base : Nat} {W : World} {g n cap : Nat} {l : List Sp} (h : RSp base W (.slice (some ⟨g, 0, none⟩) n cap) l) (k : Nat) (hk : k < n) (s x' : Sp) (hs : l[k]? = some s) (j : Nat) (u : Value) (hx : SpO x') (hj : j < 35) (he : (spc s).set j u = spc x') :
    RSp base (W.setCell ⟨g, k * 35 + j, none⟩ u) (.slice (some ⟨g, 0, none⟩) n cap) (l.set k x') ∧ W.grownBy (W.setCell ⟨g, k * 35 + j, none⟩ u) (some g) ∧ (∀ c, (spc s)[j]? = some c → W.cell? ⟨g, k * 35 + j, none⟩ = some c) ∧ W.frozen? ⟨g, k * 35 + j, none⟩ = false ∧ base ≤ g := by
  obtain ⟨c, hcl, ⟨hso, hcs⟩, hcc, hfz⟩ := Kd.R_elem h zsp (k : Int) (by omega) (by omega)
  have hgd : l.getD (k : Int).toNat zsp = s := by simp [List.getD_eq_getElem?_getD, hs]
  rw [hgd] at hcs hso
  subst hcs
  have hl := spc_length s hso.1
  have hseg := Kd.R_seg (d := kSp) (okp := fun _ => False) h (k : Int) (by omega) (by omega) (seg := [u]) (j := j) hcl hcc (by show j + 1 ≤ 35; omega) (x' := x') ⟨hx, by
    rw [← he, List.set_eq_take_append_cons_drop, if_pos (by omega)]; simp⟩ (fun _ h => h.elim)
  have hsz : kSp.sz = 35 := rfl
  simp only [Int.toNat_natCast, hsz] at hseg hcc hfz
  exact ⟨hseg.1, hseg.2, hcc j, hfz j, Kd.R_base h g (by simp [Value.ownBlock])⟩
theorem SpO_key {s : Sp} (h : SpO s) (k : ByteArray) (hk : k.size ≤ 9223372036854775807) : SpO { s with key := k } := ⟨h.1, h.2.1, h.2.2.1, h.2.2.2.1, hk⟩
theorem set_key (s : Sp) (h : s.tx.length = 32) (k : ByteArray) : (spc s).set 33 (.string k) = spc { s with key := k } := by
  unfold spc; rw [List.set_append_right _ _ (by simp [nums, h])]; simp [nums, h]
theorem set_sel (s : Sp) (h : s.tx.length = 32) (x : Int) : (spc s).set 34 (.int .u64 x) = spc { s with sel := x } := by
  unfold spc; rw [List.set_append_right _ _ (by simp [nums, h])]; simp [nums, h]
theorem rowS {e base : Nat} {ok : Nat → Prop} {W : World} {A : Option Addr} {n c : Nat} {l : List Sp} (h : Kd.R kSp e W base ok (.slice A n c) l) : SpR0 W A l.length l := (Kd.R_reads' h).2.2
theorem rowC {e base : Nat} {ok : Nat → Prop} {W : World} {A : Option Addr} {n c : Nat} {l : List Co} (h : Kd.R kCo e W base ok (.slice A n c) l) : CoR W A l.length l := (Kd.R_reads' h).2.2
theorem info_tx3 (x y z : Value) : (Tryd.prog.info? 25).map (·.size) = some [x, y, z].length := by show _ = some 3; kernel_rfl
theorem cut_at {P : Program} {c : Code} {a : Act} {W : World} {Q : Exit → Act → World → Prop} (F : Act → Exit → Act → World → Prop) (h1 : Code.wp P c (F a) a W) (h2 : ∀ e a' W', F a e a' W' → Q e a' W') : Code.wp P c Q a W := Code.wp_mono h2 h1
theorem grown_none {w w' : World} (h : w.grownBy w' none) : Below w.heap.size w w' := ⟨h.os, h.tape, h.output, h.size, fun i hi => h.block i hi (by simp)⟩
theorem wpList_load_c {P : Program} {ops : Array Oper} {rest : List Oper} {op : Oper} {a : Act} {w : World} {Q : Exit → Act → World → Prop} (hw : Region.wanted op (yielded ops a.tmps) = true) (ty : TypeId) (x : Operand) (ho : op.op = .load ty x)
    (ad : Addr) (hx : a.eval x = .pointer (some ad)) (cs : List Value) (d : TypeDesc) (hB : ∀ j v, cs[j]? = some v → w.cell? (ad.add j) = some v)
    (hu : P.underlying ty = some d) (hd : d.isRow = true) (hi : (P.info? ty).map (·.size) = some cs.length)
    (h : wpList P ops Q rest (a.put op.dst (.agg cs.toArray)) w) : wpList P ops Q (op :: rest) a w :=
  wpList_step fun K hK => by
    rw [if_pos hw]
    unfold Oper.wp execOp
    simp only [ho, hx, Sem.run_bind, Sem.run_pure, Result.andThen_ok, run_loadAt_any w ad ty cs d hB hu hd hi]
    exact hK _ _ h
abbrev oth (t : Tr) (A1 A2 : Option Addr) (c1 c2 : Nat) (I : Int) (key : ByteArray) (sel : Int) : List Value := [.slice A1 t.sp.length c1, .slice A2 t.co.length c2, .bool t.firm, .int .i64 I, .string key, .int .u64 sel]
theorem oth_tx {W : World} {B T : Nat} {t : Tr} {A1 A2 : Option Addr} {c1 c2 : Nat} {I : Int} {key : ByteArray} {sel : Int} (h : Blk W B T (oth t A1 A2 c1 c2 I key sel)) : ∀ j v, (trc t A1 A2 c1 c2)[j]? = some v → W.cell? ((⟨B, 0, none⟩ : Addr).add j) = some v := fun j v hj => h.add j v (by
  have e : oth t A1 A2 c1 c2 I key sel = trc t A1 A2 c1 c2 ++ [.int .i64 I, .string key, .int .u64 sel] := rfl
  rw [e, List.getElem?_append_left (List.getElem?_eq_some_iff.1 hj).1]; exact hj)
theorem SpO_wit {s : Sp} (h : SpO s) (key : ByteArray) (sel : Int) (hk : key.size ≤ 9223372036854775807) (h1 : 0 ≤ sel) (h2 : sel < 18446744073709551616) : SpO (wit s key sel) := ⟨h.1, h.2.1, h1, h2, hk⟩
theorem RSp_at {base : Nat} {W : World} {g n cap : Nat} {l : List Sp} (h : RSp base W (.slice (some ⟨g, 0, none⟩) n cap) l) (k : Nat) (hk : k < n) (s : Sp) (hs : l[k]? = some s) : SpO s := by
  obtain ⟨c, hcl, ⟨hso, hcs⟩, hcc, hfz⟩ := Kd.R_elem h zsp (k : Int) (by omega) (by omega)
  have hgd : l.getD (k : Int).toNat zsp = s := by simp [List.getD_eq_getElem?_getD, hs]
  rw [hgd] at hso
  exact hso
theorem kth (I : Int) (n : Nat) (h0 : n ≠ 0) (hn : n ≤ 1000) : ∃ k : Nat, wrap64 ((IntKind.u64.wrap I).tmod (n : Int)) = (k : Int) ∧ k < n := by
  have h1 := u64_in I
  have h2 : (IntKind.u64.wrap I).tmod (n : Int) = IntKind.u64.wrap I % (n : Int) := Int.tmod_eq_emod_of_nonneg h1.1
  have h3 := Int.emod_nonneg (IntKind.u64.wrap I) (b := (n : Int)) (by omega)
  have h4 := Int.emod_lt_of_pos (IntKind.u64.wrap I) (b := (n : Int)) (by omega)
  refine ⟨(IntKind.u64.wrap I % (n : Int)).toNat, ?_, by omega⟩
  rw [h2, wrap64_small (by omega) (by omega)]; omega
end Go.Proofs.YtlgfekllkahfaaaDoor.Wt
