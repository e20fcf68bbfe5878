/- How a transaction is signed (lock.Sign). -/
import Derived.Test.YthnfjbnebfjjfaaDoorMTy
import Derived.Test.YthnfjbnebfjjfaaDoorMLk
import Derived.Test.YthnfjbnebfjjfaaDoorMPb
set_option linter.unusedVariables false
set_option linter.unusedSimpArgs false
namespace Go.Proofs.YthnfjbnebfjjfaaDoor.Pack
open Go.RowKit Go.Proofs.YthnfjbnebfjjfaaDoorW.PrintWords Go.Proofs.YthnfjbnebfjjfaaDoorW.PrintMore Go.Proofs.YthnfjbnebfjjfaaDoor Go.Proofs.YthnfjbnebfjjfaaDoor.Bits Sha ArrK ShaW
open Go.Proofs.YthnfjbnebfjjfaaDoor.InRound (op_at)
/-- a row of keys -/
abbrev StR (W : World) (A : Option Addr) (n : Nat) (l : List ByteArray) : Prop := ReadsRow (fun s cs => cs = [Value.string s]) 1 W A n l
def sg (id : List Int) (s : Sp) (k : ByteArray) : Sp := { s with key := k, sel := sl k id }
def sgs (id : List Int) (l : List Sp) (ks : List ByteArray) : List Sp := List.zipWith (sg id) l ks
def sgT (t : Tr) (ks : List ByteArray) : Tr := ⟨sgs (idv t) t.sp ks, t.co, t.firm⟩
def mix (id : List Int) (l : List Sp) (ks : List ByteArray) (k : Nat) : List Sp := (sgs id l ks).take k ++ l.drop k
theorem sgs_length (id : List Int) (l : List Sp) (ks : List ByteArray) (h : ks.length = l.length) : (sgs id l ks).length = l.length := by simp [sgs, h]
theorem mix_length (id : List Int) (l : List Sp) (ks : List ByteArray) (h : ks.length = l.length) (k : Nat) (hk : k ≤ l.length) : (mix id l ks k).length = l.length := by
  simp only [mix, List.length_append, List.length_take, List.length_drop, sgs_length id l ks h]; omega
theorem mix_at (id : List Int) (l : List Sp) (ks : List ByteArray) (h : ks.length = l.length) (k : Nat) (hk : k < l.length) : (mix id l ks k)[k]? = l[k]? := by
  unfold mix
  rw [List.getElem?_append_right (by rw [List.length_take]; exact Nat.min_le_left _ _), List.length_take, sgs_length id l ks h, Nat.min_eq_left (by omega), Nat.sub_self, List.getElem?_drop]; simp
theorem mix_set (id : List Int) (l : List Sp) (ks : List ByteArray) (h : ks.length = l.length) (k : Nat) (s : Sp) (key : ByteArray) (hs : l[k]? = some s) (hk : ks[k]? = some key) : (mix id l ks k).set k (sg id s key) = mix id l ks (k + 1) := by
  have hlt := (List.getElem?_eq_some_iff.1 hs).1
  unfold mix
  have hz : (sgs id l ks)[k]? = some (sg id s key) := by unfold sgs; rw [List.getElem?_zipWith, hs, hk]
  have hl : ((sgs id l ks).take k).length = k := by rw [List.length_take, sgs_length id l ks h]; omega
  have hzl := (List.getElem?_eq_some_iff.1 hz)
  rw [List.set_append_right _ _ (by omega), hl, Nat.sub_self, List.take_succ_eq_append_getElem hzl.1, hzl.2, List.drop_eq_getElem_cons hlt, List.set_cons_zero, List.append_assoc]
  rfl
theorem mix_zero (id : List Int) (l : List Sp) (ks : List ByteArray) : mix id l ks 0 = l := by simp [mix]
theorem mix_end (id : List Int) (l : List Sp) (ks : List ByteArray) (h : ks.length = l.length) : mix id l ks l.length = sgs id l ks := by
  unfold mix
  rw [List.take_of_length_le (by rw [sgs_length id l ks h]; exact Nat.le_refl _), List.drop_length, List.append_nil]
theorem num_fold (l : List Int) : ∀ (a N : Int), 0 ≤ a → a < N → Bytes l → 0 ≤ l.foldl (fun x b => 256 * x + b) a ∧ l.foldl (fun x b => 256 * x + b) a < N * 256 ^ l.length := by
  induction l with
  | nil => intro a N h0 h1 _; simp; exact ⟨h0, h1⟩
  | cons x r ih =>
    intro a N h0 h1 hb
    have hx := hb x (by simp)
    have := ih (256 * a + x) (N * 256) (by omega) (by omega) (fun y hy => hb y (by simp [hy]))
    rw [List.foldl_cons, List.length_cons, Int.pow_succ, Int.mul_comm (256 ^ r.length) 256, ← Int.mul_assoc]
    exact this
theorem w64_range (h : List Int) (hb : Bytes h) (hl : h.length = 32) : 0 ≤ w64 h ∧ w64 h < 18446744073709551616 := by
  have := num_fold (h.take 8) 0 1 (by decide) (by decide) (fun y hy => hb y (List.mem_of_mem_take hy))
  rw [List.length_take, hl] at this
  simpa [w64, num] using this
/-- one cell of a spend in a row of the call's own -/
theorem RSp_put {base : Nat} {W : World} {g n cap : Nat} {l : List Sp} (h : RSp base W (.slice (some ⟨g, 0, none⟩) n cap) l) (k : Nat) (hk : k < n) (s x' : Sp) (hs : l[k]? = some s) (j : Nat) (u : Value) (hx : SpO x') (hj : j < 35) (he : (spc s).set j u = spc x') :
    RSp base (W.setCell ⟨g, k * 35 + j, none⟩ u) (.slice (some ⟨g, 0, none⟩) n cap) (l.set k x') ∧ W.grownBy (W.setCell ⟨g, k * 35 + j, none⟩ u) (some g) ∧ (∀ c, (spc s)[j]? = some c → W.cell? ⟨g, k * 35 + j, none⟩ = some c) ∧ W.frozen? ⟨g, k * 35 + j, none⟩ = false ∧ base ≤ g := by
  obtain ⟨c, hcl, ⟨hso, hcs⟩, hcc, hfz⟩ := Kd.R_elem h zsp (k : Int) (by omega) (by omega)
  have hgd : l.getD (k : Int).toNat zsp = s := by simp [List.getD_eq_getElem?_getD, hs]
  rw [hgd] at hcs hso
  subst hcs
  have hl := spc_length s hso.1
  have hseg := Kd.R_seg (d := kSp) (okp := fun _ => False) h (k : Int) (by omega) (by omega) (seg := [u]) (j := j) hcl hcc (by show j + 1 ≤ 35; omega) (x' := x') ⟨hx, by
    rw [← he, List.set_eq_take_append_cons_drop, if_pos (by omega)]; simp⟩ (fun _ h => h.elim)
  have hsz : kSp.sz = 35 := rfl
  simp only [Int.toNat_natCast, hsz] at hseg hcc hfz
  exact ⟨hseg.1, hseg.2, hcc j, hfz j, Kd.R_base h g (by simp [Value.ownBlock])⟩
theorem SpO_key {s : Sp} (h : SpO s) (k : ByteArray) (hk : k.size ≤ 9223372036854775807) : SpO { s with key := k } := ⟨h.1, h.2.1, h.2.2.1, h.2.2.2.1, hk⟩
theorem SpO_sg {s : Sp} (h : SpO s) (id : List Int) (k : ByteArray) (hk : k.size ≤ 9223372036854775807) : SpO (sg id s k) := ⟨h.1, h.2.1, (w64_range _ (Bytes.sum _) (sum_length _)).1, (w64_range _ (Bytes.sum _) (sum_length _)).2, hk⟩
theorem set_key (s : Sp) (h : s.tx.length = 32) (k : ByteArray) : (spc s).set 33 (.string k) = spc { s with key := k } := by
  unfold spc; rw [List.set_append_right _ _ (by simp [nums, h])]; simp [nums, h]
theorem set_seal (s : Sp) (h : s.tx.length = 32) (id : List Int) (k : ByteArray) : (spc { s with key := k }).set 34 (.int .u64 (sl k id)) = spc (sg id s k) := by
  unfold spc; rw [List.set_append_right _ _ (by simp [nums, h])]; simp [nums, h, sg]
end Go.Proofs.YthnfjbnebfjjfaaDoor.Pack
/- How a transaction is signed (lock.Sign): the walk. -/
set_option linter.unusedVariables false
set_option linter.unusedSimpArgs false
namespace Go.Proofs.YthnfjbnebfjjfaaDoor.Pack
open Go.RowKit Go.Proofs.YthnfjbnebfjjfaaDoorW.PrintWords Go.Proofs.YthnfjbnebfjjfaaDoorW.PrintMore Go.Proofs.YthnfjbnebfjjfaaDoor Go.Proofs.YthnfjbnebfjjfaaDoor.Bits Sha ArrK ShaW
open Go.Proofs.YthnfjbnebfjjfaaDoor.InRound (op_at)
theorem info_tx3 (x y z : Value) : (Tryd.prog.info? 38).map (·.size) = some [x, y, z].length := by show _ = some 3; kernel_rfl
section
variable {t : Tr} {A1 A2 A3 : Option Addr} {c1 c2 c3 : Nat}
set_option maxRecDepth 100000 in
set_option maxHeartbeats 800000 in
theorem sign_no (w : World) (ks : List ByteArray) (hn : ks.length ≠ t.sp.length) :
    Calls Tryd.prog 18 #[trv t A1 A2 c1 c2, .slice A3 ks.length c3] w fun e w' => e = .returned (.tuple #[.agg #[.slice none 0 0, .slice none 0 0, .bool false], .iface 52 (.int .i64 1)]) ∧ Below w.heap.size w w' := by
  obtain ⟨V, hV⟩ : ∃ V, V = (w.alloc (.cells (trc t A1 A2 c1 c2).toArray 38)).alloc (.cells #[.slice none 0 0, .slice none 0 0, .bool false] 38) := ⟨_, rfl⟩
  have hX : Blk V w.heap.size 38 (trc t A1 A2 c1 c2) := by rw [hV]; exact (Blk.new w _ _).alloc _
  have hZ : Blk V (w.heap.size + 1) 38 [.slice none 0 0, .slice none 0 0, .bool false] := by
    have := Blk.new (w.alloc (.cells (trc t A1 A2 c1 c2).toArray 38)) 38 [.slice none 0 0, .slice none 0 0, .bool false]
    rw [hV]; rwa [World.size_alloc] at this
  have hB : Below w.heap.size w V := by rw [hV]; exact below_alloc (below_alloc (Below.refl _ _) _) _
  obtain ⟨sp, co, firm⟩ := t
  simp only at hV hX hn ⊢
  have x0 := hX.get 0 _ rfl
  have q1 : ((ks.length : Int) != (sp.length : Int)) = true := by rw [bne_iff_ne]; omega
  have hVA := Aside0.mk hV; have hBA := Aside0.mk hB; have hZA := Aside0.mk hZ
  clear hV hX hB hZ hn
  go_enter Tryd.func18, Tryd.ntmps18
  go_wp2_with fail
  rw [show ((w.alloc (.cells #[.slice A1 sp.length c1, .slice A2 co.length c2, .bool firm] 38)).alloc (.cells #[.slice none 0 0, .slice none 0 0, .bool false] 38)) = V from hVA.out.symm]
  exact bodyPost_ret (results_ct rfl _ _ (w.heap.size + 1) 38 #[.slice none 0 0, .slice none 0 0, .bool false] (0, 0) _ rfl hZA.out Tryd.underlying38 rfl (info_tx3 _ _ _)) rfl ⟨rfl, hBA.out⟩
set_option maxRecDepth 100000 in
set_option maxHeartbeats 800000 in
theorem sign_yes (w : World) (h : TrOk w t A1 A2 c1 c2) (ks : List ByteArray) (hks : ∀ k ∈ ks, k.size ≤ 1000000) (hS0 : StR w A3 ks.length ks) (hn : ks.length = t.sp.length) (hK : Kst w) (hBg : Bst w) :
    Calls Tryd.prog 18 #[trv t A1 A2 c1 c2, .slice A3 ks.length c3] w fun e w' => (∃ v1 v2, e = .returned (.tuple #[.agg #[v1, v2, .bool t.firm], .nilIface]) ∧ RSp w.heap.size w' v1 (sgs (idv t) t.sp ks) ∧ RCo w.heap.size w' v2 t.co) ∧ Below w.heap.size w w' := by
  obtain ⟨V, hV⟩ : ∃ V, V = (w.alloc (.cells (trc t A1 A2 c1 c2).toArray 38)).alloc (.cells #[.slice none 0 0, .slice none 0 0, .bool false] 38) := ⟨_, rfl⟩
  have hX : Blk V w.heap.size 38 (trc t A1 A2 c1 c2) := by rw [hV]; exact (Blk.new w _ _).alloc _
  have hZ : Blk V (w.heap.size + 1) 38 [.slice none 0 0, .slice none 0 0, .bool false] := by
    have := Blk.new (w.alloc (.cells (trc t A1 A2 c1 c2).toArray 38)) 38 [.slice none 0 0, .slice none 0 0, .bool false]
    rw [hV]; rwa [World.size_alloc] at this
  have hB : Below w.heap.size w V := by rw [hV]; exact below_alloc (below_alloc (Below.refl _ _) _) _
  have hi3A := Aside0.mk info_tx3
  have hTcA := Aside0.mk (fun (W : World) (hW : Below w.heap.size w W) => txcopy_calls (t := t) (c1 := c1) (c2 := c2) W ((h.sp.imp_ hW (fun _ _ h => ⟨⟨h.1.1, h.1.2.1, h.1.2.2.1, h.1.2.2.2.1, by have := h.1.2.2.2.2; omega⟩, h.2⟩))) (h.co.imp_ hW (fun _ _ h => h)) h.n1 h.n2)
  have hIdA := Aside0.mk (fun (W : World) (hW : Below w.heap.size w W) => id_calls W (h.below hW) (hK.below hW) (hBg.below hW))
  have hspA := Aside0.mk h.spok
  have hil : (idv t).length = 32 := sum_length _
  have hib : Bytes (idv t) := Bytes.sum _
  have hn1 := h.n1
  have hSlA := Aside0.mk (fun (id : List Int) (hid : id.length = 32) (hib : Bytes id) (key : ByteArray) (hk : key.size ≤ 1000000) (W : World) (hW : Below w.heap.size w W) => seal_calls key hk id hid hib W (hK.below hW) (hBg.below hW))
  have hKeyA := Aside0.mk (fun (W : World) (hW : Below w.heap.size w W) (k : Nat) (key : ByteArray) (hk : ks[k]? = some key) => row_at (hS0.imp_ hW (fun _ _ h => h)) k key hk)
  have hi := info_tx t A1 A2 c1 c2
  generalize idv t = id at *
  obtain ⟨sp, co, firm⟩ := t
  simp only at hV hX hn hn1 hTcA hIdA hspA hi ⊢
  have x0 := hX.get 0 _ rfl
  have q1 : ((ks.length : Int) != (sp.length : Int)) = false := by simp [hn]
  have hVA := Aside0.mk hV; have hBA := Aside0.mk hB; have hZA := Aside0.mk hZ; have hXA := Aside0.mk hX; have hiA := Aside0.mk hi; have hilA := Aside0.mk hil; have hibA := Aside0.mk hib; have hlenA := Aside0.mk hn; have hksA := Aside0.mk hks
  clear hV hX hB hZ hi hil hib h hK hBg hS0 hn hks
  go_enter Tryd.func18, Tryd.ntmps18
  go_wp2_with (first | ((with_reducible refine gate_dst (N := 18) rfl ?_); (rw [show ((w.alloc (.cells #[.slice A1 sp.length c1, .slice A2 co.length c2, .bool firm] 38)).alloc (.cells #[.slice none 0 0, .slice none 0 0, .bool false] 38)) = V from hVA.out.symm]; refine wpList_load_blk rfl 38 (.tmp 2) rfl w.heap.size 38 rfl (trc ⟨sp, co, firm⟩ A1 A2 c1 c2) _ hXA.out Tryd.underlying38 rfl hiA.out ?_)) | (go_at_call 29; ((with_reducible refine (hTcA.out _ hBA.out).mono ?_); rintro e w2 ⟨⟨u1, u2, rfl, hR1, hR2⟩, hb2⟩; obtain ⟨B1, m1, hv1⟩ := Kd.R_slice hR1; obtain ⟨B2, m2, hv2⟩ := Kd.R_slice hR2; subst hv1; subst hv2; have hb2A := Aside0.mk (below_then hBA.out hBA.out.size hb2); have hX2A := Aside0.mk (hXA.out.below hb2); have hZ2A := Aside0.mk (hZA.out.below hb2); have hR1A := Aside0.mk (Kd.R_lower hR1 hBA.out.size); have hR2A := Aside0.mk (Kd.R_lower hR2 hBA.out.size); clear hb2 hR1 hR2 x0)) | ((with_reducible refine gate_dst (N := 6) rfl ?_); (refine wpList_new_put rfl (N := 6) rfl rfl 38 (.tmp 19) rfl [.slice B1 sp.length m1, .slice B2 co.length m2, .bool firm] [.slice none 0 0, .slice none 0 0, .bool false] rfl ?hr rfl rfl (hi3A.out _ _ _) (by intro u hu; simp at hu; rcases hu with rfl | rfl | rfl <;> rfl) ?_; (case hr => first | (go_simp; done) | (go_simp; rfl)); intro w3 hO3 hb3 hs3; have hO3A := Aside0.mk hO3; have hX3A := Aside0.mk (hX2A.out.below hb3); have hZ3A := Aside0.mk (hZ2A.out.below hb3); have hR3A := Aside0.mk (Kd.R_below hR1A.out hb3); have hC3A := Aside0.mk (Kd.R_below hR2A.out hb3); have hb3A := Aside0.mk (below_then hb2A.out hb2A.out.size hb3); clear hO3 hb3 hs3)) | ((with_reducible refine gate_dst (N := 20) rfl ?_); (refine wpList_load_blk rfl 38 (.tmp 2) rfl w.heap.size 38 rfl (trc ⟨sp, co, firm⟩ A1 A2 c1 c2) _ hX3A.out Tryd.underlying38 rfl hiA.out ?_)) | (go_at_call 22; ((with_reducible refine (hIdA.out _ hb3A.out).mono ?_); rintro e w4 ⟨rfl, hb4⟩; have hO4A := Aside0.mk (hO3A.out.below hb4); have hZ4A := Aside0.mk (hZ3A.out.below hb4); have hR4A := Aside0.mk (Kd.R_below hR3A.out hb4); have hC4A := Aside0.mk (Kd.R_below hC3A.out hb4); have hb4A := Aside0.mk (below_then hb3A.out hb3A.out.size hb4); clear hb4)) | ((with_reducible refine gate_dst (N := 7) rfl ?_); (refine wpList_new_put rfl (N := 7) rfl rfl 23 (.tmp 21) rfl (nums .u8 id) (nums .u8 zero32) (by simp only [nums, List.length_map, hilA.out]; rfl) ?hr rfl rfl (info_hash id hilA.out) (u8_one id) ?_; (case hr => first | (go_simp; done) | (go_simp; rfl)); intro w5 hI5 hb5 hs5; have hI5A := Aside0.mk hI5; have hO5A := Aside0.mk (hO4A.out.below hb5); have hZ5A := Aside0.mk (hZ4A.out.below hb5); have hR5A := Aside0.mk (Kd.R_below hR4A.out hb5); have hC5A := Aside0.mk (Kd.R_below hC4A.out hb5); have hb5A := Aside0.mk (below_then hb4A.out hb4A.out.size hb5); clear hI5 hb5 hs5)))
  obtain ⟨I, hI⟩ : ∃ I, I = w4.heap.size := ⟨_, rfl⟩
  rw [← hI]
  rw [← hI] at hI5A
  obtain ⟨O, hO⟩ : ∃ O, O = w2.heap.size := ⟨_, rfl⟩
  rw [← hO]
  rw [← hO] at hO5A
  clear hI hO
  go_loopw [24] (fun i wr => ∃ k : Nat, k ≤ sp.length ∧ i = .int .i64 (k : Int) ∧ RSp w.heap.size wr (.slice B1 sp.length m1) (mix id sp ks k) ∧ RCo w.heap.size wr (.slice B2 co.length m2) co ∧ Blk wr O 38 [.slice B1 sp.length m1, .slice B2 co.length m2, .bool firm] ∧ Blk wr I 23 (nums .u8 id) ∧ Blk wr (w.heap.size + 1) 38 [.slice none 0 0, .slice none 0 0, .bool false] ∧ Below w.heap.size w wr) (fun i _ => sp.length - (intOf i).toNat)
  case atStart => exact ⟨0, by omega, rfl, by rw [mix_zero]; exact hR5A.out, hC5A.out, hO5A.out, hI5A.out, hZ5A.out, hb5A.out⟩
  case round =>
    clear hI5A hO5A hZ5A hR5A hC5A hb5A hO4A hZ4A hR4A hC4A hb4A hX3A hO3A hZ3A hR3A hC3A hb3A hX2A hZ2A hb2A hR1A hR2A hXA hZA
    obtain ⟨k, hk, rfl, RS, RC, OO, II, ZZ, BB⟩ := hrel
    by_cases hlt : k < sp.length
    · obtain ⟨s, hs⟩ : ∃ s, sp[k]? = some s := ⟨_, List.getElem?_eq_getElem hlt⟩
      obtain ⟨key, hkey⟩ : ∃ c, ks[k]? = some c := ⟨_, List.getElem?_eq_getElem (by have := hlenA.out; omega)⟩
      obtain ⟨ad3, cc3, rfl, rfl, -, hc3⟩ := hKeyA.out wr BB k key hkey
      obtain ⟨g, cap, hv, -⟩ := Kd.R_form RS (by rw [mix_length id sp ks hlenA.out k hk]; omega)
      obtain rfl : B1 = some ⟨g, 0, none⟩ := by injection hv
      have hc3 : wr.cell? (ad3.add k) = some (.string key) := by have := hc3 0 _ rfl; rwa [Deep.add_add, Nat.mul_one, Nat.add_zero] at this
      have hlen := hlenA.out
      have hsok := hspA.out s (List.mem_of_getElem? hs)
      have hko : SpO s := ⟨hsok.1, hsok.2.1, hsok.2.2.1, hsok.2.2.2.1, by have := hsok.2.2.2.2; omega⟩
      have hkz := hksA.out key (List.mem_of_getElem? hkey)
      have hst := hsok.1
      have hok1 := SpO_key hko key (by omega)
      have hok2 := SpO_sg hko id key (by omega)
      have hsm : (mix id sp ks k)[k]? = some s := (mix_at id sp ks hlen k hlt).trans hs
      have hsm2 : ((mix id sp ks k).set k { s with key := key })[k]? = some { s with key := key } := by
        rw [List.getElem?_set_self (by rw [mix_length id sp ks hlen k hk]; exact hlt)]
      have hSl := fun (W : World) (hW : Below w.heap.size w W) => hSlA.out id hilA.out hibA.out key hkz W hW
      have hSlA := Aside0.mk hSl
      have p0 : (0 : Int) ≤ (k : Int) := by omega
      have p1 : (k : Int) < (sp.length : Int) := by omega
      have p2 : (k : Int) < (ks.length : Int) := by omega
      have e2 : IntKind.i64.wrap ((k : Int) + 1) = (k : Int) + 1 := IntWalk.i64_in _ (by omega)
      clear hsok hko hkz hSl hv
      have RS0 : Aside0 (RSp w.heap.size wr.drew _ _) := Aside0.mk RS; have RC0 : Aside0 (RCo w.heap.size wr.drew _ _) := Aside0.mk RC; have BB0 : Aside0 (Below w.heap.size w wr.drew) := Aside0.mk (pw_below_drewN BB 1); have OO0 : Blk wr.drew _ _ _ := OO.drew; have II0 : Blk wr.drew _ _ _ := II.drew; have ZZ0 : Blk wr.drew _ _ _ := ZZ.drew
      have hOA := Aside0.mk OO0; have hIA := Aside0.mk II0; have hZZA := Aside0.mk ZZ0; have hlA := Aside0.mk hlt; have hsA := Aside0.mk hs; have hkA := Aside0.mk hkey; have hl2A := Aside0.mk hlen; have hstA := Aside0.mk hst; have ho1A := Aside0.mk hok1; have ho2A := Aside0.mk hok2; have hs1A := Aside0.mk hsm; have hs2A := Aside0.mk hsm2
      clear RS RC OO II ZZ BB OO0 II0 ZZ0 hlt hs hkey hlen hst hok1 hok2 hsm hsm2
      go_wp2_with fail
      clear hc3
      refine wp_region_noPanic ?_
      refine wp_region_held_drew (S := fun V1 => Blk V1 O 38 [.slice (some ⟨g, 0, none⟩) sp.length m1, .slice B2 co.length m2, .bool firm] ∧ Blk V1 I 23 (nums .u8 id)) (by kernel_rfl) ⟨hOA.out, hIA.out⟩ (fun _ => ?_)
      have H0 := And.intro hOA.out hIA.out
      have ZZ0 := hZZA.out
      have hlt := hlA.out; have hs := hsA.out; have hkey := hkA.out; have hst := hstA.out; have hok1 := ho1A.out; have hok2 := ho2A.out; have hsm := hs1A.out; have hsm2 := hs2A.out
      clear hOA hIA hZZA hlA hsA hkA hstA ho1A ho2A hs1A hs2A
      generalize wr.drew = V0 at *
      -- REGION S
      refine wpAnyH_take (i := 0) (v := .pointer (some ⟨O, 0, none⟩)) (op_at rfl) (by kernel_rfl) (by kernel_rfl) (by kernel_rfl) (fun _ _ _ h => h) (Or.inl ⟨by rfl, fun w_ hSw => ?_⟩) H0 ?_
      · skip; go_simp
      try simp only [Act.put, List.setIfInBounds_toArray, List.set_cons_zero, List.set_cons_succ]
      refine wpAnyH_take (i := 1) (v := .slice (some ⟨g, 0, none⟩) sp.length m1) (op_at rfl) (by kernel_rfl) (by kernel_rfl) (by kernel_rfl) (fun _ _ _ h => h) (Or.inl ⟨by rfl, fun w_ hSw => ?_⟩) H0 ?_
      · have hc_ := hSw.1.get 0 _ rfl; go_simp
      try simp only [Act.put, List.setIfInBounds_toArray, List.set_cons_zero, List.set_cons_succ]
      refine wpAnyH_take (i := 2) (v := .int .i64 (k : Int)) (op_at rfl) (by kernel_rfl) (by kernel_rfl) (by kernel_rfl) (fun _ _ _ h => h) (Or.inl ⟨by rfl, fun w_ hSw => ?_⟩) H0 ?_
      · skip; go_simp
      try simp only [Act.put, List.setIfInBounds_toArray, List.set_cons_zero, List.set_cons_succ]
      refine wpAnyH_take (i := 3) (v := .pointer (some ⟨O, 0, none⟩)) (op_at rfl) (by kernel_rfl) (by kernel_rfl) (by kernel_rfl) (fun _ _ _ h => h) (Or.inl ⟨by rfl, fun w_ hSw => ?_⟩) H0 ?_
      · skip; go_simp
      try simp only [Act.put, List.setIfInBounds_toArray, List.set_cons_zero, List.set_cons_succ]
      refine wpAnyH_take (i := 4) (v := .slice (some ⟨g, 0, none⟩) sp.length m1) (op_at rfl) (by kernel_rfl) (by kernel_rfl) (by kernel_rfl) (fun _ _ _ h => h) (Or.inl ⟨by rfl, fun w_ hSw => ?_⟩) H0 ?_
      · have hc_ := hSw.1.get 0 _ rfl; go_simp
      try simp only [Act.put, List.setIfInBounds_toArray, List.set_cons_zero, List.set_cons_succ]
      refine wpAnyH_take (i := 5) (v := .int .i64 (k : Int)) (op_at rfl) (by kernel_rfl) (by kernel_rfl) (by kernel_rfl) (fun _ _ _ h => h) (Or.inl ⟨by rfl, fun w_ hSw => ?_⟩) H0 ?_
      · skip; go_simp
      try simp only [Act.put, List.setIfInBounds_toArray, List.set_cons_zero, List.set_cons_succ]
      refine wpAnyH_take (i := 6) (v := .string key) (op_at rfl) (by kernel_rfl) (by kernel_rfl) (by kernel_rfl) (fun _ _ _ h => h) (Or.inl ⟨by rfl, fun w_ hSw => ?_⟩) H0 ?_
      · skip; go_simp
      try simp only [Act.put, List.setIfInBounds_toArray, List.set_cons_zero, List.set_cons_succ]
      refine wpAnyH_take (i := 7) (v := .string key) (op_at rfl) (by kernel_rfl) (by kernel_rfl) (by kernel_rfl) (fun _ _ _ h => h) (Or.inl ⟨by rfl, fun w_ hSw => ?_⟩) H0 ?_
      · skip; go_simp
      try simp only [Act.put, List.setIfInBounds_toArray, List.set_cons_zero, List.set_cons_succ]
      refine wpAnyH_take (i := 8) (v := hv id) (op_at rfl) (by kernel_rfl) (by kernel_rfl) (by kernel_rfl) (fun _ _ _ h => h) (yieldsIf_load_any (by rfl) _ _ rfl ⟨I, 0, none⟩ rfl _ _ (fun w_ hSw => hSw.2.add) Tryd.underlying23 rfl (info_hash id hilA.out)) H0 ?_
      try simp only [Act.put, List.setIfInBounds_toArray, List.set_cons_zero, List.set_cons_succ]
      refine wpAnyH_ready (rs := [9]) (by kernel_rfl) (by simp) ?_
      refine AllReadyH.cons (op_at rfl) (fun K hK => ?_) AllReadyH.nil
      go_simp
      go_at_call 9
      with_reducible refine (hSlA.out V0 BB0.out).mono ?_
      rintro e V1_ ⟨rfl, hb_⟩
      go_wp2_with fail
      refine hK.out _ _ ⟨H0.1.below hb_, H0.2.below hb_⟩ (fun H1_ => ?_)
      have RS_1 := Aside0.mk (Kd.R_below RS0.out hb_)
      have RC_1 := Aside0.mk (Kd.R_below RC0.out hb_)
      have ZZ_1 := ZZ0.below hb_
      have BB_1 := Aside0.mk (below_then BB0.out BB0.out.size hb_)
      clear hK K hb_
      try simp only [Act.put, List.setIfInBounds_toArray, List.set_cons_zero, List.set_cons_succ]
      refine wpAnyH_take (i := 10) (v := .pointer (some ⟨g, k * 35, none⟩)) (op_at rfl) (by kernel_rfl) (by kernel_rfl) (by kernel_rfl) (fun _ _ _ h => h) (Or.inl ⟨by rfl, fun w_ hSw => ?_⟩) H1_ ?_
      · skip; go_simp
      try simp only [Act.put, List.setIfInBounds_toArray, List.set_cons_zero, List.set_cons_succ]
      refine wpAnyH_take (i := 11) (v := .pointer (some ⟨g, k * 35 + 33, none⟩)) (op_at rfl) (by kernel_rfl) (by kernel_rfl) (by kernel_rfl) (fun _ _ _ h => h) (Or.inl ⟨by rfl, fun w_ hSw => ?_⟩) H1_ ?_
      · skip; go_simp
      try simp only [Act.put, List.setIfInBounds_toArray, List.set_cons_zero, List.set_cons_succ]
      refine wpAnyH_ready (rs := [12]) (by kernel_rfl) (by simp) ?_
      refine AllReadyH.cons (op_at rfl) (fun K hK => ?_) AllReadyH.nil
      obtain ⟨hr_, hg_, hc_, hf_, hbg_⟩ := RSp_put RS_1.out k hlt (s) ({ s with key := key }) hsm 33 (.string key) hok1 (by decide) (set_key s hst key)
      have hc_ := hc_ _ (spc_key s hst)
      have ne1_ := Kd.R_ne RS_1.out H1_.1 (by decide)
      have ne2_ := Kd.R_ne RS_1.out H1_.2 (by decide)
      go_simp
      refine hK.out _ _ ⟨H1_.1.grown hg_ ne1_, H1_.2.grown hg_ ne2_⟩ (fun H2_ => ?_)
      have RS_2 := Aside0.mk hr_
      have RC_2 := Aside0.mk (Kd.R_mono (Kd.R_grown (Kd.R_apartR RC_1.out RS_1.out (by decide)) hg_ (fun _ hk => hk.2)) (fun _ _ => trivial) : RCo w.heap.size _ _ _)
      have ZZ_2 := ZZ_1.grown hg_ (Kd.R_ne RS_1.out ZZ_1 (by decide))
      have BB_2 := Aside0.mk (BB_1.out.setCell (p := ⟨g, k * 35 + 33, none⟩) hbg_ (.string key))
      clear hK K hc_ hf_ hr_ hg_ ne1_ ne2_ hbg_
      try simp only [Act.put, List.setIfInBounds_toArray, List.set_cons_zero, List.set_cons_succ]
      refine wpAnyH_take (i := 13) (v := .pointer (some ⟨g, k * 35, none⟩)) (op_at rfl) (by kernel_rfl) (by kernel_rfl) (by kernel_rfl) (fun _ _ _ h => h) (Or.inl ⟨by rfl, fun w_ hSw => ?_⟩) H2_ ?_
      · skip; go_simp
      try simp only [Act.put, List.setIfInBounds_toArray, List.set_cons_zero, List.set_cons_succ]
      refine wpAnyH_take (i := 14) (v := .pointer (some ⟨g, k * 35 + 34, none⟩)) (op_at rfl) (by kernel_rfl) (by kernel_rfl) (by kernel_rfl) (fun _ _ _ h => h) (Or.inl ⟨by rfl, fun w_ hSw => ?_⟩) H2_ ?_
      · skip; go_simp
      try simp only [Act.put, List.setIfInBounds_toArray, List.set_cons_zero, List.set_cons_succ]
      refine wpAnyH_ready (rs := [15]) (by kernel_rfl) (by simp) ?_
      refine AllReadyH.cons (op_at rfl) (fun K hK => ?_) AllReadyH.nil
      obtain ⟨hr_, hg_, hc_, hf_, hbg_⟩ := RSp_put RS_2.out k hlt ({ s with key := key }) (sg id s key) hsm2 34 (.int .u64 (sl key id)) hok2 (by decide) (set_seal s hst id key)
      have hc_ := hc_ _ (spc_seal _ hst)
      have ne1_ := Kd.R_ne RS_2.out H2_.1 (by decide)
      have ne2_ := Kd.R_ne RS_2.out H2_.2 (by decide)
      go_simp
      refine hK.out _ _ ⟨H2_.1.grown hg_ ne1_, H2_.2.grown hg_ ne2_⟩ (fun H3_ => ?_)
      have RS_3 := Aside0.mk hr_
      have RC_3 := Aside0.mk (Kd.R_mono (Kd.R_grown (Kd.R_apartR RC_2.out RS_2.out (by decide)) hg_ (fun _ hk => hk.2)) (fun _ _ => trivial) : RCo w.heap.size _ _ _)
      have ZZ_3 := ZZ_2.grown hg_ (Kd.R_ne RS_2.out ZZ_2 (by decide))
      have BB_3 := Aside0.mk (BB_2.out.setCell (p := ⟨g, k * 35 + 34, none⟩) hbg_ (.int .u64 (sl key id)))
      clear hK K hc_ hf_ hr_ hg_ ne1_ ne2_ hbg_
      try simp only [Act.put, List.setIfInBounds_toArray, List.set_cons_zero, List.set_cons_succ]
      refine wpAnyH_done (by kernel_rfl) ?_ _
      refine NoPanic.normal ?_
      rw [List.set_set, mix_set id sp ks hl2A.out k s key hs hkey] at RS_3
      go_wp2_with fail
      go_roundw
      · skip
        exact ⟨k + 1, by omega, by go_num, RS_3.out, RC_3.out, H3_.1, H3_.2, ZZ_3, BB_3.out⟩
      · simp [intOf]; omega
      -- END S
    · obtain rfl : k = sp.length := by omega
      have p1 : ¬ (sp.length : Int) < (ks.length : Int) := by have := hlenA.out; omega
      rw [mix_end id sp ks hlenA.out] at RS
      have RSA := Aside0.mk RS; have RCA := Aside0.mk RC; have OOA := Aside0.mk OO; have ZZA := Aside0.mk ZZ; have BBA := Aside0.mk BB
      clear RS RC OO II ZZ BB
      go_wp2_with (first | ((with_reducible refine gate_dst (N := 44) rfl ?_); (refine wpList_load_blk rfl 38 (.tmp 6) rfl O 38 rfl [.slice B1 sp.length m1, .slice B2 co.length m2, .bool firm] _ OOA.out Tryd.underlying38 rfl (hi3A.out _ _ _) ?_)) | ((refine gate_ (.store 38 (.tmp 4) (.tmp 44)) rfl ?_); (refine wpList_put_blk rfl 38 (.tmp 4) (.tmp 44) rfl (w.heap.size + 1) 38 [.slice B1 sp.length m1, .slice B2 co.length m2, .bool firm] [.slice none 0 0, .slice none 0 0, .bool false] rfl rfl rfl ZZA.out (hi3A.out _ _ _) (by intro u hu; simp at hu; rcases hu with rfl | rfl | rfl <;> rfl) ?_; intro w7 hZ7 hg7 hs7)))
      exact bodyPost_ret (results_ct rfl _ _ (w.heap.size + 1) 38 #[.slice B1 sp.length m1, .slice B2 co.length m2, .bool firm] (0, 0) _ rfl hZ7 Tryd.underlying38 rfl (hi3A.out _ _ _)) rfl ⟨⟨_, _, rfl, Kd.R_mono (Kd.R_grown (Kd.R_types RSA.out ZZA.out (by decide)) hg7 (fun k hk e => hk.2 (Option.some.inj e))) (fun _ _ => trivial), Kd.R_mono (Kd.R_grown (Kd.R_types RCA.out ZZA.out (by decide)) hg7 (fun k hk e => hk.2 (Option.some.inj e))) (fun _ _ => trivial)⟩, BBA.out.grown hg7 BBA.out.size (fun k e => by have := Option.some.inj e; omega)⟩
end
end Go.Proofs.YthnfjbnebfjjfaaDoor.Pack
/- How a transaction is signed, in the document's words. -/
set_option linter.unusedVariables false
set_option linter.unusedSimpArgs false
namespace Go.Proofs.YthnfjbnebfjjfaaDoor.Pack
open Go.RowKit Go.Proofs.YthnfjbnebfjjfaaDoorW.PrintWords Go.Proofs.YthnfjbnebfjjfaaDoorW.PrintMore Go.Proofs.YthnfjbnebfjjfaaDoor Go.Proofs.YthnfjbnebfjjfaaDoor.Bits Sha ArrK ShaW
open Go.Proofs.YthnfjbnebfjjfaaDoor.InRound (op_at)
theorem list32 (h : List Int) (hl : h.length = 32) : ∃ x0 x1 x2 x3 x4 x5 x6 x7 x8 x9 x10 x11 x12 x13 x14 x15 x16 x17 x18 x19 x20 x21 x22 x23 x24 x25 x26 x27 x28 x29 x30 x31 : Int, h = [x0, x1, x2, x3, x4, x5, x6, x7, x8, x9, x10, x11, x12, x13, x14, x15, x16, x17, x18, x19, x20, x21, x22, x23, x24, x25, x26, x27, x28, x29, x30, x31] := by
  obtain _ | ⟨x0, h⟩ := h
  · simp at hl
  obtain _ | ⟨x1, h⟩ := h
  · simp at hl
  obtain _ | ⟨x2, h⟩ := h
  · simp at hl
  obtain _ | ⟨x3, h⟩ := h
  · simp at hl
  obtain _ | ⟨x4, h⟩ := h
  · simp at hl
  obtain _ | ⟨x5, h⟩ := h
  · simp at hl
  obtain _ | ⟨x6, h⟩ := h
  · simp at hl
  obtain _ | ⟨x7, h⟩ := h
  · simp at hl
  obtain _ | ⟨x8, h⟩ := h
  · simp at hl
  obtain _ | ⟨x9, h⟩ := h
  · simp at hl
  obtain _ | ⟨x10, h⟩ := h
  · simp at hl
  obtain _ | ⟨x11, h⟩ := h
  · simp at hl
  obtain _ | ⟨x12, h⟩ := h
  · simp at hl
  obtain _ | ⟨x13, h⟩ := h
  · simp at hl
  obtain _ | ⟨x14, h⟩ := h
  · simp at hl
  obtain _ | ⟨x15, h⟩ := h
  · simp at hl
  obtain _ | ⟨x16, h⟩ := h
  · simp at hl
  obtain _ | ⟨x17, h⟩ := h
  · simp at hl
  obtain _ | ⟨x18, h⟩ := h
  · simp at hl
  obtain _ | ⟨x19, h⟩ := h
  · simp at hl
  obtain _ | ⟨x20, h⟩ := h
  · simp at hl
  obtain _ | ⟨x21, h⟩ := h
  · simp at hl
  obtain _ | ⟨x22, h⟩ := h
  · simp at hl
  obtain _ | ⟨x23, h⟩ := h
  · simp at hl
  obtain _ | ⟨x24, h⟩ := h
  · simp at hl
  obtain _ | ⟨x25, h⟩ := h
  · simp at hl
  obtain _ | ⟨x26, h⟩ := h
  · simp at hl
  obtain _ | ⟨x27, h⟩ := h
  · simp at hl
  obtain _ | ⟨x28, h⟩ := h
  · simp at hl
  obtain _ | ⟨x29, h⟩ := h
  · simp at hl
  obtain _ | ⟨x30, h⟩ := h
  · simp at hl
  obtain _ | ⟨x31, h⟩ := h
  · simp at hl
  obtain _ | ⟨y, h⟩ := h
  · exact ⟨x0, x1, x2, x3, x4, x5, x6, x7, x8, x9, x10, x11, x12, x13, x14, x15, x16, x17, x18, x19, x20, x21, x22, x23, x24, x25, x26, x27, x28, x29, x30, x31, rfl⟩
  · simp at hl
set_option maxRecDepth 100000 in
theorem built_spend3 (h : List Int) (n : Int) (key : ByteArray) (sl : Int) (hl : h.length = 32) : Tryd.prog.built 28 [(0, .agg (nums .u8 h ++ [Value.int .i64 n]).toArray), (1, .string key), (2, .int .u64 sl)] = some (spc ⟨h, n, key, sl⟩).toArray := by
  obtain ⟨x0, x1, x2, x3, x4, x5, x6, x7, x8, x9, x10, x11, x12, x13, x14, x15, x16, x17, x18, x19, x20, x21, x22, x23, x24, x25, x26, x27, x28, x29, x30, x31, rfl⟩ := list32 h hl
  kernel_rfl
theorem run_built_ {o : Oper} {a : Act} {w : World} (t : TypeId) (pl : List (Nat × Operand)) (ho : o.op = .build t pl.toArray) (cells : Array Value) (hb : Tryd.prog.built t (pl.map fun (i, x) => (i, a.eval x)) = some cells) : (execOp a.eval o).run Tryd.prog w = .ok (.value (.agg cells)) w := by
  have e : (pl.toArray.map fun (i, x) => (i, a.eval x)) = (pl.map fun (i, x) => (i, a.eval x)).toArray := by simp
  unfold execOp
  simp only [ho, e, Sem.run_bind, run_build w t (pl.map fun (i, x) => (i, a.eval x)).toArray cells hb, Result.andThen_ok]
  rfl
theorem fill_one_ {place : Nat → Option (Nat × Nat)} {cells vs : Array Value} {n : Nat} (hp : place 0 = some (0, n)) (hn : vs.size = n) (hc : cells.size = n) : Instr.fill place cells [(0, .agg vs)] = some vs := by
  have e : ∀ (l : List Value) (k : Nat) (cs : Array Value), k + l.length = cs.size → ((l.zipIdx k).foldl (fun cs (p : Value × Nat) => cs.setIfInBounds (0 + p.2) p.1) cs).toList = cs.toList.take k ++ l := by
    intro l
    induction l with
    | nil => intro k cs hk; simp at hk; rw [hk, List.append_nil, List.take_of_length_le (by simp)]; rfl
    | cons v r ih =>
      intro k cs hk
      simp only [List.zipIdx_cons, List.foldl_cons]
      rw [ih (k + 1) _ (by simp at hk ⊢; omega)]
      simp only [Nat.zero_add, Array.toList_setIfInBounds]
      have hlt : k < cs.toList.length := by simp at hk ⊢; omega
      rw [List.take_succ_eq_append_getElem (by rw [List.length_set]; exact hlt), List.take_set_of_le (Nat.le_refl _), List.getElem_set_self]
      simp
  have hcl : (Value.agg vs).cells = vs := rfl
  simp only [Instr.fill, hp, hcl, hn, ne_eq, not_true_eq_false, decide_false, Bool.false_or, Nat.zero_add]
  rw [if_neg (by simp; omega)]
  congr 1
  apply Array.toList_inj.1
  have h := e vs.toList 0 cells (by simp; omega)
  rw [List.take_zero, List.nil_append] at h
  rw [← Array.foldl_toList, Array.toList_zipIdx]
  simpa using h
theorem run_slice_one (w : World) (t e : TypeId) (vs : List Value) (z : Value) (n b : Nat) (hl : vs.length = n) (hu : Tryd.prog.underlying t = some (.slice e)) (hi : (Tryd.prog.info? e).map (fun i => (i.zero, i.size, i.bytes)) = some (some z, n, b)) (hz : z.cells.size = n) (hn0 : 0 < n) (hn : n ≤ 100) :
    (Instr.buildSlice t 1 #[(0, .agg vs.toArray)]).run Tryd.prog w = .ok (.slice (some ⟨w.heap.size, 0, none⟩) 1 1) (w.alloc (.cells vs.toArray e)) := by
  cases hq : Tryd.prog.info? e with
  | none => simp [hq] at hi
  | some i =>
    simp only [hq, Option.map_some, Option.some.injEq, Prod.mk.injEq] at hi
    obtain ⟨h1, h2, h3⟩ := hi
    refine run_buildSlice w t e 1 _ _ i z hu hq h1 (by rw [h2]; simp only [Nat.reducePow]; omega) (by rw [h2]; omega) ?_
    exact fill_one_ (n := n) (by rw [h2, Nat.zero_mul]) (by simp [hl]) (by rw [h2]; simp [hz])
theorem step_slice_spend {ops : Array Oper} {o : Oper} {a : Act} {w : World} {K : Act → World → Prop} {Q : Exit → Act → World → Prop} (hw : Region.wanted o (yielded ops a.tmps) = true) (x : Operand) (ho : o.op = .buildSlice 35 1 #[(0, x)])
    (s : Sp) (hl : s.tx.length = 32) (hx : a.eval x = spv s)
    (hk : K (a.put o.dst (.slice (some ⟨w.heap.size, 0, none⟩) 1 1)) (w.alloc (.cells (spc s).toArray 28))) :
    if Region.wanted o (yielded ops a.tmps) = true then Oper.wp Tryd.prog o a w K Q else K (a.put o.dst undef) w := by
  rw [if_pos hw]
  unfold Oper.wp execOp
  have hp : (#[(0, x)] : Array (Nat × Operand)).map (fun (i, y) => (i, a.eval y)) = #[(0, .agg (spc s).toArray)] := by simp [hx]
  simp only [ho, hp, Sem.run_bind, run_slice_one w 35 28 (spc s) (spv zsp) 35 64 (spc_length s hl) Tryd.underlying35 info_sp rfl (by decide) (by decide), Result.andThen_ok]
  exact hk
theorem sgs_take (id : List Int) (l : List Sp) (ks : List ByteArray) (k : Nat) (s : Sp) (key : ByteArray) (hs : l[k]? = some s) (hk : ks[k]? = some key) : (sgs id l ks).take (k + 1) = (sgs id l ks).take k ++ [sg id s key] := by
  have hz : (sgs id l ks)[k]? = some (sg id s key) := by unfold sgs; rw [List.getElem?_zipWith, hs, hk]
  have hzl := (List.getElem?_eq_some_iff.1 hz)
  rw [List.take_succ_eq_append_getElem hzl.1, hzl.2]
section
variable {t : Tr} {A1 A2 A3 : Option Addr} {c1 c2 c3 : Nat}
set_option maxRecDepth 100000 in
set_option maxHeartbeats 800000 in
theorem rsign_calls (w : World) (h : TrOk w t A1 A2 c1 c2) (ks : List ByteArray) (hks : ∀ k ∈ ks, k.size ≤ 1000000) (hS0 : StR w A3 ks.length ks) (hn : ks.length = t.sp.length) (hK : Rst w) :
    Calls Tryd.prog 21 #[trv t A1 A2 c1 c2, .slice A3 ks.length c3] w fun e w' => (∃ v1, e = .returned (.agg #[v1, .slice A2 t.co.length c2, .bool t.firm]) ∧ RSp w.heap.size w' v1 (sgs (idv t) t.sp ks)) ∧ Below w.heap.size w w' := by
  obtain ⟨V, hV⟩ : ∃ V, V = (w.alloc (.cells (trc t A1 A2 c1 c2).toArray 38)).alloc (.cells #[.slice none 0 0, .slice none 0 0, .bool false] 38) := ⟨_, rfl⟩
  have hX : Blk V w.heap.size 38 (trc t A1 A2 c1 c2) := by rw [hV]; exact (Blk.new w _ _).alloc _
  have hZ : Blk V (w.heap.size + 1) 38 [.slice none 0 0, .slice none 0 0, .bool false] := by
    have := Blk.new (w.alloc (.cells (trc t A1 A2 c1 c2).toArray 38)) 38 [.slice none 0 0, .slice none 0 0, .bool false]
    rw [hV]; rwa [World.size_alloc] at this
  have hB : Below w.heap.size w V := by rw [hV]; exact below_alloc (below_alloc (Below.refl _ _) _) _
  have hi3A := Aside0.mk info_tx3
  have hIdA := Aside0.mk (fun (W : World) (hW : Below w.heap.size w W) => rid_calls W (h.below hW) (hK.below hW))
  have hspA := Aside0.mk h.spok
  have hil : (idv t).length = 32 := sum_length _
  have hib : Bytes (idv t) := Bytes.sum _
  have hn1 := h.n1
  have hSlA := Aside0.mk (fun (id : List Int) (hid : id.length = 32) (hib : Bytes id) (key : ByteArray) (hk : key.size ≤ 1000000) (W : World) (hW : Below w.heap.size w W) => rseal_calls key hk id hid hib W (hK.below hW))
  have hKeyA := Aside0.mk (fun (W : World) (hW : Below w.heap.size w W) (k : Nat) (key : ByteArray) (hk : ks[k]? = some key) => row_at (hS0.imp_ hW (fun _ _ h => h)) k key hk)
  have hRowA := Aside0.mk (fun (W : World) (hW : Below w.heap.size w W) (k : Nat) (s : Sp) (hk : t.sp[k]? = some s) => row_at (h.sp.imp_ hW (fun _ _ h => h)) k s hk)
  have hi := info_tx t A1 A2 c1 c2
  generalize idv t = id at *
  obtain ⟨sp, co, firm⟩ := t
  simp only at hV hX hn hn1 hIdA hspA hi hRowA ⊢
  have hVA := Aside0.mk hV; have hBA := Aside0.mk hB; have hZA := Aside0.mk hZ; have hXA := Aside0.mk hX; have hiA := Aside0.mk hi; have hilA := Aside0.mk hil; have hibA := Aside0.mk hib; have hlenA := Aside0.mk hn; have hksA := Aside0.mk hks
  clear hV hX hB hZ hi hil hib h hK hS0 hn hks
  go_enter Tryd.func21, Tryd.ntmps21
  go_wp2_with (first | ((with_reducible refine gate_dst (N := 8) rfl ?_); (rw [show ((w.alloc (.cells #[.slice A1 sp.length c1, .slice A2 co.length c2, .bool firm] 38)).alloc (.cells #[.slice none 0 0, .slice none 0 0, .bool false] 38)) = V from hVA.out.symm]; refine wpList_load_blk rfl 38 (.tmp 2) rfl w.heap.size 38 rfl (trc ⟨sp, co, firm⟩ A1 A2 c1 c2) _ hXA.out Tryd.underlying38 rfl hiA.out ?_)) | (go_at_call 28; ((with_reducible refine (hIdA.out _ hBA.out).mono ?_); rintro e w4 ⟨rfl, hb4⟩; have hX4A := Aside0.mk (hXA.out.below hb4); have hZ4A := Aside0.mk (hZA.out.below hb4); have hb4A := Aside0.mk (below_then hBA.out hBA.out.size hb4); clear hb4)) | ((with_reducible refine gate_dst (N := 5) rfl ?_); (refine wpList_new_put rfl (N := 5) rfl rfl 23 (.tmp 9) rfl (nums .u8 id) (nums .u8 zero32) (by simp only [nums, List.length_map, hilA.out]; rfl) ?hr rfl rfl (info_hash id hilA.out) (u8_one id) ?_; (case hr => first | (go_simp; done) | (go_simp; rfl)); intro w5 hI5 hb5 hs5; have hI5A := Aside0.mk hI5; have hX5A := Aside0.mk (hX4A.out.below hb5); have hZ5A := Aside0.mk (hZ4A.out.below hb5); have hb5A := Aside0.mk (below_then hb4A.out hb4A.out.size hb5); clear hI5 hb5 hs5)))
  obtain ⟨I, hI⟩ : ∃ I, I = w4.heap.size := ⟨_, rfl⟩
  rw [← hI]
  rw [← hI] at hI5A
  clear hI
  go_loopw [6, 7] (fun l i wr => ∃ k : Nat, k ≤ sp.length ∧ i = .int .i64 (k : Int) ∧ RSp w.heap.size wr l ((sgs id sp ks).take k) ∧ Blk wr w.heap.size 38 (trc ⟨sp, co, firm⟩ A1 A2 c1 c2) ∧ Blk wr I 23 (nums .u8 id) ∧ Blk wr (w.heap.size + 1) 38 [.slice none 0 0, .slice none 0 0, .bool false] ∧ Below w.heap.size w wr) (fun _ i _ => sp.length - (intOf i).toNat)
  case atStart => exact ⟨0, by omega, rfl, Kd.R_nil _ _ _ _ _, hX5A.out, hI5A.out, hZ5A.out, hb5A.out⟩
  case round =>
    clear hX5A hI5A hZ5A hb5A hX4A hZ4A hb4A hXA hZA
    obtain ⟨k, hk, rfl, RS, XX, II, ZZ, BB⟩ := hrel
    by_cases hlt : k < sp.length
    · obtain ⟨s, hs⟩ : ∃ s, sp[k]? = some s := ⟨_, List.getElem?_eq_getElem hlt⟩
      obtain ⟨key, hkey⟩ : ∃ c, ks[k]? = some c := ⟨_, List.getElem?_eq_getElem (by have := hlenA.out; omega)⟩
      obtain ⟨ad3, cc3, rfl, rfl, -, -⟩ := hKeyA.out wr BB k key hkey
      obtain ⟨ad, cc, rfl, ⟨hok, rfl⟩, -, -⟩ := hRowA.out wr BB k s hs
      have hkc : ∀ W, Below w.heap.size w W → W.cell? (ad3.add k) = some (.string key) := fun W hW => by
        obtain ⟨ad', cs', e, rfl, -, h⟩ := hKeyA.out W hW k key hkey
        cases e
        have := h 0 _ rfl
        rwa [Deep.add_add, Nat.mul_one, Nat.add_zero] at this
      have hat : ∀ W, Below w.heap.size w W → ∀ j u, (nums .u8 s.tx ++ [Value.int .i64 s.n])[j]? = some u → W.cell? ((ad.add (k * 35)).add j) = some u := fun W hW j u hu => by
        obtain ⟨ad', cs', e, ⟨-, rfl⟩, -, h⟩ := hRowA.out W hW k s hs
        cases e
        refine h j u ?_
        have e2 : spc s = (nums .u8 s.tx ++ [Value.int .i64 s.n]) ++ [.string s.key, .int .u64 s.sel] := by simp [spc]
        rw [e2, List.getElem?_append_left (List.getElem?_eq_some_iff.1 hu).1]; exact hu
      have hkz := hksA.out key (List.mem_of_getElem? hkey)
      have hst := hok.1
      have hok2 := SpO_sg (s := s) ⟨hok.1, hok.2.1, hok.2.2.1, hok.2.2.2.1, by have := hok.2.2.2.2; omega⟩ id key (by omega)
      have htk := sgs_take id sp ks k s key hs hkey
      have hpi : (Tryd.prog.info? 25).map (·.size) = some (nums .u8 s.tx ++ [Value.int .i64 s.n]).length := by rw [List.length_append, nums_length, hst]; kernel_rfl
      have hbu := built_spend3 s.tx s.n key (sl key id) hst
      have hSl := fun (W : World) (hW : Below w.heap.size w W) => hSlA.out id hilA.out hibA.out key hkz W hW
      have hSlA := Aside0.mk hSl
      have p0 : (0 : Int) ≤ (k : Int) := by omega
      have p1 : (k : Int) < (sp.length : Int) := by omega
      have p2 : (k : Int) < (ks.length : Int) := by have := hlenA.out; omega
      have e2 : IntKind.i64.wrap ((k : Int) + 1) = (k : Int) + 1 := IntWalk.i64_in _ (by omega)
      have x0 := XX.get 0 _ rfl
      have hll : ((sgs id sp ks).take k).length ≤ 1000 := by rw [List.length_take]; omega
      have RS0 : Aside0 (RSp w.heap.size wr.drew _ _) := Aside0.mk RS; have XX0 : Aside0 (Blk wr.drew _ _ _) := Aside0.mk XX.drew; have II0 : Aside0 (Blk wr.drew _ _ _) := Aside0.mk II.drew; have ZZ0 : Aside0 (Blk wr.drew _ _ _) := Aside0.mk ZZ.drew; have BB0 : Aside0 (Below w.heap.size w wr.drew) := Aside0.mk (pw_below_drewN BB 1)
      have hkcA := Aside0.mk hkc; have hatA := Aside0.mk hat; have hstA := Aside0.mk hst; have hokA := Aside0.mk hok2; have htkA := Aside0.mk htk; have hpiA := Aside0.mk hpi; have hbuA := Aside0.mk hbu; have hlA := Aside0.mk hlt; have hllA := Aside0.mk hll
      clear RS XX II ZZ BB hkc hat hst hok hok2 htk hpi hbu hlt hs hkey hkz hSl hll
      go_wp2_with fail
      clear x0
      refine wp_region_noPanic ?_
      refine wp_region_held_drew (S := fun V1 => Blk V1 w.heap.size 38 (trc ⟨sp, co, firm⟩ (some ad) A2 c1 c2) ∧ Blk V1 I 23 (nums .u8 id) ∧ Below w.heap.size w V1) (by kernel_rfl) ⟨XX0.out, II0.out, BB0.out⟩ (fun _ => ?_)
      have H0 := And.intro XX0.out (And.intro II0.out BB0.out)
      have ZZ0 := ZZ0.out
      have RS0 := RS0
      clear XX0 II0 BB0
      generalize wr.drew = V0 at *
      -- REGION S
      refine wpAnyH_take (i := 0) (v := u6) (op_at rfl) (by kernel_rfl) (by kernel_rfl) (by kernel_rfl) (fun _ _ _ h => h) (Or.inl ⟨by rfl, fun w_ hSw => ?_⟩) H0 ?_
      · skip; go_simp
      try simp only [Act.put, List.setIfInBounds_toArray, List.set_cons_zero, List.set_cons_succ]
      refine wpAnyH_take (i := 1) (v := .pointer (some ⟨w.heap.size, 0, none⟩)) (op_at rfl) (by kernel_rfl) (by kernel_rfl) (by kernel_rfl) (fun _ _ _ h => h) (Or.inl ⟨by rfl, fun w_ hSw => ?_⟩) H0 ?_
      · skip; go_simp
      try simp only [Act.put, List.setIfInBounds_toArray, List.set_cons_zero, List.set_cons_succ]
      refine wpAnyH_take (i := 2) (v := .slice (some ad) sp.length c1) (op_at rfl) (by kernel_rfl) (by kernel_rfl) (by kernel_rfl) (fun _ _ _ h => h) (Or.inl ⟨by rfl, fun w_ hSw => ?_⟩) H0 ?_
      · have hc_ := hSw.1.get 0 _ rfl; go_simp
      try simp only [Act.put, List.setIfInBounds_toArray, List.set_cons_zero, List.set_cons_succ]
      refine wpAnyH_take (i := 3) (v := .int .i64 (k : Int)) (op_at rfl) (by kernel_rfl) (by kernel_rfl) (by kernel_rfl) (fun _ _ _ h => h) (Or.inl ⟨by rfl, fun w_ hSw => ?_⟩) H0 ?_
      · skip; go_simp
      try simp only [Act.put, List.setIfInBounds_toArray, List.set_cons_zero, List.set_cons_succ]
      refine wpAnyH_take (i := 4) (v := .pointer (some (ad.add (k * 35)))) (op_at rfl) (by kernel_rfl) (by kernel_rfl) (by kernel_rfl) (fun _ _ _ h => h) (Or.inl ⟨by rfl, fun w_ hSw => ?_⟩) H0 ?_
      · skip; go_simp
      try simp only [Act.put, List.setIfInBounds_toArray, List.set_cons_zero, List.set_cons_succ]
      refine wpAnyH_take (i := 5) (v := .pointer (some (ad.add (k * 35)))) (op_at rfl) (by kernel_rfl) (by kernel_rfl) (by kernel_rfl) (fun _ _ _ h => h) (Or.inl ⟨by rfl, fun w_ hSw => ?_⟩) H0 ?_
      · skip; go_simp
      try simp only [Act.put, List.setIfInBounds_toArray, List.set_cons_zero, List.set_cons_succ]
      refine wpAnyH_take (i := 6) (v := .agg (nums .u8 s.tx ++ [Value.int .i64 s.n]).toArray) (op_at rfl) (by kernel_rfl) (by kernel_rfl) (by kernel_rfl) (fun _ _ _ h => h) (yieldsIf_load_any (by rfl) _ _ rfl (ad.add (k * 35)) rfl _ _ (fun w_ hSw => hatA.out w_ hSw.2.2) Tryd.underlying25 rfl hpiA.out) H0 ?_
      try simp only [Act.put, List.setIfInBounds_toArray, List.set_cons_zero, List.set_cons_succ]
      refine wpAnyH_take (i := 7) (v := .slice (some ad3) ks.length c3) (op_at rfl) (by kernel_rfl) (by kernel_rfl) (by kernel_rfl) (fun _ _ _ h => h) (Or.inl ⟨by rfl, fun w_ hSw => ?_⟩) H0 ?_
      · skip; go_simp
      try simp only [Act.put, List.setIfInBounds_toArray, List.set_cons_zero, List.set_cons_succ]
      refine wpAnyH_take (i := 8) (v := .int .i64 (k : Int)) (op_at rfl) (by kernel_rfl) (by kernel_rfl) (by kernel_rfl) (fun _ _ _ h => h) (Or.inl ⟨by rfl, fun w_ hSw => ?_⟩) H0 ?_
      · skip; go_simp
      try simp only [Act.put, List.setIfInBounds_toArray, List.set_cons_zero, List.set_cons_succ]
      refine wpAnyH_take (i := 9) (v := .pointer (some (ad3.add k))) (op_at rfl) (by kernel_rfl) (by kernel_rfl) (by kernel_rfl) (fun _ _ _ h => h) (Or.inl ⟨by rfl, fun w_ hSw => ?_⟩) H0 ?_
      · skip; go_simp
      try simp only [Act.put, List.setIfInBounds_toArray, List.set_cons_zero, List.set_cons_succ]
      refine wpAnyH_take (i := 10) (v := .string key) (op_at rfl) (by kernel_rfl) (by kernel_rfl) (by kernel_rfl) (fun _ _ _ h => h) (Or.inl ⟨by rfl, fun w_ hSw => ?_⟩) H0 ?_
      · have hc_ := hkcA.out w_ hSw.2.2; go_simp
      try simp only [Act.put, List.setIfInBounds_toArray, List.set_cons_zero, List.set_cons_succ]
      refine wpAnyH_take (i := 11) (v := .slice (some ad3) ks.length c3) (op_at rfl) (by kernel_rfl) (by kernel_rfl) (by kernel_rfl) (fun _ _ _ h => h) (Or.inl ⟨by rfl, fun w_ hSw => ?_⟩) H0 ?_
      · skip; go_simp
      try simp only [Act.put, List.setIfInBounds_toArray, List.set_cons_zero, List.set_cons_succ]
      refine wpAnyH_take (i := 12) (v := .int .i64 (k : Int)) (op_at rfl) (by kernel_rfl) (by kernel_rfl) (by kernel_rfl) (fun _ _ _ h => h) (Or.inl ⟨by rfl, fun w_ hSw => ?_⟩) H0 ?_
      · skip; go_simp
      try simp only [Act.put, List.setIfInBounds_toArray, List.set_cons_zero, List.set_cons_succ]
      refine wpAnyH_take (i := 13) (v := .pointer (some (ad3.add k))) (op_at rfl) (by kernel_rfl) (by kernel_rfl) (by kernel_rfl) (fun _ _ _ h => h) (Or.inl ⟨by rfl, fun w_ hSw => ?_⟩) H0 ?_
      · skip; go_simp
      try simp only [Act.put, List.setIfInBounds_toArray, List.set_cons_zero, List.set_cons_succ]
      refine wpAnyH_take (i := 14) (v := .string key) (op_at rfl) (by kernel_rfl) (by kernel_rfl) (by kernel_rfl) (fun _ _ _ h => h) (Or.inl ⟨by rfl, fun w_ hSw => ?_⟩) H0 ?_
      · have hc_ := hkcA.out w_ hSw.2.2; go_simp
      try simp only [Act.put, List.setIfInBounds_toArray, List.set_cons_zero, List.set_cons_succ]
      refine wpAnyH_take (i := 15) (v := hv id) (op_at rfl) (by kernel_rfl) (by kernel_rfl) (by kernel_rfl) (fun _ _ _ h => h) (yieldsIf_load_any (by rfl) _ _ rfl ⟨I, 0, none⟩ rfl _ _ (fun w_ hSw => hSw.2.1.add) Tryd.underlying23 rfl (info_hash id hilA.out)) H0 ?_
      try simp only [Act.put, List.setIfInBounds_toArray, List.set_cons_zero, List.set_cons_succ]
      refine wpAnyH_ready (rs := [16]) (by kernel_rfl) (by simp) ?_
      refine AllReadyH.cons (op_at rfl) (fun K hK => ?_) AllReadyH.nil
      go_simp
      go_at_call 10
      with_reducible refine (hSlA.out V0 H0.2.2).mono ?_
      rintro e V1_ ⟨rfl, hb_⟩
      go_wp2_with fail
      refine hK.out _ _ ⟨H0.1.below hb_, H0.2.1.below hb_, below_then H0.2.2 H0.2.2.size hb_⟩ (fun H1_ => ?_)
      have RS_1 := Aside0.mk (Kd.R_below RS0.out hb_)
      have ZZ_1 := ZZ0.below hb_
      clear hK K hb_
      try simp only [Act.put, List.setIfInBounds_toArray, List.set_cons_zero, List.set_cons_succ]
      refine wpAnyH_take (i := 17) (v := .agg (spc (sg id s key)).toArray) (op_at rfl) (by kernel_rfl) (by kernel_rfl) (by kernel_rfl) (fun _ _ _ h => h) (Or.inl ⟨by rfl, fun w_ hSw => run_built_ 28 [(0, .tmp 23), (1, .tmp 27), (2, .tmp 33)] rfl _ hbuA.out⟩) H1_ ?_
      try simp only [Act.put, List.setIfInBounds_toArray, List.set_cons_zero, List.set_cons_succ]
      refine wpAnyH_ready (rs := [18]) (by kernel_rfl) (by simp) ?_
      refine AllReadyH.cons (op_at rfl) (fun K hK => ?_) AllReadyH.nil
      refine step_slice_spend (by rfl) (.tmp 34) rfl (sg id s key) hstA.out rfl ?_
      have ha_ := below_alloc (Below.refl V1_.heap.size V1_) (.cells (spc (sg id s key)).toArray 28)
      refine hK.out _ _ ⟨H1_.1.below ha_, H1_.2.1.below ha_, below_then H1_.2.2 H1_.2.2.size ha_⟩ (fun H2_ => ?_)
      clear hK K ha_
      try simp only [Act.put, List.setIfInBounds_toArray, List.set_cons_zero, List.set_cons_succ]
      refine wpAnyH_ready (rs := [19]) (by kernel_rfl) (by simp) ?_
      refine AllReadyH.cons (op_at rfl) (fun K hK => ?_) AllReadyH.nil
      refine Kd.R_append_step kSp (w0 := w) w.heap.size (by rfl) (.tmp 17) (.tmp 35) 35 28 (spv zsp) 64 rfl Tryd.underlying35 info_sp rfl (by decide) (by decide) u6 ((sgs id sp ks).take k) (sg id s key) (spc (sg id s key)) (fun _ => True) (fun _ => False) rfl rfl ⟨hokA.out, rfl⟩ (fun _ h => h.elim) (fun k hk => trivial) RS_1.out H1_.2.2 H1_.2.2.size (by have := hllA.out; omega) ?_
      intro v_3 V3_ hR_ hB_ hg_ _
      have ne0_ := Kd.R_ne RS_1.out H1_.1 (by decide)
      have ne1_ := Kd.R_ne RS_1.out H1_.2.1 (by decide)
      have ne2_ := Kd.R_ne RS_1.out ZZ_1 (by decide)
      refine hK.out _ _ ⟨H1_.1.grown hg_ ne0_, H1_.2.1.grown hg_ ne1_, hB_⟩ (fun H3_ => ?_)
      have ZZ_3 := ZZ_1.grown hg_ ne2_
      rw [← htkA.out] at hR_
      have RS_3 := Aside0.mk hR_
      clear hK K hB_ hg_ hR_ ne0_ ne1_ ne2_
      try simp only [Act.put, List.setIfInBounds_toArray, List.set_cons_zero, List.set_cons_succ]
      refine wpAnyH_take (i := 20) (v := v_3) (op_at rfl) (by kernel_rfl) (by kernel_rfl) (by kernel_rfl) (fun _ _ _ h => h) (Or.inl ⟨by rfl, fun w_ hSw => ?_⟩) H3_ ?_
      · skip; go_simp
      try simp only [Act.put, List.setIfInBounds_toArray, List.set_cons_zero, List.set_cons_succ]
      refine wpAnyH_done (by kernel_rfl) ?_ _
      refine NoPanic.normal ?_
      have hlt := hlA.out
      go_wp2_with fail
      go_roundw
      · exact ⟨k + 1, by omega, by go_num, RS_3.out, H3_.1, H3_.2.1, ZZ_3, H3_.2.2⟩
      · simp [intOf]; omega
      -- END S
    · obtain rfl : k = sp.length := by omega
      have p1 : ¬ (sp.length : Int) < (sp.length : Int) := by omega
      have hsl := sgs_length id sp ks hlenA.out
      rw [List.take_of_length_le (by rw [hsl]; exact Nat.le_refl _)] at RS
      obtain ⟨E, kk, hv⟩ := Kd.R_slice RS
      rw [hsl] at hv
      subst hv
      have x0 := XX.get 0 _ rfl
      have f0 := XX.fz 0
      have XS := XX.set 0 (.slice E sp.length kk)
      have ZS := ZZ.far (p := ⟨w.heap.size, 0, none⟩) (by show w.heap.size + 1 ≠ w.heap.size; omega) (.slice E sp.length kk)
      have RSS := Aside0.mk (Kd.R_set RS XX (by decide) 0 (.slice E sp.length kk))
      have BBS := Aside0.mk (BB.setCell (p := ⟨w.heap.size, 0, none⟩) (Nat.le_refl _) (.slice E sp.length kk))
      have XSA := Aside0.mk XS; have ZSA := Aside0.mk ZS
      clear RS XX II ZZ BB XS ZS hsl
      go_wp2_with (first | ((with_reducible refine gate_dst (N := 39) rfl ?_); (refine wpList_load_blk rfl 38 (.tmp 2) rfl w.heap.size 38 rfl [.slice E sp.length kk, .slice A2 co.length c2, .bool firm] _ XSA.out Tryd.underlying38 rfl (hi3A.out _ _ _) ?_)) | ((refine gate_ (.store 38 (.tmp 4) (.tmp 39)) rfl ?_); (refine wpList_put_blk rfl 38 (.tmp 4) (.tmp 39) rfl (w.heap.size + 1) 38 [.slice E sp.length kk, .slice A2 co.length c2, .bool firm] [.slice none 0 0, .slice none 0 0, .bool false] rfl rfl rfl ZSA.out (hi3A.out _ _ _) (by intro u hu; simp at hu; rcases hu with rfl | rfl | rfl <;> rfl) ?_; intro w7 hZ7 hg7 hs7)))
      exact bodyPost_ret (results_cell_row rfl _ _ (w.heap.size + 1) 38 #[.slice E sp.length kk, .slice A2 co.length c2, .bool firm] (0, 0) _ rfl hZ7 Tryd.underlying38 rfl (hi3A.out _ _ _)) rfl ⟨⟨_, rfl, Kd.R_mono (Kd.R_grown (Kd.R_types RSS.out ZSA.out (by decide)) hg7 (fun k hk e => hk.2 (Option.some.inj e))) (fun _ _ => trivial)⟩, BBS.out.grown hg7 BBS.out.size (fun k e => by have := Option.some.inj e; omega)⟩
end
end Go.Proofs.YthnfjbnebfjjfaaDoor.Pack
/- Signed transactions: what they are. -/
set_option linter.unusedVariables false
set_option linter.unusedSimpArgs false
namespace Go.Proofs.YthnfjbnebfjjfaaDoor.Pack
open Go.RowKit Go.Proofs.YthnfjbnebfjjfaaDoorW.PrintWords Go.Proofs.YthnfjbnebfjjfaaDoorW.PrintMore Go.Proofs.YthnfjbnebfjjfaaDoor Go.Proofs.YthnfjbnebfjjfaaDoor.Bits Sha ArrK ShaW
open Go.Proofs.YthnfjbnebfjjfaaDoor.InRound (op_at)
def sres (t : Tr) (ks : List ByteArray) : Tr := if ks.length = t.sp.length then sgT t ks else ⟨[], [], false⟩
def ern (t : Tr) (ks : List ByteArray) : Int := if ks.length = t.sp.length then 0 else 1
def cns (ks : List ByteArray) : List Co := ks.map fun k => ⟨0, lk k⟩
theorem alike_self {α : Type} (f : α → α → Bool) (hf : ∀ x, f x x = true) (l : List α) : alike f l l = true := by
  unfold alike
  rw [List.all_eq_true]
  intro p hp
  have : p.1 = p.2 := by
    obtain ⟨i, hi⟩ := List.mem_iff_getElem?.1 hp
    rw [List.getElem?_zip_eq_some] at hi
    exact Option.some.inj (hi.1.symm.trans hi.2)
  rw [this]; exact hf _
theorem sameT_self (a : Tr) : sameT a a = true := by
  simp [sameT, alike_self eqS (fun s => by simp [eqS]), alike_self eqC (fun s => by simp [eqC])]
/-- what of a transaction its id is taken of -/
theorem enc_false (t : Tr) : enc false t = cnt t.sp.length ++ (t.sp.map fun s => (s.tx, s.n)).flatMap (fun p => p.1 ++ (numb (IntKind.u64.wrap p.2) 4 ++ [])) ++ (cnt t.co.length ++ (t.co.flatMap encC ++ [if t.firm then 1 else 0])) := by
  unfold enc encS
  rw [List.flatMap_map]
  rfl
theorem idv_of {t t' : Tr} (h1 : (t.sp.map fun s => (s.tx, s.n)) = t'.sp.map fun s => (s.tx, s.n)) (h2 : t.co = t'.co) (h3 : t.firm = t'.firm) : idv t = idv t' := by
  have hl : t.sp.length = t'.sp.length := by have := congrArg List.length h1; simpa using this
  unfold idv
  rw [enc_false, enc_false, h1, h2, h3, hl]
theorem sgs_map (id : List Int) : ∀ (l : List Sp) (ks : List ByteArray), ks.length = l.length → ((sgs id l ks).map fun s => (s.tx, s.n)) = l.map fun s => (s.tx, s.n)
  | [], [], _ => rfl
  | s :: l, k :: ks, h => by
    have := sgs_map id l ks (by simpa using h)
    simp only [sgs, List.zipWith_cons_cons, List.map_cons] at this ⊢
    rw [this]; rfl
  | [], k :: ks, h => by simp at h
  | s :: l, [], h => by simp at h
theorem idv_sgT (t : Tr) (ks : List ByteArray) (h : ks.length = t.sp.length) : idv (sgT t ks) = idv t := idv_of (sgs_map _ _ _ h) rfl rfl
theorem sgs_twice (id : List Int) : ∀ (l : List Sp) (ks : List ByteArray), ks.length = l.length → sgs id (sgs id l ks) ks = sgs id l ks
  | [], [], _ => rfl
  | s :: l, k :: ks, h => by
    have := sgs_twice id l ks (by simpa using h)
    simp only [sgs, List.zipWith_cons_cons] at this ⊢
    rw [this]; rfl
  | [], k :: ks, h => by simp at h
  | s :: l, [], h => by simp at h
theorem sgT_twice (t : Tr) (ks : List ByteArray) (h : ks.length = t.sp.length) : sgT (sgT t ks) ks = sgT t ks := by
  have e : sgT (sgT t ks) ks = ⟨sgs (idv (sgT t ks)) (sgs (idv t) t.sp ks) ks, t.co, t.firm⟩ := rfl
  rw [e, idv_sgT t ks h, sgs_twice _ _ _ h]; rfl
theorem alls_signed (id : List Int) : ∀ (l : List Sp) (ks : List ByteArray), ks.length = l.length → alls (sgs id l ks) (cns ks) id = true
  | [], [], _ => rfl
  | s :: l, k :: ks, h => by
    have := alls_signed id l ks (by simpa using h)
    simp only [alls, sgs, cns, List.zipWith_cons_cons, List.map_cons, List.zip_cons_cons, List.all_cons] at this ⊢
    rw [this]; simp [opens, sg]
  | [], k :: ks, h => by simp at h
  | s :: l, [], h => by simp at h
theorem chk_signed (id : List Int) (l : List Sp) (ks : List ByteArray) (h : ks.length = l.length) : chk (sgs id l ks) (cns ks) id = 0 :=
  chk_yes (by rw [sgs_length id l ks h, cns, List.length_map, h]) (alls_signed id l ks h)
/-- a seal spoilt -/
def bump (s : Sp) : Sp := { s with sel := IntKind.u64.wrap (s.sel + 1) }
theorem sl_range (k : ByteArray) (id : List Int) : 0 ≤ sl k id ∧ sl k id < 18446744073709551616 := w64_range _ (Bytes.sum _) (sum_length _)
theorem bump_ne (k : ByteArray) (id : List Int) : IntKind.u64.wrap (sl k id + 1) ≠ sl k id := by
  have := sl_range k id
  rw [wrap_u64]; omega
theorem chk_bumped (id : List Int) (l : List Sp) (ks : List ByteArray) (h : ks.length = l.length) (h0 : 0 < ks.length) : chk ((sgs id l ks).map bump) (cns ks) id = 10 := by
  refine chk_no (by rw [List.length_map, sgs_length id l ks h, cns, List.length_map, h]) ?_
  cases l with
  | nil => rw [h] at h0; simp at h0
  | cons s l =>
    cases ks with
    | nil => simp at h0
    | cons k ks =>
      simp only [alls, sgs, cns, List.zipWith_cons_cons, List.map_cons, List.zip_cons_cons, List.all_cons]
      have : opens (bump (sg id s k)) ⟨0, lk k⟩ id = false := by
        have := bump_ne k id
        simp [opens, bump, sg, this]
      rw [this, Bool.false_and]
theorem idv_bumped (t : Tr) (ks : List ByteArray) (h : ks.length = t.sp.length) : idv ⟨(sgs (idv t) t.sp ks).map bump, t.co, t.firm⟩ = idv t := by
  refine idv_of ?_ rfl rfl
  show (((sgs (idv t) t.sp ks).map bump).map fun s => (s.tx, s.n)) = _
  rw [List.map_map, ← sgs_map (idv t) t.sp ks h]; rfl
theorem num_errv (x : Int) (hx : x = 0 ∨ x = 1 ∨ x = 10) (w : World) : Calls Tryd.prog 14 #[errv x] w fun e w' => e = .returned (.int .i64 x) ∧ Below w.heap.size w w' := by
  rcases hx with rfl | rfl | rfl
  · exact (num_nil w).mono fun e w' ⟨a, b⟩ => ⟨a, b ▸ Below.refl _ _⟩
  · exact (num_1 w).mono fun e w' ⟨a, b⟩ => ⟨a, b ▸ Below.refl _ _⟩
  · exact (num_10 w).mono fun e w' ⟨a, b⟩ => ⟨a, b ▸ Below.refl _ _⟩
theorem chk_is (sp : List Sp) (cs : List Co) (id : List Int) : chk sp cs id = 0 ∨ chk sp cs id = 1 ∨ chk sp cs id = 10 := by
  unfold chk; split
  · split <;> simp
  · simp
set_option maxRecDepth 100000 in
set_option maxHeartbeats 400000 in
theorem is_calls (x y : Int) (hx : x = 0 ∨ x = 1 ∨ x = 10) (w : World) : Calls Tryd.prog 20 #[errv x, .int .i64 y] w fun e w' => e = .returned (.bool (x == y)) ∧ Below w.heap.size w w' := by
  have hN := Aside0.mk (num_errv x hx w)
  obtain ⟨v, hv⟩ : ∃ v, v = errv x := ⟨_, rfl⟩
  rw [← hv] at hN ⊢
  clear hv hx
  go_enter Tryd.func20, Tryd.ntmps20
  go_wp2_with (go_at_call 14; (with_reducible refine hN.out.mono ?_); rintro e w1 ⟨rfl, hb⟩; have hbA := Aside0.mk hb; clear hb)
  go_ret
  exact ⟨rfl, hbA.out⟩
section
variable {t : Tr} {A1 A2 A3 : Option Addr} {c1 c2 c3 : Nat}
theorem sign_calls (w : World) (h : TrOk w t A1 A2 c1 c2) (ks : List ByteArray) (hks : ∀ k ∈ ks, k.size ≤ 1000000) (hS0 : StR w A3 ks.length ks) (hK : Kst w) (hBg : Bst w) :
    Calls Tryd.prog 18 #[trv t A1 A2 c1 c2, .slice A3 ks.length c3] w fun e w' => (∃ v1 v2, e = .returned (.tuple #[.agg #[v1, v2, .bool (sres t ks).firm], errv (ern t ks)]) ∧ RSp w.heap.size w' v1 (sres t ks).sp ∧ RCo w.heap.size w' v2 (sres t ks).co) ∧ Below w.heap.size w w' := by
  unfold sres ern
  by_cases hn : ks.length = t.sp.length
  · rw [if_pos hn, if_pos hn]
    exact sign_yes w h ks hks hS0 hn hK hBg
  · rw [if_neg hn, if_neg hn]
    refine (sign_no (A1 := A1) (A2 := A2) (A3 := A3) (c1 := c1) (c2 := c2) (c3 := c3) w ks hn).mono ?_
    rintro e w' ⟨rfl, hb⟩
    exact ⟨⟨_, _, rfl, Kd.R_nil _ _ _ _ _, Kd.R_nil _ _ _ _ _⟩, hb⟩
end
end Go.Proofs.YthnfjbnebfjjfaaDoor.Pack
/- Seals of signed spends spoilt one by one. -/
set_option linter.unusedVariables false
set_option linter.unusedSimpArgs false
namespace Go.Proofs.YthnfjbnebfjjfaaDoor.Pack
open Go.RowKit Go.Proofs.YthnfjbnebfjjfaaDoorW.PrintWords Go.Proofs.YthnfjbnebfjjfaaDoorW.PrintMore Go.Proofs.YthnfjbnebfjjfaaDoor Go.Proofs.YthnfjbnebfjjfaaDoor.Bits Sha ArrK ShaW
theorem sgs_key (id : List Int) : ∀ (l : List Sp) (ks : List ByteArray) (s : Sp), s ∈ sgs id l ks → s.key ∈ ks
  | [], _, s, h => by simp [sgs] at h
  | _ :: _, [], s, h => by simp [sgs] at h
  | x :: l, k :: ks, s, h => by
    have e : sgs id (x :: l) (k :: ks) = sg id x k :: sgs id l ks := rfl
    rw [e, List.mem_cons] at h
    rcases h with rfl | h
    · exact List.mem_cons_self
    · exact List.mem_cons_of_mem _ (sgs_key id l ks s h)
theorem set_sel (s : Sp) (h : s.tx.length = 32) (x : Int) : (spc s).set 34 (.int .u64 x) = spc { s with sel := x } := by
  unfold spc; rw [List.set_append_right _ _ (by simp [nums, h])]; simp [nums, h]
theorem SpO_bump {s : Sp} (h : SpO s) : SpO (bump s) := by
  refine ⟨h.1, h.2.1, ?_, ?_, h.2.2.2.2⟩
  · show 0 ≤ IntKind.u64.wrap (s.sel + 1); rw [wrap_u64]; omega
  · show IntKind.u64.wrap (s.sel + 1) < 18446744073709551616; rw [wrap_u64]; omega
theorem RSp_bump {base : Nat} {W : World} {g n cap : Nat} {l : List Sp} (h : RSp base W (.slice (some ⟨g, 0, none⟩) n cap) l) (k : Nat) (hk : k < n) (s : Sp) (hs : l[k]? = some s) :
    RSp base (W.setCell ⟨g, k * 35 + 34, none⟩ (.int .u64 (IntKind.u64.wrap (s.sel + 1)))) (.slice (some ⟨g, 0, none⟩) n cap) (l.set k (bump s)) ∧ W.grownBy (W.setCell ⟨g, k * 35 + 34, none⟩ (.int .u64 (IntKind.u64.wrap (s.sel + 1)))) (some g) ∧ W.cell? ⟨g, k * 35 + 34, none⟩ = some (.int .u64 s.sel) ∧ W.frozen? ⟨g, k * 35 + 34, none⟩ = false ∧ base ≤ g := by
  obtain ⟨c, hcl, ⟨hso, hcs⟩, hcc, hfz⟩ := Kd.R_elem h zsp (k : Int) (by omega) (by omega)
  have hgd : l.getD (k : Int).toNat zsp = s := by simp [List.getD_eq_getElem?_getD, hs]
  rw [hgd] at hso
  obtain ⟨h1, h2, h3, h4, h5⟩ := RSp_put h k hk s (bump s) hs 34 (.int .u64 (IntKind.u64.wrap (s.sel + 1))) (SpO_bump hso) (by decide) (set_sel s hso.1 _)
  exact ⟨h1, h2, h3 _ (spc_seal s hso.1), h4, h5⟩
theorem rowS {e base : Nat} {ok : Nat → Prop} {W : World} {A : Option Addr} {n c : Nat} {l : List Sp} (h : Kd.R kSp e W base ok (.slice A n c) l) : SpR0 W A l.length l := (Kd.R_reads' h).2.2
theorem rowC {e base : Nat} {ok : Nat → Prop} {W : World} {A : Option Addr} {n c : Nat} {l : List Co} (h : Kd.R kCo e W base ok (.slice A n c) l) : CoR W A l.length l := (Kd.R_reads' h).2.2
/-- the first k are done -/
def parted {α : Type} (f : α → α) (l : List α) (k : Nat) : List α := (l.map f).take k ++ l.drop k
theorem parted_zero {α : Type} (f : α → α) (l : List α) : parted f l 0 = l := by simp [parted]
theorem parted_end {α : Type} (f : α → α) (l : List α) : parted f l l.length = l.map f := by
  unfold parted
  rw [List.take_of_length_le (by rw [List.length_map]; exact Nat.le_refl _), List.drop_length, List.append_nil]
theorem parted_length {α : Type} (f : α → α) (l : List α) (k : Nat) (h : k ≤ l.length) : (parted f l k).length = l.length := by
  simp only [parted, List.length_append, List.length_take, List.length_map, List.length_drop]; omega
theorem parted_at {α : Type} (f : α → α) (l : List α) (k : Nat) (h : k < l.length) : (parted f l k)[k]? = l[k]? := by
  unfold parted
  rw [List.getElem?_append_right (by rw [List.length_take]; exact Nat.min_le_left _ _), List.length_take, List.length_map, Nat.min_eq_left (by omega), Nat.sub_self, List.getElem?_drop]; simp
theorem parted_set {α : Type} (f : α → α) (l : List α) (k : Nat) (s : α) (hs : l[k]? = some s) : (parted f l k).set k (f s) = parted f l (k + 1) := by
  have hlt := (List.getElem?_eq_some_iff.1 hs).1
  have hz : (l.map f)[k]? = some (f s) := by rw [List.getElem?_map, hs]; rfl
  have hl : ((l.map f).take k).length = k := by rw [List.length_take, List.length_map]; omega
  have hzl := (List.getElem?_eq_some_iff.1 hz)
  unfold parted
  rw [List.set_append_right _ _ (by omega), hl, Nat.sub_self, List.take_succ_eq_append_getElem hzl.1, hzl.2, List.drop_eq_getElem_cons hlt, List.set_cons_zero, List.append_assoc]
  rfl
end Go.Proofs.YthnfjbnebfjjfaaDoor.Pack
