/- Keys' locks and seals. -/
import Derived.Test.YthnfjbnebfjjfaaDoorShaS
import Derived.Test.YthnfjbnebfjjfaaDoorHashK
import Derived.ArgAppend
import Derived.Lib.ConvBytes
set_option linter.unusedVariables false
set_option linter.unusedSimpArgs false
namespace Go.Proofs.YthnfjbnebfjjfaaDoor.ShaW
open Go.RowKit Go.Proofs.YthnfjbnebfjjfaaDoorW.PrintWords Go.Proofs.YthnfjbnebfjjfaaDoorW.PrintMore Go.Proofs.YthnfjbnebfjjfaaDoor Go.Proofs.YthnfjbnebfjjfaaDoor.Bits Sha ArrK
theorem bytes_ok (s : ByteArray) : Bytes (bytesOf s) := by
  intro x hx
  simp only [bytesOf, List.mem_map] at hx
  obtain ⟨b, _, rfl⟩ := hx
  have := b.toNat_lt
  omega
/-- a key's lock, its seal of an id -/
def lk (s : ByteArray) : Int := w64 (Sha.sum (bytesOf s))
def sl (s : ByteArray) (id : List Int) : Int := w64 (Sha.sum (bytesOf s ++ id))
theorem conv_C (W : World) (s : ByteArray) (hs : s.size ≤ 1000000) : Kd.C (Kd.int .u8) (Lib.bytesWorld W 5 s) (some ⟨W.heap.size, 0, none⟩) s.size (bytesOf s) := Kd.C_of_reads (d := (0 : Int)) (h1 := fun _ => rfl) (bytes_reads W 5 s (by omega))
theorem conv_cap (W : World) (s : ByteArray) : s.size ≤ grownCap W s.size 0 5 := grownCap_ge W s.size 0 5
theorem conv_below (W : World) (s : ByteArray) : Below W.heap.size W (Lib.bytesWorld W 5 s) := bytes_below (Below.refl _ _) (Nat.le_refl _) _ _
set_option maxRecDepth 100000 in
set_option maxHeartbeats 400000 in
theorem lock_calls (s : ByteArray) (hs : s.size ≤ 1000000) (w : World) (hK : Kst w) (hBg : Bst w) :
    Calls Tryd.prog 7 #[.string s] w fun e w' => e = .returned (.int .u64 (lk s)) ∧ Below w.heap.size w w' := by
  have kc := fun (w : World) (s : ByteArray) => Lib.run_convert_string_bytes (P := Tryd.prog) w 9 58 5 s Tryd.underlying9 Tryd.underlying58 Tryd.underlying5
  have hb := conv_below w s
  have hl := bytesOf_length s
  have hS := sum_lit1 (Lib.bytesWorld w 5 s) (some ⟨w.heap.size, 0, none⟩) (grownCap w s.size 0 5) (bytesOf s) (by rw [hl]; exact conv_C w s hs) (by rw [hl]; exact conv_cap w s) (hK.below hb) (hBg.below hb) (by omega) (bytes_ok s)
  rw [hl] at hS
  have hW := fun W => wordof_calls (Sha.sum (bytesOf s)) (Bytes.sum _) (sum_length _) W
  unfold lk
  generalize Sha.sum (bytesOf s) = z at *
  have hSA := Aside0.mk hS; have hWA := Aside0.mk hW; have hbA := Aside0.mk hb
  clear hS hW hb hl hK hBg
  go_enter Tryd.func7, Tryd.ntmps7
  go_wp2_with (first | (go_at_call 24; with_reducible refine hSA.out.mono ?_; rintro e w1 ⟨rfl, hb1⟩; have h1A := Aside0.mk (below_then hbA.out hbA.out.size hb1); clear hb1) | (go_at_call 23; with_reducible refine (hWA.out _).mono ?_; rintro e w2 ⟨rfl, hb2⟩; have h2A := Aside0.mk (below_then h1A.out h1A.out.size hb2); clear hb2))
  go_ret
  exact ⟨rfl, h2A.out⟩
set_option maxRecDepth 100000 in
set_option maxHeartbeats 400000 in
theorem rlock_calls (s : ByteArray) (hs : s.size ≤ 1000000) (w : World) (hK : Rst w) :
    Calls Tryd.prog 8 #[.string s] w fun e w' => e = .returned (.int .u64 (lk s)) ∧ Below w.heap.size w w' := by
  have kc := fun (w : World) (s : ByteArray) => Lib.run_convert_string_bytes (P := Tryd.prog) w 9 58 5 s Tryd.underlying9 Tryd.underlying58 Tryd.underlying5
  have hb := conv_below w s
  have hl := bytesOf_length s
  have hS := rsum_calls (bytesOf s) (some ⟨w.heap.size, 0, none⟩) (grownCap w s.size 0 5) (Lib.bytesWorld w 5 s) (bytes_ok s) (hK.below hb) (by rw [hl]; exact conv_C w s hs) (by rw [hl]; exact conv_cap w s) (by omega)
  rw [hl] at hS
  have hW := fun W => rword_calls (Sha.sum (bytesOf s)) (Bytes.sum _) (sum_length _) W
  unfold lk
  generalize Sha.sum (bytesOf s) = z at *
  have hSA := Aside0.mk hS; have hWA := Aside0.mk hW; have hbA := Aside0.mk hb
  clear hS hW hb hl hK
  go_enter Tryd.func8, Tryd.ntmps8
  go_wp2_with (first | (go_at_call 26; with_reducible refine hSA.out.mono ?_; rintro e w1 ⟨rfl, hb1⟩; have h1A := Aside0.mk (below_then hbA.out hbA.out.size hb1); clear hb1) | (go_at_call 25; with_reducible refine (hWA.out _).mono ?_; rintro e w2 ⟨rfl, hb2⟩; have h2A := Aside0.mk (below_then h1A.out h1A.out.size hb2); clear hb2))
  go_ret
  exact ⟨rfl, h2A.out⟩
set_option maxRecDepth 100000 in
set_option maxHeartbeats 400000 in
theorem seal_calls (s : ByteArray) (hs : s.size ≤ 1000000) (id : List Int) (hid : id.length = 32) (hib : Bytes id) (w : World) (hK : Kst w) (hBg : Bst w) :
    Calls Tryd.prog 9 #[.string s, hv id] w fun e w' => e = .returned (.int .u64 (sl s id)) ∧ Below w.heap.size w w' := by
  have kc := fun (w : World) (s : ByteArray) => Lib.run_convert_string_bytes (P := Tryd.prog) w 9 58 5 s Tryd.underlying9 Tryd.underlying58 Tryd.underlying5
  obtain ⟨V, hV⟩ : ∃ V, V = w.alloc (.cells (nums .u8 id).toArray 23) := ⟨_, rfl⟩
  have hVs : V.heap.size = w.heap.size + 1 := by rw [hV]; simp
  have hVB : Below w.heap.size w V := by rw [hV]; exact below_alloc (Below.refl _ _) _
  have hVX : Blk V w.heap.size 23 (nums .u8 id) := by rw [hV]; exact Blk.new w _ _
  have hb := conv_below V s
  have hX := hVX.below hb
  have hl := bytesOf_length s
  have hB2 := below_then hVB hVB.size hb
  have hS := sum_lit2 (Lib.bytesWorld V 5 s) (some ⟨V.heap.size, 0, none⟩) (some ⟨w.heap.size, 0, none⟩) (grownCap V s.size 0 5) 32 (bytesOf s) id (by rw [hl]; exact conv_C V s hs) (by rw [hl]; exact conv_cap V s) (C_block hX (by omega)) (by omega) (hK.below hB2) (hBg.below hB2) (by rw [List.length_append]; omega) (fun x hx => (List.mem_append.1 hx).elim (bytes_ok s x) (hib x))
  rw [hl, hid, hVs] at hS
  have hW := fun W => wordof_calls (Sha.sum (bytesOf s ++ id)) (Bytes.sum _) (sum_length _) W
  unfold sl
  generalize Sha.sum (bytesOf s ++ id) = z at *
  have hSA := Aside0.mk hS; have hWA := Aside0.mk hW; have hbA := Aside0.mk hB2; have hVA := Aside0.mk hV
  clear hS hW hb hl hK hBg hV hVB hVX hX hVs hB2
  go_enter Tryd.func9, Tryd.ntmps9
  go_wp2_with (first | (go_at_call 24; rw [← hVA.out]; with_reducible refine hSA.out.mono ?_; rintro e w1 ⟨rfl, hb1⟩; have h1A := Aside0.mk (below_then hbA.out hbA.out.size hb1); clear hb1) | (go_at_call 23; with_reducible refine (hWA.out _).mono ?_; rintro e w2 ⟨rfl, hb2⟩; have h2A := Aside0.mk (below_then h1A.out h1A.out.size hb2); clear hb2))
  go_ret
  exact ⟨rfl, h2A.out⟩
end Go.Proofs.YthnfjbnebfjjfaaDoor.ShaW
