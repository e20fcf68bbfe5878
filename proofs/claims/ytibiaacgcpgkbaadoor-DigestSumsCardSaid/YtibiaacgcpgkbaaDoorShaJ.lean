/- Digests compared: what the calls come to. -/
import Derived.Test.YtibiaacgcpgkbaaDoorShaI
import Derived.Lib.BytesEntry
import Derived.Laws.Externs
set_option linter.unusedVariables false
set_option linter.unusedSimpArgs false
namespace Go.Proofs.YtibiaacgcpgkbaaDoor.ShaW
open Go.RowKit Go.Proofs.YtibiaacgcpgkbaaDoorW.PrintWords Go.Proofs.YtibiaacgcpgkbaaDoorW.PrintMore Go.Proofs.YtibiaacgcpgkbaaDoor Go.Proofs.YtibiaacgcpgkbaaDoor.Bits Sha ArrK
/-- which one comes first: -1, 0 or 1 -/
def cmpL : List Int → List Int → Int
  | a :: xs, b :: ys => if a < b then -1 else if b < a then 1 else cmpL xs ys
  | _, _ => 0
theorem cmpL_range : ∀ a b : List Int, cmpL a b = -1 ∨ cmpL a b = 0 ∨ cmpL a b = 1
  | [], [] => .inr (.inl rfl)
  | [], _ :: _ => .inr (.inl rfl)
  | _ :: _, [] => .inr (.inl rfl)
  | a :: xs, b :: ys => by
    unfold cmpL
    split
    · exact .inl rfl
    · split
      · exact .inr (.inr rfl)
      · exact cmpL_range xs ys
theorem cmpL_swap : ∀ a b : List Int, cmpL b a = -cmpL a b
  | [], [] => rfl
  | [], _ :: _ => rfl
  | _ :: _, [] => rfl
  | a :: xs, b :: ys => by
    unfold cmpL
    by_cases h1 : a < b
    · rw [if_neg (by omega), if_pos h1, if_pos h1]; rfl
    · by_cases h2 : b < a
      · rw [if_pos h2, if_neg h1, if_pos h2]
      · rw [if_neg h2, if_neg h1, if_neg h1, if_neg h2]; exact cmpL_swap xs ys
theorem u8_lt {x y : Int} (hx : 0 ≤ x ∧ x < 256) (hy : 0 ≤ y ∧ y < 256) : (x.toNat.toUInt8 < y.toNat.toUInt8) ↔ x < y := by
  rw [UInt8.lt_iff_toNat_lt]
  simp only [Nat.toUInt8, UInt8.toNat_ofNat']
  omega
theorem compare_list : ∀ (a b : List Int), Bytes a → Bytes b → a.length = b.length → Lib.compareBytes (Lib.bytesOf a) (Lib.bytesOf b) = cmpL a b
  | [], [], _, _, _ => rfl
  | [], _ :: _, _, _, h => by simp at h
  | _ :: _, [], _, _, h => by simp at h
  | x :: a, y :: b, ha, hb, h => by
    have hx := ha x (by simp); have hy := hb y (by simp)
    have e : Lib.compareBytes (Lib.bytesOf (x :: a)) (Lib.bytesOf (y :: b)) = if x.toNat.toUInt8 < y.toNat.toUInt8 then -1 else if y.toNat.toUInt8 < x.toNat.toUInt8 then 1 else Lib.compareBytes (Lib.bytesOf a) (Lib.bytesOf b) := rfl
    rw [e]
    unfold cmpL
    rw [compare_list a b (fun z hz => ha z (by simp [hz])) (fun z hz => hb z (by simp [hz])) (by simpa using h)]
    by_cases h1 : x < y
    · rw [if_pos ((u8_lt hx hy).2 h1), if_pos h1]
    · rw [if_neg (fun q => h1 ((u8_lt hx hy).1 q)), if_neg h1]
      by_cases h2 : y < x
      · rw [if_pos ((u8_lt hy hx).2 h2), if_pos h2]
      · rw [if_neg (fun q => h2 ((u8_lt hy hx).1 q)), if_neg h2]
theorem bytesOf_slice (w : World) (ad : Addr) (l : List Int) (c : Nat) (h : Kd.C (Kd.int .u8) w (some ad) l.length l) : (Extern.Bytes.bytesOf (.slice (some ad) l.length c)).run Tryd.prog w = .ok ⟨(Lib.bytesOf l).toArray⟩ w := by
  have h0 := Kd.reads_of_C (enc := Value.int .u8) (d := (0 : Int)) (h1 := fun _ => rfl) h
  have hl := Lib.run_loadBytesX (P := Tryd.prog) w l ad .empty (fun j x hj => by
    have hjl : j < l.length := (List.getElem?_eq_some_iff.1 hj).1
    obtain ⟨ad', e, hc⟩ := h0.2.2 (by omega)
    cases e
    rw [hc j hjl, List.getD_eq_getElem?_getD, hj]; rfl)
  have he : (⟨ByteArray.empty.data ++ (Lib.bytesOf l).toArray⟩ : ByteArray) = ⟨(Lib.bytesOf l).toArray⟩ := by
    apply ByteArray.ext
    show (#[] : Array UInt8) ++ (Lib.bytesOf l).toArray = (Lib.bytesOf l).toArray
    simp
  rw [he] at hl
  exact hl
theorem run_compare (w : World) (p q : Addr) (a b : List Int) (c d : Nat) (ha : Bytes a) (hb : Bytes b) (hab : a.length = b.length) (h1 : Kd.C (Kd.int .u8) w (some p) a.length a) (h2 : Kd.C (Kd.int .u8) w (some q) b.length b) :
    (Extern.BytealgCompare.compare #[.slice (some p) a.length c, .slice (some q) b.length d]).run Tryd.prog w = .ok (.int .i64 (cmpL a b)) w := by
  change Sem.run Tryd.prog (do pure (goInt (Extern.BytealgCompare.cmp (← Extern.Bytes.bytesOf (.slice (some p) a.length c)) (← Extern.Bytes.bytesOf (.slice (some q) b.length d))))) w = _
  simp only [Sem.run_bind, bytesOf_slice w p a c h1, bytesOf_slice w q b d h2, Sem.run_pure, Result.andThen_ok]
  rw [Lib.cmp_eq]
  show Result.ok (goInt (Lib.compareBytes (Lib.bytesOf a) (Lib.bytesOf b))) w = _
  rw [compare_list a b ha hb hab]; rfl
set_option maxRecDepth 100000 in
set_option maxHeartbeats 400000 in
theorem bcompare_calls (w : World) (p q : Addr) (a b : List Int) (c d : Nat) (ha : Bytes a) (hb : Bytes b) (hab : a.length = b.length) (h1 : Kd.C (Kd.int .u8) w (some p) a.length a) (h2 : Kd.C (Kd.int .u8) w (some q) b.length b) :
    Calls Tryd.prog 26 #[.slice (some p) a.length c, .slice (some q) b.length d] w fun e w' => e = .returned (.int .i64 (cmpL a b)) ∧ w' = w := by
  have hrun := run_compare w p q a b c d ha hb hab h1 h2
  clear h1 h2 ha hb hab
  go_enter Tryd.func26, Tryd.ntmps26
  go_wp2_with fail
  rw [run_callFunc_extern Tryd.func33 (by kernel_rfl) (by kernel_rfl) (by kernel_rfl) (e := Extern.BytealgCompare.compare) (by kernel_rfl), hrun]
  simp only [Result.andThen]
  rw [Oper.upon_value]
  go_wp2
  go_ret
  exact ⟨rfl, rfl⟩
set_option maxRecDepth 100000 in
set_option maxHeartbeats 400000 in
theorem compare_calls (a b : List Int) (ha : Bytes a) (hb : Bytes b) (la : a.length = 32) (lb : b.length = 32) (w : World) :
    Calls Tryd.prog 16 #[hv a, hv b] w fun e w' => e = .returned (.int .i64 (cmpL a b)) ∧ Below w.heap.size w w' := by
  obtain ⟨V, hV⟩ : ∃ V, V = ((w.alloc (.cells (nums .u8 a).toArray 25)).alloc (.cells (nums .u8 b).toArray 25)).drew := ⟨_, rfl⟩
  have hB : Below w.heap.size w V := by rw [hV]; exact pw_below_drewN (below_alloc (below_alloc (Below.refl _ _) _) _) 1
  have h0 : Blk V w.heap.size 25 (nums .u8 a) := by rw [hV]; exact (Blk.new w 25 (nums .u8 a)).alloc _
  have h1 : Blk V (w.heap.size + 1) 25 (nums .u8 b) := by
    rw [hV]
    have := Blk.new (w.alloc (.cells (nums .u8 a).toArray 25)) 25 (nums .u8 b)
    rwa [World.size_alloc] at this
  have hC := bcompare_calls V _ _ a b 32 32 ha hb (by omega) (C_block h0 (by omega)) (C_block h1 (by omega))
  rw [la, lb, hV] at hC
  rw [hV] at hB
  have hCA := Aside0.mk hC; have hBA := Aside0.mk hB
  clear hV hB h0 h1 hC la lb ha hb
  go_enter Tryd.func16, Tryd.ntmps16
  go_wp2_with fail
  go_still_tail 3, (by kernel_rfl)
  repeat still_step
  still_call hCA.out
  repeat still_step
  try refine wpStill_nil ?_
  change wpList _ _ _ _ _ ((w.alloc (.cells (nums .u8 a).toArray 25)).alloc (.cells (nums .u8 b).toArray 25)).drew
  go_wp2_with fail
  go_ret
  exact ⟨rfl, hBA.out⟩
end Go.Proofs.YtibiaacgcpgkbaaDoor.ShaW
