/- SHA-256: a block is taken. -/
import Derived.Test.YtlgfekllkahfaaaDoorShaB
import Derived.Laws.IdiomCopy
set_option linter.unusedVariables false
set_option linter.unusedSimpArgs false
namespace Go.Proofs.YtlgfekllkahfaaaDoor.ShaW
open Go.RowKit Go.Proofs.YtlgfekllkahfaaaDoorW.PrintWords Go.Proofs.YtlgfekllkahfaaaDoorW.PrintMore Go.Proofs.YtlgfekllkahfaaaDoor Go.Proofs.YtlgfekllkahfaaaDoor.Bits Sha ArrK
/-- the constants lie where the program's text lays them -/
def Kst (w : World) : Prop := ∀ i : Nat, i < 64 → w.cell? ⟨2, i, none⟩ = some (.int .u32 (v (at_ ks i)))
theorem Kst.below {w w1 : World} (h : Kst w) (hb : Below w.heap.size w w1) : Kst w1 := fun i hi => pw_cell_below hb (h i hi)
theorem cells_one (l : List F) : ∀ u ∈ cells l, u.oneCell' = true := by intro u hu; simp only [nums, List.mem_map] at hu; obtain ⟨_, _, rfl⟩ := hu; rfl
/-- the letters, one place on -/
theorem wpList_copy_letters {P : Program} {ops : Array Oper} {rest : List Oper} {op : Oper} {a : Act} {w : World} {Q : Exit → Act → World → Prop} (hgd : op.guard = none) (s x : Operand) (t t' e : TypeId)
    (ho : op.op = .call { callee := .builtin .copy, args := #[s, x], argTypes := #[t, t'] }) (ht : P.underlying t = some (.slice e)) (hinfo : (P.info? e).map (·.size) = some 1)
    (X T : Nat) (b1 b2 : Nat) (y : S) (hs : a.eval s = .slice (some ⟨X, 1, none⟩) 7 b1) (hx : a.eval x = .slice (some ⟨X, 0, none⟩) 7 b2) (hB : Blk w X T (cells y.l))
    (h : ∀ w1, Blk w1 X T (cells [y.a, y.a, y.b, y.c, y.d, y.e, y.f, y.g]) → w.grownBy w1 (some X) → w1.heap.size = w.heap.size → wpList P ops Q rest (a.put op.dst (.int .i64 7)) w1) :
    wpList P ops Q (op :: rest) a w := by
  have hr := run_copy_cells (P := P) w t t' op.type e X 1 7 b1 ⟨X, 0, none⟩ 7 b2 (cells [y.a, y.b, y.c, y.d, y.e, y.f, y.g]) ht hinfo rfl
    (fun j u hu => hB.add j u (by
      have hj : j < 7 := (List.getElem?_eq_some_iff.1 hu).1
      match j, hj with
      | 0, _ => exact hu
      | 1, _ => exact hu
      | 2, _ => exact hu
      | 3, _ => exact hu
      | 4, _ => exact hu
      | 5, _ => exact hu
      | 6, _ => exact hu))
    (fun j hj => by
      have hj : j < 7 := hj
      rw [hB.get (1 + j) _ (cells_at y.l (1 + j) (by show 1 + j < 8; omega))]; rfl)
    (fun j _ => hB.fz _) (cells_one _)
  have hb := blk_setCells (cells [y.a, y.b, y.c, y.d, y.e, y.f, y.g]) 1 w (cells y.l) hB (Nat.le_refl 8)
  have hsz : (w.setCells X 1 (cells [y.a, y.b, y.c, y.d, y.e, y.f, y.g])).heap.size = w.heap.size := by
    have : ∀ (l : List Value) (o : Nat) (W : World), (W.setCells X o l).heap.size = W.heap.size := by
      intro l
      induction l with
      | nil => intro o W; rfl
      | cons u l ih => intro o W; rw [World.setCells, ih]; simp [World.setCell]
    exact this _ 1 w
  have hbl := below_setCells (w := w) X (Nat.le_refl X) (cells [y.a, y.b, y.c, y.d, y.e, y.f, y.g]) 1 w (Below.refl _ _)
  have hg : w.grownBy (w.setCells X 1 (cells [y.a, y.b, y.c, y.d, y.e, y.f, y.g])) (some X) :=
    ⟨hbl.os, hbl.tape, hbl.output, by omega, fun k hk hne => World.heap_setCells_other w X 1 _ hk (fun e => hne (by rw [e]))⟩
  refine wpList_plain hgd fun K hK => ?_
  unfold Oper.wp execOp
  simp only [ho, resolve, invoke, builtin, Sem.run_bind, Sem.run_pure, Result.andThen_ok, List.map_toArray, List.map_cons, List.map_nil, hs, hx, hr]
  exact hK _ _ (h _ hb hg hsz)
/-- the letters, as an array's value -/
abbrev lv (x : S) : Value := .agg #[.int .u32 (v x.a), .int .u32 (v x.b), .int .u32 (v x.c), .int .u32 (v x.d), .int .u32 (v x.e), .int .u32 (v x.f), .int .u32 (v x.g), .int .u32 (v x.h)]
theorem run_index_cells (l : List F) (hl : l.length = 64) (k : Nat) (hk : k < 64) (W : World) : (Instr.index 109 (.agg (cells l).toArray) (.int .i64 (k : Int))).run Tryd.prog W = .ok (.int .u32 (v (at_ l k))) W := by
  have hu := run_underlying Tryd.underlying109 W
  have hs : (sizeOf 99).run Tryd.prog W = .ok 1 W := by kernel_rfl
  have h0 : (0 : Int) ≤ (k : Int) ∧ (k : Int) < ((64 : Nat) : Int) := by omega
  have hat := cells_at l k (by omega)
  have hag : (isAgg 99).run Tryd.prog W = .ok false W := by kernel_rfl
  simp [Instr.index, asIntOf, Sem.run_bind, hu, h0, hs, part, hag, hat, hk]
theorem wadd (x y : F) : IntKind.u32.wrap (v x + v y) = v (x + y) := by rw [IntKind.wrap_u32]; exact vadd x y
theorem wnot (x : F) : Go.bits .xor .u32 (if IntKind.u32.signed = true then -1 else IntKind.u32.max) (v x) = v (~~~x) := by
  have h : (if IntKind.u32.signed = true then -1 else IntKind.u32.max) = v (BitVec.allOnes 32) := by decide
  rw [h, xor_v, BitVec.allOnes_xor]
theorem wch (e f g : F) : Go.bits .xor .u32 (v (e &&& f)) (v (~~~e &&& g)) = v (ch e f g) := xor_v _ _
theorem wmaj (a b c : F) : Go.bits .xor .u32 (Go.bits .xor .u32 (v (a &&& b)) (v (a &&& c))) (v (b &&& c)) = v (maj a b c) := by rw [xor_v, xor_v]; rfl
theorem add_at (h x : S) (k : Nat) (hk : k < 8) : at_ ((h.add x).l.take k ++ h.l.drop k) k = at_ h.l k := by
  match k, hk with
  | 0, _ => rfl
  | 1, _ => rfl
  | 2, _ => rfl
  | 3, _ => rfl
  | 4, _ => rfl
  | 5, _ => rfl
  | 6, _ => rfl
  | 7, _ => rfl
theorem add_len (h x : S) (k : Nat) (hk : k ≤ 8) : ((h.add x).l.take k ++ h.l.drop k).length = 8 := by
  rw [List.length_append, List.length_take, List.length_drop]; show min k 8 + (8 - k) = 8; omega
theorem add_step (h x : S) (k : Nat) (hk : k < 8) : ((h.add x).l.take k ++ h.l.drop k).set k (at_ h.l k + at_ x.l k) = (h.add x).l.take (k + 1) ++ h.l.drop (k + 1) := by
  match k, hk with
  | 0, _ => rfl
  | 1, _ => rfl
  | 2, _ => rfl
  | 3, _ => rfl
  | 4, _ => rfl
  | 5, _ => rfl
  | 6, _ => rfl
  | 7, _ => rfl
/-- eight noughts -/
abbrev zero8 : List F := [0#32, 0#32, 0#32, 0#32, 0#32, 0#32, 0#32, 0#32]
theorem start8 (h : S) (w : World) : ∃ V, V = ((w.alloc (.cells #[.int .u32 (v h.a), .int .u32 (v h.b), .int .u32 (v h.c), .int .u32 (v h.d), .int .u32 (v h.e), .int .u32 (v h.f), .int .u32 (v h.g), .int .u32 (v h.h)] 101)).alloc (.cells #[.int .u32 0, .int .u32 0, .int .u32 0, .int .u32 0, .int .u32 0, .int .u32 0, .int .u32 0, .int .u32 0] 101)).alloc (.cells #[.int .u32 (v h.a), .int .u32 (v h.b), .int .u32 (v h.c), .int .u32 (v h.d), .int .u32 (v h.e), .int .u32 (v h.f), .int .u32 (v h.g), .int .u32 (v h.h)] 101) ∧
    Blk V w.heap.size 101 (cells h.l) ∧ Blk V (w.heap.size + 1) 101 (cells zero8) ∧ Blk V (w.heap.size + 1 + 1) 101 (cells h.l) ∧ Below w.heap.size w V ∧ V.heap.size = w.heap.size + 1 + 1 + 1 := by
  refine ⟨_, rfl, ?_, ?_, ?_, (((Below.refl _ _).alloc (Nat.le_refl _) _).alloc (by simp) _).alloc (by simp; omega) _, by simp⟩
  · exact ((Blk.new w 101 (cells h.l)).alloc _).alloc _
  · have := Blk.new (w.alloc (.cells (cells h.l).toArray 101)) 101 (cells zero8)
    rw [World.size_alloc] at this
    exact this.alloc _
  · have := Blk.new ((w.alloc (.cells (cells h.l).toArray 101)).alloc (.cells (cells zero8).toArray 101)) 101 (cells h.l)
    rw [World.size_alloc, World.size_alloc] at this
    exact this
set_option maxRecDepth 100000 in
set_option maxHeartbeats 400000 in
theorem take_calls (h : S) (l : List Int) (A : Option Addr) (c : Nat) (hb : Bytes l) (w : World) (hK : Kst w) (hr : Kd.C (Kd.int .u8) w A l.length l) (hc : l.length ≤ c) (hl : l.length = 64) :
    Calls Tryd.prog 69 #[lv h, .slice A l.length c] w fun e w' => e = .returned (lv (comp h l)) ∧ Below w.heap.size w w' := by
  obtain ⟨V, hV, hP, hR, hX, hBV, hsV⟩ := start8 h w
  have hS := schedule_calls l A c hb V (Kd.C_below hr hBV) hc hl
  rw [hl] at hS ⊢
  obtain ⟨N, hN⟩ : ∃ N, N = 64 := ⟨_, rfl⟩
  have hcomp : comp h l = h.add (rounds (sched l) h N) := by rw [hN]; rfl
  rw [hcomp]
  replace hN := Aside0.mk hN
  have hsl := sched_length l
  generalize sched l = s at *
  have hVA := Aside0.mk hV; have hSA := Aside0.mk hS; have hKA := Aside0.mk hK
  have hPA := Aside0.mk hP; have hRA := Aside0.mk hR; have hXA := Aside0.mk hX; have hBA := Aside0.mk hBV; have hsA := Aside0.mk hsV
  have hslA := Aside0.mk hsl
  clear hV hS hK hr hP hR hX hBV hl hc hcomp hsV hsl
  go_enter Tryd.func69, Tryd.ntmps69
  go_wp2_with (go_at_call 76; rw [← hVA.out]; with_reducible refine hSA.out.mono ?_; rintro e w4 ⟨rfl, hB4⟩; have h4A := Aside0.mk hB4; clear hB4)
  have hB5 := below_then hBA.out hBA.out.size h4A.out
  have hP5 := hPA.out.below h4A.out
  have hR5 := hRA.out.below h4A.out
  have hX5 := hXA.out.below h4A.out
  clear hVA hSA hPA hRA hXA hBA hsA h4A
  go_loopw [16] (fun i wr => ∃ k : Nat, k ≤ 64 ∧ i = .int .i64 k ∧ Blk wr w.heap.size 101 (cells h.l) ∧ Blk wr (w.heap.size + 1) 101 (cells zero8) ∧ Blk wr (w.heap.size + 1 + 1) 101 (cells (rounds s h k).l) ∧ Below w.heap.size w wr) (fun i _ => 64 - (intOf i).toNat)
  case atStart => exact ⟨0, by omega, rfl, hP5, hR5, hX5, hB5⟩
  case round =>
    obtain ⟨k, hk, rfl, hP, hR, hX, hB⟩ := hrel
    have hPA := Aside0.mk hP; have hRA := Aside0.mk hR; have hBA := Aside0.mk hB
    clear hP hR hB hP5 hR5 hX5 hB5
    by_cases hlt : k < 64
    · have p0 : (0 : Int) ≤ (k : Int) := by omega
      have p1 : (k : Int) < 64 := by omega
      have hw4 : IntKind.i64.wrap ((k : Int) + 1) = (k : Int) + 1 := IntWalk.i64_in _ (by omega)
      have hrd : rounds s h (k + 1) = (rounds s h k).round (at_ ks k) (at_ s k) := rfl
      have hrdA := Aside0.mk hrd
      have hix := run_index_cells s hslA.out k hlt wr
      have hkk := hKA.out.below hBA.out k hlt
      generalize rounds s h k = x at *
      generalize at_ s k = y at *
      generalize at_ ks k = z at *
      have g0 := hX.get 0 (.int .u32 (v x.a)) rfl
      have g1 := hX.get 1 (.int .u32 (v x.b)) rfl
      have g2 := hX.get 2 (.int .u32 (v x.c)) rfl
      have g4 := hX.get 4 (.int .u32 (v x.e)) rfl
      have g5 := hX.get 5 (.int .u32 (v x.f)) rfl
      have g6 := hX.get 6 (.int .u32 (v x.g)) rfl
      have g7 := hX.get 7 (.int .u32 (v x.h)) rfl
      have hXA := Aside0.mk hX
      clear hX hrd
      go_wp2_with fail
      go_region
      go_wp2_with fail
      obtain ⟨W3, hW3⟩ : ∃ W3, W3 = wr.drew := ⟨_, rfl⟩
      replace g0 : W3.cell? ⟨w.heap.size + 1 + 1, 0, none⟩ = some (.int .u32 (v x.a)) := by rw [hW3]; exact g0
      replace g1 : W3.cell? ⟨w.heap.size + 1 + 1, 1, none⟩ = some (.int .u32 (v x.b)) := by rw [hW3]; exact g1
      replace g2 : W3.cell? ⟨w.heap.size + 1 + 1, 2, none⟩ = some (.int .u32 (v x.c)) := by rw [hW3]; exact g2
      replace g4 : W3.cell? ⟨w.heap.size + 1 + 1, 4, none⟩ = some (.int .u32 (v x.e)) := by rw [hW3]; exact g4
      replace g5 : W3.cell? ⟨w.heap.size + 1 + 1, 5, none⟩ = some (.int .u32 (v x.f)) := by rw [hW3]; exact g5
      replace g6 : W3.cell? ⟨w.heap.size + 1 + 1, 6, none⟩ = some (.int .u32 (v x.g)) := by rw [hW3]; exact g6
      replace g7 : W3.cell? ⟨w.heap.size + 1 + 1, 7, none⟩ = some (.int .u32 (v x.h)) := by rw [hW3]; exact g7
      replace hkk : W3.cell? ⟨2, k, none⟩ = some (.int .u32 (v z)) := by rw [hW3]; exact hkk
      have hWA := Aside0.mk hW3
      rw [← hW3]
      clear hW3 hix
      have b1 := bg1_v x.e
      have c1 := and_v x.e x.f; have n1 := wnot x.e; have c2 := and_v (~~~x.e) x.g; have c3 := wch x.e x.f x.g
      have a1 := wadd x.h (bg1 x.e); have a2 := wadd (x.h + bg1 x.e) (ch x.e x.f x.g); have a3 := wadd (x.h + bg1 x.e + ch x.e x.f x.g) z; have a4 := wadd (x.h + bg1 x.e + ch x.e x.f x.g + z) y
      go_still_tail 28, (by kernel_rfl)
      repeat still_step
      still_call (right6_calls x.e _)
      repeat still_step
      still_call (right11_calls x.e _)
      repeat still_step
      still_call (right25_calls x.e _)
      repeat still_step
      refine wpStill_nil ?_
      change wpList _ _ _ _ _ W3.drew
      have hT := Aside0.mk (show (x.round z y) = ⟨x.h + bg1 x.e + ch x.e x.f x.g + z + y + (bg0 x.a + maj x.a x.b x.c), x.a, x.b, x.c, x.d + (x.h + bg1 x.e + ch x.e x.f x.g + z + y), x.e, x.f, x.g⟩ from rfl)
      clear b1 c1 n1 c2 c3 a1 a2 a3 a4 hkk
      generalize x.h + bg1 x.e + ch x.e x.f x.g + z + y = T1 at *
      go_wp2_with fail
      obtain ⟨W4, hW4⟩ : ∃ W4, W4 = W3.drew := ⟨_, rfl⟩
      replace g1 : W4.cell? ⟨w.heap.size + 1 + 1, 1, none⟩ = some (.int .u32 (v x.b)) := by rw [hW4]; exact g1
      replace g2 : W4.cell? ⟨w.heap.size + 1 + 1, 2, none⟩ = some (.int .u32 (v x.c)) := by rw [hW4]; exact g2
      rw [hWA.out] at hW4
      have hW4A := Aside0.mk hW4
      clear g0 g4 g5 g6 g7
      rw [← hWA.out] at hW4
      rw [← hW4]
      clear hW4 hWA
      have b0 := bg0_v x.a
      have c1 := and_v x.a x.b; have c2 := and_v x.a x.c; have c3 := and_v x.b x.c; have c4 := wmaj x.a x.b x.c; have a1 := wadd (bg0 x.a) (maj x.a x.b x.c)
      go_still_tail 24, (by kernel_rfl)
      repeat still_step
      still_call (right2_calls x.a _)
      repeat still_step
      still_call (right13_calls x.a _)
      repeat still_step
      still_call (right22_calls x.a _)
      repeat still_step
      refine wpStill_nil ?_
      change wpList _ _ _ _ _ W4.drew
      clear b0 c1 c2 c3 c4 a1
      generalize bg0 x.a + maj x.a x.b x.c = T2 at *
      go_wp2_with fail
      obtain ⟨W5, hW5⟩ : ∃ W5, W5 = W4.drew := ⟨_, rfl⟩
      rw [hW4A.out] at hW5
      have hW5A := Aside0.mk hW5
      rw [← hW4A.out] at hW5
      rw [← hW5]
      clear hW5 hW4A g1 g2
      have hX5 : Blk W5.drew (w.heap.size + 1 + 1) 101 (cells x.l) := by rw [hW5A.out]; exact hXA.out
      replace hX5 := Aside0.mk hX5
      go_still_tail 2, (by kernel_rfl)
      repeat still_step
      try refine wpStill_nil ?_
      change wpList _ _ _ _ _ W5.drew
      refine wpList_copy_letters rfl (.tmp 76) (.tmp 77) 116 116 99 rfl Tryd.underlying116 (by kernel_rfl) (w.heap.size + 1 + 1) 101 7 8 x rfl rfl hX5.out ?_
      intro w6 hX6 hg6 hs6
      have y4 := hX6.get 4 (.int .u32 (v x.d)) rfl; have z4 := hX6.fz 4
      have y0 := hX6.get 0 (.int .u32 (v x.a)) rfl; have z0 := hX6.fz 0
      have s1 := vadd x.d T1; have s2 := vadd T1 T2
      have hX6A := Aside0.mk hX6; have hg6A := Aside0.mk hg6
      clear hX6 hg6 hs6
      go_wp2_with fail
      go_roundw
      case rel =>
        have o5 : ∀ (b : Nat) (cs : List Value), b ≠ w.heap.size + 1 + 1 → Blk wr b 101 cs → Blk ((w6.setCell ⟨w.heap.size + 1 + 1, 4, none⟩ (.int .u32 (v (x.d + T1)))).setCell ⟨w.heap.size + 1 + 1, 0, none⟩ (.int .u32 (v (T1 + T2)))) b 101 cs := fun b cs hne hbk => by
          have h5 : Blk W5.drew b 101 cs := by rw [hW5A.out]; exact hbk
          exact ((h5.grown hg6A.out (fun e => hne (Option.some.inj e))).far (p := ⟨w.heap.size + 1 + 1, 4, none⟩) hne _).far (p := ⟨w.heap.size + 1 + 1, 0, none⟩) hne _
        have hB5 : Below w.heap.size w W5.drew := by rw [hW5A.out]; exact pw_below_drewN hBA.out 4
        have hB6 := hB5.grown hg6A.out hB5.size (fun k e => by cases e; omega)
        refine ⟨k + 1, by omega, by go_num, o5 _ _ (by omega) hPA.out, o5 _ _ (by omega) hRA.out, ?_, (hB6.setCell (p := ⟨w.heap.size + 1 + 1, 4, none⟩) (by show w.heap.size ≤ w.heap.size + 1 + 1; omega) _).setCell (p := ⟨w.heap.size + 1 + 1, 0, none⟩) (by show w.heap.size ≤ w.heap.size + 1 + 1; omega) _⟩
        rw [hrdA.out, hT.out]
        exact (hX6A.out.set 4 (.int .u32 (v (x.d + T1)))).set 0 (.int .u32 (v (T1 + T2)))
      case measure => simp [intOf]; omega
    · have hkN : k = N := by have := hN.out; omega
      subst hkN
      have hN2 := hN.out
      generalize hx : rounds s h k = x at *
      replace hx := Aside0.mk hx
      have hXA := Aside0.mk hX
      clear hX
      have hkI : (k : Int) = 64 := by omega
      rw [hkI]
      clear hN2 hkI
      go_wp2_with fail
      go_loopw [89] (fun i wr => ∃ k : Nat, k ≤ 8 ∧ i = .int .i64 k ∧ Blk wr w.heap.size 101 (cells ((h.add x).l.take k ++ h.l.drop k)) ∧ Blk wr (w.heap.size + 1) 101 (cells zero8) ∧ Blk wr (w.heap.size + 1 + 1) 101 (cells x.l) ∧ Below w.heap.size w wr) (fun i _ => 8 - (intOf i).toNat)
      case atStart => exact ⟨0, by omega, rfl, hPA.out, hRA.out, hXA.out, hBA.out⟩
      case round =>
        clear hPA hRA hXA hBA
        obtain ⟨k, hk, rfl, hP, hR, hX, hB⟩ := hrel
        have hRA := Aside0.mk hR; have hBA := Aside0.mk hB; have hPA := Aside0.mk hP; have hXA := Aside0.mk hX
        clear hR hB
        by_cases hlt : k < 8
        · have p0 : (0 : Int) ≤ (k : Int) := by omega
          have p1 : (k : Int) < 8 := by omega
          have hw4 : IntKind.i64.wrap ((k : Int) + 1) = (k : Int) + 1 := IntWalk.i64_in _ (by omega)
          have st := add_step h x k hlt
          have gp := hP.get k _ ((cells_at _ k (by rw [add_len h x k hk]; exact hlt)).trans (by rw [add_at h x k hlt]))
          have fp := hP.fz k
          have gx := hX.get k _ (cells_at x.l k hlt)
          clear hP hX
          have sm := wadd (at_ h.l k) (at_ x.l k)
          have sm2 := vadd (at_ h.l k) (at_ x.l k)
          have hstA := Aside0.mk st
          clear st
          generalize at_ h.l k = a at *
          generalize at_ x.l k = b at *
          go_wp2_with fail
          go_still_tail 8, (by kernel_rfl)
          repeat still_step
          try refine wpStill_nil ?_
          change wpList _ _ _ _ _ wr.drew
          have gp2 : wr.drew.cell? ⟨w.heap.size, k, none⟩ = some (.int .u32 (v a)) := gp
          have fp2 : wr.drew.frozen? ⟨w.heap.size, k, none⟩ = false := fp
          clear gp fp gx
          go_wp2_with fail
          go_roundw
          case rel =>
            refine ⟨k + 1, by omega, by go_num, ?_, hRA.out.far (p := ⟨w.heap.size, k, none⟩) (by show w.heap.size + 1 ≠ w.heap.size; omega) _, hXA.out.far (p := ⟨w.heap.size, k, none⟩) (by show w.heap.size + 1 + 1 ≠ w.heap.size; omega) _, pw_below_drewN (Below.setCell (p := ⟨w.heap.size, k, none⟩) (pw_below_drewN hBA.out 1) (Nat.le_refl _) _) 0⟩
            rw [← hstA.out, ← cells_set]
            exact hPA.out.set k _
          case measure => simp [intOf]; omega
        · obtain rfl : k = 8 := by omega
          have e8 : (h.add x).l.take 8 ++ h.l.drop 8 = (h.add x).l := rfl
          rw [e8] at hPA
          have hres : (Value.agg (cells (h.add x).l).toArray) = lv (h.add x) := rfl
          have hin : (Tryd.prog.info? 101).map (·.size) = some (cells (h.add x).l).length := by show _ = some 8; kernel_rfl
          have hone := cells_one (h.add x).l
          have hz : (cells zero8).length = (cells (h.add x).l).length := rfl
          generalize hcs : cells (h.add x).l = cs at *
          generalize cells zero8 = zs at *
          replace hcs := Aside0.mk hcs; replace hres := Aside0.mk hres
          have hiA := Aside0.mk hin; have hzA := Aside0.mk hz; have honeA := Aside0.mk hone
          clear hin hz hone hP hX e8
          go_wp2_with (with_reducible refine gate_dst (N := 101) rfl ?_; refine wpList_load_blk rfl 101 (.tmp 2) rfl w.heap.size 101 rfl cs _ hPA.out Tryd.underlying101 rfl hiA.out ?_; refine wpList_put_blk rfl 101 (.tmp 4) (.tmp 101) rfl (w.heap.size + 1) 101 cs zs hzA.out rfl rfl hRA.out hiA.out honeA.out ?_; intro W1 hW1 hg1 hs1)
          have hi2 : (Tryd.prog.info? 101).map (·.size) = some cs.toArray.size := by rw [List.size_toArray]; exact hiA.out
          exact bodyPost_ret (results_cell_row rfl _ _ (w.heap.size + 1) 101 cs.toArray (0, 0) _ rfl hW1 Tryd.underlying101 rfl hi2) rfl ⟨by rw [hres.out, hx.out], hBA.out.grown hg1 hBA.out.size (fun k e => by cases e; omega)⟩
end Go.Proofs.YtlgfekllkahfaaaDoor.ShaW
