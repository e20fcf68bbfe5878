/- An argument that is an array of whole numbers: opened and shut. -/
import Derived.ChangeShapes
import Derived.WideShapes
import Derived.ChangeSame
import Derived.ChangeArms
set_option linter.unusedVariables false
namespace Go.Proofs.YtlgfekllkahfaaaDoor.Arrs
open Go Go.ChangeShapes Go.WideShapes
section
variable {H : Type} {enc : TypeId × Value → H} {P : Program} {k e : TypeId} {n : Nat} {q : IntKind} {w : World} {base : Nat} {sp : Nat → Bool} {held : Bool}
theorem each (he : P.underlying e = some (.int q)) {m : Nat} : ∀ (L : List Value) (xs : List (DataW H × List MemPlace)),
    ((List.range L.length).mapM fun i => DataW.trod enc P w base sp held m e ((L.drop i).take 1)) = some xs →
    ∃ zs : List Int, L = zs.map (Value.int q) ∧ xs = zs.map (fun z => (.lit (.int q z), [])) ∧ ∀ z ∈ zs, (Lit.int q z).wf = true
  | [], xs, h => by
    simp at h; subst h; exact ⟨[], rfl, rfl, by simp⟩
  | v :: L, xs, h => by
    rw [List.length_cons, List.range_succ_eq_map, List.mapM_cons] at h
    simp only [bind, Option.bind_eq_some_iff, pure, Option.some.injEq] at h
    obtain ⟨y, hy, ys, hys, rfl⟩ := h
    rw [List.mapM_map] at hys
    obtain ⟨zs, rfl, rfl, hw⟩ := each he L ys hys
    obtain ⟨a, ea, rfl, wa⟩ := DataW.trod_int he hy
    simp at ea; subst ea
    refine ⟨a :: zs, rfl, rfl, ?_⟩
    intro z hz
    rcases List.mem_cons.1 hz with rfl | hz
    · exact wa
    · exact hw z hz
theorem all (he : P.underlying e = some (.int q)) (m : Nat) : ∀ (zs : List Int), (∀ z ∈ zs, (Lit.int q z).wf = true) →
    ((List.range zs.length).mapM fun i => DataW.trod enc P w base sp held (m + 1) e (((zs.map (Value.int q)).drop i).take 1)) = some (zs.map (fun z => ((.lit (.int q z) : DataW H), ([] : List MemPlace))))
  | [], _ => rfl
  | z :: zs, hw => by
    rw [List.length_cons, List.range_succ_eq_map, List.mapM_cons, List.mapM_map]
    have h1 : DataW.trod enc P w base sp held (m + 1) e (((((z :: zs).map (Value.int q))).drop 0).take 1) = some (.lit (.int q z), []) := by
      rw [DataW.trod_step]; unfold DataW.trodStep
      simp [he, hw z (by simp)]
    have h2 := all he m zs (fun x hx => hw x (by simp [hx]))
    rw [h1]
    simp only [bind, Option.bind_some, pure]
    have h3 : (fun i => DataW.trod enc P w base sp held (m + 1) e (((((z :: zs).map (Value.int q))).drop (Nat.succ i)).take 1)) = (fun i => DataW.trod enc P w base sp held (m + 1) e (((zs.map (Value.int q)).drop i).take 1)) := rfl
    show Option.bind (List.mapM (fun i => DataW.trod enc P w base sp held (m + 1) e (((((z :: zs).map (Value.int q))).drop (Nat.succ i)).take 1)) (List.range zs.length)) _ = _
    rw [h3, h2]; rfl
theorem open_ints (hu : P.underlying k = some (.array n e)) (he : P.underlying e = some (.int q)) (h1 : P.cellsOf e = 1) (hC : P.cellsOf k = n) {r : Reach} {b0 : Nat} {v : Value} {d : DataW H} {ps : List MemPlace}
    (hv : Value.okWide P w r b0 k v) (hd : DataW.Trod enc P w base sp held k v d ps) :
    ∃ zs : List Int, zs.length = n ∧ v = .agg (zs.map (Value.int q)).toArray ∧ d = .agg (zs.map fun z => .lit (.int q z)) ∧ ps = [] ∧ ∀ z ∈ zs, (Lit.int q z).wf = true := by
  simp only [Value.okWide, hu] at hv
  obtain ⟨cs, rfl, hsz, _⟩ := hv
  obtain ⟨fuel, hf⟩ := hd
  cases fuel with
  | zero => simp [DataW.trod] at hf
  | succ m =>
    rw [DataW.trod_step] at hf
    unfold DataW.trodStep at hf
    simp only [hu, Value.cells, h1, Nat.mul_one] at hf
    rw [if_pos (by simpa using hsz)] at hf
    simp only [Option.map_eq_some_iff] at hf
    obtain ⟨ys, hy, e1⟩ := hf
    have hlen : cs.toList.length = n := by rw [Array.length_toList, hsz, hC]
    rw [← hlen] at hy
    obtain ⟨zs, hL, rfl, hw⟩ := each he _ _ hy
    simp only [Prod.mk.injEq] at e1
    refine ⟨zs, ?_, ?_, ?_, ?_, hw⟩
    · rw [← hlen, hL, List.length_map]
    · rw [← hL]
    · rw [← e1.1]; simp [Function.comp_def]
    · rw [← e1.2]; simp [List.flatMap_eq_nil_iff]
theorem shut_ints (hu : P.underlying k = some (.array n e)) (he : P.underlying e = some (.int q)) (h1 : P.cellsOf e = 1) (hC : P.cellsOf k = n) {zs : List Int} (hl : zs.length = n) (hw : ∀ z ∈ zs, (Lit.int q z).wf = true) :
    DataW.Trod enc P w base sp held k (.agg (zs.map (Value.int q)).toArray) (.agg (zs.map fun z => .lit (.int q z))) [] := by
  refine ⟨2, ?_⟩
  rw [DataW.trod_step]; unfold DataW.trodStep
  simp only [hu, Value.cells, h1, Nat.mul_one]
  rw [if_pos (by simp [hl, hC])]
  have := all (H := H) (enc := enc) (w := w) (base := base) (sp := sp) (held := held) he 0 zs hw
  rw [hl] at this
  rw [this]
  simp [Function.comp_def, List.flatMap_eq_nil_iff]
end
theorem list2 {l : List Int} (h : l.length = 2) : ∃ a b, l = [a, b] := by
  match l, h with | [a, b], _ => exact ⟨a, b, rfl⟩
theorem list3 {l : List Int} (h : l.length = 3) : ∃ a b c, l = [a, b, c] := by
  match l, h with | [a, b, c], _ => exact ⟨a, b, c, rfl⟩
theorem list4 {l : List Int} (h : l.length = 4) : ∃ a b c d, l = [a, b, c, d] := by
  match l, h with | [a, b, c, d], _ => exact ⟨a, b, c, d, rfl⟩
end Go.Proofs.YtlgfekllkahfaaaDoor.Arrs
