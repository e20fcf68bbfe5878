/- A statement that draws its order, in a round of a range over a function: it goes as it goes outside. -/
import Derived.Test.YtfjkiiajbeaaoaaProg
import Derived.OrdersHeld
import Derived.OrdersIn
import Derived.RangeFuncCalls
import Derived.Deep.RegionHeld3
set_option linter.unusedVariables false
set_option linter.unusedSimpArgs false
namespace Go.Proofs.Ytfjkiiajbeaaoaa.InRound
variable {P : Program} {ops : Array Oper} {Q : Exit → Act → World → Prop} {md : Region.Mode} {l n : Nat}
theorem rowsIn_of {row : String} {args : Array Value} {w : World} {R : Value → World → Prop} (h : Rows P row args w R) : RowsIn (Fence.wide.inRound l) n P row args w R := fun c cs _ => by
  obtain ⟨v, w', hR, hs⟩ := h c cs
  exact ⟨v, w', hR, stepsIn_wide.2 hs⟩
theorem op_at {ops : Array Oper} {i : Nat} {o : Oper} (h : (ops.toList.drop i).head? = some o) : ops[i]? = some o := by
  rw [List.head?_drop] at h; simpa using h
/-- it ends as it should, and no other way -/
def Only (Q : Exit → Act → World → Prop) : Exit → Act → World → Prop
  | .normal, a, w => Q .normal a w
  | _, _, _ => False
theorem Only.imp : ∀ (e : Exit) (a : Act) (w : World), Only Q e a w → Q e a w := fun e a w h => by cases e <;> first | exact h | exact h.elim
theorem Only.normal {a : Act} {w : World} (h : Q .normal a w) : Only Q .normal a w := h
theorem not_out : ¬ LetsOut (Only Q) := fun ⟨_, _, h⟩ => h
theorem oper_in {o : Oper} (hd : ∀ c, o.op ≠ .defer c) {K : Act → World → Prop} {a : Act} {w : World} (h : o.wp P a w K (Only Q)) : o.wpIn (Fence.wide.inRound l) n P a w K (Only Q) := by
  refine ⟨fun _ _ => trivial, ?_⟩
  rw [Oper.semAt_eq _ _ _ hd]
  unfold Oper.wp at h
  generalize (execOp a.eval o).run P w = r at *
  cases r with
  | ok x w' =>
    cases x <;> simp only [Oper.upon, Oper.uponIn] at h ⊢ <;> first
      | exact h
      | exact ⟨fun hh => absurd hh (by simp [Fence.wide, Fence.inRound]), CallsIn.inRound l (callsIn_wide.2 h)⟩
      | exact ⟨fun hh => absurd hh (by simp [Fence.wide, Fence.inRound]), rowsIn_of h⟩
      | exact h.elim
  | halt x w' => cases x <;> simp only [Oper.upon, Oper.uponIn] at h ⊢ <;> exact h
theorem any_in (hd : ∀ (i : Nat) (o : Oper), ops[i]? = some o → ∀ c, o.op ≠ .defer c) : ∀ (fuel : Nat) (listed : Array Bool) (a : Act) (w : World), wpAny P md ops (Only Q) fuel listed a w → wpAnyIn (Fence.wide.inRound l) n P md ops (Only Q) fuel listed a w
  | 0, _, _, _, h => h
  | fuel + 1, listed, a, w, h => ⟨h.1, fun i hi => by
    have h1 := h.2 i hi
    unfold wpOp at h1
    unfold wpOpIn
    cases ho : ops[i]? with
    | none => simp only [ho] at h1 ⊢; exact any_in hd fuel _ a w h1
    | some o =>
      simp only [ho] at h1 ⊢
      split
      · rename_i hw
        simp only [hw, if_true] at h1
        rcases h1 with h1 | ⟨_, h1⟩
        · exact Oper.wpIn_mono (fun a w => any_in hd fuel _ a w) (oper_in (hd i o ho) h1)
        · exact absurd h1 not_out
      · rename_i hw
        simp only [hw, Bool.false_eq_true, if_false] at h1
        exact ⟨fun _ _ => trivial, any_in hd fuel _ (a.put o.dst undef) w h1⟩⟩
def noDefer (ops : Array Oper) : Bool := ops.all fun o => !(o.op matches .defer _)
theorem noDefer_spec (h : noDefer ops = true) : ∀ (i : Nat) (o : Oper), ops[i]? = some o → ∀ c, o.op ≠ .defer c := fun i o ho c e => by
  have hm := Array.mem_of_getElem? ho
  have := (Array.all_eq_true_iff_forall_mem.1 h) o hm
  rw [e] at this
  simp at this
/-- a region with one condition held: inside a round -/
theorem wpIn_round_held {S : World → Prop} {id : Nat} {a : Act} {w : World} (hd : noDefer ops = true) (hm : P.follows .mixedOrders = true) (hS : S w.drew)
    (h : S w.drew → wpAnyH P .any ops (Only Q) S ops.size (Array.replicate ops.size false) a w.drew) : (Code.region id ops true).wpIn (Fence.wide.inRound l) n P Q a w :=
  wpIn_mono (wpIn_region_any hm (any_in (noDefer_spec hd) _ _ _ _ (wpAny_of_held _ _ _ _ (h hS)))) Only.imp
end Go.Proofs.Ytfjkiiajbeaaoaa.InRound
