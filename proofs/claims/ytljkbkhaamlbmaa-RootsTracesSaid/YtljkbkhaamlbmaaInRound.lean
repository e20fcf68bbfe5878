/- A statement that draws its order, in a round of a range over a function: it goes as it goes outside. -/
import Derived.Test.YtljkbkhaamlbmaaProg
import Derived.OrdersHeld
import Derived.OrdersIn
import Derived.RangeFuncCalls
import Derived.Deep.RegionHeld3
set_option linter.unusedVariables false
set_option linter.unusedSimpArgs false
namespace Go.Proofs.Ytljkbkhaamlbmaa.InRound
variable {P : Program} {ops : Array Oper} {Q : Exit → Act → World → Prop} {md : Region.Mode} {l n : Nat}
theorem op_at {ops : Array Oper} {i : Nat} {o : Oper} (h : (ops.toList.drop i).head? = some o) : ops[i]? = some o := by
  rw [List.head?_drop] at h; simpa using h
def Only (Q : Exit → Act → World → Prop) : Exit → Act → World → Prop
  | .normal, a, w => Q .normal a w
  | _, _, _ => False
theorem Only.imp : ∀ (e : Exit) (a : Act) (w : World), Only Q e a w → Q e a w := fun e a w h => by cases e <;> first | exact h | exact h.elim
theorem Only.normal {a : Act} {w : World} (h : Q .normal a w) : Only Q .normal a w := h
def noDefer (ops : Array Oper) : Bool := ops.all fun o => !(o.op matches .defer _)
end Go.Proofs.Ytljkbkhaamlbmaa.InRound
