/- A digest's cells, one by one. -/
import Derived.Test.YtlgfekllkahfaaaDoorShaI
set_option linter.unusedVariables false
set_option linter.unusedSimpArgs false
namespace Go.Proofs.YtlgfekllkahfaaaDoor.ShaW
open Go.RowKit Go.Proofs.YtlgfekllkahfaaaDoorW.PrintWords Go.Proofs.YtlgfekllkahfaaaDoorW.PrintMore Go.Proofs.YtlgfekllkahfaaaDoor Go.Proofs.YtlgfekllkahfaaaDoor.Bits Sha ArrK
theorem nums_rd (l : List Int) (k : Nat) (h : k < l.length) : (nums .u8 l)[k]? = some (.int .u8 (rd l (k : Int))) := by
  unfold rd
  simp [nums, List.getD_eq_getElem?_getD, List.getElem?_eq_getElem h]
end Go.Proofs.YtlgfekllkahfaaaDoor.ShaW
