/- What the printed divisions come to. -/
import Derived.Test.YtcamaleanlblfaaQx1
import Derived.Test.YtcamaleanlblfaaQx3
import Derived.Test.YtcamaleanlblfaaCPoly
import Derived.Test.YtcamaleanlblfaaQx4
import Derived.Test.YtcamaleanlblfaaETabV
set_option linter.unusedVariables false
set_option linter.unusedSimpArgs false
namespace Go.Proofs.Ytcamaleanlblfaa.Q
open Go.RowKit Go.Proofs.YtcamaleanlblfaaW.PrintWords Go.Proofs.YtcamaleanlblfaaW.PrintLast Go.Proofs.YtcamaleanlblfaaW.PrintMore Go.Proofs.Ytcamaleanlblfaa.Bits Go.Proofs.Ytcamaleanlblfaa GF PolyT
theorem tr_length {l : List F} (h : Tr l) : len l = l.length := h
theorem clone_V (l : List F) (hs : l.length < 8192) : slices_Clone_uint32_uint32.f (V l) = some (V l) := by
  unfold slices_Clone_uint32_uint32.f
  simp only [Option.bind_some, List.nil_append, List.length_nil, V_length]
  rw [if_pos (by omega)]
theorem trim_V (l : List F) (hs : Small l) : Ev (fun k => poly_Trim.f k (V l)) (V (trim l)) := by
  unfold poly_Trim.f
  have := len_le l
  exact Ev.bind (cut_V l hs) (Ev.bind' (clone_V _ (by rw [trim_length]; omega)) Ev.some')
end Go.Proofs.Ytcamaleanlblfaa.Q
/- What the printed divisions come to. -/
set_option linter.unusedVariables false
set_option linter.unusedSimpArgs false
namespace Go.Proofs.Ytcamaleanlblfaa.Q
open Go.RowKit Go.Proofs.YtcamaleanlblfaaW.PrintWords Go.Proofs.YtcamaleanlblfaaW.PrintLast Go.Proofs.YtcamaleanlblfaaW.PrintMore Go.Proofs.Ytcamaleanlblfaa.Bits Go.Proofs.Ytcamaleanlblfaa GF PolyT
/-! ### scaling -/
theorem scale_all (c : F) (l : List F) : poly_Scale.all (v c) (V l) = V (sc c l) := by
  unfold poly_Scale.all V sc
  rw [List.map_map, List.map_map]
  apply List.map_congr_left
  intro x _
  exact ETab.tm_v c x
theorem scale_V (c : F) (l : List F) (hs : Small l) : Ev (fun k => poly_Scale.f k (V l) (v c)) (V (trim (sc c l))) := by
  unfold poly_Scale.f
  rw [scale_all, V_length]
  exact Ev.pos (by omega) (cut_V _ (by unfold Small; rw [sc_length]; exact hs))
end Go.Proofs.Ytcamaleanlblfaa.Q
