import Derived.Test.YtljkbkhaamlbmaaRx0
import Derived.Test.YtljkbkhaamlbmaaRx10
namespace Go.Proofs.Ytljkbkhaamlbmaa.R
open Go.RowKit Go.Proofs.YtljkbkhaamlbmaaW.PrintWords Go.Proofs.YtljkbkhaamlbmaaW.PrintLast Go.Proofs.YtljkbkhaamlbmaaW.PrintMore
attribute [local go_sem] max2_int min2_int max_two min_two max_three min_three max_four min_four   -- for this text's walks alone
set_option linter.unusedVariables false
set_option linter.unusedSimpArgs false

end Go.Proofs.Ytljkbkhaamlbmaa.R
