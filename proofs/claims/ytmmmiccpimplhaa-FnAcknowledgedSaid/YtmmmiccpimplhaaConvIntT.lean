/- The helper toIntS of the statements is told in ConvInt, which gen_conv.py prints for each seat anew. No condition. -/
import Derived.Test.YtmmmiccpimplhaaConvInt
namespace Go.Proofs.Ytmmmiccpimplhaa
open Go.RowKit
set_option linter.unusedSimpArgs false
set_option linter.unusedVariables false
theorem convIntT_none : True := trivial
end Go.Proofs.Ytmmmiccpimplhaa
