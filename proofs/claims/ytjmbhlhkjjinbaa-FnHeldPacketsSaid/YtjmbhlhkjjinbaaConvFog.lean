/- Fogs carried over, measured, compared, marked: what each helper of the statements returns. No condition. -/
import Derived.Test.YtjmbhlhkjjinbaaRow
import Derived.StillTailTactics
namespace Go.Proofs.Ytjmbhlhkjjinbaa
open Go.RowKit
set_option linter.unusedSimpArgs false
set_option linter.unusedVariables false

theorem info_Fog : (Try.prog.info? 78).map (fun i => (i.zero, i.size, i.bytes)) = some (some (.agg #[.int .i64 0, .int .i64 0, .int .i64 0]), 3, 24) := by kernel_rfl

end Go.Proofs.Ytjmbhlhkjjinbaa