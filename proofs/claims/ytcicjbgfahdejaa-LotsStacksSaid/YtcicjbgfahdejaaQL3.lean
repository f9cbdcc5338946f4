/- This session's own: the section's example, told by evaluation. -/
import Derived.Test.YtcicjbgfahdejaaPD
import Derived.Test.YtcicjbgfahdejaaQ1
namespace Go.Proofs.Ytcicjbgfahdejaa.P
open Go Go.RowKit Go.Proofs.YtcicjbgfahdejaaW.PrintWords Go.Proofs.YtcicjbgfahdejaaW.PrintLast Go.Proofs.YtcicjbgfahdejaaW.PrintMore
set_option linter.unusedSimpArgs false
set_option linter.unusedVariables false
set_option maxRecDepth 100000
theorem lives_2000000 : worldmintlaw14_lives.f 2000000 = some true := by kernel_rfl
end Go.Proofs.Ytcicjbgfahdejaa.P
