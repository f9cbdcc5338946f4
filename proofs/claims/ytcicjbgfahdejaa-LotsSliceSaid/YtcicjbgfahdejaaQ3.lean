/- This session's own: the section's example, told by evaluation. -/
import Derived.Test.YtcicjbgfahdejaaPx6
import Derived.Test.YtcicjbgfahdejaaQ1
namespace Go.Proofs.Ytcicjbgfahdejaa.P
open Go.RowKit Go.Proofs.YtcicjbgfahdejaaW.PrintWords Go.Proofs.YtcicjbgfahdejaaW.PrintLast Go.Proofs.YtcicjbgfahdejaaW.PrintMore
set_option linter.unusedSimpArgs false
set_option linter.unusedVariables false
set_option maxRecDepth 100000
theorem lives_110 : worldmintlaw14_lives.f 110 = some true := by kernel_rfl
end Go.Proofs.Ytcicjbgfahdejaa.P
