/- Part 13. -/
import Derived.Test.YtbnepjakjmnadaaGreatSb12
set_option linter.all false
set_option maxHeartbeats 2000000
section
noncomputable section
namespace Go.Proofs.YtbnepjakjmnadaaGreat
open Go.ZU Go.RowKit
end Go.Proofs.YtbnepjakjmnadaaGreat
end
end
