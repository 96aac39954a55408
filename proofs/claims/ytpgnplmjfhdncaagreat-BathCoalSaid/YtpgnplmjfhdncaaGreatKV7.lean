/- Reference: Most. -/
import Derived.Test.YtpgnplmjfhdncaaGreatKV6
namespace Go.Proofs.YtpgnplmjfhdncaaGreat
open Go.RowKit
set_option linter.unusedVariables false
end Go.Proofs.YtpgnplmjfhdncaaGreat
