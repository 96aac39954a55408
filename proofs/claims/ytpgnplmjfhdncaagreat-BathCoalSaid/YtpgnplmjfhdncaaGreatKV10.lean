/- BathFree: its walk. -/
import Derived.Test.YtpgnplmjfhdncaaGreatKV8
import Derived.Test.YtpgnplmjfhdncaaGreatKV9
namespace Go.Proofs.YtpgnplmjfhdncaaGreat
open Go.RowKit
set_option linter.unusedVariables false
end Go.Proofs.YtpgnplmjfhdncaaGreat
