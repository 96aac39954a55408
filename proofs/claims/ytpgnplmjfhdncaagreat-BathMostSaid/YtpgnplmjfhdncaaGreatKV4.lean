/- BathPlays: its walk. -/
import Derived.Test.YtpgnplmjfhdncaaGreatKV1
namespace Go.Proofs.YtpgnplmjfhdncaaGreat
open Go.RowKit
set_option linter.unusedVariables false
end Go.Proofs.YtpgnplmjfhdncaaGreat
