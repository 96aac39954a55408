/- BathMost: its walk. -/
import Derived.Test.YtpgnplmjfhdncaaGreatKL5
namespace Go.Proofs.YtpgnplmjfhdncaaGreat
open Go.RowKit
set_option linter.unusedVariables false
theorem thin_short {r : Rm} (h : ThinB r = true) : shortB r = true := by unfold ThinB at h; simp only [Bool.and_eq_true] at h; exact h.1
end Go.Proofs.YtpgnplmjfhdncaaGreat
