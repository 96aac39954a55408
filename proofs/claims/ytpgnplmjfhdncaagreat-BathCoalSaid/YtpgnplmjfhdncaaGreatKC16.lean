/- A part of the proof: C16, C17. -/
import Derived.Test.YtpgnplmjfhdncaaGreatKC13
import Derived.Test.YtpgnplmjfhdncaaGreatKB2
namespace Go.Proofs.YtpgnplmjfhdncaaGreat
open Go.RowKit
set_option linter.unusedVariables false
end Go.Proofs.YtpgnplmjfhdncaaGreat
namespace Go.Proofs.YtpgnplmjfhdncaaGreat
open Go.RowKit
set_option linter.unusedVariables false
theorem idxN_cong {p p' : Nat → Bool} : ∀ (d i : Nat), (∀ j, i ≤ j → j < i + d → p j = p' j) → idxN p i d = idxN p' i d := by
  intro d
  induction d with
  | zero => intro i _; rfl
  | succ d ih => intro i h; simp only [idxN]; rw [h i (by omega) (by omega), ih (i + 1) (fun j h1 h2 => h j (by omega) (by omega))]
end Go.Proofs.YtpgnplmjfhdncaaGreat
