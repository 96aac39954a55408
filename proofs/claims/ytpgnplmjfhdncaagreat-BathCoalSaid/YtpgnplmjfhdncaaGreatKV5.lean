/- Whether all is kept, by the reference; BathKeeps: its walk. -/
import Derived.Test.YtpgnplmjfhdncaaGreatKV4
namespace Go.Proofs.YtpgnplmjfhdncaaGreat
open Go.RowKit
set_option linter.unusedVariables false
theorem truthsR_small {c : Cop} (ho : Okc c) : (truthsR c).length ≤ 2000 := by
  have h1 := truthsN_len c (manyN c c.loss.length).toNat
  have h2 := manyN_ok ho
  unfold truthsR
  omega
theorem truthsR_sc {c : Cop} (ho : Okc c) : ∀ j, j < (truthsR c).length → IsSc c (scN (truthsR c) j) := fun j hj => by
  have h1 : scN (truthsR c) j ∈ truthsC c := (mem_truthsR ho _).1 (scN_mem hj)
  obtain ⟨k, hk, h2⟩ := mem_scN h1
  rw [← h2]
  exact truths_sc ho.l0 k hk
end Go.Proofs.YtpgnplmjfhdncaaGreat
