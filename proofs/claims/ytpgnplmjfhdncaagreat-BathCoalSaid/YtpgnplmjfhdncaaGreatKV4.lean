/- BathPlays: its walk. -/
import Derived.Test.YtpgnplmjfhdncaaGreatKV1
namespace Go.Proofs.YtpgnplmjfhdncaaGreat
open Go.RowKit
set_option linter.unusedVariables false
theorem list_c (xs : List Int) (a : Option Addr) (c : Nat) (w : World) (hn : xs.length ≤ 10000) (hx : IntsAt w w.heap.size a xs) (hp : Pl a xs.length c) :
    Calls Tryz.prog 26 #[.slice a xs.length c] w fun e w' => ∃ A K, e = .returned (.slice A xs.length K) ∧ IntsAt w' w'.heap.size A xs ∧ Below w.heap.size w w' :=
  (list26_c xs a c w hn hx hp).mono fun e w' ⟨v, h1, h2, h3⟩ => by
    obtain ⟨A, K, rfl⟩ := own_shape6 h2
    exact ⟨A, K, h1, own_ints' h2, h3⟩
end Go.Proofs.YtpgnplmjfhdncaaGreat
