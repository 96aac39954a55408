/- Reference: IsSure, Sum, Others, Other. -/
import Derived.Test.YtpgnplmjfhdncaaGreatKV5
namespace Go.Proofs.YtpgnplmjfhdncaaGreat
open Go.RowKit
set_option linter.unusedVariables false
/-- A power. -/
def powN (K : Int) : Nat → Int
  | 0 => 1
  | j + 1 => powN K j * K
theorem powN_bd {K : Int} (h1 : 1 ≤ K) (h6 : K ≤ 6) : ∀ j, j ≤ 5 → 1 ≤ powN K j ∧ powN K j ≤ 8000 := by
  intro j hj
  have h : K = 1 ∨ K = 2 ∨ K = 3 ∨ K = 4 ∨ K = 5 ∨ K = 6 := by omega
  match j, hj with
  | 0, _ => rcases h with rfl | rfl | rfl | rfl | rfl | rfl <;> decide
  | 1, _ => rcases h with rfl | rfl | rfl | rfl | rfl | rfl <;> decide
  | 2, _ => rcases h with rfl | rfl | rfl | rfl | rfl | rfl <;> decide
  | 3, _ => rcases h with rfl | rfl | rfl | rfl | rfl | rfl <;> decide
  | 4, _ => rcases h with rfl | rfl | rfl | rfl | rfl | rfl <;> decide
  | 5, _ => rcases h with rfl | rfl | rfl | rfl | rfl | rfl <;> decide
/-- How many numbers of baths there are. -/
def othersN (r : Rm) : Int := powN (r.places + 1) (r.cop.last + 1).toNat
/-- A number without its last digits. -/
def divN (K n : Int) : Nat → Int
  | 0 => n
  | j + 1 => divN K n j / K
theorem divN_bd {K n : Int} (h1 : 1 ≤ K) (h0 : 0 ≤ n) : ∀ j, 0 ≤ divN K n j ∧ divN K n j ≤ n
  | 0 => ⟨h0, Int.le_refl _⟩
  | j + 1 => by
    have h := divN_bd h1 h0 j
    refine ⟨Int.ediv_nonneg h.1 (by omega), Int.le_trans (Int.ediv_le_self _ h.1) h.2⟩
/-- The numbers of baths with a number. -/
def otherL (r : Rm) (n : Int) : List Int := rowI (fun i => divN (r.places + 1) n ((r.cop.last + 1).toNat - 1 - i) % (r.places + 1)) (r.cop.last + 1).toNat
theorem otherL_len (r : Rm) (n : Int) : (otherL r n).length = (r.cop.last + 1).toNat := by rw [otherL, rowI_len]
theorem otherL_bd {r : Rm} (ho : RoomOk r) (n : Int) (j : Nat) : 0 ≤ nth (otherL r n) j ∧ nth (otherL r n) j ≤ r.places := by
  by_cases hj : j < (r.cop.last + 1).toNat
  · rw [otherL, nth_rowI _ hj]
    have h0 := ho.p0
    have h1 := Int.emod_nonneg (divN (r.places + 1) n ((r.cop.last + 1).toNat - 1 - j)) (b := r.places + 1) (by omega)
    have h2 := Int.emod_lt_of_pos (divN (r.places + 1) n ((r.cop.last + 1).toNat - 1 - j)) (b := r.places + 1) (by omega)
    omega
  · rw [nth_out _ _ (by rw [otherL_len]; omega)]; have := ho.p0; omega
end Go.Proofs.YtpgnplmjfhdncaaGreat
