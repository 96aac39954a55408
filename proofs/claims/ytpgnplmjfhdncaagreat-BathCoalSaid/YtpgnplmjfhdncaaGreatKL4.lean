/- The most baths: the program's are the reference's. -/
import Derived.Test.YtpgnplmjfhdncaaGreatKV7
namespace Go.Proofs.YtpgnplmjfhdncaaGreat
open Go.RowKit
set_option linter.unusedVariables false
theorem sumN_more (x : List Int) : ∀ d, sumN x (x.length + d) = sumN x x.length
  | 0 => rfl
  | d + 1 => by
    show sumN x (x.length + d) + nth x (x.length + d) = _
    rw [sumN_more x d, nth_out _ _ (by omega)]; omega
theorem sumN_five {x : List Int} (h : x.length ≤ 5) : sumN x 5 = sumN x x.length := by
  have := sumN_more x (5 - x.length)
  rwa [show x.length + (5 - x.length) = 5 by omega] at this
theorem sumN_congr {x y : List Int} : ∀ n, (∀ j, j < n → nth x j = nth y j) → sumN x n = sumN y n
  | 0, _ => rfl
  | n + 1, h => by simp only [sumN]; rw [sumN_congr n (fun j hj => h j (by omega)), h n (by omega)]
/-- Lexicographically before, in the first hours. -/
def LexB (L : Nat) (a b : List Int) : Prop := ∃ i, i < L ∧ nth a i < nth b i ∧ ∀ j, j < i → nth a j = nth b j
/-- Numbers of baths, of which less than K are in each of the first L hours, none later. -/
def InBox (K : Int) (L : Nat) (y : List Int) : Prop := (∀ j, j < L → 0 ≤ nth y j ∧ nth y j < K) ∧ ∀ j, L ≤ j → nth y j = 0
/-- The greatest sum of sure ones, and the first of these. -/
structure Best (r : Rm) (K : Int) (L : Nat) (x : List Int) : Prop where
  box : InBox K L x
  sure : sureB r x = true
  top : ∀ y, InBox K L y → sureB r y = true → sumN y 5 < sumN x 5 ∨ (sumN y 5 = sumN x 5 ∧ ¬ LexB L y x)
theorem lex_tri (L : Nat) (a b : List Int) : LexB L a b ∨ LexB L b a ∨ ∀ j, j < L → nth a j = nth b j := by
  induction L with
  | zero => exact .inr (.inr fun j hj => by omega)
  | succ L ih =>
    rcases ih with ⟨i, h1, h2, h3⟩ | ⟨i, h1, h2, h3⟩ | h
    · exact .inl ⟨i, by omega, h2, h3⟩
    · exact .inr (.inl ⟨i, by omega, h2, h3⟩)
    · rcases Int.lt_trichotomy (nth a L) (nth b L) with g | g | g
      · exact .inl ⟨L, by omega, g, h⟩
      · refine .inr (.inr fun j hj => ?_)
        by_cases he : j = L
        · rw [he]; exact g
        · exact h j (by omega)
      · exact .inr (.inl ⟨L, by omega, g, fun j hj => (h j hj).symm⟩)
theorem Best.unique {r : Rm} {K : Int} {L : Nat} {x y : List Int} (hx : Best r K L x) (hy : Best r K L y) : ∀ j, nth x j = nth y j := by
  have h1 := hx.top y hy.box hy.sure
  have h2 := hy.top x hx.box hx.sure
  have h3 : ¬ LexB L y x ∧ ¬ LexB L x y := by
    rcases h1 with h1 | h1
    · omega
    · rcases h2 with h2 | h2
      · omega
      · exact ⟨h1.2, h2.2⟩
  intro j
  by_cases hj : j < L
  · rcases lex_tri L x y with h | h | h
    · exact absurd h h3.2
    · exact absurd h h3.1
    · exact h j hj
  · rw [hx.box.2 j (by omega), hy.box.2 j (by omega)]
end Go.Proofs.YtpgnplmjfhdncaaGreat
