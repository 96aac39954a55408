/- The most baths: the reference's, and that they are the program's. -/
import Derived.Test.YtpgnplmjfhdncaaGreatKL4
namespace Go.Proofs.YtpgnplmjfhdncaaGreat
open Go.RowKit
set_option linter.unusedVariables false
/-- The number whose first digits are the numbers of baths. -/
def valN (K : Int) (x : List Int) : Nat → Int
  | 0 => 0
  | j + 1 => valN K x j * K + nth x j
theorem divN_lt {K n : Int} (hK : 1 ≤ K) : ∀ j i, n < powN K (i + j) → divN K n j < powN K i
  | 0, i, h => h
  | j + 1, i, h => by
    have h1 := divN_lt hK j (i + 1) (by rw [show i + 1 + j = i + (j + 1) by omega]; exact h)
    exact Int.ediv_lt_of_lt_mul (by omega) h1
theorem divN_top {K n : Int} (hK : 1 ≤ K) (h0 : 0 ≤ n) (L : Nat) (h : n < powN K L) : divN K n L = 0 := by
  have h1 := divN_lt hK L 0 (by rw [Nat.zero_add]; exact h)
  have h2 := (divN_bd hK h0 L).1
  simp only [powN] at h1
  omega
theorem val_congr {K : Int} {x y : List Int} : ∀ i, (∀ j, j < i → nth x j = nth y j) → valN K x i = valN K y i
  | 0, _ => rfl
  | i + 1, h => by simp only [valN]; rw [val_congr i (fun j hj => h j (by omega)), h i (by omega)]
theorem val_other {r : Rm} (ho : RoomOk r) {n : Int} (h0 : 0 ≤ n) (h : n < othersN r) : ∀ j, j ≤ (r.cop.last + 1).toNat → valN (r.places + 1) (otherL r n) j = divN (r.places + 1) n ((r.cop.last + 1).toNat - j)
  | 0, _ => (divN_top (by have := ho.p0; omega) h0 _ h).symm
  | j + 1, hj => by
    have hp := ho.p0
    simp only [valN]
    rw [val_other ho h0 h j (by omega), otherL, nth_rowI _ (by omega : j < (r.cop.last + 1).toNat)]
    obtain ⟨D, hD⟩ : ∃ D, divN (r.places + 1) n ((r.cop.last + 1).toNat - (j + 1)) = D := ⟨_, rfl⟩
    rw [show (r.cop.last + 1).toNat - j = ((r.cop.last + 1).toNat - (j + 1)) + 1 by omega, show (r.cop.last + 1).toNat - 1 - j = (r.cop.last + 1).toNat - (j + 1) by omega]
    simp only [divN]
    rw [hD]
    have := Int.mul_ediv_add_emod D (r.places + 1)
    rw [Int.mul_comm] at this
    exact this
theorem val_bd {K : Int} {x : List Int} {L : Nat} (hx : ∀ j, j < L → 0 ≤ nth x j ∧ nth x j < K) : ∀ j, j ≤ L → 0 ≤ valN K x j ∧ valN K x j < powN K j
  | 0, _ => by simp [valN, powN]
  | j + 1, hj => by
    have h1 := val_bd hx j (by omega)
    have h2 := hx j (by omega)
    simp only [valN, powN]
    have h3 : 0 ≤ valN K x j * K := Int.mul_nonneg h1.1 (by omega)
    have h4 : (valN K x j + 1) * K ≤ powN K j * K := Int.mul_le_mul_of_nonneg_right (by omega) (by omega)
    rw [Int.add_mul] at h4
    omega
theorem val_lex {K : Int} {x y : List Int} {L : Nat} (hx : ∀ j, j < L → 0 ≤ nth x j ∧ nth x j < K) (hy : ∀ j, j < L → 0 ≤ nth y j ∧ nth y j < K) {i : Nat} (h : nth y i < nth x i) (he : ∀ j, j < i → nth y j = nth x j) : ∀ d, i + 1 + d ≤ L → valN K y (i + 1 + d) < valN K x (i + 1 + d)
  | 0, hd => by
    show valN K y i * K + nth y i < valN K x i * K + nth x i
    rw [val_congr i he]
    omega
  | d + 1, hd => by
    have h1 := val_lex hx hy h he d (by omega)
    have h2 := hx (i + 1 + d) (by omega)
    have h3 := hy (i + 1 + d) (by omega)
    show valN K y (i + 1 + d) * K + nth y (i + 1 + d) < valN K x (i + 1 + d) * K + nth x (i + 1 + d)
    have h4 : (valN K y (i + 1 + d) + 1) * K ≤ valN K x (i + 1 + d) * K := Int.mul_le_mul_of_nonneg_right (by omega) (by omega)
    rw [Int.add_mul] at h4
    omega
theorem val_inj {K : Int} {x y : List Int} {L : Nat} (hx : ∀ j, j < L → 0 ≤ nth x j ∧ nth x j < K) (hy : ∀ j, j < L → 0 ≤ nth y j ∧ nth y j < K) (h : valN K x L = valN K y L) : ∀ j, j < L → nth x j = nth y j := by
  rcases lex_tri L x y with ⟨i, h1, h2, h3⟩ | ⟨i, h1, h2, h3⟩ | h3
  · have := val_lex hy hx h2 h3 (L - (i + 1)) (by omega)
    rw [show i + 1 + (L - (i + 1)) = L by omega] at this
    omega
  · have := val_lex hx hy h2 h3 (L - (i + 1)) (by omega)
    rw [show i + 1 + (L - (i + 1)) = L by omega] at this
    omega
  · exact h3
theorem other_box {r : Rm} (ho : RoomOk r) (n : Int) : InBox (r.places + 1) (r.cop.last + 1).toNat (otherL r n) :=
  ⟨fun j _ => by have := otherL_bd ho n j; omega, fun j hj => nth_out _ _ (by rw [otherL_len]; omega)⟩
theorem other_val {r : Rm} (ho : RoomOk r) {n : Int} (h0 : 0 ≤ n) (h : n < othersN r) : valN (r.places + 1) (otherL r n) (r.cop.last + 1).toNat = n := by
  rw [val_other ho h0 h _ (Nat.le_refl _), Nat.sub_self]
  rfl
theorem other_onto {r : Rm} (ho : RoomOk r) {y : List Int} (hy : InBox (r.places + 1) (r.cop.last + 1).toNat y) : ∃ m : Nat, (m : Int) < othersN r ∧ ∀ j, nth (otherL r m) j = nth y j := by
  have h1 := val_bd hy.1 _ (Nat.le_refl _)
  refine ⟨(valN (r.places + 1) y (r.cop.last + 1).toNat).toNat, by have := h1.2; unfold othersN; omega, fun j => ?_⟩
  rw [Int.toNat_of_nonneg h1.1]
  by_cases hj : j < (r.cop.last + 1).toNat
  · exact val_inj (other_box ho _).1 hy.1 (other_val ho h1.1 h1.2) j hj
  · rw [hy.2 j (by omega), (other_box ho _).2 j (by omega)]
theorem other_lex {r : Rm} (ho : RoomOk r) {m n : Nat} (hm : (m : Int) < othersN r) (hn : (n : Int) < othersN r) (h : LexB (r.cop.last + 1).toNat (otherL r m) (otherL r n)) : m < n := by
  obtain ⟨i, h1, h2, h3⟩ := h
  have := val_lex (other_box ho n).1 (other_box ho m).1 h2 h3 ((r.cop.last + 1).toNat - (i + 1)) (by omega)
  rw [show i + 1 + ((r.cop.last + 1).toNat - (i + 1)) = (r.cop.last + 1).toNat by omega, other_val ho (by omega) hm, other_val ho (by omega) hn] at this
  omega
theorem sum_other {r : Rm} (ho : RoomOk r) (n : Int) : sumN (otherL r n) (otherL r n).length = sumN (otherL r n) 5 := (sumN_five (by rw [otherL_len]; have := ho.cop.l4; omega)).symm
end Go.Proofs.YtpgnplmjfhdncaaGreat
