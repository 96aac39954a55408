/- The most baths: the reference's, and that they are the program's. -/
import Derived.Test.YtpgnplmjfhdncaaGreatKL4
namespace Go.Proofs.YtpgnplmjfhdncaaGreat
open Go.RowKit
set_option linter.unusedVariables false
/-- The number whose first digits are the numbers of baths. -/
def valN (K : Int) (x : List Int) : Nat → Int
  | 0 => 0
  | j + 1 => valN K x j * K + nth x j
theorem divN_lt {K n : Int} (hK : 1 ≤ K) : ∀ j i, n < powN K (i + j) → divN K n j < powN K i
  | 0, i, h => h
  | j + 1, i, h => by
    have h1 := divN_lt hK j (i + 1) (by rw [show i + 1 + j = i + (j + 1) by omega]; exact h)
    exact Int.ediv_lt_of_lt_mul (by omega) h1
theorem divN_top {K n : Int} (hK : 1 ≤ K) (h0 : 0 ≤ n) (L : Nat) (h : n < powN K L) : divN K n L = 0 := by
  have h1 := divN_lt hK L 0 (by rw [Nat.zero_add]; exact h)
  have h2 := (divN_bd hK h0 L).1
  simp only [powN] at h1
  omega
theorem val_congr {K : Int} {x y : List Int} : ∀ i, (∀ j, j < i → nth x j = nth y j) → valN K x i = valN K y i
  | 0, _ => rfl
  | i + 1, h => by simp only [valN]; rw [val_congr i (fun j hj => h j (by omega)), h i (by omega)]
theorem val_other {r : Rm} (ho : RoomOk r) {n : Int} (h0 : 0 ≤ n) (h : n < othersN r) : ∀ j, j ≤ (r.cop.last + 1).toNat → valN (r.places + 1) (otherL r n) j = divN (r.places + 1) n ((r.cop.last + 1).toNat - j)
  | 0, _ => (divN_top (by have := ho.p0; omega) h0 _ h).symm
  | j + 1, hj => by
    have hp := ho.p0
    simp only [valN]
    rw [val_other ho h0 h j (by omega), otherL, nth_rowI _ (by omega : j < (r.cop.last + 1).toNat)]
    obtain ⟨D, hD⟩ : ∃ D, divN (r.places + 1) n ((r.cop.last + 1).toNat - (j + 1)) = D := ⟨_, rfl⟩
    rw [show (r.cop.last + 1).toNat - j = ((r.cop.last + 1).toNat - (j + 1)) + 1 by omega, show (r.cop.last + 1).toNat - 1 - j = (r.cop.last + 1).toNat - (j + 1) by omega]
    simp only [divN]
    rw [hD]
    have := Int.mul_ediv_add_emod D (r.places + 1)
    rw [Int.mul_comm] at this
    exact this
theorem val_bd {K : Int} {x : List Int} {L : Nat} (hx : ∀ j, j < L → 0 ≤ nth x j ∧ nth x j < K) : ∀ j, j ≤ L → 0 ≤ valN K x j ∧ valN K x j < powN K j
  | 0, _ => by simp [valN, powN]
  | j + 1, hj => by
    have h1 := val_bd hx j (by omega)
    have h2 := hx j (by omega)
    simp only [valN, powN]
    have h3 : 0 ≤ valN K x j * K := Int.mul_nonneg h1.1 (by omega)
    have h4 : (valN K x j + 1) * K ≤ powN K j * K := Int.mul_le_mul_of_nonneg_right (by omega) (by omega)
    rw [Int.add_mul] at h4
    omega
theorem val_lex {K : Int} {x y : List Int} {L : Nat} (hx : ∀ j, j < L → 0 ≤ nth x j ∧ nth x j < K) (hy : ∀ j, j < L → 0 ≤ nth y j ∧ nth y j < K) {i : Nat} (h : nth y i < nth x i) (he : ∀ j, j < i → nth y j = nth x j) : ∀ d, i + 1 + d ≤ L → valN K y (i + 1 + d) < valN K x (i + 1 + d)
  | 0, hd => by
    show valN K y i * K + nth y i < valN K x i * K + nth x i
    rw [val_congr i he]
    omega
  | d + 1, hd => by
    have h1 := val_lex hx hy h he d (by omega)
    have h2 := hx (i + 1 + d) (by omega)
    have h3 := hy (i + 1 + d) (by omega)
    show valN K y (i + 1 + d) * K + nth y (i + 1 + d) < valN K x (i + 1 + d) * K + nth x (i + 1 + d)
    have h4 : (valN K y (i + 1 + d) + 1) * K ≤ valN K x (i + 1 + d) * K := Int.mul_le_mul_of_nonneg_right (by omega) (by omega)
    rw [Int.add_mul] at h4
    omega
theorem val_inj {K : Int} {x y : List Int} {L : Nat} (hx : ∀ j, j < L → 0 ≤ nth x j ∧ nth x j < K) (hy : ∀ j, j < L → 0 ≤ nth y j ∧ nth y j < K) (h : valN K x L = valN K y L) : ∀ j, j < L → nth x j = nth y j := by
  rcases lex_tri L x y with ⟨i, h1, h2, h3⟩ | ⟨i, h1, h2, h3⟩ | h3
  · have := val_lex hy hx h2 h3 (L - (i + 1)) (by omega)
    rw [show i + 1 + (L - (i + 1)) = L by omega] at this
    omega
  · have := val_lex hx hy h2 h3 (L - (i + 1)) (by omega)
    rw [show i + 1 + (L - (i + 1)) = L by omega] at this
    omega
  · exact h3
theorem other_box {r : Rm} (ho : RoomOk r) (n : Int) : InBox (r.places + 1) (r.cop.last + 1).toNat (otherL r n) :=
  ⟨fun j _ => by have := otherL_bd ho n j; omega, fun j hj => nth_out _ _ (by rw [otherL_len]; omega)⟩
theorem other_val {r : Rm} (ho : RoomOk r) {n : Int} (h0 : 0 ≤ n) (h : n < othersN r) : valN (r.places + 1) (otherL r n) (r.cop.last + 1).toNat = n := by
  rw [val_other ho h0 h _ (Nat.le_refl _), Nat.sub_self]
  rfl
theorem other_onto {r : Rm} (ho : RoomOk r) {y : List Int} (hy : InBox (r.places + 1) (r.cop.last + 1).toNat y) : ∃ m : Nat, (m : Int) < othersN r ∧ ∀ j, nth (otherL r m) j = nth y j := by
  have h1 := val_bd hy.1 _ (Nat.le_refl _)
  refine ⟨(valN (r.places + 1) y (r.cop.last + 1).toNat).toNat, by have := h1.2; unfold othersN; omega, fun j => ?_⟩
  rw [Int.toNat_of_nonneg h1.1]
  by_cases hj : j < (r.cop.last + 1).toNat
  · exact val_inj (other_box ho _).1 hy.1 (other_val ho h1.1 h1.2) j hj
  · rw [hy.2 j (by omega), (other_box ho _).2 j (by omega)]
theorem other_lex {r : Rm} (ho : RoomOk r) {m n : Nat} (hm : (m : Int) < othersN r) (hn : (n : Int) < othersN r) (h : LexB (r.cop.last + 1).toNat (otherL r m) (otherL r n)) : m < n := by
  obtain ⟨i, h1, h2, h3⟩ := h
  have := val_lex (other_box ho n).1 (other_box ho m).1 h2 h3 ((r.cop.last + 1).toNat - (i + 1)) (by omega)
  rw [show i + 1 + ((r.cop.last + 1).toNat - (i + 1)) = (r.cop.last + 1).toNat by omega, other_val ho (by omega) hm, other_val ho (by omega) hn] at this
  omega
theorem mostRF_inv (r : Rm) : ∀ n, ((mostRF r n).2 = false → ∀ m : Nat, m < n → sureB r (otherL r m) = false) ∧ ((mostRF r n).2 = true → ∃ m0 : Nat, m0 < n ∧ (mostRF r n).1 = otherL r m0 ∧ sureB r (otherL r m0) = true ∧ ∀ m : Nat, m < n → sureB r (otherL r m) = true → sumN (otherL r m) (otherL r m).length < sumN (otherL r m0) (otherL r m0).length ∨ (sumN (otherL r m) (otherL r m).length = sumN (otherL r m0) (otherL r m0).length ∧ m0 ≤ m))
  | 0 => ⟨fun _ m hm => by omega, fun h => by simp [mostRF] at h⟩
  | n + 1 => by
    obtain ⟨h1, h2⟩ := mostRF_inv r n
    rw [mostRF]
    split
    · rename_i hc
      refine ⟨fun h => by simp at h, fun _ => ⟨n, by omega, rfl, hc.2, fun m hm hs => ?_⟩⟩
      by_cases he : m = n
      · subst he; exact .inr ⟨rfl, Nat.le_refl _⟩
      · cases hb : (mostRF r n).2 with
        | false => rw [h1 hb m (by omega)] at hs; cases hs
        | true =>
          obtain ⟨m0, g1, g2, g3, g4⟩ := h2 hb
          rcases hc.1 with h | h
          · rw [hb] at h; cases h
          · rw [g2] at h
            rcases g4 m (by omega) hs with g | g <;> exact .inl (by omega)
    · rename_i hc
      refine ⟨fun h m hm => ?_, fun h => ?_⟩
      · by_cases he : m = n
        · subst he
          cases hs : sureB r (otherL r m) with
          | false => rfl
          | true => exact absurd ⟨.inl h, hs⟩ hc
        · exact h1 h m (by omega)
      · obtain ⟨m0, g1, g2, g3, g4⟩ := h2 h
        refine ⟨m0, by omega, g2, g3, fun m hm hs => ?_⟩
        by_cases he : m = n
        · subst he
          have hn : ¬ sumN (mostRF r m).1 (mostRF r m).1.length < sumN (otherL r m) (otherL r m).length := fun g => hc ⟨.inr g, hs⟩
          rw [g2] at hn
          exact (Int.lt_or_eq_of_le (Int.not_lt.1 hn)).imp id fun e => ⟨e, by omega⟩
        · exact g4 m (by omega) hs
theorem sum_other {r : Rm} (ho : RoomOk r) (n : Int) : sumN (otherL r n) (otherL r n).length = sumN (otherL r n) 5 := (sumN_five (by rw [otherL_len]; have := ho.cop.l4; omega)).symm
theorem sure_eq {r : Rm} (ho : RoomOk r) {a b : List Int} (h0 : ∀ j, 0 ≤ nth a j) (hab : ∀ j, nth a j = nth b j) : sureB r a = sureB r b := by
  cases h : sureB r b with
  | true => exact sure_mono ho (fun j _ => h0 j) (fun j _ => by rw [hab j]; omega) h
  | false =>
    cases g : sureB r a with
    | false => rfl
    | true => rw [sure_mono ho (a := b) (b := a) (fun j _ => by rw [← hab j]; exact h0 j) (fun j _ => by rw [hab j]; omega) g] at h; cases h
/-- The most baths of the reference. -/
theorem rmost_no {r : Rm} (ho : RoomOk r) (hs : sureB r [] = false) : (mostRF r (othersN r).toNat).2 = false := by
  cases h : (mostRF r (othersN r).toNat).2 with
  | false => rfl
  | true =>
    obtain ⟨m0, _, _, g, _⟩ := (mostRF_inv r _).2 h
    rw [sure_mono ho (a := []) (fun j _ => by rw [nth_out _ _ (by simp)]; omega) (fun j _ => by rw [nth_out [] j (by simp)]; exact (otherL_bd ho m0 j).1) g] at hs
    cases hs
theorem rmost_best {r : Rm} (ho : RoomOk r) (hs : sureB r [] = true) : (mostRF r (othersN r).toNat).2 = true ∧ ∃ m0 : Nat, (mostRF r (othersN r).toNat).1 = otherL r m0 ∧ Best r (r.places + 1) (r.cop.last + 1).toNat (otherL r m0) := by
  have hp0 := ho.p0
  have hnil : InBox (r.places + 1) (r.cop.last + 1).toNat [] := ⟨fun j _ => by rw [nth_out _ _ (by simp)]; omega, fun j _ => nth_out _ _ (by simp)⟩
  obtain ⟨h1, h2⟩ := mostRF_inv r (othersN r).toNat
  have h3 : (mostRF r (othersN r).toNat).2 = true := by
    cases h : (mostRF r (othersN r).toNat).2 with
    | true => rfl
    | false =>
      obtain ⟨m, g1, g2⟩ := other_onto ho hnil
      have := h1 h m (by omega)
      rw [sure_eq ho (fun j => (otherL_bd ho m j).1) g2, hs] at this
      cases this
  refine ⟨h3, ?_⟩
  obtain ⟨m0, g1, g2, g3, g4⟩ := h2 h3
  refine ⟨m0, g2, other_box ho _, g3, fun y hy hys => ?_⟩
  obtain ⟨m, e1, e2⟩ := other_onto ho hy
  have e3 : sumN (otherL r m) 5 = sumN y 5 := sumN_congr 5 fun j _ => e2 j
  have e4 := g4 m (by omega) (by rw [sure_eq ho (fun j => (otherL_bd ho m j).1) e2]; exact hys)
  rw [sum_other ho, sum_other ho, e3] at e4
  refine e4.imp id fun ⟨e5, e6⟩ => ⟨e5, ?_⟩
  rintro ⟨i, q1, q2, q3⟩
  have := other_lex ho (m := m) (n := m0) e1 (by omega) ⟨i, q1, by rw [e2 i]; exact q2, fun j hj => by rw [e2 j]; exact q3 j hj⟩
  omega
/-- Both are the same. -/
theorem most_eq {r : Rm} (ho : RoomOk r) (hs : sureB r [] = true) : (mostRF r (othersN r).toNat).1 = mostL r := by
  obtain ⟨_, m0, h1, h2⟩ := rmost_best ho hs
  rw [h1]
  have h3 := h2.unique (most_best ho hs)
  unfold mostL
  have h4 : otherL r m0 = rowI (nth (otherL r m0)) (r.cop.last + 1).toNat := by
    conv => lhs; unfold otherL
    exact rowI_congr fun j hj => by rw [otherL, nth_rowI _ hj]
  rw [h4]
  exact rowI_congr fun j _ => h3 j
end Go.Proofs.YtpgnplmjfhdncaaGreat
