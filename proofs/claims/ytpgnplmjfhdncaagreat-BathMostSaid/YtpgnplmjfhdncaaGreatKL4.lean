/- The most baths: the program's are the reference's. -/
import Derived.Test.YtpgnplmjfhdncaaGreatKV7
namespace Go.Proofs.YtpgnplmjfhdncaaGreat
open Go.RowKit
set_option linter.unusedVariables false
theorem sure_mono {r : Rm} (ho : RoomOk r) {a b : List Int} (h0 : ∀ j : Nat, (j : Int) ≤ r.cop.last → 0 ≤ nth a j) (hab : ∀ j : Nat, (j : Int) ≤ r.cop.last → nth a j ≤ nth b j) (hb : sureB r b = true) : sureB r a = true := by
  rw [sureB_iff ho] at hb ⊢
  have hb1 := ho.b1
  refine ⟨canB_iff.2 fun k hk => ?_, hb.2.mono (by have := ho.cop.p1; omega) fun i => ?_⟩
  · have h1 := canB_iff.1 hb.1 k hk
    have h2 := h0 k hk
    have h3 := hab k hk
    rw [roomB_iff (by omega)] at h1
    rw [roomB_iff h2]
    have h4 : r.buckets * nth a k ≤ r.buckets * nth b k := Int.mul_le_mul_of_nonneg_left h3 (by omega)
    omega
  · by_cases hi : i < (r.cop.last + 1).toNat
    · rw [wantN_at _ _ hi, wantN_at _ _ hi]
      have h3 := hab i (by omega)
      have h4 : r.buckets * nth a i ≤ r.buckets * nth b i := Int.mul_le_mul_of_nonneg_left h3 (by omega)
      omega
    · rw [nth_out _ _ (by rw [wantN_len]; omega), nth_out _ _ (by rw [wantN_len]; omega)]; omega
theorem sumN_more (x : List Int) : ∀ d, sumN x (x.length + d) = sumN x x.length
  | 0 => rfl
  | d + 1 => by
    show sumN x (x.length + d) + nth x (x.length + d) = _
    rw [sumN_more x d, nth_out _ _ (by omega)]; omega
theorem sumN_five {x : List Int} (h : x.length ≤ 5) : sumN x 5 = sumN x x.length := by
  have := sumN_more x (5 - x.length)
  rwa [show x.length + (5 - x.length) = 5 by omega] at this
theorem sumN_congr {x y : List Int} : ∀ n, (∀ j, j < n → nth x j = nth y j) → sumN x n = sumN y n
  | 0, _ => rfl
  | n + 1, h => by simp only [sumN]; rw [sumN_congr n (fun j hj => h j (by omega)), h n (by omega)]
/-- Lexicographically before, in the first hours. -/
def LexB (L : Nat) (a b : List Int) : Prop := ∃ i, i < L ∧ nth a i < nth b i ∧ ∀ j, j < i → nth a j = nth b j
/-- Numbers of baths, of which less than K are in each of the first L hours, none later. -/
def InBox (K : Int) (L : Nat) (y : List Int) : Prop := (∀ j, j < L → 0 ≤ nth y j ∧ nth y j < K) ∧ ∀ j, L ≤ j → nth y j = 0
/-- The greatest sum of sure ones, and the first of these. -/
structure Best (r : Rm) (K : Int) (L : Nat) (x : List Int) : Prop where
  box : InBox K L x
  sure : sureB r x = true
  top : ∀ y, InBox K L y → sureB r y = true → sumN y 5 < sumN x 5 ∨ (sumN y 5 = sumN x 5 ∧ ¬ LexB L y x)
theorem lex_tri (L : Nat) (a b : List Int) : LexB L a b ∨ LexB L b a ∨ ∀ j, j < L → nth a j = nth b j := by
  induction L with
  | zero => exact .inr (.inr fun j hj => by omega)
  | succ L ih =>
    rcases ih with ⟨i, h1, h2, h3⟩ | ⟨i, h1, h2, h3⟩ | h
    · exact .inl ⟨i, by omega, h2, h3⟩
    · exact .inr (.inl ⟨i, by omega, h2, h3⟩)
    · rcases Int.lt_trichotomy (nth a L) (nth b L) with g | g | g
      · exact .inl ⟨L, by omega, g, h⟩
      · refine .inr (.inr fun j hj => ?_)
        by_cases he : j = L
        · rw [he]; exact g
        · exact h j (by omega)
      · exact .inr (.inl ⟨L, by omega, g, fun j hj => (h j hj).symm⟩)
theorem Best.unique {r : Rm} {K : Int} {L : Nat} {x y : List Int} (hx : Best r K L x) (hy : Best r K L y) : ∀ j, nth x j = nth y j := by
  have h1 := hx.top y hy.box hy.sure
  have h2 := hy.top x hx.box hx.sure
  have h3 : ¬ LexB L y x ∧ ¬ LexB L x y := by
    rcases h1 with h1 | h1
    · omega
    · rcases h2 with h2 | h2
      · omega
      · exact ⟨h1.2, h2.2⟩
  intro j
  by_cases hj : j < L
  · rcases lex_tri L x y with h | h | h
    · exact absurd h h3.2
    · exact absurd h h3.1
    · exact h j hj
  · rw [hx.box.2 j (by omega), hy.box.2 j (by omega)]
/-- The numbers that go on from n, from the hour h on. -/
def Cand (K : Int) (L h : Nat) (n y : List Int) : Prop := InBox K L y ∧ ∀ j, j < h → nth y j = nth n j
/-- What a search among candidates C finds, from b on. -/
def Found (r : Rm) (L : Nat) (C : List Int → Prop) (b R : List Int) : Prop :=
  sumN b 5 ≤ sumN R 5 ∧ (∀ y, C y → sureB r y = true → sumN y 5 ≤ sumN R 5) ∧ (R = b ∨ (C R ∧ sureB r R = true ∧ sumN b 5 < sumN R 5 ∧ ∀ y, C y → sureB r y = true → sumN y 5 = sumN R 5 → ¬ LexB L y R))
theorem loop_found {r : Rm} (ho : RoomOk r) {K : Int} {L h : Nat} (hL : (L : Int) = r.cop.last + 1) (hh : h < L) (n : List Int) (hn : ∀ j, j < h → 0 ≤ nth n j) (hz : ∀ j, h < j → nth n j = 0) (f : Nat → List Int → List Int)
    (hf : ∀ (k : Nat) b, (k : Int) < K → sureB r (putAt n h k) = true → Found r L (Cand K L (h + 1) (putAt n h k)) b (f k b)) :
    ∀ (c k : Nat) (b : List Int), (k : Int) + c = K → Found r L (fun y => Cand K L h n y ∧ (k : Int) ≤ nth y h) b (loopF (fun k : Nat => sureB r (putAt n h k)) f c k b)
  | 0, k, b, hk => ⟨Int.le_refl _, fun y hy _ => by have := hy.1.1.1 h hh; have := hy.2; omega, .inl rfl⟩
  | c + 1, k, b, hk => by
    have hl4 := ho.cop.l4
    have hput : ∀ j, j < L → nth (putAt n h k) j = if j = h then (k : Int) else nth n j := fun j hj => nth_putAt _ _ _ _ (by omega)
    unfold loopF
    by_cases hp : sureB r (putAt n h k) = true
    · rw [if_pos hp]
      have h1 := hf k b (by omega) hp
      have h2 := loop_found ho hL hh n hn hz f hf c (k + 1) (f k b) (by omega)
      obtain ⟨R1, hR1⟩ : ∃ R1, f k b = R1 := ⟨_, rfl⟩
      rw [hR1] at h1 h2 ⊢
      obtain ⟨R, hR⟩ : ∃ R, loopF (fun k : Nat => sureB r (putAt n h k)) f c (k + 1) R1 = R := ⟨_, rfl⟩
      rw [hR] at h2 ⊢
      obtain ⟨a1, a2, a3⟩ := h1
      obtain ⟨b1, b2, b3⟩ := h2
      have hck : ∀ y, Cand K L h n y → nth y h = k → Cand K L (h + 1) (putAt n h k) y := fun y hy he => ⟨hy.1, fun j hj => by
        rw [hput j (by omega)]
        split
        · rename_i e; rw [e]; exact he
        · exact hy.2 j (by omega)⟩
      have hkc : ∀ y, Cand K L (h + 1) (putAt n h k) y → Cand K L h n y ∧ nth y h = k := fun y hy => by
        refine ⟨⟨hy.1, fun j hj => ?_⟩, ?_⟩
        · have := hy.2 j (by omega); rw [hput j (by omega), if_neg (by omega)] at this; exact this
        · have := hy.2 h (by omega); rw [hput h hh, if_pos rfl] at this; exact this
      refine ⟨by omega, fun y hy hs => ?_, ?_⟩
      · by_cases he : nth y h = k
        · have := a2 y (hck y hy.1 he) hs; omega
        · exact b2 y ⟨hy.1, by have := hy.2; omega⟩ hs
      · rcases b3 with rfl | ⟨⟨c1, c1'⟩, c2, c3, c4⟩
        · rcases a3 with rfl | ⟨d1, d2, d3, d4⟩
          · exact .inl rfl
          · refine .inr ⟨⟨(hkc _ d1).1, by rw [(hkc _ d1).2]; omega⟩, d2, d3, fun y hy hs he => ?_⟩
            by_cases hk2 : nth y h = k
            · exact d4 y (hck y hy.1 hk2) hs he
            · rintro ⟨i, e1, e2, e3⟩
              have hRh := (hkc _ d1).2
              have hRn := (hkc _ d1).1.2
              have hyn := hy.1.2
              have hyk := hy.2
              rcases Nat.lt_trichotomy i h with g | g | g
              · rw [hRn i g, hyn i g] at e2; omega
              · rw [g, hRh] at e2; omega
              · have := e3 h g; omega
        · refine .inr ⟨⟨c1, by omega⟩, c2, by omega, fun y hy hs he => ?_⟩
          by_cases hk2 : nth y h = k
          · have := a2 y (hck y hy.1 hk2) hs; omega
          · exact c4 y ⟨hy.1, by have := hy.2; omega⟩ hs he
    · rw [if_neg hp]
      refine ⟨Int.le_refl _, fun y hy hs => ?_, .inl rfl⟩
      have hyk := hy.2
      refine absurd (sure_mono ho (a := putAt n h k) (b := y) (fun j hj => ?_) (fun j hj => ?_) hs) hp
      · rw [hput j (by omega)]
        split
        · omega
        · by_cases hjh : j < h
          · exact hn j hjh
          · rw [hz j (by omega)]; omega
      · rw [hput j (by omega)]
        split
        · rename_i e; rw [e]; exact hyk
        · by_cases hjh : j < h
          · rw [hy.1.2 j hjh]; omega
          · rw [hz j (by omega)]; exact (hy.1.1.1 j (by omega)).1
theorem most_found {r : Rm} (ho : RoomOk r) {K : Nat} {L : Nat} (hL : (L : Int) = r.cop.last + 1) :
    ∀ (d h : Nat) (n b : List Int), h + d = L → InBox K L n → (∀ j, h ≤ j → nth n j = 0) → sureB r n = true → Found r L (Cand K L h n) b (mostF r K d h n b)
  | 0, h, n, b, hd, hn, hz, hs => by
    have hl4 := ho.cop.l4
    have hC : ∀ y, Cand K L h n y → ∀ j, nth y j = nth n j := fun y hy j => by
      by_cases hj : j < h
      · exact hy.2 j hj
      · rw [hy.1.2 j (by omega), hn.2 j (by omega)]
    have hS : ∀ y, Cand K L h n y → sumN y 5 = sumN n 5 := fun y hy => sumN_congr 5 fun j _ => hC y hy j
    show Found r L _ b (bestF n b)
    unfold bestF
    split
    · rename_i g
      refine ⟨by omega, fun y hy _ => by rw [hS y hy]; omega, .inr ⟨⟨hn, fun j _ => rfl⟩, hs, g, fun y hy _ _ => ?_⟩⟩
      rintro ⟨i, _, e2, _⟩
      rw [hC y hy i] at e2
      omega
    · rename_i g
      exact ⟨Int.le_refl _, fun y hy _ => by rw [hS y hy]; omega, .inl rfl⟩
  | d + 1, h, n, b, hd, hn, hz, hs => by
    have hl4 := ho.cop.l4
    have h1 := loop_found ho (K := K) hL (h := h) (by omega) n (fun j hj => (hn.1 j (by omega)).1) (fun j hj => hz j (by omega)) (fun k b => mostF r K d (h + 1) (putAt n h k) b) (fun k b hk hp => by
      have hput : ∀ j, j < 5 → nth (putAt n h k) j = if j = h then (k : Int) else nth n j := fun j hj => nth_putAt _ _ _ _ hj
      have hout : ∀ j, 5 ≤ j → nth (putAt n h k) j = 0 := fun j hj => nth_out _ _ (by rw [putAt, rowI_len]; omega)
      refine most_found ho hL d (h + 1) (putAt n h k) b (by omega) ⟨fun j hj => ?_, fun j hj => ?_⟩ (fun j hj => ?_) hp
      · rw [hput j (by omega)]
        split
        · omega
        · exact hn.1 j hj
      · by_cases h5 : j < 5
        · rw [hput j h5, if_neg (by omega)]; exact hn.2 j hj
        · exact hout j (by omega)
      · by_cases h5 : j < 5
        · rw [hput j h5, if_neg (by omega)]; exact hz j (by omega)
        · exact hout j (by omega)) K 0 b (by omega)
    show Found r L _ b (loopF (fun k : Nat => sureB r (putAt n h k)) (fun k b => mostF r K d (h + 1) (putAt n h k) b) K 0 b)
    refine ⟨h1.1, fun y hy => h1.2.1 y ⟨hy, (hy.1.1 h (by omega)).1⟩, ?_⟩
    rcases h1.2.2 with e | ⟨e1, e2, e3, e4⟩
    · exact .inl e
    · exact .inr ⟨e1.1, e2, e3, fun y hy => e4 y ⟨hy, (hy.1.1 h (by omega)).1⟩⟩
theorem nil_box (K : Nat) (L : Nat) (hK : 0 < K) : InBox K L [] := ⟨fun j _ => by rw [nth_out _ _ (by simp)]; omega, fun j _ => nth_out _ _ (by simp)⟩
/-- The most baths of the program. -/
theorem most_best {r : Rm} (ho : RoomOk r) (hs : sureB r [] = true) : Best r (r.places + 1) (r.cop.last + 1).toNat (mostF r (min r.places 5 + 1).toNat (r.cop.last + 1).toNat 0 [] []) := by
  have hp0 := ho.p0
  have hp5 := ho.p5
  have hl0 := ho.cop.l0
  have hK : (((min r.places 5 + 1).toNat : Nat) : Int) = r.places + 1 := by omega
  have h := most_found ho (K := (min r.places 5 + 1).toNat) (L := (r.cop.last + 1).toNat) (by omega) (r.cop.last + 1).toNat 0 [] [] (by omega) (nil_box _ _ (by omega)) (fun j _ => nth_out _ _ (by simp)) hs
  rw [hK] at h
  have hnil : InBox (r.places + 1) (r.cop.last + 1).toNat [] := ⟨fun j _ => by rw [nth_out _ _ (by simp)]; omega, fun j _ => nth_out _ _ (by simp)⟩
  obtain ⟨R, hR⟩ : ∃ R, mostF r (min r.places 5 + 1).toNat (r.cop.last + 1).toNat 0 [] [] = R := ⟨_, rfl⟩
  rw [hR] at h ⊢
  obtain ⟨h1, h2, h3⟩ := h
  rcases h3 with rfl | ⟨h3, h4, h5, h6⟩
  · refine ⟨hnil, hs, fun y hy hys => ?_⟩
    have g := h2 y ⟨hy, fun j hj => by omega⟩ hys
    refine (Int.lt_or_eq_of_le g).imp id fun e => ⟨e, ?_⟩
    rintro ⟨i, e1, e2, _⟩
    have := (hy.1 i e1).1
    rw [nth_out [] i (by simp)] at e2
    omega
  · refine ⟨h3.1, h4, fun y hy hys => ?_⟩
    have g := h2 y ⟨hy, fun j hj => by omega⟩ hys
    exact (Int.lt_or_eq_of_le g).imp id fun e => ⟨e, h6 y ⟨hy, fun j hj => by omega⟩ hys e⟩
end Go.Proofs.YtpgnplmjfhdncaaGreat
