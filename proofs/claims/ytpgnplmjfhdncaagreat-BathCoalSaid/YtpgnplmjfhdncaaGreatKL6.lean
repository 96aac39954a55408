/- The least coal: the program's is the reference's. -/
import Derived.Test.YtpgnplmjfhdncaaGreatKV11
namespace Go.Proofs.YtpgnplmjfhdncaaGreat
open Go.RowKit
set_option linter.unusedVariables false
theorem keptA_B (c : Cop) (coal : List Int) (s : Int × List Int) : keptA c coal s = wholeB c coal c.want s := by
  have h := wholeI_B c coal c.want s
  unfold wholeI at h
  unfold keptA
  split at h
  · rename_i g
    rw [g]
    cases k : wholeB c coal c.want s with
    | false => rfl
    | true => rw [k] at h; simp at h
  · rename_i g
    rw [Bool.not_eq_true] at g
    rw [g]
    cases k : wholeB c coal c.want s with
    | true => rfl
    | false => rw [k] at h; simp at h
theorem sureN_iff (c : Cop) (coal : List Int) : sureN c coal = true ↔ ∀ s ∈ truthsC c, wholeB c coal c.want s = true := by
  unfold sureN
  rw [allN_iff]
  constructor
  · intro h s hs
    obtain ⟨j, hj, rfl⟩ := mem_scN hs
    rw [← keptA_B]
    exact h j hj
  · intro h j hj
    rw [keptA_B]
    exact h _ (scN_mem hj)
theorem sureW_N {c : Cop} (ho : Okc c) (coal : List Int) : sureW c coal = sureN c coal := by
  have h1 : sureW c coal = true ↔ sureN c coal = true := by
    unfold sureW
    rw [beq_iff_eq, wholesN_P, verdP_one, sureN_iff]
    exact ⟨fun h s hs => h s ((mem_truthsR ho s).2 hs), fun h s hs => h s ((mem_truthsR ho s).1 hs)⟩
  cases h : sureN c coal with
  | true => exact h1.2 h
  | false =>
    cases g : sureW c coal with
    | false => rfl
    | true => rw [h1.1 g] at h; cases h
theorem sureN_eq {c : Cop} (h4 : c.last ≤ 4) {a b : List Int} (h : ∀ j, nth a j = nth b j) : sureN c a = sureN c b := sure_five c h4 a b (fun j _ => h j)
/-- The first coal with the least sum. -/
structure BestC (c : Cop) (L : Nat) (x : List Int) : Prop where
  box : InBox (c.shovels + 1) L x
  sure : sureN c x = true
  top : ∀ y, InBox (c.shovels + 1) L y → sureN c y = true → sumN x 5 < sumN y 5 ∨ (sumN y 5 = sumN x 5 ∧ ¬ LexB L y x)
theorem BestC.unique {c : Cop} {L : Nat} {x y : List Int} (hx : BestC c L x) (hy : BestC c L y) : ∀ j, nth x j = nth y j := by
  have h1 := hx.top y hy.box hy.sure
  have h2 := hy.top x hx.box hx.sure
  have h3 : ¬ LexB L y x ∧ ¬ LexB L x y := by
    rcases h1 with h1 | h1
    · omega
    · rcases h2 with h2 | h2
      · omega
      · exact ⟨h1.2, h2.2⟩
  intro j
  by_cases hj : j < L
  · rcases lex_tri L x y with h | h | h
    · exact absurd h h3.2
    · exact absurd h h3.1
    · exact h j hj
  · rw [hx.box.2 j (by omega), hy.box.2 j (by omega)]
theorem leastRF_inv (c : Cop) : ∀ n, ((leastRF c n).2 = false → ∀ m : Nat, m < n → sureW c (otherL (rmOf c) m) = false) ∧ ((leastRF c n).2 = true → ∃ m0 : Nat, m0 < n ∧ (leastRF c n).1 = otherL (rmOf c) m0 ∧ sureW c (otherL (rmOf c) m0) = true ∧ ∀ m : Nat, m < n → sureW c (otherL (rmOf c) m) = true → sumN (otherL (rmOf c) m0) (otherL (rmOf c) m0).length < sumN (otherL (rmOf c) m) (otherL (rmOf c) m).length ∨ (sumN (otherL (rmOf c) m) (otherL (rmOf c) m).length = sumN (otherL (rmOf c) m0) (otherL (rmOf c) m0).length ∧ m0 ≤ m))
  | 0 => ⟨fun _ m hm => by omega, fun h => by simp [leastRF] at h⟩
  | n + 1 => by
    obtain ⟨h1, h2⟩ := leastRF_inv c n
    rw [leastRF]
    split
    · rename_i hc
      refine ⟨fun h => by simp at h, fun _ => ⟨n, by omega, rfl, hc.2, fun m hm hs => ?_⟩⟩
      by_cases he : m = n
      · subst he; exact .inr ⟨rfl, Nat.le_refl _⟩
      · cases hb : (leastRF c n).2 with
        | false => rw [h1 hb m (by omega)] at hs; cases hs
        | true =>
          obtain ⟨m0, g1, g2, g3, g4⟩ := h2 hb
          rcases hc.1 with h | h
          · rw [hb] at h; cases h
          · rw [g2] at h
            rcases g4 m (by omega) hs with g | g <;> exact .inl (by omega)
    · rename_i hc
      refine ⟨fun h m hm => ?_, fun h => ?_⟩
      · by_cases he : m = n
        · subst he
          cases hs : sureW c (otherL (rmOf c) m) with
          | false => rfl
          | true => exact absurd ⟨.inl h, hs⟩ hc
        · exact h1 h m (by omega)
      · obtain ⟨m0, g1, g2, g3, g4⟩ := h2 h
        refine ⟨m0, by omega, g2, g3, fun m hm hs => ?_⟩
        by_cases he : m = n
        · subst he
          have hn : ¬ sumN (otherL (rmOf c) m) (otherL (rmOf c) m).length < sumN (leastRF c m).1 (leastRF c m).1.length := fun g => hc ⟨.inr g, hs⟩
          rw [g2] at hn
          exact (Int.lt_or_eq_of_le (Int.not_lt.1 hn)).imp id fun e => ⟨e.symm, by omega⟩
        · exact g4 m (by omega) hs
theorem rleast_no {c : Cop} (hc : Okc c) (ho : RoomOk (rmOf c)) (hf : (leastRF c (othersN (rmOf c)).toNat).2 = false) (y : List Int) (hy : InBox (c.shovels + 1) (c.last + 1).toNat y) : sureN c y = false := by
  obtain ⟨m, e1, e2⟩ := other_onto ho (y := y) hy
  have := (leastRF_inv c _).1 hf m (by omega)
  rw [sureW_N hc, sureN_eq hc.l4 e2] at this
  exact this
theorem rleast_best {c : Cop} (hc : Okc c) (ho : RoomOk (rmOf c)) (hf : (leastRF c (othersN (rmOf c)).toNat).2 = true) : ∃ m0 : Nat, (leastRF c (othersN (rmOf c)).toNat).1 = otherL (rmOf c) m0 ∧ BestC c (c.last + 1).toNat (otherL (rmOf c) m0) := by
  obtain ⟨m0, g1, g2, g3, g4⟩ := (leastRF_inv c _).2 hf
  refine ⟨m0, g2, other_box ho _, by rw [← sureW_N hc]; exact g3, fun y hy hys => ?_⟩
  obtain ⟨m, e1, e2⟩ := other_onto ho (y := y) hy
  have e3 : sumN (otherL (rmOf c) m) 5 = sumN y 5 := sumN_congr 5 fun j _ => e2 j
  have e4 := g4 m (by omega) (by rw [sureW_N hc, sureN_eq hc.l4 e2]; exact hys)
  rw [sum_other ho, sum_other ho, e3] at e4
  refine e4.imp id fun ⟨e5, e6⟩ => ⟨e5, ?_⟩
  rintro ⟨i, q1, q2, q3⟩
  have := other_lex ho (m := m) (n := m0) e1 (by omega) ⟨i, q1, by rw [e2 i]; exact q2, fun j hj => by rw [e2 j]; exact q3 j hj⟩
  omega
theorem findSome_some {β : Type} {f : Nat → Option β} {y : β} : ∀ {n : Nat}, (List.range n).findSome? f = some y → ∃ i, i < n ∧ f i = some y ∧ ∀ j, j < i → f j = none
  | 0, h => by simp at h
  | n + 1, h => by
    rw [List.range_succ, List.findSome?_append] at h
    cases g : (List.range n).findSome? f with
    | some z =>
      rw [g] at h
      cases h
      obtain ⟨i, h1, h2, h3⟩ := findSome_some g
      exact ⟨i, by omega, h2, h3⟩
    | none =>
      rw [g] at h
      have h0 : ∀ j, j < n → f j = none := fun j hj => List.findSome?_eq_none_iff.1 g j (List.mem_range.2 hj)
      refine ⟨n, by omega, ?_, h0⟩
      cases k : f n with
      | none => simp [k] at h
      | some z => simpa [k] using h
theorem findSome_none {β : Type} {f : Nat → Option β} {n : Nat} (h : (List.range n).findSome? f = none) (j : Nat) (hj : j < n) : f j = none := List.findSome?_eq_none_iff.1 h j (List.mem_range.2 hj)
/-- The coals that go on from coal, with so many shovels more. -/
structure CandC (c : Cop) (L : Nat) (coal : List Int) (many : Nat) (y : List Int) : Prop where
  box : InBox (c.shovels + 1) L y
  pre : ∀ j, j < coal.length → nth y j = nth coal j
  sum : sumN y L = sumN coal coal.length + many
theorem nth_snoc (xs : List Int) (v : Int) (j : Nat) : nth (xs ++ [v]) j = if j < xs.length then nth xs j else if j = xs.length then v else 0 := by
  simp only [nth, List.getD_eq_getElem?_getD]
  rw [List.getElem?_append]
  split
  · rfl
  · rename_i h
    split
    · rename_i e; subst e; simp
    · rw [List.getElem?_eq_none (by simp; omega)]; rfl
theorem sum_snoc (xs : List Int) (v : Int) : sumN (xs ++ [v]) (xs ++ [v]).length = sumN xs xs.length + v := by
  rw [List.length_append]
  show sumN (xs ++ [v]) xs.length + nth (xs ++ [v]) xs.length = _
  have h1 : sumN (xs ++ [v]) xs.length = sumN xs xs.length := sumN_congr xs.length fun j hj => by rw [nth_snoc, if_pos hj]
  rw [h1, nth_snoc, if_neg (by omega), if_pos rfl]
theorem sumN_le {y : List Int} {L : Nat} (hy : ∀ j, j < L → 0 ≤ nth y j) : ∀ i, i ≤ L → sumN y i ≤ sumN y L := by
  have : ∀ d i, i + d ≤ L → sumN y i ≤ sumN y (i + d) := by
    intro d
    induction d with
    | zero => intro i _; exact Int.le_refl _
    | succ d ih =>
      intro i hi
      have h1 := ih i (by omega)
      have h2 := hy (i + d) (by omega)
      show _ ≤ sumN y (i + d) + nth y (i + d)
      omega
  intro i hi
  have := this (L - i) i (by omega)
  rwa [show i + (L - i) = L by omega] at this
theorem least_rec_ok {c : Cop} (hc : Okc c) {L : Nat} (hL : (L : Int) = c.last + 1) :
    ∀ (d : Nat) (coal : List Int) (many : Nat), coal.length + d = L → (∀ j, j < coal.length → 0 ≤ nth coal j ∧ nth coal j < c.shovels + 1) →
      (∀ x, leastF c d coal many = some x → CandC c L coal many x ∧ x.length = L ∧ sureN c x = true ∧ ∀ y, CandC c L coal many y → sureN c y = true → ¬ LexB L y x) ∧
      (leastF c d coal many = none → ∀ y, CandC c L coal many y → sureN c y = false)
  | 0, coal, many, hl, hb => by
    have hl4 := hc.l4
    have hC : ∀ y, CandC c L coal many y → ∀ j, nth y j = nth coal j := fun y hy j => by
      by_cases hj : j < coal.length
      · exact hy.pre j hj
      · rw [hy.box.2 j (by omega), nth_out _ _ (by omega)]
    refine ⟨fun x hx => ?_, fun hx y hy => ?_⟩
    · simp only [leastF] at hx
      split at hx
      · rename_i hh
        cases hx
        refine ⟨⟨⟨fun j hj => hb j (by omega), fun j hj => nth_out _ _ (by omega)⟩, fun j _ => rfl, by rw [hh.1, show L = coal.length by omega]; simp⟩, by omega, hh.2, fun y hy _ => ?_⟩
        rintro ⟨i, _, e2, _⟩
        rw [hC y hy i] at e2
        omega
      · cases hx
    · simp only [leastF] at hx
      split at hx
      · cases hx
      · rename_i hh
        have h1 : many = 0 := by
          have h2 := hy.sum
          rw [sumN_congr L (fun j _ => hC y hy j), show L = coal.length by omega] at h2
          omega
        rw [sureN_eq hl4 (hC y hy)]
        cases hs : sureN c coal with
        | false => rfl
        | true => exact absurd ⟨h1, hs⟩ hh
  | d + 1, coal, many, hl, hb => by
    have hl4 := hc.l4
    have hs0 := hc.h0
    have hrec := fun (n : Nat) (hn : (n : Int) ≤ c.shovels) => least_rec_ok hc hL d (coal ++ [(n : Int)]) (many - n) (by simp; omega) (fun j hj => by
      rw [nth_snoc]
      rw [List.length_append] at hj
      simp only [List.length_singleton] at hj
      split
      · exact hb j (by omega)
      · split <;> omega)
    have hcin : ∀ y, CandC c L coal many y → ∃ n : Nat, nth y coal.length = n ∧ n < (min c.shovels (many : Int) + 1).toNat ∧ CandC c L (coal ++ [(n : Int)]) (many - n) y := fun y hy => by
      have h1 := hy.box.1 coal.length (by omega)
      have h2 := sumN_le (fun j hj => (hy.box.1 j hj).1) (coal.length + 1) (by omega)
      have h3 : sumN y (coal.length + 1) = sumN coal coal.length + nth y coal.length := by
        show sumN y coal.length + nth y coal.length = _
        rw [sumN_congr coal.length hy.pre]
      have h4 := hy.sum
      refine ⟨(nth y coal.length).toNat, by omega, by omega, hy.box, fun j hj => ?_, ?_⟩
      · rw [nth_snoc]
        rw [List.length_append] at hj
        simp only [List.length_singleton] at hj
        split
        · exact hy.pre j (by omega)
        · rw [if_pos (by omega), show j = coal.length by omega]; omega
      · rw [sum_snoc]; omega
    have hcout : ∀ (n : Nat) y, n < (min c.shovels (many : Int) + 1).toNat → CandC c L (coal ++ [(n : Int)]) (many - n) y → CandC c L coal many y ∧ nth y coal.length = n := fun n y hn hy => by
      have h1 := hy.sum
      rw [sum_snoc] at h1
      refine ⟨⟨hy.box, fun j hj => ?_, by omega⟩, ?_⟩
      · have := hy.pre j (by simp; omega)
        rw [nth_snoc, if_pos hj] at this
        exact this
      · have := hy.pre coal.length (by simp)
        rw [nth_snoc, if_neg (by omega), if_pos rfl] at this
        exact this
    refine ⟨fun x hx => ?_, fun hx y hy => ?_⟩
    · simp only [leastF] at hx
      obtain ⟨i, h1, h2, h3⟩ := findSome_some hx
      obtain ⟨g1, g2, g3, g4⟩ := (hrec i (by omega)).1 x h2
      obtain ⟨k1, k2⟩ := hcout i x h1 g1
      refine ⟨k1, g2, g3, fun y hy hys => ?_⟩
      obtain ⟨n, n1, n2, n3⟩ := hcin y hy
      rcases Nat.lt_trichotomy n i with hni | hni | hni
      · have := (hrec n (by omega)).2 (h3 n hni) y n3
        rw [hys] at this; cases this
      · subst hni; exact g4 y n3 hys
      · rintro ⟨p, e1, e2, e3⟩
        rcases Nat.lt_trichotomy p coal.length with hp | hp | hp
        · rw [hy.pre p hp, k1.pre p hp] at e2; omega
        · rw [hp] at e2; omega
        · have := e3 coal.length hp; omega
    · simp only [leastF] at hx
      obtain ⟨n, n1, n2, n3⟩ := hcin y hy
      exact (hrec n (by omega)).2 (findSome_none hx n n2) y n3
theorem sumN_top {y : List Int} {L : Nat} {K : Int} (hy : ∀ j, j < L → 0 ≤ nth y j ∧ nth y j < K + 1) : ∀ i : Nat, i ≤ L → 0 ≤ sumN y i ∧ sumN y i ≤ K * i := by
  intro i
  induction i with
  | zero => intro _; simp [sumN]
  | succ i ih =>
    intro hi
    have h1 := ih (by omega)
    have h2 := hy i (by omega)
    have h3 : K * ((i + 1 : Nat) : Int) = K * i + K := by rw [Int.natCast_add, Int.mul_add]; simp
    rw [h3]
    simp only [sumN]
    omega
theorem sum_box {y : List Int} {K : Int} {L : Nat} (hL : L ≤ 5) (hy : InBox K L y) : sumN y L = sumN y 5 := by
  have : ∀ d, sumN y (L + d) = sumN y L := by
    intro d
    induction d with
    | zero => rfl
    | succ d ih => show sumN y (L + d) + nth y (L + d) = _; rw [ih, hy.2 _ (by omega)]; omega
  have h := this (5 - L)
  rw [show L + (5 - L) = 5 by omega] at h
  exact h.symm
theorem least_some {c : Cop} (hc : Okc c) {x : List Int} (h : leastO c = some x) : x.length = (c.last + 1).toNat ∧ BestC c (c.last + 1).toNat x := by
  have hl0 := hc.l0
  have hl4 := hc.l4
  obtain ⟨i, h1, h2, h3⟩ := findSome_some h
  have hrec := fun many => least_rec_ok hc (L := (c.last + 1).toNat) (by omega) (c.last + 1).toNat [] many (by simp) (fun j hj => by simp at hj)
  obtain ⟨g1, g2, g3, g4⟩ := (hrec i).1 x h2
  refine ⟨g2, g1.box, g3, fun y hy hys => ?_⟩
  have hb := sumN_top hy.1 (c.last + 1).toNat (Nat.le_refl _)
  rw [show (((c.last + 1).toNat : Nat) : Int) = c.last + 1 by omega] at hb
  have e1 := sum_box (by omega) hy
  have e2 := sum_box (by omega) g1.box
  have e3 := g1.sum
  simp only [List.length_nil, sumN] at e3
  have hcy : CandC c (c.last + 1).toNat [] (sumN y (c.last + 1).toNat).toNat y := ⟨hy, fun j hj => by simp at hj, by simp only [List.length_nil, sumN]; omega⟩
  rcases Nat.lt_trichotomy (sumN y (c.last + 1).toNat).toNat i with hn | hn | hn
  · have := (hrec _).2 (h3 _ hn) y hcy
    rw [hys] at this; cases this
  · rw [hn] at hcy
    exact .inr ⟨by omega, g4 y hcy hys⟩
  · exact .inl (by omega)
theorem least_none {c : Cop} (hc : Okc c) (h : leastO c = none) (y : List Int) (hy : InBox (c.shovels + 1) (c.last + 1).toNat y) : sureN c y = false := by
  have hl0 := hc.l0
  have hl4 := hc.l4
  have hb := sumN_top hy.1 (c.last + 1).toNat (Nat.le_refl _)
  rw [show (((c.last + 1).toNat : Nat) : Int) = c.last + 1 by omega] at hb
  have hrec := fun many => least_rec_ok hc (L := (c.last + 1).toNat) (by omega) (c.last + 1).toNat [] many (by simp) (fun j hj => by simp at hj)
  exact (hrec _).2 (findSome_none h (sumN y (c.last + 1).toNat).toNat (by omega)) y ⟨hy, fun j hj => by simp at hj, by simp only [List.length_nil, sumN]; omega⟩
theorem list_nth {x y : List Int} (hl : x.length = y.length) (h : ∀ j, nth x j = nth y j) : x = y := by
  refine List.ext_getElem hl fun j h1 h2 => ?_
  have := h j
  simp only [nth, List.getD_eq_getElem?_getD, List.getElem?_eq_getElem h1, List.getElem?_eq_getElem h2, Option.getD_some] at this
  exact this
/-- Both are the same. -/
theorem least_eq {c : Cop} (hc : Okc c) (ho : RoomOk (rmOf c)) : (leastO c = none → (leastRF c (othersN (rmOf c)).toNat).2 = false) ∧ ∀ x, leastO c = some x → (leastRF c (othersN (rmOf c)).toNat).2 = true ∧ (leastRF c (othersN (rmOf c)).toNat).1 = x := by
  refine ⟨fun h => ?_, fun x h => ?_⟩
  · cases hf : (leastRF c (othersN (rmOf c)).toNat).2 with
    | false => rfl
    | true =>
      obtain ⟨m0, _, hb⟩ := rleast_best hc ho hf
      have := least_none hc h _ hb.box
      rw [hb.sure] at this; cases this
  · obtain ⟨hl, hb⟩ := least_some hc h
    cases hf : (leastRF c (othersN (rmOf c)).toNat).2 with
    | false => have := rleast_no hc ho hf x hb.box; rw [hb.sure] at this; cases this
    | true =>
      obtain ⟨m0, h1, h2⟩ := rleast_best hc ho hf
      exact ⟨rfl, by rw [h1]; exact list_nth (by rw [otherL_len, hl]; rfl) (h2.unique hb)⟩
end Go.Proofs.YtpgnplmjfhdncaaGreat
