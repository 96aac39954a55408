/- The program's truths and verdicts are the reference's. No program in sight. -/
import Derived.Test.YtpgnplmjfhdncaaGreatKR6
namespace Go.Proofs.YtpgnplmjfhdncaaGreat
set_option linter.unusedVariables false
theorem lastS_mem {acc : List (Int × List Int)} (h : acc ≠ []) : lastS acc ∈ acc := by
  unfold lastS
  have hp : acc.length - 1 < acc.length := by
    have := List.length_pos_iff.2 h
    omega
  rw [List.getD_eq_getElem?_getD, List.getElem?_eq_getElem hp]
  exact List.getElem_mem _
theorem eqS_eq {c : Cop} (h4 : c.last ≤ 4) {s t : Int × List Int} (hs : IsSc c s) (ht : IsSc c t) (h : eqS s t = true) : s = t := by
  simp only [eqS, Bool.and_eq_true, beq_iff_eq] at h
  obtain ⟨⟨⟨⟨⟨e, e0⟩, e1⟩, e2⟩, e3⟩, e4⟩ := h
  have hl : s.2 = t.2 := by
    have h1 := hs.len
    have h2 := ht.len
    refine ext_nth (by omega) (fun k hk => ?_)
    match k, (show k < 5 by omega) with
    | 0, _ => exact e0
    | 1, _ => exact e1
    | 2, _ => exact e2
    | 3, _ => exact e3
    | 4, _ => exact e4
  obtain ⟨a, b⟩ := s
  obtain ⟨a', b'⟩ := t
  simp only at e hl
  rw [e, hl]
theorem mem_truthsF {c : Cop} (h4 : c.last ≤ 4) : ∀ (l acc : List (Int × List Int)), (∀ s ∈ l, IsSc c s) → (∀ s ∈ acc, IsSc c s) → ∀ s, s ∈ l.foldl (addT c) acc ↔ s ∈ acc ∨ (s ∈ l ∧ rightB c s = true) := by
  intro l
  induction l with
  | nil => intro acc _ _ s; simp
  | cons x l ih =>
    intro acc hl hacc s
    have hx := hl x (by simp)
    have hstep : ∀ s, s ∈ addT c acc x ↔ s ∈ acc ∨ (s = x ∧ rightB c x = true) := by
      intro s
      unfold addT
      by_cases hr : rightB c x = true
      · by_cases hc : acc = [] ∨ eqS (lastS acc) x = false
        · rw [if_pos ⟨hr, hc⟩, List.mem_append]
          simp [hr]
        · rw [if_neg (fun h => hc h.2)]
          have hne : acc ≠ [] := fun h => hc (.inl h)
          have he : eqS (lastS acc) x = true := by
            cases h : eqS (lastS acc) x with
            | true => rfl
            | false => exact (hc (.inr h)).elim
          have hm := lastS_mem hne
          have hxe := eqS_eq h4 (hacc _ hm) hx he
          rw [hxe] at hm
          constructor
          · exact fun h => .inl h
          · rintro (h | ⟨rfl, _⟩)
            · exact h
            · exact hm
      · rw [if_neg (fun h => hr h.1)]
        simp [hr]
    rw [List.foldl_cons, ih (addT c acc x) (fun s hs => hl s (by simp [hs])) (fun s hs => by
      rcases (hstep s).1 hs with h | ⟨rfl, _⟩
      · exact hacc s h
      · exact hx) s, hstep, List.mem_cons]
    constructor
    · rintro ((h | ⟨rfl, h⟩) | ⟨h1, h2⟩)
      · exact .inl h
      · exact .inr ⟨.inl rfl, h⟩
      · exact .inr ⟨.inr h1, h2⟩
    · rintro (h | ⟨rfl | h1, h2⟩)
      · exact .inl (.inl h)
      · exact .inl (.inr ⟨rfl, h2⟩)
      · exact .inr ⟨h1, h2⟩
theorem mem_truthsC {c : Cop} (ho : Okc c) (s : Int × List Int) : s ∈ truthsC c ↔ IsSc c s ∧ rightB c s = true := by
  unfold truthsC truthsF
  rw [mem_truthsF ho.l4 (scenesC c) [] (fun s hs => (mem_scenes ho.l0 s).1 hs) (by simp) s, mem_scenes ho.l0]
  simp
theorem bitsN_full (p : Nat → Bool) : ∀ n, bitsN p n = 2 ^ n - 1 ↔ ∀ j, j < n → p j = true := by
  intro n
  induction n with
  | zero => simp [bitsN]
  | succ n ih =>
    have h2 : (2 : Int) ^ (n + 1) = 2 ^ n + 2 ^ n := by rw [Int.pow_succ]; omega
    have hb := bitsN_bd p n
    simp only [bitsN]
    constructor
    · intro h
      cases hp : p n with
      | false =>
        rw [if_neg (by simp [hp])] at h
        omega
      | true =>
        rw [if_pos hp] at h
        have := ih.1 (by omega)
        intro j hj
        by_cases he : j = n
        · rw [he]; exact hp
        · exact this j (by omega)
    · intro h
      rw [if_pos (h n (by omega)), ih.2 (fun j hj => h j (by omega))]
      omega
theorem fullN_pow {n : Nat} (h : n ≤ 5) : fullN n = 2 ^ n - 1 := by
  match n, h with
  | 0, _ => rfl
  | 1, _ => rfl
  | 2, _ => rfl
  | 3, _ => rfl
  | 4, _ => rfl
  | 5, _ => rfl
theorem bits_right {c : Cop} (h5 : c.rds.length ≤ 5) (s : Int × List Int) : (bitsN (rdB c s) c.rds.length == fullN c.rds.length) = rightB c s := by
  rw [Bool.eq_iff_iff, beq_iff_eq, fullN_pow h5, bitsN_full, rightB, allN_iff]
theorem mem_truthsN {c : Cop} (ho : Okc c) (s : Int × List Int) : ∀ n, s ∈ truthsN c n ↔ ∃ k : Nat, k < n ∧ s = nthT c k ∧ rightB c s = true := by
  intro n
  induction n with
  | zero => simp [truthsN]
  | succ n ih =>
    simp only [truthsN, List.mem_append, ih, bits_right ho.rl]
    constructor
    · rintro (⟨k, h1, h2, h3⟩ | h)
      · exact ⟨k, by omega, h2, h3⟩
      · split at h
        · rename_i hr
          simp only [List.mem_singleton] at h
          exact ⟨n, by omega, h, by rw [h]; exact hr⟩
        · simp at h
    · rintro ⟨k, h1, h2, h3⟩
      by_cases he : k = n
      · subst he
        right
        rw [if_pos (by rw [← h2]; exact h3)]
        simp [h2]
      · exact .inl ⟨k, by omega, h2, h3⟩
/-- The number of the losses from hour j on, d hours. -/
def numL (c : Cop) (s : Int × List Int) : Nat → Nat → Int
  | _, 0 => 0
  | j, d + 1 => (nth s.2 j - p1 c.loss j) + (p2 c.loss j - p1 c.loss j + 1) * numL c s (j + 1) d
theorem szN_int {c : Cop} (ho : Okc c) {j : Nat} (hj : j < c.loss.length) : ((szN c j : Nat) : Int) = p2 c.loss j - p1 c.loss j + 1 := by
  have := okR_spec (ho.lb j hj)
  unfold szN
  omega
theorem numL_bd {c : Cop} (ho : Okc c) {s : Int × List Int} (hs : IsSc c s) : ∀ (d j : Nat), j + d ≤ c.loss.length → 0 ≤ numL c s j d ∧ numL c s j d < (prodN c j d : Nat) := by
  intro d
  induction d with
  | zero => intro j _; simp [numL, prodN]
  | succ d ih =>
    intro j hj
    have h1 := ih (j + 1) (by omega)
    have h2 := szN_int ho (j := j) (by omega)
    have h3 := hs.l j (by have := hs.len; have := ho.ll; omega)
    have h4 := okR_spec (ho.lb j (by omega))
    simp only [numL, prodN, Int.natCast_mul]
    rw [h2]
    generalize hR : numL c s (j + 1) d = R at *
    generalize hP : ((prodN c (j + 1) d : Nat) : Int) = Pp at *
    generalize hz : p2 c.loss j - p1 c.loss j + 1 = z at *
    have h5 : 0 ≤ z * R := Int.mul_nonneg (by omega) h1.1
    have h6 : z * (R + 1) ≤ z * Pp := Int.mul_le_mul_of_nonneg_left (by omega) (by omega)
    have h7 : z * (R + 1) = z * R + z := by rw [Int.mul_add, Int.mul_one]
    omega
theorem div_mod_of {x z R : Int} (h0 : 0 ≤ x) (h1 : x < z) : (x + z * R) % z = x ∧ (x + z * R) / z = R := by
  constructor
  · rw [Int.add_mul_emod_self_left]; exact Int.emod_eq_of_lt h0 h1
  · rw [Int.add_mul_ediv_left _ _ (by omega), Int.ediv_eq_zero_of_lt h0 h1]; omega
theorem nthT_onto {c : Cop} (ho : Okc c) {s : Int × List Int} (hs : IsSc c s) : ∃ k : Nat, (k : Int) < manyN c c.loss.length ∧ nthT c k = s := by
  have hh := okR_spec ho.hh
  have hs1 := hs.h1
  have hs2 := hs.h2
  have hN := numL_bd ho hs c.loss.length 0 (by omega)
  have hm : manyN c c.loss.length = (((c.hhi - c.hlo + 1).toNat * prodN c 0 c.loss.length : Nat) : Int) := by
    rw [← many_prod ho.hh ho.lb c.loss.length (Nat.le_refl _) ho.many]
    rcases manyC_N ho.hh ho.lb c.loss.length (Nat.le_refl _) with ⟨h, _⟩ | ⟨h, _⟩
    · exact h.symm
    · have := ho.many; omega
  obtain ⟨n, hn⟩ : ∃ n : Int, n = (s.1 - c.hlo) + (c.hhi - c.hlo + 1) * numL c s 0 c.loss.length := ⟨_, rfl⟩
  have hdm := div_mod_of (x := s.1 - c.hlo) (z := c.hhi - c.hlo + 1) (R := numL c s 0 c.loss.length) (by omega) (by omega)
  have hn0 : 0 ≤ n := by
    have : 0 ≤ (c.hhi - c.hlo + 1) * numL c s 0 c.loss.length := Int.mul_nonneg (by omega) hN.1
    omega
  have hlt : n < manyN c c.loss.length := by
    rw [hm, Int.natCast_mul, hn]
    have e : (((c.hhi - c.hlo + 1).toNat : Nat) : Int) = c.hhi - c.hlo + 1 := by omega
    rw [e]
    generalize numL c s 0 c.loss.length = R at *
    generalize ((prodN c 0 c.loss.length : Nat) : Int) = Pp at *
    generalize hz : c.hhi - c.hlo + 1 = z at *
    have h6 : z * (R + 1) ≤ z * Pp := Int.mul_le_mul_of_nonneg_left (by omega) (by omega)
    have h7 : z * (R + 1) = z * R + z := by rw [Int.mul_add, Int.mul_one]
    omega
  have hrest : ∀ j, j ≤ c.loss.length → restN c n j = numL c s j (c.loss.length - j) := by
    intro j
    induction j with
    | zero => intro _; simp only [restN, Nat.sub_zero]; rw [hn]; exact hdm.2
    | succ j ih =>
      intro hj
      have h1 := ih (by omega)
      obtain ⟨d, hd⟩ : ∃ d, c.loss.length - j = d + 1 := ⟨c.loss.length - j - 1, by omega⟩
      have hd' : c.loss.length - (j + 1) = d := by omega
      rw [hd] at h1
      simp only [restN, numL] at h1 ⊢
      rw [h1, hd']
      have h3 := hs.l j (by have := hs.len; have := ho.ll; omega)
      exact (div_mod_of (by omega) (by omega)).2
  refine ⟨n.toNat, by omega, ?_⟩
  have hnn : ((n.toNat : Nat) : Int) = n := by omega
  unfold nthT
  rw [hnn]
  have hfst : c.hlo + n % (c.hhi - c.hlo + 1) = s.1 := by rw [hn, hdm.1]; omega
  have hsnd : lossN c n c.loss.length = s.2 := by
    have hl := hs.len
    have hll := ho.ll
    refine ext_nth (by rw [lossN, rowI_len]; omega) (fun j hj => ?_)
    have hj' : j < c.loss.length := by simpa [lossN, rowI_len] using hj
    rw [lossN, nth_rowI _ hj', hrest j (by omega)]
    obtain ⟨d, hd⟩ : ∃ d, c.loss.length - j = d + 1 := ⟨c.loss.length - j - 1, by omega⟩
    rw [hd]
    simp only [numL]
    have h3 := hs.l j (by omega)
    rw [(div_mod_of (by omega) (by omega)).1]
    omega
  rw [hfst, hsnd]
theorem mem_truthsR {c : Cop} (ho : Okc c) (s : Int × List Int) : s ∈ truthsR c ↔ s ∈ truthsC c := by
  unfold truthsR
  rw [mem_truthsN ho, mem_truthsC ho]
  have hm1 := (manyN_bd ho.hh ho.lb c.loss.length (Nat.le_refl _)).1
  constructor
  · rintro ⟨k, _, rfl, h⟩
    exact ⟨nth_sc ho k, h⟩
  · rintro ⟨h1, h2⟩
    obtain ⟨k, hk, rfl⟩ := nthT_onto ho h1
    exact ⟨k, by omega, rfl, h2⟩
theorem truthsR_nil {c : Cop} (ho : Okc c) : truthsR c = [] ↔ truthsC c = [] := by
  constructor
  · intro h
    apply List.eq_nil_iff_forall_not_mem.2
    intro s hs
    rw [← mem_truthsR ho, h] at hs
    cases hs
  · intro h
    apply List.eq_nil_iff_forall_not_mem.2
    intro s hs
    rw [mem_truthsR ho, h] at hs
    cases hs
/-- Always, never, or sometimes. -/
def verdP (p : Int × List Int → Bool) (l : List (Int × List Int)) : Int := if ∀ s ∈ l, p s = true then 1 else if ∀ s ∈ l, p s = false then 2 else 3
theorem scN_mem {l : List (Int × List Int)} {j : Nat} (hj : j < l.length) : scN l j ∈ l := by
  have : scN l j = l[j] := by simp [scN, sh, sl, hj]
  rw [this]
  exact List.getElem_mem _
theorem mem_scN {l : List (Int × List Int)} {s : Int × List Int} (h : s ∈ l) : ∃ j, j < l.length ∧ scN l j = s := by
  obtain ⟨j, hj, e⟩ := List.getElem_of_mem h
  exact ⟨j, hj, by simp [scN, sh, sl, hj, e]⟩
theorem cntN_all (p : Nat → Bool) : ∀ n : Nat, cntN p n = n ↔ ∀ j, j < n → p j = true := by
  intro n
  induction n with
  | zero => simp [cntN]
  | succ n ih =>
    have hb := cntN_bd p n
    simp only [cntN]
    constructor
    · intro h j hj
      cases hp : p n with
      | false => rw [if_neg (by simp [hp])] at h; omega
      | true =>
        rw [if_pos hp] at h
        by_cases he : j = n
        · rw [he]; exact hp
        · exact ih.1 (by omega) j (by omega)
    · intro h
      rw [if_pos (h n (by omega)), ih.2 (fun j hj => h j (by omega))]
      omega
theorem cntN_none (p : Nat → Bool) : ∀ n : Nat, cntN p n = 0 ↔ ∀ j, j < n → p j = false := by
  intro n
  induction n with
  | zero => simp [cntN]
  | succ n ih =>
    have hb := cntN_bd p n
    simp only [cntN]
    constructor
    · intro h j hj
      cases hp : p n with
      | true => rw [if_pos hp] at h; omega
      | false =>
        rw [if_neg (by simp [hp])] at h
        by_cases he : j = n
        · rw [he]; exact hp
        · exact ih.1 (by omega) j (by omega)
    · intro h
      rw [if_neg (by rw [h n (by omega)]; simp), ih.2 (fun j hj => h j (by omega))]
      omega
theorem verdN_P (p : Int × List Int → Bool) (l : List (Int × List Int)) : verdN (cntN (fun j => p (scN l j)) l.length) l.length = verdP p l := by
  have e1 : cntN (fun j => p (scN l j)) l.length = l.length ↔ ∀ s ∈ l, p s = true := by
    rw [cntN_all]
    constructor
    · intro h s hs
      obtain ⟨j, hj, rfl⟩ := mem_scN hs
      exact h j hj
    · exact fun h j hj => h _ (scN_mem hj)
  have e2 : cntN (fun j => p (scN l j)) l.length = 0 ↔ ∀ s ∈ l, p s = false := by
    rw [cntN_none]
    constructor
    · intro h s hs
      obtain ⟨j, hj, rfl⟩ := mem_scN hs
      exact h j hj
    · exact fun h j hj => h _ (scN_mem hj)
  unfold verdN verdP
  by_cases g1 : ∀ s ∈ l, p s = true
  · rw [if_pos (e1.2 g1), if_pos g1]
  · rw [if_neg (fun h => g1 (e1.1 h)), if_neg g1]
    by_cases g2 : ∀ s ∈ l, p s = false
    · rw [if_pos (e2.2 g2), if_pos g2]
    · rw [if_neg (fun h => g2 (e2.1 h)), if_neg g2]
theorem nb_kept {c : Cop} {coal want : List Int} {s : Int × List Int} {n j : Nat} (hj : j < n) : nb (keptL c coal want s n) j = keptAt c coal want s j := by
  simp [nb, keptL, rowB, hj]
theorem wholeI_B (c : Cop) (coal want : List Int) (s : Int × List Int) : wholeI c coal want s = if wholeB c coal want s = true then 1 else 0 := by
  unfold wholeI wholeB
  have hl : (keptL c coal want s (c.last + 1).toNat).length = (c.last + 1).toNat := by rw [keptL, rowB_len]
  rw [hl]
  have : allN (keptAt c coal want s) (c.last + 1).toNat = !anyN (fun j => !nb (keptL c coal want s (c.last + 1).toNat) j) (c.last + 1).toNat := by
    unfold allN anyN
    rw [idxN_cong (p := fun j => !keptAt c coal want s j) (p' := fun j => !nb (keptL c coal want s (c.last + 1).toNat) j) (c.last + 1).toNat 0 (fun j _ hj => by rw [nb_kept (by omega)])]
  rw [this]
  cases anyN (fun j => !nb (keptL c coal want s (c.last + 1).toNat) j) (c.last + 1).toNat <;> simp
theorem wholesN_P (c : Cop) (ts : List (Int × List Int)) (coal want : List Int) : wholesN c ts coal want = verdP (wholeB c coal want) ts := verdN_P (wholeB c coal want) ts
theorem verdP_one {p : Int × List Int → Bool} {l : List (Int × List Int)} : verdP p l = 1 ↔ ∀ s ∈ l, p s = true := by
  unfold verdP
  constructor
  · intro h
    by_cases g : ∀ s ∈ l, p s = true
    · exact g
    · rw [if_neg g] at h
      split at h <;> omega
  · intro h; rw [if_pos h]
end Go.Proofs.YtpgnplmjfhdncaaGreat
