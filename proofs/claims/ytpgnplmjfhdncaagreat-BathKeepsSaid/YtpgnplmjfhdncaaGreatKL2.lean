/- Fewer buckets are kept whenever more are; Free by Spare. No program in sight. -/
import Derived.Test.YtpgnplmjfhdncaaGreatKR19
namespace Go.Proofs.YtpgnplmjfhdncaaGreat
set_option linter.unusedVariables false
theorem heatOf_mono {c : Cop} {coal : List Int} {s : Int × List Int} {i : Nat} {x y : Int} (h : x ≤ y) : heatOf c coal s i x ≤ heatOf c coal s i y := by
  unfold heatOf; omega
theorem div_mono {a b p : Int} (hp : 0 < p) (h : a ≤ b) : a / p ≤ b / p := Int.ediv_le_ediv hp h
theorem mono_before {c : Cop} {coal want want' : List Int} {s : Int × List Int} (hp : 0 < c.per) (h : ∀ i, nth want i ≤ nth want' i) : ∀ i, (∀ j, j < i → keptAt c coal want' s j = true) → before c coal want' s i ≤ before c coal want s i := by
  intro i
  induction i with
  | zero => intro _; exact Int.le_refl _
  | succ i ih =>
    intro hk
    have h1 := ih (fun j hj => hk j (by omega))
    have h2 := hk i (by omega)
    have h3 : nth want' i ≤ heatAt c coal want' s i / c.per := of_decide_eq_true h2
    have h4 : heatAt c coal want' s i ≤ heatAt c coal want s i := heatOf_mono h1
    have h5 := div_mono hp h4
    have h6 := h i
    show leftOf c.per (nth want' i) (heatAt c coal want' s i) ≤ leftOf c.per (nth want i) (heatAt c coal want s i)
    unfold leftOf
    rw [if_pos h3, if_pos (by omega)]
    have h7 : nth want i * c.per ≤ nth want' i * c.per := Int.mul_le_mul_of_nonneg_right h6 (by omega)
    omega
theorem mono_whole {c : Cop} {coal want want' : List Int} {s : Int × List Int} (hp : 0 < c.per) (h : ∀ i, nth want i ≤ nth want' i) (hw : wholeB c coal want' s = true) : wholeB c coal want s = true := by
  unfold wholeB at hw ⊢
  rw [allN_iff] at hw ⊢
  intro j hj
  have h1 := mono_before hp h j (fun i hi => hw i (by omega))
  have h2 := hw j hj
  have h3 : nth want' j ≤ heatAt c coal want' s j / c.per := of_decide_eq_true h2
  have h4 : heatAt c coal want' s j ≤ heatAt c coal want s j := heatOf_mono h1
  have h5 := div_mono hp h4
  have h6 := h j
  exact decide_eq_true (show nth want j ≤ heatAt c coal want s j / c.per by omega)
/-! Keeps and Lacks. -/
theorem keepV_P (c : Cop) (h : Nat) (hne : truthsC c ≠ []) : keepV c h = verdP (fun s => nb (keptL c c.coal c.want s (c.last + 1).toNat) h) (truthsC c) :=
  verd_P (fun s => nb (keptL c c.coal c.want s (c.last + 1).toNat) h) (truthsC c) hne
theorem lacks_neg (c : Cop) (hne : truthsC c ≠ []) : lacksI c < 0 ↔ ∀ s ∈ truthsC c, wholeB c c.coal c.want s = true := by
  have h1 := idxN_ge (fun j => !(keepV c j == 1)) (c.last + 1).toNat 0
  have key : ∀ j, j < (c.last + 1).toNat → (keepV c j = 1 ↔ ∀ s ∈ truthsC c, keptAt c c.coal c.want s j = true) := fun j hj => by
    rw [keepV_P c j hne, verdP_one]
    constructor
    · intro h s hs
      have := h s hs
      rw [nb_kept hj] at this
      exact this
    · intro h s hs
      rw [nb_kept hj]
      exact h s hs
  constructor
  · intro h s hs
    unfold wholeB
    rw [allN_iff]
    intro j hj
    have h2 : keepV c j = 1 := by
      cases he : (keepV c j == 1) with
      | true => simpa using he
      | false =>
        have := h1.2 ⟨j, Nat.zero_le _, by omega, by simp [he]⟩
        unfold lacksI at h
        omega
    exact (key j hj).1 h2 s hs
  · intro h
    unfold lacksI
    rcases Int.lt_or_le (idxN (fun j => !(keepV c j == 1)) 0 (c.last + 1).toNat) 0 with hlt | hge
    · exact hlt
    · obtain ⟨j, _, hj, hp⟩ := h1.1 hge
      have hj' : j < (c.last + 1).toNat := by omega
      have : keepV c j = 1 := (key j hj').2 (fun s hs => by
        have := h s hs
        unfold wholeB at this
        rw [allN_iff] at this
        exact this j hj')
      simp [this] at hp
/-! Checked coppers. -/
theorem check_of {c : Cop} (h : Okc c) : checkCop c = 0 := by
  have h1 : bad1 c = false := by
    have := h.l4
    have := h.rl
    simp [bad1]; omega
  have h2 : bad2 c = false := by
    have e1 : within c.start 0 c.most = true := within_iff.2 ⟨h.s0, h.s9⟩
    have e2 : within c.per 1 20 = true := within_iff.2 ⟨h.p1, h.p20⟩
    have e3 : within c.shovels 0 3 = true := within_iff.2 ⟨h.h0, h.h3⟩
    have e4 : decide (c.last < 0) = false := by have := h.l0; simp; omega
    have e5 : decide (999 < c.most) = false := by have := h.m9; simp; omega
    simp only [bad2, e1, e2, e3, e4, e5]; rfl
  have h3 : bad3 c = false := by
    have e1 : coalB c c.coal = true := by
      simp only [coalB, Bool.and_eq_true, decide_eq_true_eq, allN_iff, within_iff]
      exact ⟨h.cl, fun j _ => h.cb j⟩
    have e2 : promB c c.want = true := promB_of h.wl h.wb
    have e3 : decide ((c.loss.length : Int) = c.last + 1) = true := by have := h.ll; simpa using this
    have e4 : allN (fun j => okR 99 (p1 c.loss j) (p2 c.loss j)) c.loss.length = true := (allN_iff _ _).2 h.lb
    have e5 : allN (fun j => okRd c.last (t1 c.rds j) (t2 c.rds j) (t3 c.rds j)) c.rds.length = true := (allN_iff _ _).2 fun j hj => by
      have := h.rb j hj
      simp only [okRd, Bool.and_eq_true, within_iff]
      exact ⟨⟨this.1, this.2.1⟩, this.2.2⟩
    simp only [bad3, e1, e2, h.hh, e3, e4, e5]; rfl
  have h4 : ¬ 2000 < manyC c c.loss.length := by have := h.many; omega
  unfold checkCop
  rw [h1, h2, h3]
  simp [h4]
/-- The coppers with another Want. -/
def withWant (c : Cop) (w : List Int) : Cop := { c with want := w }
theorem manyC_want (c : Cop) (w : List Int) : ∀ j, manyC (withWant c w) j = manyC c j := by
  intro j
  induction j with
  | zero => rfl
  | succ j ih => simp only [manyC, ih]; rfl
theorem okc_want {c : Cop} (h : Okc c) {w : List Int} (hl : (w.length : Int) = c.last + 1) (hw : ∀ j, 0 ≤ nth w j ∧ nth w j ≤ 20) : Okc (withWant c w) :=
  { l0 := h.l0, l4 := h.l4, m0 := h.m0, m9 := h.m9, s0 := h.s0, s9 := h.s9, p1 := h.p1, p20 := h.p20, h0 := h.h0, h3 := h.h3, cl := h.cl, wl := hl, ll := h.ll, rl := h.rl, cb := h.cb, wb := hw, hh := h.hh, lb := h.lb, rb := h.rb, many := by rw [manyC_want]; exact h.many }
theorem isSc_want {c : Cop} {w : List Int} {s : Int × List Int} : IsSc (withWant c w) s ↔ IsSc c s := ⟨fun h => ⟨h.h1, h.h2, h.len, h.l⟩, fun h => ⟨h.h1, h.h2, h.len, h.l⟩⟩
theorem right_nil {c : Cop} (h : c.rds = []) (s : Int × List Int) : rightB c s = true := by
  unfold rightB
  rw [h]
  rfl
theorem truths_want {c : Cop} (h : Okc c) (hr : c.rds = []) {w : List Int} (hl : (w.length : Int) = c.last + 1) (hw : ∀ j, 0 ≤ nth w j ∧ nth w j ≤ 20) (s : Int × List Int) : s ∈ truthsC (withWant c w) ↔ s ∈ truthsC c := by
  rw [mem_truthsC (okc_want h hl hw), mem_truthsC h, isSc_want]
  have e1 : rightB (withWant c w) s = true := right_nil (c := withWant c w) hr s
  have e2 : rightB c s = true := right_nil hr s
  simp [e1, e2]
/-- All is kept with promises, in all truths. -/
def AllK (c : Cop) (w : List Int) : Prop := ∀ s ∈ truthsC c, wholeB c c.coal w s = true
theorem AllK.mono {c : Cop} (hp : 0 < c.per) {w w' : List Int} (h : AllK c w') (hw : ∀ i, nth w i ≤ nth w' i) : AllK c w := fun s hs => mono_whole hp hw (h s hs)
theorem moreC_one (c : Cop) (more : List Int) (hne : truthsC c ≠ []) : moreC c more = 1 ↔ AllK c (sumL c.want more (c.last + 1).toNat) := by
  unfold moreC
  rw [wholesC_P _ _ _ _ hne, verdP_one]
  exact Iff.rfl
theorem idxN_some {p : Nat → Bool} : ∀ (n i : Nat), (∃ k, i ≤ k ∧ k < i + n ∧ p k = true) → ∃ j : Nat, idxN p i n = j ∧ i ≤ j ∧ j < i + n ∧ p j = true ∧ ∀ k, i ≤ k → k < j → p k = false := by
  intro n
  induction n with
  | zero => rintro i ⟨k, h1, h2, _⟩; omega
  | succ n ih =>
    rintro i ⟨k, h1, h2, h3⟩
    simp only [idxN]
    by_cases hp : p i = true
    · rw [if_pos hp]
      exact ⟨i, rfl, Nat.le_refl _, by omega, hp, fun k h1 h2 => by omega⟩
    · rw [if_neg hp]
      have hne : i ≠ k := fun e => hp (e ▸ h3)
      obtain ⟨j, e, g1, g2, g3, g4⟩ := ih (i + 1) ⟨k, by omega, by omega, h3⟩
      refine ⟨j, e, by omega, by omega, g3, fun k' h1 h2 => ?_⟩
      by_cases he : k' = i
      · rw [he]; simpa using hp
      · exact g4 k' (by omega) h2
end Go.Proofs.YtpgnplmjfhdncaaGreat
/- Free is what places, Spare and Want leave. No program in sight. -/
namespace Go.Proofs.YtpgnplmjfhdncaaGreat
set_option linter.unusedVariables false
theorem canB_iff {r : Rm} {n : List Int} : canB r n = true ↔ ∀ k : Nat, (k : Int) ≤ r.cop.last → roomB r.places (nth r.cop.want k) r.buckets (nth n k) = true := by
  have key : ∀ (d i : Nat), canFrom r n i d = true ↔ ∀ k, i ≤ k → k < i + d → roomB r.places (nth r.cop.want k) r.buckets (nth n k) = true := by
    intro d
    induction d with
    | zero => intro i; simp only [canFrom]; exact ⟨fun _ k h1 h2 => by omega, fun _ => trivial⟩
    | succ d ih =>
      intro i
      simp only [canFrom, Bool.and_eq_true, ih (i + 1)]
      constructor
      · rintro ⟨h1, h2⟩ k h3 h4
        by_cases he : k = i
        · rw [he]; exact h1
        · exact h2 k (by omega) (by omega)
      · intro h
        exact ⟨h i (Nat.le_refl _) (by omega), fun k h1 h2 => h k (by omega) (by omega)⟩
  unfold canB
  rw [key]
  constructor
  · intro h k hk; exact h k (Nat.zero_le _) (by omega)
  · intro h k _ hk; exact h k (by omega)
theorem roomB_iff {places want buckets k : Int} (hk : 0 ≤ k) : roomB places want buckets k = true ↔ k = 0 ∨ (k ≤ places ∧ want + buckets * k ≤ 20) := by
  simp [roomB]
theorem bucketsL_at (r : Rm) (n : List Int) {i : Nat} (hi : i < (r.cop.last + 1).toNat) : nth (bucketsL r n) i = r.buckets * nth n i := by rw [bucketsL, nth_rowI _ hi]
theorem sumL_at (a b : List Int) (n : Nat) {i : Nat} (hi : i < n) : nth (sumL a b n) i = nth a i + nth b i := by rw [sumL, nth_rowI _ hi]
theorem sumL_len (a b : List Int) (n : Nat) : (sumL a b n).length = n := by rw [sumL, rowI_len]
/-- The Want with the buckets of the numbers. -/
def wantN (r : Rm) (n : List Int) : List Int := sumL r.cop.want (bucketsL r n) (r.cop.last + 1).toNat
theorem wantN_at (r : Rm) (n : List Int) {i : Nat} (hi : i < (r.cop.last + 1).toNat) : nth (wantN r n) i = nth r.cop.want i + r.buckets * nth n i := by rw [wantN, sumL_at _ _ _ hi, bucketsL_at _ _ hi]
theorem wantN_len (r : Rm) (n : List Int) : (wantN r n).length = (r.cop.last + 1).toNat := sumL_len _ _ _
theorem wantN_bd {r : Rm} (ho : RoomOk r) {n : List Int} (hn : ∀ j, 0 ≤ nth n j) (hc : canB r n = true) : ∀ j, 0 ≤ nth (wantN r n) j ∧ nth (wantN r n) j ≤ 20 := fun j => by
  by_cases hj : j < (r.cop.last + 1).toNat
  · rw [wantN_at _ _ hj]
    have h1 := canB_iff.1 hc j (by omega)
    rw [roomB_iff (hn j)] at h1
    have h2 := ho.cop.wb j
    have h3 := ho.b1
    have h4 : 0 ≤ r.buckets * nth n j := Int.mul_nonneg (by omega) (hn j)
    rcases h1 with h1 | h1
    · rw [h1, Int.mul_zero] at *; omega
    · omega
  · rw [nth_out _ _ (by rw [wantN_len]; omega)]; omega
theorem keepsF_one {r : Rm} (ho : RoomOk r) (n : List Int) : keepsF r n = 1 ↔ AllK r.cop (wantN r n) := moreC_one r.cop (bucketsL r n) ho.tr
theorem sureB_iff {r : Rm} (ho : RoomOk r) (n : List Int) : sureB r n = true ↔ canB r n = true ∧ AllK r.cop (wantN r n) := by
  unfold sureB
  rw [Bool.and_eq_true, beq_iff_eq, keepsF_one ho]
/-- The wanted coppers. -/
def wantW (r : Rm) (n : List Int) : Cop := withWant r.cop (wantN r n)
theorem wantW_ok {r : Rm} (ho : RoomOk r) {n : List Int} (hn : ∀ j, 0 ≤ nth n j) (hc : canB r n = true) : Okc (wantW r n) :=
  okc_want ho.cop (by have := ho.cop.l0; rw [wantN_len]; omega) (wantN_bd ho hn hc)
theorem wantW_tr {r : Rm} (ho : RoomOk r) (hr : r.cop.rds = []) {n : List Int} (hn : ∀ j, 0 ≤ nth n j) (hc : canB r n = true) (s : Int × List Int) : s ∈ truthsC (wantW r n) ↔ s ∈ truthsC r.cop :=
  truths_want ho.cop hr (by have := ho.cop.l0; rw [wantN_len]; omega) (wantN_bd ho hn hc) s
theorem wantW_ne {r : Rm} (ho : RoomOk r) (hr : r.cop.rds = []) {n : List Int} (hn : ∀ j, 0 ≤ nth n j) (hc : canB r n = true) : truthsC (wantW r n) ≠ [] := fun h => ho.tr (by
  apply List.eq_nil_iff_forall_not_mem.2
  intro s hs
  rw [← wantW_tr ho hr hn hc, h] at hs
  cases hs)
theorem before_want (c : Cop) (w coal want : List Int) (s : Int × List Int) : ∀ i, before (withWant c w) coal want s i = before c coal want s i := by
  intro i
  induction i with
  | zero => rfl
  | succ i ih => simp only [before, ih]; rfl
theorem whole_want (c : Cop) (w coal want : List Int) (s : Int × List Int) : wholeB (withWant c w) coal want s = wholeB c coal want s := by
  have : keptAt (withWant c w) coal want s = keptAt c coal want s := by
    funext i
    simp only [keptAt, hotAt, heatAt, before_want]
    rfl
  unfold wholeB
  rw [this]
  rfl
theorem allK_W {r : Rm} (ho : RoomOk r) (hr : r.cop.rds = []) {n : List Int} (hn : ∀ j, 0 ≤ nth n j) (hc : canB r n = true) (w : List Int) : AllK (wantW r n) w ↔ AllK r.cop w := by
  constructor
  · intro h s hs
    have h1 := h s ((wantW_tr ho hr hn hc s).2 hs)
    rw [wantW, whole_want] at h1
    exact h1
  · intro h s hs
    rw [wantW, whole_want]
    exact h s ((wantW_tr ho hr hn hc s).1 hs)
/-- The Want of numbers with t more buckets in an hour. -/
def wantT (r : Rm) (n : List Int) (h : Nat) (t : Int) : List Int := sumL (wantN r n) (singleL (wantW r n) h t) (r.cop.last + 1).toNat
theorem wantT_at (r : Rm) (n : List Int) (h : Nat) (t : Int) {i : Nat} (hi : i < (r.cop.last + 1).toNat) : nth (wantT r n h t) i = nth (wantN r n) i + if i = h then t else 0 := by
  rw [wantT, sumL_at _ _ _ hi]
  have : nth (singleL (wantW r n) h t) i = if i = h then t else 0 := by rw [singleL, nth_rowI _ (show i < ((wantW r n).last + 1).toNat from hi)]
  rw [this]
theorem wantT_mono (r : Rm) (n : List Int) (h : Nat) {t t' : Int} (ht : t ≤ t') : ∀ i, nth (wantT r n h t) i ≤ nth (wantT r n h t') i := fun i => by
  by_cases hi : i < (r.cop.last + 1).toNat
  · rw [wantT_at _ _ _ _ hi, wantT_at _ _ _ _ hi]; split <;> omega
  · rw [nth_out _ _ (by rw [wantT, sumL_len]; omega), nth_out _ _ (by rw [wantT, sumL_len]; omega)]; omega
theorem wantT_zero (r : Rm) (n : List Int) (h : Nat) : wantT r n h 0 = wantN r n := by
  refine ext_nth (by rw [wantT, sumL_len, wantN_len]) (fun i hi => ?_)
  have hi' : i < (r.cop.last + 1).toNat := by rw [wantT, sumL_len] at hi; exact hi
  rw [wantT_at _ _ _ _ hi']
  split <;> omega
theorem wantT_add (r : Rm) (n : List Int) {h : Nat} (h4 : r.cop.last ≤ 4) (m : Int) : wantN r (addAt n h m) = wantT r n h (r.buckets * m) := by
  refine ext_nth (by rw [wantT, sumL_len, wantN_len]) (fun i hi => ?_)
  have hi' : i < (r.cop.last + 1).toNat := by rw [wantN_len] at hi; exact hi
  rw [wantT_at _ _ _ _ hi', wantN_at _ _ hi', wantN_at _ _ hi', nth_addAt _ _ _ _ (by omega)]
  split
  · rw [Int.mul_add]; omega
  · omega
theorem more_T {r : Rm} (ho : RoomOk r) (hr : r.cop.rds = []) {n : List Int} (hn : ∀ j, 0 ≤ nth n j) (hc : canB r n = true) (h : Nat) (t : Int) : moreC (wantW r n) (singleL (wantW r n) h t) = 1 ↔ AllK r.cop (wantT r n h t) := by
  rw [moreC_one _ _ (wantW_ne ho hr hn hc), allK_W ho hr hn hc]
  exact Iff.rfl
theorem bathed_no {r : Rm} (ho : RoomOk r) (hr : r.cop.rds = []) {n : List Int} (hn : ∀ j, 0 ≤ nth n j) (hc : canB r n = true) (h : Nat) (hs : sureB r n = false) : 0 ≤ lacksI (wantW r n) ∧ spareI (wantW r n) h < 0 := by
  have hna : ¬ AllK r.cop (wantN r n) := fun ha => by
    have := (sureB_iff ho n).2 ⟨hc, ha⟩
    rw [hs] at this; cases this
  have hp := ho.cop.p1
  constructor
  · rcases Int.lt_or_le (lacksI (wantW r n)) 0 with hlt | hge
    · have h1 := (lacks_neg _ (wantW_ne ho hr hn hc)).1 hlt
      exact (hna ((allK_W ho hr hn hc _).1 h1)).elim
    · exact hge
  · rcases Int.lt_or_le (spareI (wantW r n) h) 0 with hlt | hge
    · exact hlt
    · obtain ⟨j, _, hj, hpj⟩ := (idxN_ge _ 21 0).1 hge
      have h1 := (more_T ho hr hn hc h (20 - (j : Int))).1 (by simpa using hpj)
      refine (hna ?_).elim
      rw [← wantT_zero r n h]
      exact h1.mono (by omega) (wantT_mono r n h (by omega))
theorem le_div {a b m : Int} (hb : 1 ≤ b) : m ≤ a / b ↔ b * m ≤ a := by
  rw [Int.le_ediv_iff_mul_le (by omega), Int.mul_comm]
theorem bathed_yes {r : Rm} (ho : RoomOk r) (hr : r.cop.rds = []) {n : List Int} (hn : ∀ j, 0 ≤ nth n j) (h : Nat) (hh : (h : Int) ≤ r.cop.last) (hs : sureB r n = true) :
    lacksI (wantW r n) < 0 ∧ 0 ≤ spareI (wantW r n) h ∧ freeC r n h = min (min (r.places - nth n h) ((20 - spareI (wantW r n) h) / r.buckets)) ((20 - nth (wantN r n) h) / r.buckets) := by
  obtain ⟨hc, ha⟩ := (sureB_iff ho n).1 hs
  have hp := ho.cop.p1
  have hl0 := ho.cop.l0
  have hl4 := ho.cop.l4
  have hb1 := ho.b1
  have hhn : h < (r.cop.last + 1).toNat := by omega
  have hwb := wantN_bd ho hn hc
  refine ⟨(lacks_neg _ (wantW_ne ho hr hn hc)).2 ((allK_W ho hr hn hc _).2 ha), ?_⟩
  obtain ⟨j, hj, _, hj21, hpj, hfirst⟩ := idxN_some (p := fun k => moreC (wantW r n) (singleL (wantW r n) h (20 - (k : Int))) == 1) 21 0 ⟨20, by omega, by omega, by
    have := (more_T ho hr hn hc h 0).2 (by rw [wantT_zero]; exact ha)
    simpa using this⟩
  have hsp : spareI (wantW r n) h = j := hj
  rw [hsp]
  refine ⟨by omega, ?_⟩
  -- what is kept with t more
  have hT : ∀ t : Int, 0 ≤ t → t ≤ 20 → (AllK r.cop (wantT r n h t) ↔ t ≤ 20 - (j : Int)) := by
    intro t h0 h20
    constructor
    · intro hk
      rcases Int.lt_or_le (20 - (j : Int)) t with hlt | hle
      · have h1 := hfirst (20 - t).toNat (Nat.zero_le _) (by omega)
        have h2 := (more_T ho hr hn hc h t).2 hk
        have e : (20 : Int) - ((20 - t).toNat : Nat) = t := by omega
        simp only [e, h2] at h1
        cases h1
      · exact hle
    · intro hle
      have h1 := (more_T ho hr hn hc h (20 - (j : Int))).1 (by simpa using hpj)
      exact h1.mono (by omega) (wantT_mono r n h hle)
  obtain ⟨M, hM⟩ : ∃ M : Int, M = min (min (r.places - nth n h) ((20 - (j : Int)) / r.buckets)) ((20 - nth (wantN r n) h) / r.buckets) := ⟨_, rfl⟩
  rw [← hM]
  have hnh := hn h
  have hwn := wantN_at r n hhn
  have hroom := canB_iff.1 hc h hh
  rw [roomB_iff hnh] at hroom
  have hp5 := ho.p5
  have hp0 := ho.p0
  have hM0 : 0 ≤ M := by
    have e1 : 0 ≤ (20 - (j : Int)) / r.buckets := Int.ediv_nonneg (by omega) (by omega)
    have e2 : 0 ≤ (20 - nth (wantN r n) h) / r.buckets := Int.ediv_nonneg (by have := hwb h; omega) (by omega)
    omega
  have hM5 : M ≤ 5 := by omega
  -- how many more are sure
  have key : ∀ m : Int, 1 ≤ m → m ≤ 7 → (sureB r (addAt n h m) = true ↔ m ≤ M) := by
    intro m hm1 hm7
    rw [sureB_iff ho, wantT_add r n hl4 m]
    have hadd : nth (addAt n h m) h = nth n h + m := by rw [nth_addAt _ _ _ _ (by omega), if_pos rfl]
    have e3 : m ≤ M ↔ (nth n h + m ≤ r.places ∧ r.buckets * m ≤ 20 - (j : Int) ∧ r.buckets * m ≤ 20 - nth (wantN r n) h) := by
      rw [hM]
      have d1 := le_div (a := 20 - (j : Int)) (b := r.buckets) (m := m) hb1
      have d2 := le_div (a := 20 - nth (wantN r n) h) (b := r.buckets) (m := m) hb1
      omega
    rw [e3]
    have hbm : r.buckets * (nth n h + m) = r.buckets * nth n h + r.buckets * m := Int.mul_add _ _ _
    have hbm0 : 0 ≤ r.buckets * m := Int.mul_nonneg (by omega) (by omega)
    have hcan : canB r (addAt n h m) = true ↔ (nth n h + m ≤ r.places ∧ r.buckets * m ≤ 20 - nth (wantN r n) h) := by
      rw [canB_iff]
      constructor
      · intro hk
        have h1 := hk h hh
        rw [hadd, roomB_iff (by omega)] at h1
        rcases h1 with h1 | h1
        · omega
        · rw [hbm] at h1; omega
      · rintro ⟨h1, h2⟩ k hk
        by_cases he : k = h
        · subst he
          rw [hadd, roomB_iff (by omega)]
          right
          rw [hbm]
          omega
        · have := canB_iff.1 hc k hk
          rw [nth_addAt _ _ _ _ (by omega), if_neg he]
          exact this
    rw [hcan]
    constructor
    · rintro ⟨⟨h1, h2⟩, h3⟩
      have hle : r.buckets * m ≤ 20 := by have := hwb h; omega
      exact ⟨h1, (hT _ hbm0 hle).1 h3, h2⟩
    · rintro ⟨h1, h2, h3⟩
      have hle : r.buckets * m ≤ 20 := by have := hwb h; omega
      exact ⟨⟨h1, h3⟩, (hT _ hbm0 hle).2 h2⟩
  unfold freeC
  obtain ⟨i, hi, _, hi7, hpi, hfi⟩ := idxN_some (p := fun k => !sureB r (addAt n h ((k : Int) + 1))) 7 0 ⟨M.toNat, Nat.zero_le _, by omega, by
    have h1 := key ((M.toNat : Int) + 1) (by omega) (by omega)
    cases hs2 : sureB r (addAt n h ((M.toNat : Int) + 1)) with
    | false => rfl
    | true => have := h1.1 hs2; omega⟩
  rw [hi]
  have g1 : ¬ ((i : Int) + 1 ≤ M) := fun hle => by
    have := (key ((i : Int) + 1) (by omega) (by omega)).2 hle
    simp [this] at hpi
  have g2 : (i : Int) ≤ M := by
    rcases Int.lt_or_le M (i : Int) with hlt | hle
    · have h1 := hfi M.toNat (Nat.zero_le _) (by omega)
      have h2 : sureB r (addAt n h ((M.toNat : Int) + 1)) = true := by simpa using h1
      have := (key ((M.toNat : Int) + 1) (by omega) (by omega)).1 h2
      omega
    · exact hle
  omega
end Go.Proofs.YtpgnplmjfhdncaaGreat
