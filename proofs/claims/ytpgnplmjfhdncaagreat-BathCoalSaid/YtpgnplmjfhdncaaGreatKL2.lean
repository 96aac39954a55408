/- Fewer buckets are kept whenever more are; Free by Spare. No program in sight. -/
import Derived.Test.YtpgnplmjfhdncaaGreatKR19
namespace Go.Proofs.YtpgnplmjfhdncaaGreat
set_option linter.unusedVariables false
theorem heatOf_mono {c : Cop} {coal : List Int} {s : Int × List Int} {i : Nat} {x y : Int} (h : x ≤ y) : heatOf c coal s i x ≤ heatOf c coal s i y := by
  unfold heatOf; omega
theorem div_mono {a b p : Int} (hp : 0 < p) (h : a ≤ b) : a / p ≤ b / p := Int.ediv_le_ediv hp h
theorem mono_before {c : Cop} {coal want want' : List Int} {s : Int × List Int} (hp : 0 < c.per) (h : ∀ i, nth want i ≤ nth want' i) : ∀ i, (∀ j, j < i → keptAt c coal want' s j = true) → before c coal want' s i ≤ before c coal want s i := by
  intro i
  induction i with
  | zero => intro _; exact Int.le_refl _
  | succ i ih =>
    intro hk
    have h1 := ih (fun j hj => hk j (by omega))
    have h2 := hk i (by omega)
    have h3 : nth want' i ≤ heatAt c coal want' s i / c.per := of_decide_eq_true h2
    have h4 : heatAt c coal want' s i ≤ heatAt c coal want s i := heatOf_mono h1
    have h5 := div_mono hp h4
    have h6 := h i
    show leftOf c.per (nth want' i) (heatAt c coal want' s i) ≤ leftOf c.per (nth want i) (heatAt c coal want s i)
    unfold leftOf
    rw [if_pos h3, if_pos (by omega)]
    have h7 : nth want i * c.per ≤ nth want' i * c.per := Int.mul_le_mul_of_nonneg_right h6 (by omega)
    omega
theorem mono_whole {c : Cop} {coal want want' : List Int} {s : Int × List Int} (hp : 0 < c.per) (h : ∀ i, nth want i ≤ nth want' i) (hw : wholeB c coal want' s = true) : wholeB c coal want s = true := by
  unfold wholeB at hw ⊢
  rw [allN_iff] at hw ⊢
  intro j hj
  have h1 := mono_before hp h j (fun i hi => hw i (by omega))
  have h2 := hw j hj
  have h3 : nth want' j ≤ heatAt c coal want' s j / c.per := of_decide_eq_true h2
  have h4 : heatAt c coal want' s j ≤ heatAt c coal want s j := heatOf_mono h1
  have h5 := div_mono hp h4
  have h6 := h j
  exact decide_eq_true (show nth want j ≤ heatAt c coal want s j / c.per by omega)
theorem check_of {c : Cop} (h : Okc c) : checkCop c = 0 := by
  have h1 : bad1 c = false := by
    have := h.l4
    have := h.rl
    simp [bad1]; omega
  have h2 : bad2 c = false := by
    have e1 : within c.start 0 c.most = true := within_iff.2 ⟨h.s0, h.s9⟩
    have e2 : within c.per 1 20 = true := within_iff.2 ⟨h.p1, h.p20⟩
    have e3 : within c.shovels 0 3 = true := within_iff.2 ⟨h.h0, h.h3⟩
    have e4 : decide (c.last < 0) = false := by have := h.l0; simp; omega
    have e5 : decide (999 < c.most) = false := by have := h.m9; simp; omega
    simp only [bad2, e1, e2, e3, e4, e5]; rfl
  have h3 : bad3 c = false := by
    have e1 : coalB c c.coal = true := by
      simp only [coalB, Bool.and_eq_true, decide_eq_true_eq, allN_iff, within_iff]
      exact ⟨h.cl, fun j _ => h.cb j⟩
    have e2 : promB c c.want = true := promB_of h.wl h.wb
    have e3 : decide ((c.loss.length : Int) = c.last + 1) = true := by have := h.ll; simpa using this
    have e4 : allN (fun j => okR 99 (p1 c.loss j) (p2 c.loss j)) c.loss.length = true := (allN_iff _ _).2 h.lb
    have e5 : allN (fun j => okRd c.last (t1 c.rds j) (t2 c.rds j) (t3 c.rds j)) c.rds.length = true := (allN_iff _ _).2 fun j hj => by
      have := h.rb j hj
      simp only [okRd, Bool.and_eq_true, within_iff]
      exact ⟨⟨this.1, this.2.1⟩, this.2.2⟩
    simp only [bad3, e1, e2, h.hh, e3, e4, e5]; rfl
  have h4 : ¬ 2000 < manyC c c.loss.length := by have := h.many; omega
  unfold checkCop
  rw [h1, h2, h3]
  simp [h4]
/-- The coppers with another Want. -/
def withWant (c : Cop) (w : List Int) : Cop := { c with want := w }
theorem manyC_want (c : Cop) (w : List Int) : ∀ j, manyC (withWant c w) j = manyC c j := by
  intro j
  induction j with
  | zero => rfl
  | succ j ih => simp only [manyC, ih]; rfl
theorem okc_want {c : Cop} (h : Okc c) {w : List Int} (hl : (w.length : Int) = c.last + 1) (hw : ∀ j, 0 ≤ nth w j ∧ nth w j ≤ 20) : Okc (withWant c w) :=
  { l0 := h.l0, l4 := h.l4, m0 := h.m0, m9 := h.m9, s0 := h.s0, s9 := h.s9, p1 := h.p1, p20 := h.p20, h0 := h.h0, h3 := h.h3, cl := h.cl, wl := hl, ll := h.ll, rl := h.rl, cb := h.cb, wb := hw, hh := h.hh, lb := h.lb, rb := h.rb, many := by rw [manyC_want]; exact h.many }
theorem isSc_want {c : Cop} {w : List Int} {s : Int × List Int} : IsSc (withWant c w) s ↔ IsSc c s := ⟨fun h => ⟨h.h1, h.h2, h.len, h.l⟩, fun h => ⟨h.h1, h.h2, h.len, h.l⟩⟩
theorem right_nil {c : Cop} (h : c.rds = []) (s : Int × List Int) : rightB c s = true := by
  unfold rightB
  rw [h]
  rfl
theorem truths_want {c : Cop} (h : Okc c) (hr : c.rds = []) {w : List Int} (hl : (w.length : Int) = c.last + 1) (hw : ∀ j, 0 ≤ nth w j ∧ nth w j ≤ 20) (s : Int × List Int) : s ∈ truthsC (withWant c w) ↔ s ∈ truthsC c := by
  rw [mem_truthsC (okc_want h hl hw), mem_truthsC h, isSc_want]
  have e1 : rightB (withWant c w) s = true := right_nil (c := withWant c w) hr s
  have e2 : rightB c s = true := right_nil hr s
  simp [e1, e2]
/-- All is kept with promises, in all truths. -/
def AllK (c : Cop) (w : List Int) : Prop := ∀ s ∈ truthsC c, wholeB c c.coal w s = true
theorem AllK.mono {c : Cop} (hp : 0 < c.per) {w w' : List Int} (h : AllK c w') (hw : ∀ i, nth w i ≤ nth w' i) : AllK c w := fun s hs => mono_whole hp hw (h s hs)
end Go.Proofs.YtpgnplmjfhdncaaGreat
/- Free is what places, Spare and Want leave. No program in sight. -/
namespace Go.Proofs.YtpgnplmjfhdncaaGreat
set_option linter.unusedVariables false
theorem canB_iff {r : Rm} {n : List Int} : canB r n = true ↔ ∀ k : Nat, (k : Int) ≤ r.cop.last → roomB r.places (nth r.cop.want k) r.buckets (nth n k) = true := by
  have key : ∀ (d i : Nat), canFrom r n i d = true ↔ ∀ k, i ≤ k → k < i + d → roomB r.places (nth r.cop.want k) r.buckets (nth n k) = true := by
    intro d
    induction d with
    | zero => intro i; simp only [canFrom]; exact ⟨fun _ k h1 h2 => by omega, fun _ => trivial⟩
    | succ d ih =>
      intro i
      simp only [canFrom, Bool.and_eq_true, ih (i + 1)]
      constructor
      · rintro ⟨h1, h2⟩ k h3 h4
        by_cases he : k = i
        · rw [he]; exact h1
        · exact h2 k (by omega) (by omega)
      · intro h
        exact ⟨h i (Nat.le_refl _) (by omega), fun k h1 h2 => h k (by omega) (by omega)⟩
  unfold canB
  rw [key]
  constructor
  · intro h k hk; exact h k (Nat.zero_le _) (by omega)
  · intro h k _ hk; exact h k (by omega)
theorem roomB_iff {places want buckets k : Int} (hk : 0 ≤ k) : roomB places want buckets k = true ↔ k = 0 ∨ (k ≤ places ∧ want + buckets * k ≤ 20) := by
  simp [roomB]
theorem bucketsL_at (r : Rm) (n : List Int) {i : Nat} (hi : i < (r.cop.last + 1).toNat) : nth (bucketsL r n) i = r.buckets * nth n i := by rw [bucketsL, nth_rowI _ hi]
theorem sumL_at (a b : List Int) (n : Nat) {i : Nat} (hi : i < n) : nth (sumL a b n) i = nth a i + nth b i := by rw [sumL, nth_rowI _ hi]
theorem sumL_len (a b : List Int) (n : Nat) : (sumL a b n).length = n := by rw [sumL, rowI_len]
/-- The Want with the buckets of the numbers. -/
def wantN (r : Rm) (n : List Int) : List Int := sumL r.cop.want (bucketsL r n) (r.cop.last + 1).toNat
theorem wantN_at (r : Rm) (n : List Int) {i : Nat} (hi : i < (r.cop.last + 1).toNat) : nth (wantN r n) i = nth r.cop.want i + r.buckets * nth n i := by rw [wantN, sumL_at _ _ _ hi, bucketsL_at _ _ hi]
theorem wantN_len (r : Rm) (n : List Int) : (wantN r n).length = (r.cop.last + 1).toNat := sumL_len _ _ _
theorem wantN_bd {r : Rm} (ho : RoomOk r) {n : List Int} (hn : ∀ j, 0 ≤ nth n j) (hc : canB r n = true) : ∀ j, 0 ≤ nth (wantN r n) j ∧ nth (wantN r n) j ≤ 20 := fun j => by
  by_cases hj : j < (r.cop.last + 1).toNat
  · rw [wantN_at _ _ hj]
    have h1 := canB_iff.1 hc j (by omega)
    rw [roomB_iff (hn j)] at h1
    have h2 := ho.cop.wb j
    have h3 := ho.b1
    have h4 : 0 ≤ r.buckets * nth n j := Int.mul_nonneg (by omega) (hn j)
    rcases h1 with h1 | h1
    · rw [h1, Int.mul_zero] at *; omega
    · omega
  · rw [nth_out _ _ (by rw [wantN_len]; omega)]; omega
/-- The wanted coppers. -/
def wantW (r : Rm) (n : List Int) : Cop := withWant r.cop (wantN r n)
theorem wantW_ok {r : Rm} (ho : RoomOk r) {n : List Int} (hn : ∀ j, 0 ≤ nth n j) (hc : canB r n = true) : Okc (wantW r n) :=
  okc_want ho.cop (by have := ho.cop.l0; rw [wantN_len]; omega) (wantN_bd ho hn hc)
theorem wantW_tr {r : Rm} (ho : RoomOk r) (hr : r.cop.rds = []) {n : List Int} (hn : ∀ j, 0 ≤ nth n j) (hc : canB r n = true) (s : Int × List Int) : s ∈ truthsC (wantW r n) ↔ s ∈ truthsC r.cop :=
  truths_want ho.cop hr (by have := ho.cop.l0; rw [wantN_len]; omega) (wantN_bd ho hn hc) s
theorem wantW_ne {r : Rm} (ho : RoomOk r) (hr : r.cop.rds = []) {n : List Int} (hn : ∀ j, 0 ≤ nth n j) (hc : canB r n = true) : truthsC (wantW r n) ≠ [] := fun h => ho.tr (by
  apply List.eq_nil_iff_forall_not_mem.2
  intro s hs
  rw [← wantW_tr ho hr hn hc, h] at hs
  cases hs)
end Go.Proofs.YtpgnplmjfhdncaaGreat
