/- A part of the proof: C3. -/
import Derived.Test.YtpgnplmjfhdncaaGreatKC1
import Derived.Test.YtpgnplmjfhdncaaGreatKC2
namespace Go.Proofs.YtpgnplmjfhdncaaGreat
open Go.RowKit
theorem inside_c (lo hi most : Int) (w : World) :
    Calls Tryz.prog 155 #[.agg #[.int .i64 lo, .int .i64 hi], .int .i64 most] w fun e w' => e = .returned (.bool (okR most lo hi)) ∧ Below w.heap.size w w' := by
  cases h1 : decide (0 ≤ lo) with
  | true =>
    cases h2 : decide (lo ≤ hi) with
    | true =>
      have HF : Hid (okR most lo hi = decide (hi ≤ most)) := by unfold Hid; simp only [okR, h1, h2, Bool.true_and]
      go_enter Tryz.func155, Tryz.ntmps155
      go_wp2
      go_ret
      exact ⟨by rw [HF.out]; rfl, bl_al (Below.refl _ _) _⟩
    | false =>
      have HF : Hid (okR most lo hi = false) := by unfold Hid; simp only [okR, h1, h2, Bool.true_and, Bool.false_and]
      go_enter Tryz.func155, Tryz.ntmps155
      go_wp2
      go_ret
      exact ⟨by rw [HF.out]; rfl, bl_al (Below.refl _ _) _⟩
  | false =>
    have HF : Hid (okR most lo hi = false) := by unfold Hid; simp only [okR, h1, Bool.false_and]
    go_enter Tryz.func155, Tryz.ntmps155
    go_wp2
    go_ret
    exact ⟨by rw [HF.out]; rfl, bl_al (Below.refl _ _) _⟩
theorem size_c (lo hi : Int) (w : World) (h1 : 0 ≤ lo) (h2 : lo ≤ hi) (h3 : hi ≤ 99) :
    Calls Tryz.prog 159 #[.agg #[.int .i64 lo, .int .i64 hi]] w fun e w' => e = .returned (.int .i64 (hi - lo + 1)) ∧ Below w.heap.size w w' := by
  go_enter Tryz.func159, Tryz.ntmps159
  go_wp2
  go_ret
  exact ⟨rfl, bl_al (Below.refl _ _) _⟩
theorem has_c (lo hi n : Int) (w : World) :
    Calls Tryz.prog 160 #[.agg #[.int .i64 lo, .int .i64 hi], .int .i64 n] w fun e w' => e = .returned (.bool (within n lo hi)) ∧ Below w.heap.size w w' := by
  go_enter Tryz.func160, Tryz.ntmps160
  go_wp2_with (go_at_call 144; refine (within_c _ _ _ _).mono ?_; rintro e w1 ⟨rfl, rfl⟩)
  go_ret
  exact ⟨rfl, bl_al (Below.refl _ _) _⟩
theorem hour_c (c : Cop) (q : CA) (n : Int) (w : World) :
    Calls Tryz.prog 115 #[copV c q, .int .i64 n] w fun e w' => e = .returned (.bool (within n 0 c.last)) ∧ Below w.heap.size w w' := by
  go_enter Tryz.func115, Tryz.ntmps115
  go_wp2_with (go_at_call 144; refine (within_c _ _ _ _).mono ?_; rintro e w1 ⟨rfl, rfl⟩)
  go_ret
  exact ⟨rfl, bl_al (Below.refl _ _) _⟩
theorem lost_c (lo hi : Int) (w : World) :
    Calls Tryz.prog 157 #[.agg #[.int .i64 lo, .int .i64 hi]] w fun e w' => e = .returned (.bool (okR 99 lo hi)) ∧ Below w.heap.size w w' := by
  go_enter Tryz.func157, Tryz.ntmps157
  go_wp2_with (go_at_call 155; refine (inside_c _ _ _ _).mono ?_; rintro e w1 ⟨rfl, hb⟩; have HB := Lib.hid hb; clear hb)
  go_ret
  exact ⟨rfl, bl_tr (bl_al (Below.refl _ _) _) HB.out⟩
theorem buckets_c (n : Int) (w : World) :
    Calls Tryz.prog 152 #[.int .i64 n] w fun e w' => e = .returned (.bool (within n 0 20)) ∧ Below w.heap.size w w' := by
  go_enter Tryz.func152, Tryz.ntmps152
  go_wp2_with (go_at_call 144; refine (within_c _ _ _ _).mono ?_; rintro e w1 ⟨rfl, rfl⟩)
  go_ret
  exact ⟨rfl, Below.refl _ _⟩
theorem isCoal1_c (n : Int) (sh : Int) (b : Nat) (w : World) (hc : w.cell? ⟨b, 4, none⟩ = some (.int .i64 sh)) :
    Calls Tryz.prog 174 #[.int .i64 n, .pointer (some ⟨b, 0, none⟩)] w fun e w' => e = .returned (.bool (within n 0 sh)) ∧ Below w.heap.size w w' := by
  go_enter Tryz.func174, Tryz.ntmps174
  go_wp2_with (go_at_call 144; refine (within_c _ _ _ _).mono ?_; rintro e w1 ⟨rfl, rfl⟩)
  go_ret
  exact ⟨rfl, Below.refl _ _⟩
theorem reading_c (c : Cop) (q : CA) (h lo hi : Int) (w : World) :
    Calls Tryz.prog 153 #[copV c q, .agg #[.int .i64 h, .int .i64 lo, .int .i64 hi]] w fun e w' => e = .returned (.bool (okRd c.last h lo hi)) ∧ Below w.heap.size w w' := by
  cases h1 : within h 0 c.last with
  | true =>
    have HF : Hid (okRd c.last h lo hi = okR 999 lo hi) := by unfold Hid; simp only [okRd, h1, Bool.true_and]
    go_enter Tryz.func153, Tryz.ntmps153
    go_wp2_with (first | (go_at_call 115; refine (hour_c c q _ _).mono ?_; rintro e w1 ⟨rfl, hb⟩; obtain ⟨d1, rfl⟩ := below_plus hb; clear hb) | (go_at_call 155; refine (inside_c _ _ _ _).mono ?_; rintro e w1 ⟨rfl, hb⟩; have HB := Lib.hid hb; clear hb))
    go_ret
    exact ⟨by rw [HF.out]; rfl, bl_tr (bl_pl (bl_al (bl_al (Below.refl _ _) _) _) _) HB.out⟩
  | false =>
    have HF : Hid (okRd c.last h lo hi = false) := by unfold Hid; simp only [okRd, h1, Bool.false_and]
    go_enter Tryz.func153, Tryz.ntmps153
    go_wp2_with (first | (go_at_call 115; refine (hour_c c q _ _).mono ?_; rintro e w1 ⟨rfl, hb⟩; obtain ⟨d1, rfl⟩ := below_plus hb; clear hb))
    go_ret
    exact ⟨by rw [HF.out]; rfl, bl_pl (bl_al (bl_al (Below.refl _ _) _) _) _⟩
theorem isCoal_c (c : Cop) (q : CA) (l : List Int) (a : Option Addr) (k : Nat) (w : World) (h0 : 0 ≤ c.last) (h4 : c.last ≤ 4) (hn : l.length ≤ 1000000000) (hx : IntsAt w w.heap.size a l) :
    Calls Tryz.prog 154 #[copV c q, .slice a l.length k] w fun e w' => e = .returned (.bool (coalB c l)) ∧ Below w.heap.size w w' := by
  have HX := Lib.hid hx
  clear hx
  cases h1 : decide ((l.length : Int) = c.last + 1) with
  | true =>
    have HF : Hid (coalB c l = allN (fun j => within (nth l j) 0 c.shovels) l.length) := by unfold Hid; simp only [coalB, h1, Bool.true_and]
    have h2 : ((l.length : Int) == c.last + 1) = true := by simpa using h1
    clear h1
    go_enter Tryz.func154, Tryz.ntmps154
    go_wp2_with (go_at_call 151; refine (allI_c 174 #[] #[.pointer (some ⟨w.heap.size, 0, none⟩)] (enters_of Tryz.func174 (by kernel_rfl) rfl) (fun j => within (nth l j) 0 c.shovels) l a k _ hn ((HX.out.below ((Below.refl _ _).alloc (Nat.le_refl _) _)).mono (by simp)) (fun j hj W hW => isCoal1_c _ _ _ _ (cell_later hW (by simp)))).mono ?_; rintro e w1 ⟨rfl, hb⟩; have HB := Lib.hid hb; clear hb)
    go_ret
    exact ⟨by rw [HF.out]; rfl, bl_tr (bl_al (Below.refl _ _) _) HB.out⟩
  | false =>
    have HF : Hid (coalB c l = false) := by unfold Hid; simp only [coalB, h1, Bool.false_and]
    have h2 : ((l.length : Int) == c.last + 1) = false := by simpa using h1
    clear h1
    go_enter Tryz.func154, Tryz.ntmps154
    go_wp2
    go_ret
    exact ⟨by rw [HF.out]; rfl, bl_al (Below.refl _ _) _⟩
theorem promised_c (c : Cop) (q : CA) (l : List Int) (a : Option Addr) (k : Nat) (w : World) (h0 : 0 ≤ c.last) (h4 : c.last ≤ 4) (hn : l.length ≤ 1000000000) (hx : IntsAt w w.heap.size a l) :
    Calls Tryz.prog 119 #[copV c q, .slice a l.length k] w fun e w' => e = .returned (.bool (promB c l)) ∧ Below w.heap.size w w' := by
  have HX := Lib.hid hx
  clear hx
  cases h1 : decide ((l.length : Int) = c.last + 1) with
  | true =>
    have HF : Hid (promB c l = allN (fun j => within (nth l j) 0 20) l.length) := by unfold Hid; simp only [promB, h1, Bool.true_and]
    have h2 : ((l.length : Int) == c.last + 1) = true := by simpa using h1
    clear h1
    go_enter Tryz.func119, Tryz.ntmps119
    go_wp2_with (go_at_call 151; refine (allI_c 152 #[] #[] (enters_of Tryz.func152 (by kernel_rfl) rfl) (fun j => within (nth l j) 0 20) l a k _ hn ((HX.out.below ((Below.refl _ _).alloc (Nat.le_refl _) _)).mono (by simp)) (fun j hj W hW => buckets_c _ _)).mono ?_; rintro e w1 ⟨rfl, hb⟩; have HB := Lib.hid hb; clear hb)
    go_ret
    exact ⟨by rw [HF.out]; rfl, bl_tr (bl_al (Below.refl _ _) _) HB.out⟩
  | false =>
    have HF : Hid (promB c l = false) := by unfold Hid; simp only [promB, h1, Bool.false_and]
    have h2 : ((l.length : Int) == c.last + 1) = false := by simpa using h1
    clear h1
    go_enter Tryz.func119, Tryz.ntmps119
    go_wp2
    go_ret
    exact ⟨by rw [HF.out]; rfl, bl_al (Below.refl _ _) _⟩
end Go.Proofs.YtpgnplmjfhdncaaGreat
