/- The reference's small functions. -/
import Derived.Test.YtpgnplmjfhdncaaGreatKC16
namespace Go.Proofs.YtpgnplmjfhdncaaGreat
open Go.RowKit
set_option linter.unusedVariables false
theorem in_c (a b c : Int) (w : World) :
    Calls Tryz.prog 38 #[.int .i64 a, .int .i64 b, .int .i64 c] w fun e w' => e = .returned (.bool (within a b c)) ∧ w = w' := by
  cases hd : decide (b ≤ a) with
  | true =>
    have hf : within a b c = decide (a ≤ c) := by simp [within, hd]
    have HF := Lib.hid hf; clear hf
    go_enter Tryz.func38, Tryz.ntmps38
    go_wp2
    go_ret
    exact ⟨by rw [HF.out]; rfl, rfl⟩
  | false =>
    have hf : within a b c = false := by simp [within, hd]
    have HF := Lib.hid hf; clear hf
    go_enter Tryz.func38, Tryz.ntmps38
    go_wp2
    go_ret
    exact ⟨by rw [HF.out]; rfl, rfl⟩
theorem rinside_c (lo hi most : Int) (w : World) :
    Calls Tryz.prog 108 #[.agg #[.int .i64 lo, .int .i64 hi], .int .i64 most] w fun e w' => e = .returned (.bool (okR most lo hi)) ∧ Below w.heap.size w w' := by
  cases h1 : decide (0 ≤ lo) with
  | true =>
    cases h2 : decide (lo ≤ hi) with
    | true =>
      have HF : Hid (okR most lo hi = decide (hi ≤ most)) := by unfold Hid; simp only [okR, h1, h2, Bool.true_and]
      go_enter Tryz.func108, Tryz.ntmps108
      go_wp2
      go_ret
      exact ⟨by rw [HF.out]; rfl, bl_al (Below.refl _ _) _⟩
    | false =>
      have HF : Hid (okR most lo hi = false) := by unfold Hid; simp only [okR, h1, h2, Bool.true_and, Bool.false_and]
      go_enter Tryz.func108, Tryz.ntmps108
      go_wp2
      go_ret
      exact ⟨by rw [HF.out]; rfl, bl_al (Below.refl _ _) _⟩
  | false =>
    have HF : Hid (okR most lo hi = false) := by unfold Hid; simp only [okR, h1, Bool.false_and]
    go_enter Tryz.func108, Tryz.ntmps108
    go_wp2
    go_ret
    exact ⟨by rw [HF.out]; rfl, bl_al (Below.refl _ _) _⟩
theorem rsize_c (lo hi : Int) (w : World) (h1 : 0 ≤ lo) (h2 : lo ≤ hi) (h3 : hi ≤ 99) :
    Calls Tryz.prog 136 #[.agg #[.int .i64 lo, .int .i64 hi]] w fun e w' => e = .returned (.int .i64 (hi - lo + 1)) ∧ Below w.heap.size w w' := by
  go_enter Tryz.func136, Tryz.ntmps136
  go_wp2
  go_ret
  exact ⟨rfl, bl_al (Below.refl _ _) _⟩
theorem ris_c (lo hi n : Int) (w : World) :
    Calls Tryz.prog 137 #[.int .i64 n, .agg #[.int .i64 lo, .int .i64 hi]] w fun e w' => e = .returned (.bool (within n lo hi)) ∧ Below w.heap.size w w' := by
  go_enter Tryz.func137, Tryz.ntmps137
  go_wp2_with (go_at_call 38; refine (in_c _ _ _ _).mono ?_; rintro e w1 ⟨rfl, rfl⟩)
  go_ret
  exact ⟨rfl, bl_al (Below.refl _ _) _⟩
def verdN (yes many : Int) : Int := if yes = many then 1 else if yes = 0 then 2 else 3
theorem rverdict_c (yes many : Int) (w : World) :
    Calls Tryz.prog 150 #[.int .i64 yes, .int .i64 many] w fun e w' => e = .returned (.int .i64 (verdN yes many)) ∧ w = w' := by
  by_cases h1 : yes = many
  · have HF : Hid (verdN yes many = 1) := by unfold Hid verdN; rw [if_pos h1]
    subst h1
    go_enter Tryz.func150, Tryz.ntmps150
    go_wp2
    go_ret
    exact ⟨by rw [HF.out]; rfl, rfl⟩
  · by_cases h2 : yes = 0
    · have HF : Hid (verdN yes many = 2) := by unfold Hid verdN; rw [if_neg h1, if_pos h2]
      have h3 : (yes == many) = false := by simpa using h1
      have h4 : (yes == 0) = true := by simpa using h2
      clear h1 h2
      go_enter Tryz.func150, Tryz.ntmps150
      go_wp2
      go_ret
      exact ⟨by rw [HF.out]; rfl, rfl⟩
    · have HF : Hid (verdN yes many = 3) := by unfold Hid verdN; rw [if_neg h1, if_neg h2]
      have h3 : (yes == many) = false := by simpa using h1
      have h4 : (yes == 0) = false := by simpa using h2
      clear h1 h2
      go_enter Tryz.func150, Tryz.ntmps150
      go_wp2
      go_ret
      exact ⟨by rw [HF.out]; rfl, rfl⟩
def eachB (last most : Int) (l : List Int) : Bool := decide ((l.length : Int) = last + 1) && allN (fun j => within (nth l j) 0 most) l.length
set_option maxRecDepth 100000 in
set_option maxHeartbeats 4000000 in
theorem each_c (c : Cop) (q : CA) (l : List Int) (a : Option Addr) (k : Nat) (most : Int) (w : World) (h0 : 0 ≤ c.last) (h4 : c.last ≤ 4) (hn : l.length ≤ 1000000) (hx : IntsAt w w.heap.size a l) :
    Calls Tryz.prog 107 #[copV c q, .slice a l.length k, .int .i64 most] w fun e w' => e = .returned (.bool (eachB c.last most l)) ∧ Below w.heap.size w w' := by
  have HX := Lib.hid hx
  clear hx
  cases h1 : decide ((l.length : Int) = c.last + 1) with
  | true =>
    have HF : Hid (eachB c.last most l = allN (fun j => within (nth l j) 0 most) l.length) := by unfold Hid; simp only [eachB, h1, Bool.true_and]
    have h2 : ((l.length : Int) != c.last + 1) = false := by simpa using h1
    clear h1
    go_enter Tryz.func107, Tryz.ntmps107
    go_wp2
    clear h2
    go_loopw [7] (fun i wr => ∃ j : Nat, j ≤ l.length ∧ i = .int .i64 j ∧ idxN (fun j => !within (nth l j) 0 most) 0 l.length = idxN (fun j => !within (nth l j) 0 most) j (l.length - j) ∧ Below w.heap.size w wr) (fun i _ => l.length - (intOf i).toNat)
    case atStart => exact ⟨0, Nat.zero_le _, rfl, rfl, bl_al (Below.refl _ _) _⟩
    case round =>
      obtain ⟨j, hj, rfl, hi, hb⟩ := hrel
      have HI := Lib.hid hi
      have HB := Lib.hid hb
      clear hi hb
      by_cases hlt : j < l.length
      · obtain ⟨b, o, rfl⟩ := HX.out.some_ (by omega)
        have hc := (HX.out.below HB.out).get j hlt
        have hj1 : (j : Int) < (l.length : Int) := by omega
        cases hk : within (nth l j) 0 most with
        | false =>
          have hi := idxN_hit hlt HI.out (by simp [hk])
          have HF2 : Hid (eachB c.last most l = false) := by unfold Hid; rw [HF.out]; unfold allN anyN; simp [hi]
          have HK := Lib.hid hk
          clear hi hk
          go_wp2_with (go_at_call 38; refine (in_c _ _ _ _).mono ?_; rw [HK.out]; rintro e w1 ⟨rfl, rfl⟩)
          go_ret
          exact ⟨by rw [HF2.out]; rfl, HB.out⟩
        | true =>
          have hi := idxN_step hlt HI.out (by simp [hk])
          have HJ := Lib.hid hi
          have HK := Lib.hid hk
          clear hk hi
          go_wp2_with (go_at_call 38; refine (in_c _ _ _ _).mono ?_; rw [HK.out]; rintro e w1 ⟨rfl, rfl⟩)
          go_roundw
          case rel => exact ⟨j + 1, by omega, by go_num, HJ.out, HB.out⟩
          case measure => simp [intOf]; omega
      · obtain rfl : j = l.length := by omega
        have hi := idxN_end HI.out
        have HF2 : Hid (eachB c.last most l = true) := by unfold Hid; rw [HF.out]; unfold allN; rw [idxN_nott hi]; rfl
        clear hi
        go_wp2
        go_ret
        exact ⟨by rw [HF2.out]; rfl, HB.out⟩
  | false =>
    have HF : Hid (eachB c.last most l = false) := by unfold Hid; simp only [eachB, h1, Bool.false_and]
    have h2 : ((l.length : Int) == c.last + 1) = false := by simpa using h1
    clear h1
    go_enter Tryz.func107, Tryz.ntmps107
    go_wp2
    go_ret
    exact ⟨by rw [HF.out]; rfl, bl_al (Below.refl _ _) _⟩
end Go.Proofs.YtpgnplmjfhdncaaGreat
/- The reference's heat: as the program's. -/
namespace Go.Proofs.YtpgnplmjfhdncaaGreat
open Go.RowKit
set_option linter.unusedVariables false
/-- A truth, its losses in a slice. -/
abbrev trV (s : Int × List Int) (a : Option Addr) (k : Nat) : Value := .agg #[.int .i64 s.1, .slice a s.2.length k]
abbrev trCs (s : Int × List Int) (a : Option Addr) (k : Nat) : Array Value := #[.int .i64 s.1, .slice a s.2.length k]
def HeatC (c : Cop) (q : CA) (s : Int × List Int) (a : Option Addr) (k : Nat) (coal want : List Int) (a1 : Option Addr) (c1 : Nat) (a2 : Option Addr) (c2 : Nat) (h : Nat) : Prop :=
  ∀ w : World, IntsAt w w.heap.size a1 coal → IntsAt w w.heap.size a2 want → IntsAt w w.heap.size a s.2 →
    Calls Tryz.prog 165 #[copV c q, trV s a k, .slice a1 coal.length c1, .slice a2 want.length c2, .int .i64 h] w fun e w' => e = .returned (.int .i64 (heatAt c coal want s h)) ∧ Below w.heap.size w w'
def LeftC (c : Cop) (q : CA) (s : Int × List Int) (a : Option Addr) (k : Nat) (coal want : List Int) (a1 : Option Addr) (c1 : Nat) (a2 : Option Addr) (c2 : Nat) (h : Nat) : Prop :=
  ∀ w : World, IntsAt w w.heap.size a1 coal → IntsAt w w.heap.size a2 want → IntsAt w w.heap.size a s.2 →
    Calls Tryz.prog 179 #[copV c q, trV s a k, .slice a1 coal.length c1, .slice a2 want.length c2, .int .i64 h] w fun e w' => e = .returned (.int .i64 (before c coal want s (h + 1))) ∧ Below w.heap.size w w'
set_option maxRecDepth 100000 in
set_option maxHeartbeats 4000000 in
theorem heat_step (c : Cop) (q : CA) (s : Int × List Int) (a : Option Addr) (k : Nat) (coal want : List Int) (a1 : Option Addr) (c1 : Nat) (a2 : Option Addr) (c2 : Nat) (hp : Plays c coal want s) (hsl : (s.2.length : Int) = c.last + 1)
    (h : Nat) (hh : (h : Int) ≤ c.last) (ih : ∀ m, h = m + 1 → LeftC c q s a k coal want a1 c1 a2 c2 m) : HeatC c q s a k coal want a1 c1 a2 c2 h := by
  intro w hx hy hz
  have hl4 := hp.l4
  obtain ⟨b1, o1, rfl⟩ := hx.some_ (by have := hp.cl; have := hp.l0; omega)
  obtain ⟨b3, o3, rfl⟩ := hz.some_ (by have := hp.l0; omega)
  have hcc := hx.get h (by have := hp.cl; omega)
  have hcl := hz.get h (by omega)
  have HX := Lib.hid hx
  have HY := Lib.hid hy
  have HZ := Lib.hid hz
  have HP := Lib.hid hp
  obtain ⟨hbd0, hbd9⟩ := before_bd hp h
  have hm0 := hp.m0
  have hm9 := hp.m9
  have hc0 := hp.c0 h
  have hc3 := hp.c3 h
  have hh0 := hp.h0
  have hh9 := hp.h9
  have hx0 := hp.x0 h
  have hx9 := hp.x9 h
  have hm1 : 0 ≤ nth coal h * s.1 := Int.mul_nonneg hc0 hh0
  have hm2 : nth coal h * s.1 ≤ 3 * 99 := Int.mul_le_mul hc3 hh9 hh0 (by omega)
  have hj1 : (h : Int) < (coal.length : Int) := by have := hp.cl; omega
  have hj2 : (h : Int) < (s.2.length : Int) := by omega
  have hw1 : IntKind.i64.wrap (nth coal h * s.1) = nth coal h * s.1 := IntWalk.i64_in _ (by omega)
  have hw2 : IntKind.i64.wrap (before c coal want s h + nth coal h * s.1) = before c coal want s h + nth coal h * s.1 := IntWalk.i64_in _ (by omega)
  have hw3 : IntKind.i64.wrap (min c.most (before c coal want s h + nth coal h * s.1) - nth s.2 h) = min c.most (before c coal want s h + nth coal h * s.1) - nth s.2 h := IntWalk.i64_in _ (by omega)
  have hw4 : wrap64 (min c.most (before c coal want s h + nth coal h * s.1) - nth s.2 h) = min c.most (before c coal want s h + nth coal h * s.1) - nth s.2 h := IntWalk.wrap64_in _ (by omega)
  have hmin : (if before c coal want s h + nth coal h * s.1 < c.most then before c coal want s h + nth coal h * s.1 else c.most) = min c.most (before c coal want s h + nth coal h * s.1) := by split <;> omega
  have hmax : (if nth s.2 h < min c.most (before c coal want s h + nth coal h * s.1) then min c.most (before c coal want s h + nth coal h * s.1) - nth s.2 h else 0) = heatAt c coal want s h := by unfold heatAt heatOf; split <;> omega
  clear hx hy hz hp hsl hm1 hm2 hc0 hc3 hh0 hh9 hx0 hx9 hbd0 hbd9 hm0 hm9
  have hlen : Hid (w.heap.size < ((w.alloc (.cells (copCs c q) 28)).alloc (.cells (trCs s (some ⟨b3, o3, none⟩) k) 105)).heap.size) := by unfold Hid; simp; omega
  have HBX0 : Hid (Box ((w.alloc (.cells (copCs c q) 28)).alloc (.cells (trCs s (some ⟨b3, o3, none⟩) k) 105)) w.heap.size (copCs c q)) := (Box.new _ _ _ _).al (by simp) _
  have HBX1 : Hid (Box ((w.alloc (.cells (copCs c q) 28)).alloc (.cells (trCs s (some ⟨b3, o3, none⟩) k) 105)) (w.heap.size + 1) (trCs s (some ⟨b3, o3, none⟩) k)) := Box.new' _ _ _ _ (by simp)
  have HCC := Lib.hid hcc
  have HCL := Lib.hid hcl
  clear hcc hcl
  by_cases h0 : (0 : Int) < (h : Int)
  · obtain ⟨m, rfl⟩ : ∃ m, h = m + 1 := ⟨h - 1, by omega⟩
    have IH := Lib.hid (ih m rfl)
    clear ih
    go_enter Tryz.func165, Tryz.ntmps165
    go_wp2_with (go_at_call 179; refine (IH.out _ (HX.out.up (bl_al (bl_al (Below.refl _ _) _) _)) (HY.out.up (bl_al (bl_al (Below.refl _ _) _) _)) (HZ.out.up (bl_al (bl_al (Below.refl _ _) _) _))).mono ?_; rintro e W1 ⟨rfl, hb⟩; have HB1 := Lib.hid (bl_tr (bl_al (bl_al (Below.refl w.heap.size w) _) _) hb); have HK2 : Hid (W1.cell? ⟨w.heap.size, 2, none⟩ = some (.int .i64 c.most)) := (HBX0.out.bl (by simp) hb) 2; have HT0 : Hid (W1.cell? ⟨w.heap.size + 1, 0, none⟩ = some (.int .i64 s.1)) := (HBX1.out.bl (by simp) hb) 0; have HT1 : Hid (W1.cell? ⟨w.heap.size + 1, 1, none⟩ = some (.slice (some ⟨b3, o3, none⟩) s.2.length k)) := (HBX1.out.bl (by simp) hb) 1; clear hb)
    have k2 : W1.cell? ⟨w.heap.size, 2, none⟩ = some (.int .i64 c.most) := HK2.out
    have t0 : W1.cell? ⟨w.heap.size + 1, 0, none⟩ = some (.int .i64 s.1) := HT0.out
    have t1 : W1.cell? ⟨w.heap.size + 1, 1, none⟩ = some (.slice (some ⟨b3, o3, none⟩) s.2.length k) := HT1.out
    have hcc1 := cell_later HB1.out HCC.out
    have hcl1 := cell_later HB1.out HCL.out
    refine wp_region_plus (by kernel_rfl) ?_
    repeat (go_big_quiet_step (fail))
    refine wpQuiet_nil ?_
    rintro _ ⟨d, rfl⟩
    go_wp2
    go_ret
    exact ⟨rfl, bl_pl HB1.out d⟩
  · have hbe : before c coal want s h = c.start := by
      obtain rfl : h = 0 := by omega
      rfl
    clear ih
    rw [hbe] at hw2 hw3 hw4 hmin hmax
    clear hbe
    go_enter Tryz.func165, Tryz.ntmps165
    go_wp2
    obtain ⟨W1, hW1⟩ : ∃ W1, (w.alloc (.cells (copCs c q) 28)).alloc (.cells (trCs s (some ⟨b3, o3, none⟩) k) 105) = W1 := ⟨_, rfl⟩
    rw [hW1]
    have HB1 : Hid (Below w.heap.size w W1) := by rw [← hW1]; exact bl_al (bl_al (Below.refl _ _) _) _
    have HK2 : Hid (W1.cell? ⟨w.heap.size, 2, none⟩ = some (.int .i64 c.most)) := by rw [← hW1]; exact HBX0.out 2
    have HT0 : Hid (W1.cell? ⟨w.heap.size + 1, 0, none⟩ = some (.int .i64 s.1)) := by rw [← hW1]; exact HBX1.out 0
    have HT1 : Hid (W1.cell? ⟨w.heap.size + 1, 1, none⟩ = some (.slice (some ⟨b3, o3, none⟩) s.2.length k)) := by rw [← hW1]; exact HBX1.out 1
    clear hW1
    have k2 : W1.cell? ⟨w.heap.size, 2, none⟩ = some (.int .i64 c.most) := HK2.out
    have t0 : W1.cell? ⟨w.heap.size + 1, 0, none⟩ = some (.int .i64 s.1) := HT0.out
    have t1 : W1.cell? ⟨w.heap.size + 1, 1, none⟩ = some (.slice (some ⟨b3, o3, none⟩) s.2.length k) := HT1.out
    have hcc1 := cell_later HB1.out HCC.out
    have hcl1 := cell_later HB1.out HCL.out
    refine wp_region_plus (by kernel_rfl) ?_
    repeat (go_big_quiet_step (fail))
    refine wpQuiet_nil ?_
    rintro _ ⟨d, rfl⟩
    go_wp2
    go_ret
    exact ⟨rfl, bl_pl HB1.out d⟩
end Go.Proofs.YtpgnplmjfhdncaaGreat
/- The reference's hours: as the program's. -/
namespace Go.Proofs.YtpgnplmjfhdncaaGreat
open Go.RowKit
set_option linter.unusedVariables false
set_option maxRecDepth 100000 in
set_option maxHeartbeats 4000000 in
theorem left_step (c : Cop) (q : CA) (s : Int × List Int) (a : Option Addr) (k : Nat) (coal want : List Int) (a1 : Option Addr) (c1 : Nat) (a2 : Option Addr) (c2 : Nat) (hp : Plays c coal want s)
    (h : Nat) (hh : (h : Int) ≤ c.last) (ih : HeatC c q s a k coal want a1 c1 a2 c2 h) : LeftC c q s a k coal want a1 c1 a2 c2 h := by
  intro w hx hy hz
  obtain ⟨b2, o2, rfl⟩ := hy.some_ (by have := hp.wl; have := hp.l0; omega)
  have hwc := hy.get h (by have := hp.wl; omega)
  have HX := Lib.hid hx
  have HY := Lib.hid hy
  have HZ := Lib.hid hz
  obtain ⟨hy0, hy9⟩ : 0 ≤ heatAt c coal want s h ∧ heatAt c coal want s h ≤ c.most := heatOf_bd hp.m0 (hp.x0 h)
  have hm9 := hp.m9
  have hp1 := hp.p1
  have hp2 := hp.p2
  have hwt0 := hp.w0 h
  have hwt4 := hp.w4 h
  have hj1 : (h : Int) < (want.length : Int) := by have := hp.wl; omega
  have hqd : 0 ≤ heatAt c coal want s h / c.per := Int.ediv_nonneg hy0 (by omega)
  have hqm : heatAt c coal want s h / c.per * c.per ≤ heatAt c coal want s h := Int.ediv_mul_le _ (by omega)
  have IH := Lib.hid ih
  have HWC := Lib.hid hwc
  have HBX0 : Hid (Box ((w.alloc (.cells (copCs c q) 28)).alloc (.cells (trCs s a k) 105)) w.heap.size (copCs c q)) := (Box.new _ _ _ _).al (by simp) _
  clear hx hy hz hp ih hwc
  by_cases hk : nth want h ≤ heatAt c coal want s h / c.per
  · have hm3 : nth want h * c.per ≤ heatAt c coal want s h / c.per * c.per := Int.mul_le_mul_of_nonneg_right hk (by omega)
    have hm4 : 0 ≤ nth want h * c.per := Int.mul_nonneg hwt0 (by omega)
    have hcm : c.per * nth want h = nth want h * c.per := Int.mul_comm _ _
    have hw4 : IntKind.i64.wrap (c.per * nth want h) = c.per * nth want h := IntWalk.i64_in _ (by omega)
    have hw5 : IntKind.i64.wrap (heatAt c coal want s h - c.per * nth want h) = heatAt c coal want s h - c.per * nth want h := IntWalk.i64_in _ (by omega)
    have hbef : Hid (before c coal want s (h + 1) = heatAt c coal want s h - c.per * nth want h) := by
      show leftOf _ _ _ = _
      unfold leftOf
      rw [if_pos (show nth want h ≤ heatOf c coal s h (before c coal want s h) / c.per from hk), hcm]
      rfl
    clear hcm hm3 hm4 hqm hqd
    rw [hbef.out]
    go_enter Tryz.func179, Tryz.ntmps179
    go_wp2_with (go_at_call 165; refine (IH.out _ (HX.out.up (bl_al (bl_al (Below.refl _ _) _) _)) (HY.out.up (bl_al (bl_al (Below.refl _ _) _) _)) (HZ.out.up (bl_al (bl_al (Below.refl _ _) _) _))).mono ?_; rintro e W1 ⟨rfl, hb⟩; have HB1 := Lib.hid (bl_tr (bl_al (bl_al (Below.refl w.heap.size w) _) _) hb); have k3 : W1.cell? ⟨w.heap.size, 3, none⟩ = some (.int .i64 c.per) := (HBX0.out.bl (by simp) hb) 3; have hwc1 := cell_later HB1.out HWC.out; clear hb)
    refine wp_region_plus (by kernel_rfl) ?_
    repeat (go_big_quiet_step (fail))
    refine wpQuiet_nil ?_
    rintro _ ⟨d, rfl⟩
    go_wp2
    refine wp_region_plus (by kernel_rfl) ?_
    repeat (go_big_quiet_step (fail))
    refine wpQuiet_nil ?_
    rintro _ ⟨d2, rfl⟩
    go_wp2
    go_ret
    exact ⟨rfl, bl_pl (bl_pl HB1.out d) d2⟩
  · have hbef : Hid (before c coal want s (h + 1) = 0) := by
      show leftOf _ _ _ = _
      unfold leftOf
      rw [if_neg (show ¬ nth want h ≤ heatOf c coal s h (before c coal want s h) / c.per from hk)]
    clear hqm hqd
    rw [hbef.out]
    go_enter Tryz.func179, Tryz.ntmps179
    go_wp2_with (go_at_call 165; refine (IH.out _ (HX.out.up (bl_al (bl_al (Below.refl _ _) _) _)) (HY.out.up (bl_al (bl_al (Below.refl _ _) _) _)) (HZ.out.up (bl_al (bl_al (Below.refl _ _) _) _))).mono ?_; rintro e W1 ⟨rfl, hb⟩; have HB1 := Lib.hid (bl_tr (bl_al (bl_al (Below.refl w.heap.size w) _) _) hb); have k3 : W1.cell? ⟨w.heap.size, 3, none⟩ = some (.int .i64 c.per) := (HBX0.out.bl (by simp) hb) 3; have hwc1 := cell_later HB1.out HWC.out; clear hb)
    refine wp_region_plus (by kernel_rfl) ?_
    repeat (go_big_quiet_step (fail))
    refine wpQuiet_nil ?_
    rintro _ ⟨d, rfl⟩
    go_wp2
    go_ret
    exact ⟨rfl, bl_pl HB1.out d⟩
theorem heat_left (c : Cop) (q : CA) (s : Int × List Int) (a : Option Addr) (k : Nat) (coal want : List Int) (a1 : Option Addr) (c1 : Nat) (a2 : Option Addr) (c2 : Nat) (hp : Plays c coal want s) (hsl : (s.2.length : Int) = c.last + 1) :
    ∀ h : Nat, (h : Int) ≤ c.last → HeatC c q s a k coal want a1 c1 a2 c2 h := by
  intro h
  induction h with
  | zero => exact fun hh => heat_step c q s a k coal want a1 c1 a2 c2 hp hsl 0 hh (fun m hm => by omega)
  | succ h ih => exact fun hh => heat_step c q s a k coal want a1 c1 a2 c2 hp hsl (h + 1) hh (fun m hm => by
      obtain rfl : h = m := by omega
      exact left_step c q s a k coal want a1 c1 a2 c2 hp h (by omega) (ih (by omega)))
set_option maxRecDepth 100000 in
set_option maxHeartbeats 4000000 in
theorem rhot_c (c : Cop) (q : CA) (s : Int × List Int) (a : Option Addr) (k : Nat) (coal want : List Int) (a1 : Option Addr) (c1 : Nat) (a2 : Option Addr) (c2 : Nat) (hp : Plays c coal want s) (hsl : (s.2.length : Int) = c.last + 1)
    (h : Nat) (hh : (h : Int) ≤ c.last) (w : World) (hx : IntsAt w w.heap.size a1 coal) (hy : IntsAt w w.heap.size a2 want) (hz : IntsAt w w.heap.size a s.2) :
    Calls Tryz.prog 138 #[copV c q, trV s a k, .slice a1 coal.length c1, .slice a2 want.length c2, .int .i64 h] w fun e w' => e = .returned (.int .i64 (hotAt c coal want s h)) ∧ Below w.heap.size w w' := by
  have HX := Lib.hid hx
  have HY := Lib.hid hy
  have HZ := Lib.hid hz
  obtain ⟨hy0, hy9⟩ : 0 ≤ heatAt c coal want s h ∧ heatAt c coal want s h ≤ c.most := heatOf_bd hp.m0 (hp.x0 h)
  have hm9 := hp.m9
  have hp1 := hp.p1
  have hp2 := hp.p2
  have hev : Hid (hotAt c coal want s h = heatAt c coal want s h / c.per) := rfl
  have HH := Lib.hid (heat_left c q s a k coal want a1 c1 a2 c2 hp hsl h hh)
  clear hx hy hz hp
  rw [hev.out]
  go_enter Tryz.func138, Tryz.ntmps138
  go_wp2
  obtain ⟨W1, hW1⟩ : ∃ W1, (w.alloc (.cells (copCs c q) 28)).alloc (.cells (trCs s a k) 105) = W1 := ⟨_, rfl⟩
  rw [hW1]
  have HB1 : Hid (Below w.heap.size w W1) := by rw [← hW1]; exact bl_al (bl_al (Below.refl _ _) _) _
  have hb0 : Box W1 w.heap.size (copCs c q) := by rw [← hW1]; exact (Box.new _ _ _ _).al (by simp) _
  have hb1 : Box W1 (w.heap.size + 1) (trCs s a k) := by rw [← hW1]; exact Box.new' _ _ _ _ (by simp)
  have k0 : W1.cell? ⟨w.heap.size, 0, none⟩ = some (.int .i64 c.last) := hb0 0
  have k1 : W1.cell? ⟨w.heap.size, 1, none⟩ = some (.int .i64 c.start) := hb0 1
  have k2 : W1.cell? ⟨w.heap.size, 2, none⟩ = some (.int .i64 c.most) := hb0 2
  have k3 : W1.cell? ⟨w.heap.size, 3, none⟩ = some (.int .i64 c.per) := hb0 3
  have k4 : W1.cell? ⟨w.heap.size, 4, none⟩ = some (.int .i64 c.shovels) := hb0 4
  have k5 : W1.cell? ⟨w.heap.size, 5, none⟩ = some (.slice q.a1 c.coal.length q.c1) := hb0 5
  have k6 : W1.cell? ⟨w.heap.size, 6, none⟩ = some (.slice q.a2 c.want.length q.c2) := hb0 6
  have k7 : W1.cell? ⟨w.heap.size, 7, none⟩ = some (.int .i64 c.hlo) := hb0 7
  have k8 : W1.cell? ⟨w.heap.size, 8, none⟩ = some (.int .i64 c.hhi) := hb0 8
  have k9 : W1.cell? ⟨w.heap.size, 9, none⟩ = some (.slice q.a3 c.loss.length q.c3) := hb0 9
  have k10 : W1.cell? ⟨w.heap.size, 10, none⟩ = some (.slice q.a4 c.rds.length q.c4) := hb0 10
  have j0 : W1.cell? ⟨w.heap.size + 1, 0, none⟩ = some (.int .i64 s.1) := hb1 0
  have j1 : W1.cell? ⟨w.heap.size + 1, 1, none⟩ = some (.slice a s.2.length k) := hb1 1
  clear hW1 hb0 hb1
  refine wp_region_plus (by kernel_rfl) ?_
  repeat (go_big_quiet_step ((go_at_call 165; exact Calls.pl (HH.out _ (HX.out.up (bl_pl HB1.out _)) (HY.out.up (bl_pl HB1.out _)) (HZ.out.up (bl_pl HB1.out _))))))
  refine wpQuiet_nil ?_
  rintro _ ⟨d, rfl⟩
  go_wp2
  go_ret
  exact ⟨rfl, bl_pl HB1.out d⟩
end Go.Proofs.YtpgnplmjfhdncaaGreat
/- The reference's promises kept: as the program's. -/
namespace Go.Proofs.YtpgnplmjfhdncaaGreat
open Go.RowKit
set_option linter.unusedVariables false
set_option maxRecDepth 100000 in
set_option maxHeartbeats 4000000 in
theorem rkept_c (c : Cop) (q : CA) (s : Int × List Int) (a : Option Addr) (k : Nat) (coal want : List Int) (a1 : Option Addr) (c1 : Nat) (a2 : Option Addr) (c2 : Nat) (hp : Plays c coal want s) (hsl : (s.2.length : Int) = c.last + 1)
    (h : Nat) (hh : (h : Int) ≤ c.last) (w : World) (hx : IntsAt w w.heap.size a1 coal) (hy : IntsAt w w.heap.size a2 want) (hz : IntsAt w w.heap.size a s.2) :
    Calls Tryz.prog 171 #[copV c q, trV s a k, .slice a1 coal.length c1, .slice a2 want.length c2, .int .i64 h] w fun e w' => e = .returned (.bool (keptAt c coal want s h)) ∧ Below w.heap.size w w' := by
  obtain ⟨b2, o2, rfl⟩ := hy.some_ (by have := hp.wl; have := hp.l0; omega)
  have hwc := hy.get h (by have := hp.wl; omega)
  have hj1 : (h : Int) < (want.length : Int) := by have := hp.wl; omega
  have HX := Lib.hid hx
  have HY := Lib.hid hy
  have HZ := Lib.hid hz
  have HWC := Lib.hid hwc
  have HH : Hid (∀ w : World, IntsAt w w.heap.size a1 coal → IntsAt w w.heap.size (some ⟨b2, o2, none⟩) want → IntsAt w w.heap.size a s.2 →
    Calls Tryz.prog 138 #[copV c q, trV s a k, .slice a1 coal.length c1, .slice (some ⟨b2, o2, none⟩) want.length c2, .int .i64 h] w fun e w' => e = .returned (.int .i64 (hotAt c coal want s h)) ∧ Below w.heap.size w w') := fun w hx hy hz => rhot_c c q s a k coal want a1 c1 _ c2 hp hsl h hh w hx hy hz
  clear hx hy hz hp hwc
  go_enter Tryz.func171, Tryz.ntmps171
  go_wp2
  obtain ⟨W1, hW1⟩ : ∃ W1, (w.alloc (.cells (copCs c q) 28)).alloc (.cells (trCs s a k) 105) = W1 := ⟨_, rfl⟩
  rw [hW1]
  have HB1 : Hid (Below w.heap.size w W1) := by rw [← hW1]; exact bl_al (bl_al (Below.refl _ _) _) _
  have hb0 : Box W1 w.heap.size (copCs c q) := by rw [← hW1]; exact (Box.new _ _ _ _).al (by simp) _
  have hb1 : Box W1 (w.heap.size + 1) (trCs s a k) := by rw [← hW1]; exact Box.new' _ _ _ _ (by simp)
  have k0 : W1.cell? ⟨w.heap.size, 0, none⟩ = some (.int .i64 c.last) := hb0 0
  have k1 : W1.cell? ⟨w.heap.size, 1, none⟩ = some (.int .i64 c.start) := hb0 1
  have k2 : W1.cell? ⟨w.heap.size, 2, none⟩ = some (.int .i64 c.most) := hb0 2
  have k3 : W1.cell? ⟨w.heap.size, 3, none⟩ = some (.int .i64 c.per) := hb0 3
  have k4 : W1.cell? ⟨w.heap.size, 4, none⟩ = some (.int .i64 c.shovels) := hb0 4
  have k5 : W1.cell? ⟨w.heap.size, 5, none⟩ = some (.slice q.a1 c.coal.length q.c1) := hb0 5
  have k6 : W1.cell? ⟨w.heap.size, 6, none⟩ = some (.slice q.a2 c.want.length q.c2) := hb0 6
  have k7 : W1.cell? ⟨w.heap.size, 7, none⟩ = some (.int .i64 c.hlo) := hb0 7
  have k8 : W1.cell? ⟨w.heap.size, 8, none⟩ = some (.int .i64 c.hhi) := hb0 8
  have k9 : W1.cell? ⟨w.heap.size, 9, none⟩ = some (.slice q.a3 c.loss.length q.c3) := hb0 9
  have k10 : W1.cell? ⟨w.heap.size, 10, none⟩ = some (.slice q.a4 c.rds.length q.c4) := hb0 10
  have j0 : W1.cell? ⟨w.heap.size + 1, 0, none⟩ = some (.int .i64 s.1) := hb1 0
  have j1 : W1.cell? ⟨w.heap.size + 1, 1, none⟩ = some (.slice a s.2.length k) := hb1 1
  have hwc1 := cell_later HB1.out HWC.out
  clear hW1 hb0 hb1
  refine wp_region_plus (by kernel_rfl) ?_
  repeat (go_big_quiet_step ((go_at_call 138; exact Calls.pl (HH.out _ (HX.out.up (bl_pl HB1.out _)) (HY.out.up (bl_pl HB1.out _)) (HZ.out.up (bl_pl HB1.out _))))))
  refine wpQuiet_nil ?_
  rintro _ ⟨d, rfl⟩
  go_wp2
  go_ret
  exact ⟨rfl, bl_pl HB1.out d⟩
/-- All promises are kept. -/
def wholeB (c : Cop) (coal want : List Int) (s : Int × List Int) : Bool := allN (keptAt c coal want s) (c.last + 1).toNat
set_option maxRecDepth 100000 in
set_option maxHeartbeats 4000000 in
theorem rwhole_c (c : Cop) (q : CA) (s : Int × List Int) (a : Option Addr) (k : Nat) (coal want : List Int) (a1 : Option Addr) (c1 : Nat) (a2 : Option Addr) (c2 : Nat) (hp : Plays c coal want s) (hsl : (s.2.length : Int) = c.last + 1)
    (w : World) (hx : IntsAt w w.heap.size a1 coal) (hy : IntsAt w w.heap.size a2 want) (hz : IntsAt w w.heap.size a s.2) :
    Calls Tryz.prog 149 #[copV c q, trV s a k, .slice a1 coal.length c1, .slice a2 want.length c2] w fun e w' => e = .returned (.bool (wholeB c coal want s)) ∧ Below w.heap.size w w' := by
  have hl0 := hp.l0
  have hl4 := hp.l4
  have HX := Lib.hid hx
  have HY := Lib.hid hy
  have HZ := Lib.hid hz
  have HH : Hid (∀ (h : Nat), (h : Int) ≤ c.last → ∀ w : World, IntsAt w w.heap.size a1 coal → IntsAt w w.heap.size a2 want → IntsAt w w.heap.size a s.2 →
    Calls Tryz.prog 171 #[copV c q, trV s a k, .slice a1 coal.length c1, .slice a2 want.length c2, .int .i64 h] w fun e w' => e = .returned (.bool (keptAt c coal want s h)) ∧ Below w.heap.size w w') := fun h hh w hx hy hz => rkept_c c q s a k coal want a1 c1 _ c2 hp hsl h hh w hx hy hz
  clear hx hy hz hp
  go_enter Tryz.func149, Tryz.ntmps149
  go_wp2
  go_loopw [9] (fun i wr => ∃ j : Nat, (j : Int) ≤ c.last + 1 ∧ i = .int .i64 j ∧ idxN (fun j => !keptAt c coal want s j) 0 (c.last + 1).toNat = idxN (fun j => !keptAt c coal want s j) j ((c.last + 1).toNat - j) ∧ Below w.heap.size w wr ∧ Box wr w.heap.size (copCs c q) ∧ Box wr (w.heap.size + 1) (trCs s a k)) (fun i _ => (c.last + 1).toNat - (intOf i).toNat)
  case atStart => exact ⟨0, by simp; omega, rfl, rfl, bl_al (bl_al (Below.refl _ _) _) _, (Box.new _ _ _ _).al (by simp) _, Box.new' _ _ _ _ (by simp)⟩
  case round =>
    obtain ⟨j, hj, rfl, hi, hb, hb0, hb1⟩ := hrel
    have HI := Lib.hid hi
    have HB := Lib.hid hb
    have HB0 := Lib.hid hb0
    have HB1 := Lib.hid hb1
    clear hi hb
    have k0 : wr.cell? ⟨w.heap.size, 0, none⟩ = some (.int .i64 c.last) := hb0 0
    have k1 : wr.cell? ⟨w.heap.size, 1, none⟩ = some (.int .i64 c.start) := hb0 1
    have k2 : wr.cell? ⟨w.heap.size, 2, none⟩ = some (.int .i64 c.most) := hb0 2
    have k3 : wr.cell? ⟨w.heap.size, 3, none⟩ = some (.int .i64 c.per) := hb0 3
    have k4 : wr.cell? ⟨w.heap.size, 4, none⟩ = some (.int .i64 c.shovels) := hb0 4
    have k5 : wr.cell? ⟨w.heap.size, 5, none⟩ = some (.slice q.a1 c.coal.length q.c1) := hb0 5
    have k6 : wr.cell? ⟨w.heap.size, 6, none⟩ = some (.slice q.a2 c.want.length q.c2) := hb0 6
    have k7 : wr.cell? ⟨w.heap.size, 7, none⟩ = some (.int .i64 c.hlo) := hb0 7
    have k8 : wr.cell? ⟨w.heap.size, 8, none⟩ = some (.int .i64 c.hhi) := hb0 8
    have k9 : wr.cell? ⟨w.heap.size, 9, none⟩ = some (.slice q.a3 c.loss.length q.c3) := hb0 9
    have k10 : wr.cell? ⟨w.heap.size, 10, none⟩ = some (.slice q.a4 c.rds.length q.c4) := hb0 10
    have j0 : wr.cell? ⟨w.heap.size + 1, 0, none⟩ = some (.int .i64 s.1) := hb1 0
    have j1 : wr.cell? ⟨w.heap.size + 1, 1, none⟩ = some (.slice a s.2.length k) := hb1 1
    clear hb0 hb1
    by_cases hlt : (j : Int) ≤ c.last
    · have hjn : j < (c.last + 1).toNat := by omega
      have HJN := Lib.hid hjn
      have HC := Lib.hid (HH.out j hlt wr (HX.out.up HB.out) (HY.out.up HB.out) (HZ.out.up HB.out))
      clear hjn
      cases hk : keptAt c coal want s j with
      | false =>
        have hi := idxN_hit HJN.out HI.out (by simp [hk])
        have HF2 : Hid (wholeB c coal want s = false) := by unfold Hid; unfold wholeB allN anyN; simp [hi]
        have HK := Lib.hid hk
        clear hi hk
        go_wp2_with (go_at_call 171; refine HC.out.mono ?_; rw [HK.out]; rintro e w5 ⟨rfl, hb5⟩; have HB5 := Lib.hid hb5; clear hb5)
        go_ret
        exact ⟨by rw [HF2.out]; rfl, bl_tr HB.out HB5.out⟩
      | true =>
        have hi := idxN_step HJN.out HI.out (by simp [hk])
        have HJ := Lib.hid hi
        have HK := Lib.hid hk
        clear hk hi
        go_wp2_with (go_at_call 171; refine HC.out.mono ?_; rw [HK.out]; rintro e w5 ⟨rfl, hb5⟩; have HB5 := Lib.hid hb5; clear hb5)
        go_roundw
        case rel => exact ⟨j + 1, by omega, by go_num, HJ.out, bl_tr HB.out HB5.out, HB0.out.bl (by simp) HB5.out, HB1.out.bl (by simp) HB5.out⟩
        case measure => simp [intOf]; omega
    · have hjn : (c.last + 1).toNat = j := by omega
      have hi := HI.out
      have HF2 : Hid (wholeB c coal want s = true) := by
        unfold Hid wholeB allN
        rw [hjn] at hi ⊢
        rw [idxN_nott (idxN_end hi)]
        rfl
      clear hi hjn
      go_wp2
      go_ret
      exact ⟨by rw [HF2.out]; rfl, HB.out⟩
/-- Truths in a slice, the losses of each in a slice of its own. -/
def TruthsAt (w : World) (B : Nat) (a : Option Addr) (ts : List (Int × List Int)) : Prop :=
  ts = [] ∨ ∃ b o, a = some ⟨b, o, none⟩ ∧ b < B ∧ ∀ j, j < ts.length → w.cell? ⟨b, o + j * 2, none⟩ = some (.int .i64 (sh ts j)) ∧ ∃ aj kj, w.cell? ⟨b, o + j * 2 + 1, none⟩ = some (.slice aj (sl ts j).length kj) ∧ IntsAt w B aj (sl ts j)
theorem TruthsAt.below {w w' : World} {B : Nat} {a : Option Addr} {ts : List (Int × List Int)} (h : TruthsAt w B a ts) (hb : Below B w w') : TruthsAt w' B a ts := by
  rcases h with h | ⟨b, o, rfl, hlt, hc⟩
  · exact .inl h
  · refine .inr ⟨b, o, rfl, hlt, fun j hj => ?_⟩
    obtain ⟨h1, aj, kj, h2, h3⟩ := hc j hj
    exact ⟨(hb.cell (p := ⟨b, _, none⟩) hlt).trans h1, aj, kj, (hb.cell (p := ⟨b, _, none⟩) hlt).trans h2, h3.below hb⟩
theorem TruthsAt.mono {w : World} {B B' : Nat} {a : Option Addr} {ts : List (Int × List Int)} (h : TruthsAt w B a ts) (hB : B ≤ B') : TruthsAt w B' a ts := by
  rcases h with h | ⟨b, o, rfl, hlt, hc⟩
  · exact .inl h
  · refine .inr ⟨b, o, rfl, by omega, fun j hj => ?_⟩
    obtain ⟨h1, aj, kj, h2, h3⟩ := hc j hj
    exact ⟨h1, aj, kj, h2, h3.mono hB⟩
theorem TruthsAt.up {w W : World} {a : Option Addr} {ts : List (Int × List Int)} (h : TruthsAt w w.heap.size a ts) (hb : Below w.heap.size w W) : TruthsAt W W.heap.size a ts := (h.below hb).mono hb.size
theorem TruthsAt.at_ {w : World} {B : Nat} {a : Option Addr} {ts : List (Int × List Int)} (h : TruthsAt w B a ts) (j : Nat) (hj : j < ts.length) : ∃ b o, a = some ⟨b, o, none⟩ ∧ w.cell? ⟨b, o + j * 2, none⟩ = some (.int .i64 (sh ts j)) ∧ ∃ aj kj, w.cell? ⟨b, o + j * 2 + 1, none⟩ = some (.slice aj (sl ts j).length kj) ∧ IntsAt w B aj (sl ts j) := by
  rcases h with rfl | ⟨b, o, rfl, hlt, hc⟩
  · simp at hj
  · exact ⟨b, o, rfl, hc j hj⟩
/-- How many of the first n. -/
def cntN (p : Nat → Bool) : Nat → Int
  | 0 => 0
  | j + 1 => cntN p j + if p j = true then 1 else 0
theorem cntN_bd (p : Nat → Bool) : ∀ n, 0 ≤ cntN p n ∧ cntN p n ≤ n := by
  intro n
  induction n with
  | zero => simp [cntN]
  | succ n ih => simp only [cntN]; split <;> omega
def wholesN (c : Cop) (ts : List (Int × List Int)) (coal want : List Int) : Int := verdN (cntN (fun j => wholeB c coal want (scN ts j)) ts.length) ts.length
set_option maxRecDepth 100000 in
set_option maxHeartbeats 4000000 in
theorem rwholes_c (c : Cop) (q : CA) (ts : List (Int × List Int)) (a : Option Addr) (k : Nat) (coal want : List Int) (a1 : Option Addr) (c1 : Nat) (a2 : Option Addr) (c2 : Nat) (hp : ∀ j, j < ts.length → Plays c coal want (scN ts j)) (hsl : ∀ j, j < ts.length → ((scN ts j).2.length : Int) = c.last + 1) (hn : ts.length ≤ 1000000)
    (w : World) (hx : IntsAt w w.heap.size a1 coal) (hy : IntsAt w w.heap.size a2 want) (hz : TruthsAt w w.heap.size a ts) :
    Calls Tryz.prog 118 #[copV c q, .slice a ts.length k, .slice a1 coal.length c1, .slice a2 want.length c2] w fun e w' => e = .returned (.int .i64 (wholesN c ts coal want)) ∧ Below w.heap.size w w' := by
  have HX := Lib.hid hx
  have HY := Lib.hid hy
  have HZ := Lib.hid hz
  have HH : Hid (∀ (j : Nat), j < ts.length → ∀ (aj : Option Addr) (kj : Nat) (w : World), IntsAt w w.heap.size a1 coal → IntsAt w w.heap.size a2 want → IntsAt w w.heap.size aj (sl ts j) →
    Calls Tryz.prog 149 #[copV c q, .agg #[.int .i64 (sh ts j), .slice aj (sl ts j).length kj], .slice a1 coal.length c1, .slice a2 want.length c2] w fun e w' => e = .returned (.bool (wholeB c coal want (scN ts j))) ∧ Below w.heap.size w w') := fun j hj aj kj w hx hy hz => rwhole_c c q (scN ts j) aj kj coal want a1 c1 _ c2 (hp j hj) (hsl j hj) w hx hy hz
  clear hx hy hz hp
  go_enter Tryz.func118, Tryz.ntmps118
  go_wp2
  go_loopw [9, 10] (fun n i wr => ∃ j : Nat, j ≤ ts.length ∧ i = .int .i64 j ∧ n = .int .i64 (cntN (fun j => wholeB c coal want (scN ts j)) j) ∧ Below w.heap.size w wr ∧ Box wr w.heap.size (copCs c q)) (fun _ i _ => ts.length - (intOf i).toNat)
  case atStart => exact ⟨0, Nat.zero_le _, rfl, rfl, bl_al (Below.refl _ _) _, Box.new _ _ _ _⟩
  case round =>
    obtain ⟨j, hj, rfl, rfl, hb, hb0⟩ := hrel
    have HB := Lib.hid hb
    have HB0 := Lib.hid hb0
    clear hb
    have k0 : wr.cell? ⟨w.heap.size, 0, none⟩ = some (.int .i64 c.last) := hb0 0
    have k1 : wr.cell? ⟨w.heap.size, 1, none⟩ = some (.int .i64 c.start) := hb0 1
    have k2 : wr.cell? ⟨w.heap.size, 2, none⟩ = some (.int .i64 c.most) := hb0 2
    have k3 : wr.cell? ⟨w.heap.size, 3, none⟩ = some (.int .i64 c.per) := hb0 3
    have k4 : wr.cell? ⟨w.heap.size, 4, none⟩ = some (.int .i64 c.shovels) := hb0 4
    have k5 : wr.cell? ⟨w.heap.size, 5, none⟩ = some (.slice q.a1 c.coal.length q.c1) := hb0 5
    have k6 : wr.cell? ⟨w.heap.size, 6, none⟩ = some (.slice q.a2 c.want.length q.c2) := hb0 6
    have k7 : wr.cell? ⟨w.heap.size, 7, none⟩ = some (.int .i64 c.hlo) := hb0 7
    have k8 : wr.cell? ⟨w.heap.size, 8, none⟩ = some (.int .i64 c.hhi) := hb0 8
    have k9 : wr.cell? ⟨w.heap.size, 9, none⟩ = some (.slice q.a3 c.loss.length q.c3) := hb0 9
    have k10 : wr.cell? ⟨w.heap.size, 10, none⟩ = some (.slice q.a4 c.rds.length q.c4) := hb0 10
    clear hb0
    by_cases hlt : j < ts.length
    · obtain ⟨b, o, rfl, t0, aj, kj, t1, hij⟩ := (HZ.out.up HB.out).at_ j hlt
      have HIJ := Lib.hid hij
      have hj1 : (j : Int) < (ts.length : Int) := by omega
      obtain ⟨hcb0, hcb1⟩ := cntN_bd (fun j => wholeB c coal want (scN ts j)) j
      have HC : Hid (∀ d, Calls Tryz.prog 149 #[copV c q, .agg #[.int .i64 (sh ts j), .slice aj (sl ts j).length kj], .slice a1 coal.length c1, .slice a2 want.length c2] (plus wr d) fun e w' => e = .returned (.bool (wholeB c coal want (scN ts j))) ∧ Below (plus wr d).heap.size (plus wr d) w') := fun d => HH.out j hlt aj kj _ (HX.out.up (bl_pl HB.out d)) (HY.out.up (bl_pl HB.out d)) (HIJ.out.up (bl_pl (Below.refl _ _) d))
      clear hij
      go_wp2
      refine wp_region_plus (by kernel_rfl) ?_
      repeat (go_big_quiet_step ((go_at_call 149; exact Calls.pl (HC.out _))))
      refine wpQuiet_nil ?_
      rintro _ ⟨d, rfl⟩
      cases hk : wholeB c coal want (scN ts j) with
      | false =>
        have HST : Hid (cntN (fun j => wholeB c coal want (scN ts j)) (j + 1) = cntN (fun j => wholeB c coal want (scN ts j)) j) := by unfold Hid; simp only [cntN]; rw [if_neg (by simp [hk])]; omega
        clear hk
        go_wp2
        go_roundw
        case rel => exact ⟨j + 1, by omega, by go_num, by rw [HST.out], bl_pl HB.out d, HB0.out.bl (by simp) (bl_pl (Below.refl _ _) d)⟩
        case measure => simp [intOf]; omega
      | true =>
        have HST : Hid (cntN (fun j => wholeB c coal want (scN ts j)) (j + 1) = cntN (fun j => wholeB c coal want (scN ts j)) j + 1) := by unfold Hid; simp only [cntN]; rw [if_pos (by simp [hk])]
        clear hk
        go_wp2
        go_roundw
        case rel => exact ⟨j + 1, by omega, by go_num, by rw [HST.out], bl_pl HB.out d, HB0.out.bl (by simp) (bl_pl (Below.refl _ _) d)⟩
        case measure => simp [intOf]; omega
    · obtain rfl : j = ts.length := by omega
      go_wp2_with (go_at_call 150; refine (rverdict_c _ _ _).mono ?_; rintro e w5 ⟨rfl, rfl⟩)
      go_ret
      exact ⟨rfl, HB.out⟩
end Go.Proofs.YtpgnplmjfhdncaaGreat
/- The reference's Many, Full. -/
namespace Go.Proofs.YtpgnplmjfhdncaaGreat
open Go.RowKit
set_option linter.unusedVariables false
def manyN (c : Cop) : Nat → Int
  | 0 => c.hhi - c.hlo + 1
  | j + 1 => min 3000 (manyN c j * (p2 c.loss j - p1 c.loss j + 1))
theorem manyN_bd {c : Cop} (h0 : okR 99 c.hlo c.hhi = true) (hl : ∀ j, j < c.loss.length → okR 99 (p1 c.loss j) (p2 c.loss j) = true) : ∀ j, j ≤ c.loss.length → 1 ≤ manyN c j ∧ manyN c j ≤ 3000 := by
  intro j
  induction j with
  | zero => intro _; have := okR_spec h0; simp only [manyN]; omega
  | succ j ih =>
    intro hj
    have h1 := ih (by omega)
    have h2 := okR_spec (hl j (by omega))
    have h3 : 1 * 1 ≤ manyN c j * (p2 c.loss j - p1 c.loss j + 1) := Int.mul_le_mul h1.1 (by omega) (by omega) (by omega)
    simp only [manyN]
    omega
set_option maxRecDepth 100000 in
set_option maxHeartbeats 4000000 in
theorem many_c (c : Cop) (q : CA) (w : World) (h0 : okR 99 c.hlo c.hhi = true) (hl : ∀ j, j < c.loss.length → okR 99 (p1 c.loss j) (p2 c.loss j) = true) (hn : c.loss.length ≤ 1000000) (hx : PairsAt w w.heap.size q.a3 c.loss) :
    Calls Tryz.prog 94 #[copV c q] w fun e w' => e = .returned (.int .i64 (manyN c c.loss.length)) ∧ Below w.heap.size w w' := by
  have HX := Lib.hid hx
  have HL := Lib.hid hl
  have H0 := Lib.hid h0
  obtain ⟨o1, o2, o3⟩ := okR_spec h0
  have HSZ : Hid (∀ w, Calls Tryz.prog 136 #[.agg #[.int .i64 c.hlo, .int .i64 c.hhi]] w fun e w' => e = .returned (.int .i64 (c.hhi - c.hlo + 1)) ∧ Below w.heap.size w w') := fun w => rsize_c _ _ w o1 o2 o3
  clear hx hl h0
  go_enter Tryz.func94, Tryz.ntmps94
  go_wp2_with (go_at_call 136; refine (HSZ.out _).mono ?_; rintro e w1 ⟨rfl, hb⟩; have HBX : Hid (Box w1 w.heap.size (copCs c q)) := (Box.new w (copCs c q) 28 (0, 0)).bl (by simp) hb; have HB := Lib.hid (bl_tr (bl_al (Below.refl w.heap.size w) _) hb); clear hb)
  go_loopw [3, 4] (fun n i wr => ∃ j : Nat, j ≤ c.loss.length ∧ i = .int .i64 j ∧ n = .int .i64 (manyN c j) ∧ Below w1.heap.size w1 wr) (fun _ i _ => c.loss.length - (intOf i).toNat)
  case atStart => exact ⟨0, Nat.zero_le _, rfl, rfl, Below.refl _ _⟩
  case round =>
    obtain ⟨j, hj, rfl, rfl, hb⟩ := hrel
    have HB1 := Lib.hid hb
    have hbx : Box wr w.heap.size (copCs c q) := HBX.out.bl (by simp) hb
    have k9 : wr.cell? ⟨w.heap.size, 9, none⟩ = some (.slice q.a3 c.loss.length q.c3) := hbx 9
    obtain ⟨m1, m2⟩ := manyN_bd H0.out HL.out j hj
    clear hb hbx
    by_cases hlt : j < c.loss.length
    · obtain ⟨b, o, ha⟩ := HX.out.some_ (by omega)
      have hx' := HX.out
      rw [ha] at hx' k9
      obtain ⟨e1, e2⟩ := (hx'.below (HB.out.trans (HB1.out.mono HB.out.size))).get j hlt
      have hj1 : (j : Int) < (c.loss.length : Int) := by omega
      obtain ⟨s1, s2, s3⟩ := okR_spec (HL.out j hlt)
      have HS2 : Hid (∀ w, Calls Tryz.prog 136 #[.agg #[.int .i64 (p1 c.loss j), .int .i64 (p2 c.loss j)]] w fun e w' => e = .returned (.int .i64 (p2 c.loss j - p1 c.loss j + 1)) ∧ Below w.heap.size w w') := fun w => rsize_c _ _ w s1 s2 s3
      have hml1 : 0 ≤ manyN c j * (p2 c.loss j - p1 c.loss j + 1) := Int.mul_nonneg (by omega) (by omega)
      have hml2 : manyN c j * (p2 c.loss j - p1 c.loss j + 1) ≤ 3000 * 100 := Int.mul_le_mul m2 (by omega) (by omega) (by omega)
      have hwr : IntKind.i64.wrap (manyN c j * (p2 c.loss j - p1 c.loss j + 1)) = manyN c j * (p2 c.loss j - p1 c.loss j + 1) := IntWalk.i64_in _ (by omega)
      have hmin : (if manyN c j * (p2 c.loss j - p1 c.loss j + 1) < 3000 then manyN c j * (p2 c.loss j - p1 c.loss j + 1) else 3000) = manyN c (j + 1) := by simp only [manyN]; split <;> omega
      clear hx' ha hml1 hml2 s1 s2 s3 m1 m2
      go_wp2_with (go_at_call 136; refine (HS2.out _).mono ?_; rintro e w5 ⟨rfl, hb5⟩; have HB5 := Lib.hid hb5; clear hb5)
      go_roundw
      case rel => exact ⟨j + 1, by omega, by go_num, by first | rw [hmin] | rfl, bl_tr HB1.out HB5.out⟩
      case measure => simp [intOf]; omega
    · obtain rfl : j = c.loss.length := by omega
      go_wp2
      go_ret
      exact ⟨rfl, HB.out.trans (HB1.out.mono HB.out.size)⟩
theorem rfull0 (c : Cop) (q : CA) (w : World) : Calls Tryz.prog 97 #[.agg #[.int .i64 c.last, .int .i64 c.start, .int .i64 c.most, .int .i64 c.per, .int .i64 c.shovels, .slice q.a1 c.coal.length q.c1, .slice q.a2 c.want.length q.c2, .int .i64 c.hlo, .int .i64 c.hhi, .slice q.a3 c.loss.length q.c3, .slice q.a4 0 q.c4]] w fun e w' => e = .returned (.int .i64 0) ∧ Below w.heap.size w w' := by
  go_enter Tryz.func97, Tryz.ntmps97
  go_wp2
  go_ret
  exact ⟨rfl, bl_al (Below.refl _ _) _⟩
theorem rfull1 (c : Cop) (q : CA) (w : World) : Calls Tryz.prog 97 #[.agg #[.int .i64 c.last, .int .i64 c.start, .int .i64 c.most, .int .i64 c.per, .int .i64 c.shovels, .slice q.a1 c.coal.length q.c1, .slice q.a2 c.want.length q.c2, .int .i64 c.hlo, .int .i64 c.hhi, .slice q.a3 c.loss.length q.c3, .slice q.a4 1 q.c4]] w fun e w' => e = .returned (.int .i64 1) ∧ Below w.heap.size w w' := by
  go_enter Tryz.func97, Tryz.ntmps97
  go_wp2
  go_ret
  exact ⟨rfl, bl_al (Below.refl _ _) _⟩
theorem rfull2 (c : Cop) (q : CA) (w : World) : Calls Tryz.prog 97 #[.agg #[.int .i64 c.last, .int .i64 c.start, .int .i64 c.most, .int .i64 c.per, .int .i64 c.shovels, .slice q.a1 c.coal.length q.c1, .slice q.a2 c.want.length q.c2, .int .i64 c.hlo, .int .i64 c.hhi, .slice q.a3 c.loss.length q.c3, .slice q.a4 2 q.c4]] w fun e w' => e = .returned (.int .i64 3) ∧ Below w.heap.size w w' := by
  go_enter Tryz.func97, Tryz.ntmps97
  go_wp2
  go_ret
  exact ⟨rfl, bl_al (Below.refl _ _) _⟩
theorem rfull3 (c : Cop) (q : CA) (w : World) : Calls Tryz.prog 97 #[.agg #[.int .i64 c.last, .int .i64 c.start, .int .i64 c.most, .int .i64 c.per, .int .i64 c.shovels, .slice q.a1 c.coal.length q.c1, .slice q.a2 c.want.length q.c2, .int .i64 c.hlo, .int .i64 c.hhi, .slice q.a3 c.loss.length q.c3, .slice q.a4 3 q.c4]] w fun e w' => e = .returned (.int .i64 7) ∧ Below w.heap.size w w' := by
  go_enter Tryz.func97, Tryz.ntmps97
  go_wp2
  go_ret
  exact ⟨rfl, bl_al (Below.refl _ _) _⟩
theorem rfull4 (c : Cop) (q : CA) (w : World) : Calls Tryz.prog 97 #[.agg #[.int .i64 c.last, .int .i64 c.start, .int .i64 c.most, .int .i64 c.per, .int .i64 c.shovels, .slice q.a1 c.coal.length q.c1, .slice q.a2 c.want.length q.c2, .int .i64 c.hlo, .int .i64 c.hhi, .slice q.a3 c.loss.length q.c3, .slice q.a4 4 q.c4]] w fun e w' => e = .returned (.int .i64 15) ∧ Below w.heap.size w w' := by
  go_enter Tryz.func97, Tryz.ntmps97
  go_wp2
  go_ret
  exact ⟨rfl, bl_al (Below.refl _ _) _⟩
theorem rfull5 (c : Cop) (q : CA) (w : World) : Calls Tryz.prog 97 #[.agg #[.int .i64 c.last, .int .i64 c.start, .int .i64 c.most, .int .i64 c.per, .int .i64 c.shovels, .slice q.a1 c.coal.length q.c1, .slice q.a2 c.want.length q.c2, .int .i64 c.hlo, .int .i64 c.hhi, .slice q.a3 c.loss.length q.c3, .slice q.a4 5 q.c4]] w fun e w' => e = .returned (.int .i64 31) ∧ Below w.heap.size w w' := by
  go_enter Tryz.func97, Tryz.ntmps97
  go_wp2
  go_ret
  exact ⟨rfl, bl_al (Below.refl _ _) _⟩
/-- All of n bits. -/
def fullN : Nat → Int
  | 0 => 0
  | 1 => 1
  | 2 => 3
  | 3 => 7
  | 4 => 15
  | _ => 31
theorem rfull_c (c : Cop) (q : CA) (w : World) (h5 : c.rds.length ≤ 5) : Calls Tryz.prog 97 #[copV c q] w fun e w' => e = .returned (.int .i64 (fullN c.rds.length)) ∧ Below w.heap.size w w' := by
  have key : ∀ n, n ≤ 5 → c.rds.length = n → Calls Tryz.prog 97 #[.agg #[.int .i64 c.last, .int .i64 c.start, .int .i64 c.most, .int .i64 c.per, .int .i64 c.shovels, .slice q.a1 c.coal.length q.c1, .slice q.a2 c.want.length q.c2, .int .i64 c.hlo, .int .i64 c.hhi, .slice q.a3 c.loss.length q.c3, .slice q.a4 n q.c4]] w fun e w' => e = .returned (.int .i64 (fullN n)) ∧ Below w.heap.size w w' := fun n hn _ =>
    match n, hn with
    | 0, _ => rfull0 c q w
    | 1, _ => rfull1 c q w
    | 2, _ => rfull2 c q w
    | 3, _ => rfull3 c q w
    | 4, _ => rfull4 c q w
    | 5, _ => rfull5 c q w
  exact key _ h5 rfl
end Go.Proofs.YtpgnplmjfhdncaaGreat
