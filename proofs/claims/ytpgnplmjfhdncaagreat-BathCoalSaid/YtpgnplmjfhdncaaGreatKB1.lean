/- A part of the proof: B1. -/
import Derived.Test.YtpgnplmjfhdncaaGreatKBase
namespace Go.Proofs.YtpgnplmjfhdncaaGreat
open Go.RowKit
set_option maxHeartbeats 400000 in
theorem room_c (r : Rm) (q : RA) (h : Nat) (k : Int) (w : World) (B : Nat) (hh : h < r.cop.want.length) (hR : RoomAt w B r q) 
    (hb1 : 1 ≤ r.buckets) (hb2 : r.buckets ≤ 9) (hp1 : 0 ≤ r.places) (hp : r.places ≤ 5) (hw1 : 0 ≤ nth r.cop.want h) (hw2 : nth r.cop.want h ≤ 20) (hk0 : 0 ≤ k) :
    Calls Tryz.prog 161 #[roomV r q, .agg #[.int .i64 h, .int .i64 k]] w fun e w' =>
      e = .returned (.bool (roomB r.places (nth r.cop.want h) r.buckets k)) ∧ Below w.heap.size w w' := by
  obtain ⟨b, o, ha, -, hc⟩ := hR.cop.want.at_ (by omega)
  have hcell := hc h hh
  clear hc hR
  obtain ⟨⟨last, start, most, per, shovels, coal, want, hlo, hhi, loss, rds⟩, buckets, places, baths⟩ := r
  obtain ⟨⟨a1, c1, a2, c2, a3, c3, a4, c4⟩, a5, c5⟩ := q
  dsimp only at *
  subst ha
  generalize nth want h = wh at *
  by_cases hk : k = 0
  · subst hk
    go_enter Tryz.func161, Tryz.ntmps161
    go_wp2
    go_ret
    exact ⟨by simp [roomB], bl_al (bl_al (Below.refl _ _) _) _⟩
  · by_cases hkp : k ≤ places
    · have hd : decide (k ≤ places) = true := by simpa using hkp
      have hm1 : 0 ≤ buckets * k := Int.mul_nonneg (by omega) (by omega)
      have hm2 : buckets * k ≤ 9 * 5 := Int.mul_le_mul (by omega) (by omega) (by omega) (by omega)
      go_enter Tryz.func161, Tryz.ntmps161
      go_wp2
      go_quiet (fail)
      go_wp2
      all_goals (go_ret; exact ⟨by simp [roomB, hk, hkp], bl_drN (bl_al (bl_al (Below.refl _ _) _) _) _⟩)
    · have hd : decide (k ≤ places) = false := by simpa using hkp
      have hF : roomB places wh buckets k = false := by simp only [roomB, hk, hkp, decide_false, Bool.false_and, Bool.or_false]
      go_enter Tryz.func161, Tryz.ntmps161
      go_wp2
      go_quiet (fail)
      go_wp2
      all_goals (go_ret; exact ⟨by rw [hF]; rfl, bl_drN (bl_al (bl_al (Below.refl _ _) _) _) _⟩)

/-- What a room must be for the parts at work. -/
structure Fine (r : Rm) : Prop where
  l0 : 0 ≤ r.cop.last
  l4 : r.cop.last ≤ 4
  wl : (r.cop.want.length : Int) = r.cop.last + 1
  w0 : ∀ j, 0 ≤ nth r.cop.want j
  w20 : ∀ j, nth r.cop.want j ≤ 20
  b1 : 1 ≤ r.buckets
  b9 : r.buckets ≤ 9
  p0 : 0 ≤ r.places
  p5 : r.places ≤ 5

theorem canFrom_le (r : Rm) (n : List Int) (d : Nat) : ∀ i, canFrom r n i (d + 1) = (canFrom r n i d && roomB r.places (nth r.cop.want (i + d)) r.buckets (nth n (i + d))) := by
  induction d with
  | zero => intro i; simp [canFrom]
  | succ d ih => intro i; rw [canFrom, ih (i + 1), canFrom, Bool.and_assoc, show i + 1 + d = i + (d + 1) from by omega]
theorem canB_false {r : Rm} {n : List Int} {k : Nat} (hk : k < (r.cop.last + 1).toNat) (h : roomB r.places (nth r.cop.want k) r.buckets (nth n k) = false) : canB r n = false := by
  unfold canB
  obtain ⟨m, hm⟩ : ∃ m, (r.cop.last + 1).toNat = k + 1 + m := ⟨_, (Nat.add_sub_cancel' hk).symm⟩
  rw [hm]
  have key : ∀ m, canFrom r n 0 (k + 1 + m) = false := by
    intro m
    induction m with
    | zero => rw [Nat.add_zero, canFrom_le]; simp [h]
    | succ m ih => rw [← Nat.add_assoc, canFrom_le, ih]; rfl
  exact key m
set_option maxHeartbeats 400000 in
theorem hours_c (r : Rm) (q : RA) (w : World) (h0 : 0 ≤ r.cop.last) (h4 : r.cop.last ≤ 4) :
    Calls Tryz.prog 103 #[roomV r q] w fun e w' => e = .returned (.int .i64 (r.cop.last + 1)) ∧ Below w.heap.size w w' := by
  go_enter Tryz.func103, Tryz.ntmps103
  go_wp2
  go_ret
  exact ⟨rfl, bl_al (Below.refl _ _) _⟩
set_option maxHeartbeats 1000000 in
theorem possible_c (r : Rm) (q : RA) (n : List Int) (w : World) (hR : RoomAt w w.heap.size r q) (hF : Fine r) (hn : ∀ j, 0 ≤ nth n j) :
    Calls Tryz.prog 127 #[roomV r q, nv n] w fun e w' =>
      e = .returned (.bool (canB r n)) ∧ Below w.heap.size w w' := by
  have hl0 := hF.l0
  have hl4 := hF.l4
  have HF := Lib.hid hF
  have HR := Lib.hid hR
  have HN := Lib.hid hn
  clear hF hR hn
  go_enter Tryz.func127, Tryz.ntmps127
  go_wp2_with (go_at_call 103; refine (hours_c r q _ (by omega) (by omega)).mono ?_; rintro e w1 ⟨rfl, hb⟩; obtain ⟨d1, rfl⟩ := below_plus hb; clear hb)
  go_loopw [8] (fun i wr => ∃ (k : Nat), (k : Int) ≤ r.cop.last + 1 ∧ i = .int .i64 k ∧ Box wr w.heap.size (roomCs r q) ∧ Box wr (w.heap.size + 1) (nvs n) ∧ Below w.heap.size w wr ∧ canFrom r n 0 k = true) (fun i _ => (r.cop.last + 1).toNat - (intOf i).toNat)
  case atStart =>
    refine ⟨0, by simp; omega, rfl, ?_, ?_, bl_pl (bl_al (bl_al (Below.refl _ _) _) _) _, rfl⟩
    · exact ((Box.new _ _ _ _).al (by simp) _).plus _ (by simp)
    · exact (by simpa using (Box.new (w.alloc (.cells (roomCs r q) 44)) (nvs n) 115 (0, 0)).plus d1 (by simp))
  case round =>
    obtain ⟨k, hk, rfl, hb0, hb1, hbl, hc⟩ := hrel
    have HC := Lib.hid hc
    have HB0 := Lib.hid hb0
    have HB1 := Lib.hid hb1
    have HBL := Lib.hid hbl
    clear hc hbl
    unfold Box roomCs at hb0
    unfold Box nvs at hb1
    by_cases hlt : (k : Int) < r.cop.last + 1
    · have hx := nvs_at n k (by omega)
      have hkn : k < (r.cop.last + 1).toNat := by omega
      have hwl := HF.out.wl
      have hR1 : ∀ d, RoomAt (plus wr d) w.heap.size r q := fun d => HR.out.below (HBL.out.trans ((plus_below wr d).mono HBL.out.size))
      have HR1 := Lib.hid hR1
      clear hR1
      go_wp2
      refine wp_region_plus (by kernel_rfl) ?_
      repeat (go_big_quiet_step ((go_at_call 161; exact Calls.pl (room_c r q k (nth n k) _ _ (by omega) (HR1.out _) HF.out.b1 HF.out.b9 HF.out.p0 HF.out.p5 (HF.out.w0 k) (HF.out.w20 k) (HN.out k)))))
      refine wpQuiet_nil ?_
      rintro _ ⟨d, rfl⟩
      cases hrm : roomB r.places (nth r.cop.want k) r.buckets (nth n k) with
      | true =>
        go_wp2
        go_roundw
        case rel => exact ⟨k + 1, by omega, by go_num, HB0.out.plus _ (by simp), HB1.out.plus _ (by simp), bl_pl HBL.out _, by rw [canFrom_le, HC.out, Nat.zero_add, hrm]; rfl⟩
        case measure => simp [intOf]; omega
      | false =>
        have hcb := canB_false hkn hrm
        go_wp2
        go_ret
        exact ⟨by rw [hcb]; rfl, bl_pl HBL.out _⟩
    · have hkn : (r.cop.last + 1).toNat = k := by omega
      have hcb : canB r n = true := by unfold canB; rw [hkn]; exact HC.out
      have HCB := Lib.hid hcb
      clear hcb hkn
      go_wp2
      go_ret
      exact ⟨by rw [HCB.out]; rfl, HBL.out⟩
end Go.Proofs.YtpgnplmjfhdncaaGreat
