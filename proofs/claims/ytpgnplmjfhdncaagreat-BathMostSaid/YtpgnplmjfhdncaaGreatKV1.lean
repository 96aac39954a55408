/- What the statements use: list, fault, CanBe, IsPlan. -/
import Derived.Test.YtpgnplmjfhdncaaGreatKA1
namespace Go.Proofs.YtpgnplmjfhdncaaGreat
open Go.RowKit
set_option linter.unusedVariables false
theorem fault29_c (r : Rm) (q : RA) (w : World) (hq : RoomAt w w.heap.size r q) (hs : SmallR r.cop) :
    Calls Tryz.prog 29 #[roomV r q] w fun e w' => e = .returned (.int .i64 (roomErr r)) ∧ Below w.heap.size w w' := by
  have HQ := Lib.hid hq
  clear hq
  go_enter Tryz.func29, Tryz.ntmps29
  go_wp2_with (go_at_call 45; go_loud (refine (rfault_c r q _ (HQ.out.up (bl_al (Below.refl _ _) _)) hs).mono ?_; rintro e w1 ⟨rfl, hb⟩; have HB := Lib.hid (bl_tr (bl_al (Below.refl w.heap.size w) _) hb); clear hb))
  go_ret
  exact ⟨rfl, HB.out⟩
set_option maxRecDepth 100000 in
set_option maxHeartbeats 4000000 in
theorem canbe_c (r : Rm) (q : RA) (n : List Int) (a : Option Addr) (c : Nat) (w : World) (hq : RoomAt w w.heap.size r q) (ho : RoomOk r) (hl : (n.length : Int) = r.cop.last + 1) (hn : ∀ j, 0 ≤ nth n j ∧ nth n j ≤ 100) (hx : IntsAt w w.heap.size a n) :
    Calls Tryz.prog 70 #[roomV r q, .slice a n.length c] w fun e w' => e = .returned (.bool (canB r n)) ∧ Below w.heap.size w w' := by
  have hl0 := ho.cop.l0
  have hl4 := ho.cop.l4
  have hwl := ho.cop.wl
  have hb1 := ho.b1
  have hb9 := ho.b9
  have hp0 := ho.p0
  have hp5 := ho.p5
  obtain ⟨b, o, rfl, hbl, hc⟩ := hx.at_ (by omega)
  obtain ⟨b1, o1, ha2, hbl1, hcw⟩ := hq.cop.want.at_ (by omega)
  have HA2 := Lib.hid ha2
  have HO := Lib.hid ho
  have HN := Lib.hid hn
  have HC : Hid (∀ W, Below w.heap.size w W → ∀ j, j < n.length → W.cell? ⟨b, o + j, none⟩ = some (.int .i64 (nth n j))) := fun W hW j hj => cell_later hW (hc j hj)
  have HCW : Hid (∀ W, Below w.heap.size w W → ∀ j, j < n.length → W.cell? ⟨b1, o1 + j, none⟩ = some (.int .i64 (nth r.cop.want j))) := fun W hW j hj => cell_later hW (hcw j (by omega))
  have HL := Lib.hid hl
  clear hx hq ho hn hc hcw ha2
  go_enter Tryz.func70, Tryz.ntmps70
  go_wp2
  go_loopw [5] (fun i wr => ∃ k : Nat, k ≤ n.length ∧ i = .int .i64 (k : Int) ∧ Box wr w.heap.size (roomCs r q) ∧ Below w.heap.size w wr ∧ canFrom r n 0 k = true) (fun i _ => n.length - (intOf i).toNat)
  case atStart => exact ⟨0, Nat.zero_le _, rfl, Box.new _ _ _ _, bl_al (Below.refl _ _) _, rfl⟩
  case round =>
    obtain ⟨k, hk, rfl, hbx, hb, hcf⟩ := hrel
    have HBX := Lib.hid hbx
    have HB := Lib.hid hb
    have HCF := Lib.hid hcf
    have hkl := HL.out
    by_cases hlt : k < n.length
    · have hlt' : (k : Int) < (n.length : Int) := by omega
      have hk2 : (k : Int) < (r.cop.want.length : Int) := by omega
      have k1 := HC.out wr hb k hlt
      have k2 := HCW.out wr hb k hlt
      have p2 : wr.cell? ⟨w.heap.size, 12, none⟩ = some (.int .i64 r.places) := hbx 12
      have p1 : wr.cell? ⟨w.heap.size, 11, none⟩ = some (.int .i64 r.buckets) := hbx 11
      have p6 : wr.cell? ⟨w.heap.size, 6, none⟩ = some (.slice (some ⟨b1, o1, none⟩) r.cop.want.length q.q.c2) := by rw [hbx 6, ← HA2.out]; rfl
      have hnk := HN.out k
      have hwk := HO.out.cop.wb k
      have hm1 : 0 ≤ r.buckets * nth n k := Int.mul_nonneg (by omega) (by omega)
      have hm2 : r.buckets * nth n k ≤ 9 * 100 := Int.mul_le_mul (by omega) (by omega) (by omega) (by omega)
      have hw1 : IntKind.i64.wrap (r.buckets * nth n k) = r.buckets * nth n k := IntWalk.i64_in _ (by omega)
      have hw2 : IntKind.i64.wrap (nth r.cop.want k + r.buckets * nth n k) = nth r.cop.want k + r.buckets * nth n k := IntWalk.i64_in _ (by omega)
      have hkn : k < (r.cop.last + 1).toNat := by omega
      have HKN := Lib.hid hkn
      clear hbx hb hcf hkn
      by_cases h1 : r.places < nth n k
      · have HF : Hid (roomB r.places (nth r.cop.want k) r.buckets (nth n k) = false) := by
          unfold Hid roomB
          simp
          omega
        go_wp2
        refine wp_region_plus (by kernel_rfl) ?_
        repeat (go_big_quiet_step (fail))
        refine wpQuiet_nil ?_
        rintro _ ⟨d2, rfl⟩
        clear k1 k2 p1 p2 p6
        go_wp2
        go_ret
        exact ⟨by rw [canB_false HKN.out HF.out]; rfl, bl_pl HB.out d2⟩
      · have hd1 : decide (r.places < nth n k) = false := decide_eq_false h1
        by_cases h2 : 20 < nth r.cop.want k + r.buckets * nth n k
        · have hd2 : decide (20 < nth r.cop.want k + r.buckets * nth n k) = true := decide_eq_true h2
          have HF : Hid (roomB r.places (nth r.cop.want k) r.buckets (nth n k) = false) := by
            unfold Hid roomB
            have : nth n k ≠ 0 := fun h => by rw [h] at h2; simp at h2; omega
            simp
            omega
          go_wp2
          refine wp_region_plus (by kernel_rfl) ?_
          repeat (go_big_quiet_step (fail))
          refine wpQuiet_nil ?_
          rintro _ ⟨d2, rfl⟩
          clear k1 k2 p1 p2 p6
          go_wp2
          go_ret
          exact ⟨by rw [canB_false HKN.out HF.out]; rfl, bl_pl HB.out d2⟩
        · have hd2 : decide (20 < nth r.cop.want k + r.buckets * nth n k) = false := decide_eq_false h2
          have HF : Hid (roomB r.places (nth r.cop.want k) r.buckets (nth n k) = true) := by
            unfold Hid roomB
            simp
            omega
          go_wp2
          refine wp_region_plus (by kernel_rfl) ?_
          repeat (go_big_quiet_step (fail))
          refine wpQuiet_nil ?_
          rintro _ ⟨d2, rfl⟩
          clear k1 k2 p1 p2 p6
          go_wp2
          go_roundw
          case rel => exact ⟨k + 1, by omega, by go_num, HBX.out.plus d2 (by simp [roomCs]), bl_pl HB.out d2, by rw [canFrom_le, HCF.out, Nat.zero_add, HF.out]; rfl⟩
          case measure => simp [intOf]; omega
    · have hge : ¬ ((k : Int) < (n.length : Int)) := by omega
      have HF : Hid (canB r n = true) := by unfold Hid canB; rw [show (r.cop.last + 1).toNat = k from by omega]; exact HCF.out
      clear hbx hb hcf
      go_wp2
      go_ret
      exact ⟨by rw [HF.out]; rfl, HB.out⟩
end Go.Proofs.YtpgnplmjfhdncaaGreat
/- The reference's IsPlan; planned. -/
namespace Go.Proofs.YtpgnplmjfhdncaaGreat
open Go.RowKit
set_option linter.unusedVariables false
end Go.Proofs.YtpgnplmjfhdncaaGreat
/- planned, of the statements. -/
namespace Go.Proofs.YtpgnplmjfhdncaaGreat
open Go.RowKit
set_option linter.unusedVariables false
end Go.Proofs.YtpgnplmjfhdncaaGreat
