/- The reference's Fault of rooms: CheckRoom's error. -/
import Derived.Test.YtpgnplmjfhdncaaGreatKL1
import Derived.Test.YtpgnplmjfhdncaaGreatKB19
import Derived.Laws.AppendOwnNone
namespace Go.Proofs.YtpgnplmjfhdncaaGreat
open Go.RowKit
set_option linter.unusedVariables false
structure SmallR (c : Cop) : Prop where
  n1 : c.coal.length ≤ 1000000
  n2 : c.want.length ≤ 1000000
  n3 : c.loss.length ≤ 1000000
  n4 : c.rds.length ≤ 1000000
set_option maxRecDepth 100000 in
set_option maxHeartbeats 4000000 in
theorem rfault_a (r : Rm) (q : RA) (w : World) (hq : RoomAt w w.heap.size r q) (hs : SmallR r.cop) (h0 : checkCop r.cop ≠ 0) :
    Calls Tryz.prog 45 #[roomV r q] w fun e w' => e = .returned (.int .i64 (checkCop r.cop)) ∧ Below w.heap.size w w' := by
  have HQ := Lib.hid hq
  have HFA : Hid (∀ w, RoomAt w w.heap.size r q → Calls Tryz.prog 51 #[copV r.cop q.q] w fun e w' => e = .returned (.int .i64 (checkCop r.cop)) ∧ Below w.heap.size w w') := fun w hq => by have := fault_c r.cop q.q w hq.cop hs.n1 hs.n2 hs.n3 hs.n4;  exact this
  have hne : (checkCop r.cop == 0) = false := by simpa using h0
  clear hq h0
  go_enter Tryz.func45, Tryz.ntmps45
  go_wp2_with (first | (go_at_call 51; refine (HFA.out _ (HQ.out.up (bl_al (Below.refl _ _) _))).mono ?_; rintro e w1 ⟨rfl, hb1⟩; have HX1 : Hid (Box w1 w.heap.size (roomCs r q)) := (Box.new w (roomCs r q) 31 (0, 0)).bl (by simp) hb1; have hbx := HX1.out; unfold Box roomCs at hbx; have HB1 := Lib.hid (bl_tr (bl_al (Below.refl w.heap.size w) _) hb1); clear hb1))
  go_ret
  exact ⟨rfl, HB1.out⟩
set_option maxRecDepth 100000 in
set_option maxHeartbeats 4000000 in
theorem rfault_b (r : Rm) (q : RA) (w : World) (hq : RoomAt w w.heap.size r q) (hs : SmallR r.cop) (h0 : checkCop r.cop = 0) (ht : truthsR r.cop = []) :
    Calls Tryz.prog 45 #[roomV r q] w fun e w' => e = .returned (.int .i64 11) ∧ Below w.heap.size w w' := by
  have HQ := Lib.hid hq
  have HFA : Hid (∀ w, RoomAt w w.heap.size r q → Calls Tryz.prog 51 #[copV r.cop q.q] w fun e w' => e = .returned (.int .i64 0) ∧ Below w.heap.size w w') := fun w hq => by have := fault_c r.cop q.q w hq.cop hs.n1 hs.n2 hs.n3 hs.n4; rw [h0] at this; exact this
  have HTR : Hid (∀ w, RoomAt w w.heap.size r q → Calls Tryz.prog 36 #[copV r.cop q.q] w fun e w' => ∃ A k, e = .returned (.slice A (truthsR r.cop).length k) ∧ Below w.heap.size w w') := fun w hq => (rtruths_c r.cop q.q w hq.cop (okc_of h0)).mono fun e w' ⟨A, k, h1, _, h3⟩ => ⟨A, k, h1, h3⟩
  have hl : (((truthsR r.cop).length : Int) == 0) = true := by rw [ht]; rfl
  clear ht
  clear hq h0
  go_enter Tryz.func45, Tryz.ntmps45
  go_wp2_with (first | (go_at_call 51; refine (HFA.out _ (HQ.out.up (bl_al (Below.refl _ _) _))).mono ?_; rintro e w1 ⟨rfl, hb1⟩; have HX1 : Hid (Box w1 w.heap.size (roomCs r q)) := (Box.new w (roomCs r q) 31 (0, 0)).bl (by simp) hb1; have hbx := HX1.out; unfold Box roomCs at hbx; have HB1 := Lib.hid (bl_tr (bl_al (Below.refl w.heap.size w) _) hb1); clear hb1) | (go_at_call 36; refine (HTR.out _ (HQ.out.up HB1.out)).mono ?_; clear hbx; rintro e w2 ⟨A, k, rfl, hb2⟩; have HX2 : Hid (Box w2 w.heap.size (roomCs r q)) := HX1.out.bl (by simp) hb2; have hbx := HX2.out; unfold Box roomCs at hbx; have HB2 := Lib.hid (bl_tr HB1.out hb2); clear hb2))
  go_ret
  exact ⟨rfl, HB2.out⟩
set_option maxRecDepth 100000 in
set_option maxHeartbeats 4000000 in
theorem rfault_c1 (r : Rm) (q : RA) (w : World) (hq : RoomAt w w.heap.size r q) (hs : SmallR r.cop) (h0 : checkCop r.cop = 0) (ht : truthsR r.cop ≠ []) (p5 : 5 < r.places) :
    Calls Tryz.prog 45 #[roomV r q] w fun e w' => e = .returned (.int .i64 3) ∧ Below w.heap.size w w' := by
  have HQ := Lib.hid hq
  have HFA : Hid (∀ w, RoomAt w w.heap.size r q → Calls Tryz.prog 51 #[copV r.cop q.q] w fun e w' => e = .returned (.int .i64 0) ∧ Below w.heap.size w w') := fun w hq => by have := fault_c r.cop q.q w hq.cop hs.n1 hs.n2 hs.n3 hs.n4; rw [h0] at this; exact this
  have HTR : Hid (∀ w, RoomAt w w.heap.size r q → Calls Tryz.prog 36 #[copV r.cop q.q] w fun e w' => ∃ A k, e = .returned (.slice A (truthsR r.cop).length k) ∧ Below w.heap.size w w') := fun w hq => (rtruths_c r.cop q.q w hq.cop (okc_of h0)).mono fun e w' ⟨A, k, h1, _, h3⟩ => ⟨A, k, h1, h3⟩
  have hl : (((truthsR r.cop).length : Int) == 0) = false := by have := List.length_pos_iff.2 ht; simp; intro h; exact ht h
  clear ht
  clear hq h0
  go_enter Tryz.func45, Tryz.ntmps45
  go_wp2_with (first | (go_at_call 51; refine (HFA.out _ (HQ.out.up (bl_al (Below.refl _ _) _))).mono ?_; rintro e w1 ⟨rfl, hb1⟩; have HX1 : Hid (Box w1 w.heap.size (roomCs r q)) := (Box.new w (roomCs r q) 31 (0, 0)).bl (by simp) hb1; have hbx := HX1.out; unfold Box roomCs at hbx; have HB1 := Lib.hid (bl_tr (bl_al (Below.refl w.heap.size w) _) hb1); clear hb1) | (go_at_call 36; refine (HTR.out _ (HQ.out.up HB1.out)).mono ?_; clear hbx; rintro e w2 ⟨A, k, rfl, hb2⟩; have HX2 : Hid (Box w2 w.heap.size (roomCs r q)) := HX1.out.bl (by simp) hb2; have hbx := HX2.out; unfold Box roomCs at hbx; have HB2 := Lib.hid (bl_tr HB1.out hb2); clear hb2))
  go_ret
  exact ⟨rfl, HB2.out⟩
set_option maxRecDepth 100000 in
set_option maxHeartbeats 4000000 in
theorem rfault_c2 (r : Rm) (q : RA) (w : World) (hq : RoomAt w w.heap.size r q) (hs : SmallR r.cop) (h0 : checkCop r.cop = 0) (ht : truthsR r.cop ≠ []) (p5 : r.places ≤ 5) (n5 : decide ((5 : Int) < (r.baths.length : Int)) = true) :
    Calls Tryz.prog 45 #[roomV r q] w fun e w' => e = .returned (.int .i64 3) ∧ Below w.heap.size w w' := by
  have HQ := Lib.hid hq
  have HFA : Hid (∀ w, RoomAt w w.heap.size r q → Calls Tryz.prog 51 #[copV r.cop q.q] w fun e w' => e = .returned (.int .i64 0) ∧ Below w.heap.size w w') := fun w hq => by have := fault_c r.cop q.q w hq.cop hs.n1 hs.n2 hs.n3 hs.n4; rw [h0] at this; exact this
  have HTR : Hid (∀ w, RoomAt w w.heap.size r q → Calls Tryz.prog 36 #[copV r.cop q.q] w fun e w' => ∃ A k, e = .returned (.slice A (truthsR r.cop).length k) ∧ Below w.heap.size w w') := fun w hq => (rtruths_c r.cop q.q w hq.cop (okc_of h0)).mono fun e w' ⟨A, k, h1, _, h3⟩ => ⟨A, k, h1, h3⟩
  have hl : (((truthsR r.cop).length : Int) == 0) = false := by have := List.length_pos_iff.2 ht; simp; intro h; exact ht h
  clear ht
  clear hq h0
  go_enter Tryz.func45, Tryz.ntmps45
  go_wp2_with (first | (go_at_call 51; refine (HFA.out _ (HQ.out.up (bl_al (Below.refl _ _) _))).mono ?_; rintro e w1 ⟨rfl, hb1⟩; have HX1 : Hid (Box w1 w.heap.size (roomCs r q)) := (Box.new w (roomCs r q) 31 (0, 0)).bl (by simp) hb1; have hbx := HX1.out; unfold Box roomCs at hbx; have HB1 := Lib.hid (bl_tr (bl_al (Below.refl w.heap.size w) _) hb1); clear hb1) | (go_at_call 36; refine (HTR.out _ (HQ.out.up HB1.out)).mono ?_; clear hbx; rintro e w2 ⟨A, k, rfl, hb2⟩; have HX2 : Hid (Box w2 w.heap.size (roomCs r q)) := HX1.out.bl (by simp) hb2; have hbx := HX2.out; unfold Box roomCs at hbx; have HB2 := Lib.hid (bl_tr HB1.out hb2); clear hb2))
  go_ret
  exact ⟨rfl, HB2.out⟩
set_option maxRecDepth 100000 in
set_option maxHeartbeats 4000000 in
theorem rfault_d1 (r : Rm) (q : RA) (w : World) (hq : RoomAt w w.heap.size r q) (hs : SmallR r.cop) (h0 : checkCop r.cop = 0) (ht : truthsR r.cop ≠ []) (p5 : r.places ≤ 5) (n5 : decide ((5 : Int) < (r.baths.length : Int)) = false) (b1 : r.buckets < 1) :
    Calls Tryz.prog 45 #[roomV r q] w fun e w' => e = .returned (.int .i64 1) ∧ Below w.heap.size w w' := by
  have HQ := Lib.hid hq
  have HFA : Hid (∀ w, RoomAt w w.heap.size r q → Calls Tryz.prog 51 #[copV r.cop q.q] w fun e w' => e = .returned (.int .i64 0) ∧ Below w.heap.size w w') := fun w hq => by have := fault_c r.cop q.q w hq.cop hs.n1 hs.n2 hs.n3 hs.n4; rw [h0] at this; exact this
  have HTR : Hid (∀ w, RoomAt w w.heap.size r q → Calls Tryz.prog 36 #[copV r.cop q.q] w fun e w' => ∃ A k, e = .returned (.slice A (truthsR r.cop).length k) ∧ Below w.heap.size w w') := fun w hq => (rtruths_c r.cop q.q w hq.cop (okc_of h0)).mono fun e w' ⟨A, k, h1, _, h3⟩ => ⟨A, k, h1, h3⟩
  have hl : (((truthsR r.cop).length : Int) == 0) = false := by have := List.length_pos_iff.2 ht; simp; intro h; exact ht h
  clear ht
  clear hq h0
  go_enter Tryz.func45, Tryz.ntmps45
  go_wp2_with (first | (go_at_call 51; refine (HFA.out _ (HQ.out.up (bl_al (Below.refl _ _) _))).mono ?_; rintro e w1 ⟨rfl, hb1⟩; have HX1 : Hid (Box w1 w.heap.size (roomCs r q)) := (Box.new w (roomCs r q) 31 (0, 0)).bl (by simp) hb1; have hbx := HX1.out; unfold Box roomCs at hbx; have HB1 := Lib.hid (bl_tr (bl_al (Below.refl w.heap.size w) _) hb1); clear hb1) | (go_at_call 36; refine (HTR.out _ (HQ.out.up HB1.out)).mono ?_; clear hbx; rintro e w2 ⟨A, k, rfl, hb2⟩; have HX2 : Hid (Box w2 w.heap.size (roomCs r q)) := HX1.out.bl (by simp) hb2; have hbx := HX2.out; unfold Box roomCs at hbx; have HB2 := Lib.hid (bl_tr HB1.out hb2); clear hb2))
  go_ret
  exact ⟨rfl, HB2.out⟩
set_option maxRecDepth 100000 in
set_option maxHeartbeats 4000000 in
theorem rfault_d2 (r : Rm) (q : RA) (w : World) (hq : RoomAt w w.heap.size r q) (hs : SmallR r.cop) (h0 : checkCop r.cop = 0) (ht : truthsR r.cop ≠ []) (p5 : r.places ≤ 5) (n5 : decide ((5 : Int) < (r.baths.length : Int)) = false) (b1 : 1 ≤ r.buckets) (b9 : 9 < r.buckets) :
    Calls Tryz.prog 45 #[roomV r q] w fun e w' => e = .returned (.int .i64 1) ∧ Below w.heap.size w w' := by
  have HQ := Lib.hid hq
  have HFA : Hid (∀ w, RoomAt w w.heap.size r q → Calls Tryz.prog 51 #[copV r.cop q.q] w fun e w' => e = .returned (.int .i64 0) ∧ Below w.heap.size w w') := fun w hq => by have := fault_c r.cop q.q w hq.cop hs.n1 hs.n2 hs.n3 hs.n4; rw [h0] at this; exact this
  have HTR : Hid (∀ w, RoomAt w w.heap.size r q → Calls Tryz.prog 36 #[copV r.cop q.q] w fun e w' => ∃ A k, e = .returned (.slice A (truthsR r.cop).length k) ∧ Below w.heap.size w w') := fun w hq => (rtruths_c r.cop q.q w hq.cop (okc_of h0)).mono fun e w' ⟨A, k, h1, _, h3⟩ => ⟨A, k, h1, h3⟩
  have hl : (((truthsR r.cop).length : Int) == 0) = false := by have := List.length_pos_iff.2 ht; simp; intro h; exact ht h
  clear ht
  clear hq h0
  go_enter Tryz.func45, Tryz.ntmps45
  go_wp2_with (first | (go_at_call 51; refine (HFA.out _ (HQ.out.up (bl_al (Below.refl _ _) _))).mono ?_; rintro e w1 ⟨rfl, hb1⟩; have HX1 : Hid (Box w1 w.heap.size (roomCs r q)) := (Box.new w (roomCs r q) 31 (0, 0)).bl (by simp) hb1; have hbx := HX1.out; unfold Box roomCs at hbx; have HB1 := Lib.hid (bl_tr (bl_al (Below.refl w.heap.size w) _) hb1); clear hb1) | (go_at_call 36; refine (HTR.out _ (HQ.out.up HB1.out)).mono ?_; clear hbx; rintro e w2 ⟨A, k, rfl, hb2⟩; have HX2 : Hid (Box w2 w.heap.size (roomCs r q)) := HX1.out.bl (by simp) hb2; have hbx := HX2.out; unfold Box roomCs at hbx; have HB2 := Lib.hid (bl_tr HB1.out hb2); clear hb2))
  go_ret
  exact ⟨rfl, HB2.out⟩
set_option maxRecDepth 100000 in
set_option maxHeartbeats 4000000 in
theorem rfault_d3 (r : Rm) (q : RA) (w : World) (hq : RoomAt w w.heap.size r q) (hs : SmallR r.cop) (h0 : checkCop r.cop = 0) (ht : truthsR r.cop ≠ []) (p5 : r.places ≤ 5) (n5 : decide ((5 : Int) < (r.baths.length : Int)) = false) (b1 : 1 ≤ r.buckets) (b9 : r.buckets ≤ 9) (p0 : r.places < 0) :
    Calls Tryz.prog 45 #[roomV r q] w fun e w' => e = .returned (.int .i64 1) ∧ Below w.heap.size w w' := by
  have HQ := Lib.hid hq
  have HFA : Hid (∀ w, RoomAt w w.heap.size r q → Calls Tryz.prog 51 #[copV r.cop q.q] w fun e w' => e = .returned (.int .i64 0) ∧ Below w.heap.size w w') := fun w hq => by have := fault_c r.cop q.q w hq.cop hs.n1 hs.n2 hs.n3 hs.n4; rw [h0] at this; exact this
  have HTR : Hid (∀ w, RoomAt w w.heap.size r q → Calls Tryz.prog 36 #[copV r.cop q.q] w fun e w' => ∃ A k, e = .returned (.slice A (truthsR r.cop).length k) ∧ Below w.heap.size w w') := fun w hq => (rtruths_c r.cop q.q w hq.cop (okc_of h0)).mono fun e w' ⟨A, k, h1, _, h3⟩ => ⟨A, k, h1, h3⟩
  have hl : (((truthsR r.cop).length : Int) == 0) = false := by have := List.length_pos_iff.2 ht; simp; intro h; exact ht h
  clear ht
  clear hq h0
  go_enter Tryz.func45, Tryz.ntmps45
  go_wp2_with (first | (go_at_call 51; refine (HFA.out _ (HQ.out.up (bl_al (Below.refl _ _) _))).mono ?_; rintro e w1 ⟨rfl, hb1⟩; have HX1 : Hid (Box w1 w.heap.size (roomCs r q)) := (Box.new w (roomCs r q) 31 (0, 0)).bl (by simp) hb1; have hbx := HX1.out; unfold Box roomCs at hbx; have HB1 := Lib.hid (bl_tr (bl_al (Below.refl w.heap.size w) _) hb1); clear hb1) | (go_at_call 36; refine (HTR.out _ (HQ.out.up HB1.out)).mono ?_; clear hbx; rintro e w2 ⟨A, k, rfl, hb2⟩; have HX2 : Hid (Box w2 w.heap.size (roomCs r q)) := HX1.out.bl (by simp) hb2; have hbx := HX2.out; unfold Box roomCs at hbx; have HB2 := Lib.hid (bl_tr HB1.out hb2); clear hb2))
  go_ret
  exact ⟨rfl, HB2.out⟩
def bokB (r : Rm) (j : Nat) : Bool := bathOk r.cop.last (p1 r.baths j) (p2 r.baths j)
def rfZ (r : Rm) : Int := if allN (bokB r) r.baths.length = false then 1 else 0
set_option maxRecDepth 100000 in
set_option maxHeartbeats 4000000 in
theorem rfault_z (r : Rm) (q : RA) (w : World) (hq : RoomAt w w.heap.size r q) (hs : SmallR r.cop) (h0 : checkCop r.cop = 0) (ht : truthsR r.cop ≠ []) (p5 : r.places ≤ 5) (n5 : decide ((5 : Int) < (r.baths.length : Int)) = false) (b1 : 1 ≤ r.buckets) (b9 : r.buckets ≤ 9) (p0 : 0 ≤ r.places) :
    Calls Tryz.prog 45 #[roomV r q] w fun e w' => e = .returned (.int .i64 (rfZ r)) ∧ Below w.heap.size w w' := by
  have HQ := Lib.hid hq
  have HFA : Hid (∀ w, RoomAt w w.heap.size r q → Calls Tryz.prog 51 #[copV r.cop q.q] w fun e w' => e = .returned (.int .i64 0) ∧ Below w.heap.size w w') := fun w hq => by have := fault_c r.cop q.q w hq.cop hs.n1 hs.n2 hs.n3 hs.n4; rw [h0] at this; exact this
  have HTR : Hid (∀ w, RoomAt w w.heap.size r q → Calls Tryz.prog 36 #[copV r.cop q.q] w fun e w' => ∃ A k, e = .returned (.slice A (truthsR r.cop).length k) ∧ Below w.heap.size w w') := fun w hq => (rtruths_c r.cop q.q w hq.cop (okc_of h0)).mono fun e w' ⟨A, k, h1, _, h3⟩ => ⟨A, k, h1, h3⟩
  have hl : (((truthsR r.cop).length : Int) == 0) = false := by have := List.length_pos_iff.2 ht; simp; intro h; exact ht h
  clear ht
  have HN5 : Hid ((r.baths.length : Int) ≤ 5) := by have := n5; unfold Hid; simp at this; omega
  clear hq h0
  go_enter Tryz.func45, Tryz.ntmps45
  go_wp2_with (first | (go_at_call 51; refine (HFA.out _ (HQ.out.up (bl_al (Below.refl _ _) _))).mono ?_; rintro e w1 ⟨rfl, hb1⟩; have HX1 : Hid (Box w1 w.heap.size (roomCs r q)) := (Box.new w (roomCs r q) 31 (0, 0)).bl (by simp) hb1; have hbx := HX1.out; unfold Box roomCs at hbx; have HB1 := Lib.hid (bl_tr (bl_al (Below.refl w.heap.size w) _) hb1); clear hb1) | (go_at_call 36; refine (HTR.out _ (HQ.out.up HB1.out)).mono ?_; clear hbx; rintro e w2 ⟨A, k, rfl, hb2⟩; have HX2 : Hid (Box w2 w.heap.size (roomCs r q)) := HX1.out.bl (by simp) hb2; have hbx := HX2.out; unfold Box roomCs at hbx; have HB2 := Lib.hid (bl_tr HB1.out hb2); clear hb2))
  clear hbx hl p5 n5 b1 b9 p0
  go_loopw [4] (fun i wr => ∃ j : Nat, j ≤ r.baths.length ∧ i = .int .i64 j ∧ Below w.heap.size w wr ∧ Box wr w.heap.size (roomCs r q) ∧ idxN (fun j => !bokB r j) 0 r.baths.length = idxN (fun j => !bokB r j) j (r.baths.length - j)) (fun i _ => r.baths.length - (intOf i).toNat)
  case atStart => exact ⟨0, Nat.zero_le _, rfl, HB2.out, HX2.out, rfl⟩
  case round =>
    obtain ⟨j, hj, rfl, hb, hb0, hi⟩ := hrel
    have HB := Lib.hid hb
    have HB0 := Lib.hid hb0
    have HI := Lib.hid hi
    have k0 : wr.cell? ⟨w.heap.size, 0, none⟩ = some (.int .i64 r.cop.last) := hb0 0
    have k13 : wr.cell? ⟨w.heap.size, 13, none⟩ = some (.slice q.a5 r.baths.length q.c5) := hb0 13
    clear hb hb0 hi
    by_cases hlt : j < r.baths.length
    · obtain ⟨b, o, ha⟩ := HQ.out.baths.some_ (by omega)
      have hx' := HQ.out.baths
      rw [ha] at hx' k13
      obtain ⟨e1, e2⟩ := (hx'.below HB.out).get j hlt
      have hj1 : (j : Int) < (r.baths.length : Int) := by omega
      clear hx' ha
      have bad : bokB r j = false → rfZ r = 1 := fun hk => by
        have h3 := idxN_hit hlt HI.out (by simp [hk])
        have h4 : allN (bokB r) r.baths.length = false := by unfold allN anyN; simp [h3]
        unfold rfZ
        rw [if_pos h4]
      by_cases c1 : p1 r.baths j < 0
      · have HF : Hid (rfZ r = 1) := bad (by simp [bokB, bathOk]; omega)
        clear bad
        go_wp2
        go_ret
        exact ⟨by rw [HF.out]; rfl, bl_al HB.out _⟩
      · by_cases c2 : p2 r.baths j < p1 r.baths j
        · have HF : Hid (rfZ r = 1) := bad (by simp [bokB, bathOk]; omega)
          clear bad
          go_wp2
          go_ret
          exact ⟨by rw [HF.out]; rfl, bl_al HB.out _⟩
        · by_cases c3 : r.cop.last < p2 r.baths j
          · have HF : Hid (rfZ r = 1) := bad (by simp [bokB, bathOk]; omega)
            clear bad
            go_wp2
            go_ret
            exact ⟨by rw [HF.out]; rfl, bl_al HB.out _⟩
          · have HJ := Lib.hid (idxN_step hlt HI.out (by simp [bokB, bathOk]; omega))
            clear bad
            have hjb : (j : Int) ≤ 5 := by have := HN5.out; omega
            go_wp2
            go_roundw
            case rel => exact ⟨j + 1, by omega, by go_num, bl_al HB.out _, HB0.out.al (by simp) _, HJ.out⟩
            case measure => simp [intOf]; omega
    · have HF : Hid (rfZ r = 0) := by
        have hje : j = r.baths.length := by omega
        subst hje
        have : allN (bokB r) r.baths.length = true := by
          unfold allN
          rw [idxN_nott (idxN_end HI.out)]
          rfl
        unfold Hid rfZ
        rw [if_neg (by rw [this]; simp)]
      have hlen : ¬ ((j : Int) < (r.baths.length : Int)) := by omega
      clear k0
      go_wp2
      go_ret
      exact ⟨by rw [HF.out]; rfl, HB.out⟩
theorem rfault_c (r : Rm) (q : RA) (w : World) (hq : RoomAt w w.heap.size r q) (hs : SmallR r.cop) :
    Calls Tryz.prog 45 #[roomV r q] w fun e w' => e = .returned (.int .i64 (roomErr r)) ∧ Below w.heap.size w w' := by
  by_cases h0 : checkCop r.cop = 0
  · have ho := okc_of h0
    by_cases ht : truthsR r.cop = []
    · have : roomErr r = 11 := by
        have := (truthsR_nil ho).1 ht
        simp [roomErr, copErr, h0, this]
      rw [this]; exact rfault_b r q w hq hs h0 ht
    · have ht' : truthsC r.cop ≠ [] := fun h => ht ((truthsR_nil ho).2 h)
      have hce : copErr r.cop = 0 := by simp [copErr, h0, ht']
      have he : roomErr r = if rm1 r = true then 3 else if rm2 r = true then 1 else 0 := by unfold roomErr; rw [hce]; simp
      rw [he]
      by_cases p5 : 5 < r.places
      · rw [if_pos (by simp [rm1, p5])]; exact rfault_c1 r q w hq hs h0 ht p5
      · cases n5 : decide ((5 : Int) < (r.baths.length : Int)) with
        | true => rw [if_pos (by simp only [rm1, n5, Bool.or_true])]; exact rfault_c2 r q w hq hs h0 ht (by omega) n5
        | false =>
          have hr1 : rm1 r = false := by simp only [rm1, n5, Bool.or_false]; simpa using p5
          rw [if_neg (by rw [hr1]; simp)]
          by_cases b1 : r.buckets < 1
          · have hw : within r.buckets 1 9 = false := by cases h : within r.buckets 1 9 with | false => rfl | true => rw [within_iff] at h; omega
            rw [if_pos (by simp [rm2, hw])]; exact rfault_d1 r q w hq hs h0 ht (by omega) n5 b1
          · by_cases b9 : 9 < r.buckets
            · have hw : within r.buckets 1 9 = false := by cases h : within r.buckets 1 9 with | false => rfl | true => rw [within_iff] at h; omega
              rw [if_pos (by simp [rm2, hw])]; exact rfault_d2 r q w hq hs h0 ht (by omega) n5 (by omega) b9
            · by_cases p0 : r.places < 0
              · rw [if_pos (by simp [rm2, p0])]; exact rfault_d3 r q w hq hs h0 ht (by omega) n5 (by omega) (by omega) p0
              · have hw : within r.buckets 1 9 = true := within_iff.2 (by omega)
                have hz : (if rm2 r = true then (1 : Int) else 0) = rfZ r := by
                  have : rm2 r = !allN (bokB r) r.baths.length := by
                    simp only [rm2, hw]
                    have : decide (r.places < 0) = false := by simpa using p0
                    rw [this]; rfl
                  unfold rfZ
                  rw [this]
                  cases allN (bokB r) r.baths.length <;> simp
                rw [hz]
                exact rfault_z r q w hq hs h0 ht (by omega) n5 (by omega) (by omega) (by omega)
  · have : roomErr r = checkCop r.cop := by
      have hc : copErr r.cop = checkCop r.cop := by simp [copErr, h0]
      unfold roomErr
      rw [hc, if_pos h0]
    rw [this]; exact rfault_a r q w hq hs h0
end Go.Proofs.YtpgnplmjfhdncaaGreat
/- Copies of lists, ranges; region 1 of the conversion of coppers. -/
namespace Go.Proofs.YtpgnplmjfhdncaaGreat
open Go.RowKit
set_option linter.unusedVariables false
/-- A slice is nil, or empty, or has an address of the common kind. -/
def Pl (a : Option Addr) (n c : Nat) : Prop := (a = none ∧ n = 0 ∧ c = 0) ∨ (∃ b o, a = some ⟨b, o, none⟩) ∨ ((∃ x, a = some x) ∧ n = 0)
theorem own_base {w : World} {base base' : Nat} {e : TypeId} {size n : Nat} {v : Value} {xs : List Value} (h : w.ownsRow base e size v n xs) (hb : base' ≤ base) : w.ownsRow base' e size v n xs := by
  refine ⟨h.1, h.2.imp id ?_⟩
  rintro ⟨g, cap, cur, e1, hb2, r⟩
  exact ⟨g, cap, cur, e1, by omega, r⟩
/-- vs in the cells of block G from i on. -/
def setAll (w : World) (G : Nat) : Nat → List Value → World
  | _, [] => w
  | i, v :: vs => setAll (w.setCell ⟨G, i, none⟩ v) G (i + 1) vs
theorem setAll_grown (w : World) (G : Nat) (vs : List Value) : ∀ i, Grown (fun k => k = G) w (setAll w G i vs) := by
  induction vs generalizing w with
  | nil => intro i; exact Grown.refl _ _
  | cons v vs ih => intro i; exact ((Grown.refl (fun k => k = G) w).setCell (p := ⟨G, i, none⟩) (.inl rfl) v).trans (ih _ (i + 1))
theorem setAll_heap (G : Nat) (vs : List Value) : ∀ (w : World) (i : Nat) (pre : List Value) (post : List Value) (t : TypeId), w.heap[G]? = some (.cells (pre ++ post).toArray t (0, 0)) → pre.length = i → post.length = vs.length → (setAll w G i vs).heap[G]? = some (.cells (pre ++ vs).toArray t (0, 0)) := by
  induction vs with
  | nil =>
    intro w i pre post t h hi hl
    obtain rfl : post = [] := List.eq_nil_of_length_eq_zero hl
    exact h
  | cons v vs ih =>
    intro w i pre post t h hi hl
    match post, hl with
    | p :: post, hl =>
      have h2 := heap_setCell_same w G i _ t v h
      have e : (pre ++ p :: post).toArray.setIfInBounds i v = ((pre ++ [v]) ++ post).toArray := by
        rw [List.setIfInBounds_toArray]
        congr 1
        subst hi
        rw [List.set_append_right _ _ (Nat.le_refl _), Nat.sub_self, List.set_cons_zero, List.append_assoc]
        rfl
      rw [e] at h2
      have h3 := ih _ (i + 1) (pre ++ [v]) post t h2 (by simp [hi]) (by simpa using hl)
      rw [List.append_assoc] at h3
      exact h3
theorem setAll_full (w : World) (G : Nat) (vs : List Value) {cs : Array Value} {t : TypeId} (h : w.heap[G]? = some (.cells cs t (0, 0))) (hl : cs.size = vs.length) : (setAll w G 0 vs).heap[G]? = some (.cells vs.toArray t (0, 0)) :=
  setAll_heap G vs w 0 [] cs.toList t (by simpa using h) rfl (by simpa using hl)
theorem own_grownG {A B : World} {base n size G : Nat} {e : TypeId} {v : Value} {xs : List Value} (h : A.ownsRow base e size v n xs) (hG : Grown (fun k => k = G) A B) (hg : some G ≠ v.ownBlock) : B.ownsRow base e size v n xs := by
  refine ⟨h.1, h.2.imp id ?_⟩
  rintro ⟨g, cap, cur, e1, hb, hh, r⟩
  exact ⟨g, cap, cur, e1, hb, (hG.block g (Array.getElem?_eq_some_iff.1 hh).1 (by subst e1; simp [Value.ownBlock] at hg; omega)).trans hh, r⟩
set_option maxRecDepth 100000 in
set_option maxHeartbeats 1000000 in
theorem rlist_c (xs : List Int) (a : Option Addr) (c : Nat) (w : World) (hn : xs.length ≤ 10000) (hx : IntsAt w w.heap.size a xs) (hp : Pl a xs.length c) :
    Calls Tryz.prog 112 #[.slice a xs.length c] w fun e w' => ∃ v, e = .returned v ∧ w'.ownsRow w.heap.size 3 1 v xs.length (ints xs) ∧ Below w.heap.size w w' := by
  have HX := Lib.hid hx
  clear hx
  rcases hp with ⟨rfl, h0, rfl⟩ | ⟨b, o, rfl⟩ | ⟨⟨x, rfl⟩, h0⟩
  · obtain rfl : xs = [] := List.eq_nil_of_length_eq_zero h0
    clear h0
    obtain ⟨i0, hi, -⟩ := Option.map_eq_some_iff.1 info3
    have HI := Lib.hid hi
    clear hi
    simp only [List.length_nil]
    go_enter Tryz.func112, Tryz.ntmps112
    go_wp2_with (refine wpList_append_own_none rfl _ _ 22 rfl w.heap.size 3 i0 1 Tryz.underlying22 HI.out _ 0 [] rfl (own_empty w _ 3 (Nat.le_refl _)) rfl ?_)
    go_ret
    exact ⟨_, rfl, own_empty w _ 3 (Nat.le_refl _), bl_al (Below.refl _ _) _⟩
  · go_enter Tryz.func112, Tryz.ntmps112
    go_wp2_with (refine wpList_append_ints rfl w.heap.size _ _ 22 3 rfl Tryz.underlying22 info3 _ 0 [] xs b o c w.heap.size rfl rfl (HX.out.below (bl_al (Below.refl _ _) _)) (own_empty w _ 3 (Nat.le_refl _)) (by simp) (by omega) ?_; intro v1 w1 hown hg; have HO := Lib.hid hown; have HG := Lib.hid hg; clear hown hg)
    go_ret
    refine ⟨v1, rfl, (by have := HO.out; simpa using this), bl_gr (bl_al (Below.refl _ _) _) HG.out (fun k hk => ?_)⟩
    have hk' : some k = some w.heap.size := hk.symm
    cases hk'
    exact Nat.le_refl _
  · obtain rfl : xs = [] := List.eq_nil_of_length_eq_zero h0
    clear h0
    simp only [List.length_nil]
    go_enter Tryz.func112, Tryz.ntmps112
    go_wp2
    go_ret
    exact ⟨_, rfl, own_empty w _ 3 (Nat.le_refl _), bl_al (Below.refl _ _) _⟩
theorem to_c (lo hi : Int) (w : World) : Calls Tryz.prog 113 #[.agg #[.int .i64 lo, .int .i64 hi]] w fun e w' => e = .returned (.agg #[.int .i64 lo, .int .i64 hi]) ∧ Below w.heap.size w w' := by
  have HB : Hid (∀ A B : Obj, ((w.alloc A).alloc B).heap[w.heap.size + 1]? = some B) := fun A B => by have := World.alloc_heap_new (w.alloc A) B; rwa [World.size_alloc] at this
  go_enter Tryz.func113, Tryz.ntmps113
  go_wp2
  exact bodyPost_ret (results_cell_row Tryz.results113 _ _ (w.heap.size + 1) 37 _ (0, 0) _ (by rfl) (HB.out _ _) Tryz.underlying37 rfl (by kernel_rfl)) rfl ⟨rfl, bl_al (bl_al (Below.refl _ _) _) _⟩
structure J53 (c : Cop) (q : CA) (b0 : Nat) (W : World) (A5 : Option Addr) (K5 : Nat) (A6 : Option Addr) (K6 : Nat) (G : Nat) (done : Nat → Bool) (s : Nat → Value) (w : World) : Prop where
  gr : Below W.heap.size W w
  a0 : done 0 = true → s 6 = .pointer (some ⟨b0, 0, none⟩)
  a1 : done 1 = true → s 7 = .int .i64 c.last
  a2 : done 2 = true → s 8 = .pointer (some ⟨b0, 1, none⟩)
  a3 : done 3 = true → s 9 = .int .i64 c.start
  a4 : done 4 = true → s 10 = .pointer (some ⟨b0, 2, none⟩)
  a5 : done 5 = true → s 11 = .int .i64 c.most
  a6 : done 6 = true → s 12 = .pointer (some ⟨b0, 3, none⟩)
  a7 : done 7 = true → s 13 = .int .i64 c.per
  a8 : done 8 = true → s 14 = .pointer (some ⟨b0, 4, none⟩)
  a9 : done 9 = true → s 15 = .int .i64 c.shovels
  a10 : done 10 = true → s 16 = .pointer (some ⟨b0, 5, none⟩)
  a11 : done 11 = true → s 17 = .slice q.a1 c.coal.length q.c1
  a12 : done 12 = true → s 18 = .slice A5 c.coal.length K5
  a13 : done 13 = true → s 19 = .pointer (some ⟨b0, 6, none⟩)
  a14 : done 14 = true → s 20 = .slice q.a2 c.want.length q.c2
  a15 : done 15 = true → s 21 = .slice A6 c.want.length K6
  a16 : done 16 = true → s 22 = .pointer (some ⟨b0, 7, none⟩)
  a17 : done 17 = true → s 23 = .agg #[.int .i64 c.hlo, .int .i64 c.hhi]
  a18 : done 18 = true → s 24 = .agg #[.int .i64 c.hlo, .int .i64 c.hhi]
  a19 : done 19 = true → s 25 = .agg #[.int .i64 c.last, .int .i64 c.start, .int .i64 c.most, .int .i64 c.per, .int .i64 c.shovels, .slice A5 c.coal.length K5, .slice A6 c.want.length K6, .int .i64 c.hlo, .int .i64 c.hhi, .slice none 0 0, .slice none 0 0]
  f5 : done 12 = true → w.ownsRow W.heap.size 3 1 (.slice A5 c.coal.length K5) c.coal.length (ints c.coal)
  f6 : done 15 = true → w.ownsRow W.heap.size 3 1 (.slice A6 c.want.length K6) c.want.length (ints c.want)
  a20 : done 20 = true → s 3 = .pointer (some ⟨G, 0, none⟩) ∧ W.heap.size ≤ G ∧ w.heap[G]? = some (.cells (if done 21 = true then #[.int .i64 c.last, .int .i64 c.start, .int .i64 c.most, .int .i64 c.per, .int .i64 c.shovels, .slice A5 c.coal.length K5, .slice A6 c.want.length K6, .int .i64 c.hlo, .int .i64 c.hhi, .slice none 0 0, .slice none 0 0] else #[.int .i64 0, .int .i64 0, .int .i64 0, .int .i64 0, .int .i64 0, .slice none 0 0, .slice none 0 0, .int .i64 0, .int .i64 0, .slice none 0 0, .slice none 0 0]) 41 (0, 0))
  sp5 : done 12 = true → done 20 = true → some G ≠ (Value.slice A5 c.coal.length K5).ownBlock
  sp6 : done 15 = true → done 20 = true → some G ≠ (Value.slice A6 c.want.length K6).ownBlock
def I53 (a0 : Act) (c : Cop) (q : CA) (b0 : Nat) (W : World) (done : Nat → Bool) (a : Act) (w : World) : Prop :=
  ∃ (A5 : Option Addr) (K5 : Nat) (A6 : Option Addr) (K6 : Nat) (G : Nat), Fr 3 25 a0 a ∧ J53 c q b0 W A5 K5 A6 K6 G done (slots a) w
theorem I53.put {a0 : Act} {c : Cop} {q : CA} {b0 : Nat} {W : World} {A5 : Option Addr} {K5 : Nat} {A6 : Option Addr} {K6 : Nat} {G : Nat} {done : Nat → Bool} {a : Act} {w : World} (i : Nat) (u : Value)
    (hF : Fr 3 25 a0 a) (h0 : 25 < a0.tmps.size) (h1 : 3 ≤ i) (h2 : i ≤ 25) (hJ : J53 c q b0 W A5 K5 A6 K6 G done (upd (slots a) i u) w) :
    I53 a0 c q b0 W done { tmps := a.tmps.setIfInBounds i u, defers := a.defers } w :=
  ⟨A5, K5, A6, K6, G, hF.put i u h1 h2 h0, by rw [slots_put a i u (by rw [hF.sz]; omega)]; exact hJ⟩
set_option maxRecDepth 100000 in
set_option maxHeartbeats 8000000 in
theorem r53 (ops : List Oper) (hops : Tryz.f53.body.bind (regionIn 1) = some ops) {Q : Exit → Act → World → Prop} (a0 : Act) (c : Cop) (q : CA) (b0 : Nat) (W : World)
    (hsz : a0.tmps.size = 71) (h1 : slots a0 1 = .pointer (some ⟨b0, 0, none⟩)) (hbx : Box W b0 (copCs c q)) (hb0 : b0 < W.heap.size) (hq : CopAt W W.heap.size c q) (hl5 : c.coal.length ≤ 10000) (hl6 : c.want.length ≤ 10000) (hp5 : Pl q.a1 c.coal.length q.c1) (hp6 : Pl q.a2 c.want.length q.c2)
    (hQ : ∀ a w (A5 : Option Addr) (K5 : Nat) (A6 : Option Addr) (K6 : Nat) (G : Nat), Fr 3 25 a0 a → Below W.heap.size W w → slots a 3 = .pointer (some ⟨G, 0, none⟩) → W.heap.size ≤ G → w.heap[G]? = some (.cells #[.int .i64 c.last, .int .i64 c.start, .int .i64 c.most, .int .i64 c.per, .int .i64 c.shovels, .slice A5 c.coal.length K5, .slice A6 c.want.length K6, .int .i64 c.hlo, .int .i64 c.hhi, .slice none 0 0, .slice none 0 0] 41 (0, 0)) → w.ownsRow W.heap.size 3 1 (.slice A5 c.coal.length K5) c.coal.length (ints c.coal) → w.ownsRow W.heap.size 3 1 (.slice A6 c.want.length K6) c.want.length (ints c.want) → Q .normal a w) :
    (Code.region 1 ops.toArray true).wp Tryz.prog Q a0 W := by
  simp only [Tryz.f53, regionIn, Option.bind_some] at hops
  simp at hops
  subst hops
  refine wp_region_inv (I53 a0 c q b0 W) tryz_mixed (by kernel_rfl) ⟨none, 0, none, 0, 0, Fr.refl _ _ _, ?_⟩ ?_ ?_
  · exact { gr := bl_dr (Below.refl _ _), a0 := fun h => (by cases h), a1 := fun h => (by cases h), a2 := fun h => (by cases h), a3 := fun h => (by cases h), a4 := fun h => (by cases h), a5 := fun h => (by cases h), a6 := fun h => (by cases h), a7 := fun h => (by cases h), a8 := fun h => (by cases h), a9 := fun h => (by cases h), a10 := fun h => (by cases h), a11 := fun h => (by cases h), a12 := fun h => (by cases h), a13 := fun h => (by cases h), a14 := fun h => (by cases h), a15 := fun h => (by cases h), a16 := fun h => (by cases h), a17 := fun h => (by cases h), a18 := fun h => (by cases h), a19 := fun h => (by cases h), f5 := fun h => (by cases h), f6 := fun h => (by cases h), a20 := fun h => (by cases h), sp5 := fun h => (by cases h), sp6 := fun h => (by cases h) }
  · refine ⟨?_, ?_, ?_, ?_, ?_, ?_, ?_, ?_, ?_, ?_, ?_, ?_, ?_, ?_, ?_, ?_, ?_, ?_, ?_, ?_, ?_, ?_, trivial⟩
    · rintro done a w hcl hdn hdep ⟨A5, K5, A6, K6, G, hF, hJ⟩ K hK
      have y1 : a.tmps[1]?.getD undef = .pointer (some ⟨b0, 0, none⟩) := (hF.same 1 (by omega)).trans h1
      clear hdep hcl
      go_simp
      exact hK _ _ (I53.put 6 _ hF (by omega) (by decide) (by decide) { hJ with a0 := fun _ => rfl })
    · rintro done a w hcl hdn hdep ⟨A5, K5, A6, K6, G, hF, hJ⟩ K hK
      have x0 : a.tmps[6]?.getD undef = .pointer (some ⟨b0, 0, none⟩) := hJ.a0 (hdep ⟨0, .data⟩ (by simp) rfl)
      have c0 : w.cell? ⟨b0, 0, none⟩ = some (.int .i64 c.last) := (hbx.below hJ.gr hb0) 0
      clear hdep hcl
      go_simp
      exact hK _ _ (I53.put 7 _ hF (by omega) (by decide) (by decide) { hJ with a1 := fun _ => rfl })
    · rintro done a w hcl hdn hdep ⟨A5, K5, A6, K6, G, hF, hJ⟩ K hK
      have y1 : a.tmps[1]?.getD undef = .pointer (some ⟨b0, 0, none⟩) := (hF.same 1 (by omega)).trans h1
      clear hdep hcl
      go_simp
      exact hK _ _ (I53.put 8 _ hF (by omega) (by decide) (by decide) { hJ with a2 := fun _ => rfl })
    · rintro done a w hcl hdn hdep ⟨A5, K5, A6, K6, G, hF, hJ⟩ K hK
      have x2 : a.tmps[8]?.getD undef = .pointer (some ⟨b0, 1, none⟩) := hJ.a2 (hdep ⟨2, .data⟩ (by simp) rfl)
      have c1 : w.cell? ⟨b0, 1, none⟩ = some (.int .i64 c.start) := (hbx.below hJ.gr hb0) 1
      clear hdep hcl
      go_simp
      exact hK _ _ (I53.put 9 _ hF (by omega) (by decide) (by decide) { hJ with a3 := fun _ => rfl })
    · rintro done a w hcl hdn hdep ⟨A5, K5, A6, K6, G, hF, hJ⟩ K hK
      have y1 : a.tmps[1]?.getD undef = .pointer (some ⟨b0, 0, none⟩) := (hF.same 1 (by omega)).trans h1
      clear hdep hcl
      go_simp
      exact hK _ _ (I53.put 10 _ hF (by omega) (by decide) (by decide) { hJ with a4 := fun _ => rfl })
    · rintro done a w hcl hdn hdep ⟨A5, K5, A6, K6, G, hF, hJ⟩ K hK
      have x4 : a.tmps[10]?.getD undef = .pointer (some ⟨b0, 2, none⟩) := hJ.a4 (hdep ⟨4, .data⟩ (by simp) rfl)
      have c2 : w.cell? ⟨b0, 2, none⟩ = some (.int .i64 c.most) := (hbx.below hJ.gr hb0) 2
      clear hdep hcl
      go_simp
      exact hK _ _ (I53.put 11 _ hF (by omega) (by decide) (by decide) { hJ with a5 := fun _ => rfl })
    · rintro done a w hcl hdn hdep ⟨A5, K5, A6, K6, G, hF, hJ⟩ K hK
      have y1 : a.tmps[1]?.getD undef = .pointer (some ⟨b0, 0, none⟩) := (hF.same 1 (by omega)).trans h1
      clear hdep hcl
      go_simp
      exact hK _ _ (I53.put 12 _ hF (by omega) (by decide) (by decide) { hJ with a6 := fun _ => rfl })
    · rintro done a w hcl hdn hdep ⟨A5, K5, A6, K6, G, hF, hJ⟩ K hK
      have x6 : a.tmps[12]?.getD undef = .pointer (some ⟨b0, 3, none⟩) := hJ.a6 (hdep ⟨6, .data⟩ (by simp) rfl)
      have c3 : w.cell? ⟨b0, 3, none⟩ = some (.int .i64 c.per) := (hbx.below hJ.gr hb0) 3
      clear hdep hcl
      go_simp
      exact hK _ _ (I53.put 13 _ hF (by omega) (by decide) (by decide) { hJ with a7 := fun _ => rfl })
    · rintro done a w hcl hdn hdep ⟨A5, K5, A6, K6, G, hF, hJ⟩ K hK
      have y1 : a.tmps[1]?.getD undef = .pointer (some ⟨b0, 0, none⟩) := (hF.same 1 (by omega)).trans h1
      clear hdep hcl
      go_simp
      exact hK _ _ (I53.put 14 _ hF (by omega) (by decide) (by decide) { hJ with a8 := fun _ => rfl })
    · rintro done a w hcl hdn hdep ⟨A5, K5, A6, K6, G, hF, hJ⟩ K hK
      have x8 : a.tmps[14]?.getD undef = .pointer (some ⟨b0, 4, none⟩) := hJ.a8 (hdep ⟨8, .data⟩ (by simp) rfl)
      have c4 : w.cell? ⟨b0, 4, none⟩ = some (.int .i64 c.shovels) := (hbx.below hJ.gr hb0) 4
      clear hdep hcl
      go_simp
      exact hK _ _ (I53.put 15 _ hF (by omega) (by decide) (by decide) { hJ with a9 := fun _ => rfl })
    · rintro done a w hcl hdn hdep ⟨A5, K5, A6, K6, G, hF, hJ⟩ K hK
      have y1 : a.tmps[1]?.getD undef = .pointer (some ⟨b0, 0, none⟩) := (hF.same 1 (by omega)).trans h1
      clear hdep hcl
      go_simp
      exact hK _ _ (I53.put 16 _ hF (by omega) (by decide) (by decide) { hJ with a10 := fun _ => rfl })
    · rintro done a w hcl hdn hdep ⟨A5, K5, A6, K6, G, hF, hJ⟩ K hK
      have x10 : a.tmps[16]?.getD undef = .pointer (some ⟨b0, 5, none⟩) := hJ.a10 (hdep ⟨10, .data⟩ (by simp) rfl)
      have c5 : w.cell? ⟨b0, 5, none⟩ = some (.slice q.a1 c.coal.length q.c1) := (hbx.below hJ.gr hb0) 5
      clear hdep hcl
      go_simp
      exact hK _ _ (I53.put 17 _ hF (by omega) (by decide) (by decide) { hJ with a11 := fun _ => rfl })
    · rintro done a w hcl hdn hdep ⟨A5, K5, A6, K6, G, hF, hJ⟩ K hK
      have x11 : a.tmps[17]?.getD undef = .slice q.a1 c.coal.length q.c1 := hJ.a11 (hdep ⟨11, .data⟩ (by simp) rfl)
      have h15 : done 15 = false := by
        cases h : done 15 with
        | false => rfl
        | true => have := hcl 15 _ rfl h ⟨12, .chain⟩ (by simp) rfl; rw [hdn] at this; cases this
      have h18 : done 18 = false := by
        cases h : done 18 with
        | false => rfl
        | true => have := hcl 18 _ rfl h ⟨15, .chain⟩ (by simp) rfl; rw [h15] at this; cases this
      have h19 : done 19 = false := by
        cases h : done 19 with
        | false => rfl
        | true => have := hcl 19 _ rfl h ⟨12, .data⟩ (by simp) rfl; rw [hdn] at this; cases this
      have h21 : done 21 = false := by
        cases h : done 21 with
        | false => rfl
        | true => have := hcl 21 _ rfl h ⟨19, .data⟩ (by simp) rfl; rw [h19] at this; cases this
      clear hdep hcl
      go_simp
      refine (rlist_c c.coal q.a1 q.c1 w hl5 (hq.coal.below hJ.gr |>.mono hJ.gr.size) hp5).mono ?_
      rintro e w1 ⟨v5, rfl, ho5, hb⟩
      obtain ⟨A5', K5', rfl⟩ := own_shape6 ho5
      exact hK _ _ (I53.put (A5 := A5') (K5 := K5') 18 _ hF (by omega) (by decide) (by decide) { hJ with gr := bl_tr hJ.gr hb, a12 := fun _ => rfl, a19 := fun h => (by have h' : done 19 = true := h; rw [h19] at h'; cases h'), f5 := fun _ => own_base ho5 hJ.gr.size, f6 := fun h => own_below (hJ.f6 h) hb, a20 := fun h => (let ⟨g1, g2, g3⟩ := hJ.a20 h; ⟨g1, g2, by rw [h21] at g3; exact (hb.block _ (Array.getElem?_eq_some_iff.1 g3).1).trans (by rw [show also 12 done 21 = false from h21]; exact g3)⟩), sp5 := fun _ h => (let ⟨g1, g2, g3⟩ := hJ.a20 h; fun e => by have h1 := (ho5.lt G e.symm).1; have h2 := (Array.getElem?_eq_some_iff.1 g3).1; omega) })
    · rintro done a w hcl hdn hdep ⟨A5, K5, A6, K6, G, hF, hJ⟩ K hK
      have y1 : a.tmps[1]?.getD undef = .pointer (some ⟨b0, 0, none⟩) := (hF.same 1 (by omega)).trans h1
      clear hdep hcl
      go_simp
      exact hK _ _ (I53.put 19 _ hF (by omega) (by decide) (by decide) { hJ with a13 := fun _ => rfl })
    · rintro done a w hcl hdn hdep ⟨A5, K5, A6, K6, G, hF, hJ⟩ K hK
      have x13 : a.tmps[19]?.getD undef = .pointer (some ⟨b0, 6, none⟩) := hJ.a13 (hdep ⟨13, .data⟩ (by simp) rfl)
      have c6 : w.cell? ⟨b0, 6, none⟩ = some (.slice q.a2 c.want.length q.c2) := (hbx.below hJ.gr hb0) 6
      clear hdep hcl
      go_simp
      exact hK _ _ (I53.put 20 _ hF (by omega) (by decide) (by decide) { hJ with a14 := fun _ => rfl })
    · rintro done a w hcl hdn hdep ⟨A5, K5, A6, K6, G, hF, hJ⟩ K hK
      have x14 : a.tmps[20]?.getD undef = .slice q.a2 c.want.length q.c2 := hJ.a14 (hdep ⟨14, .data⟩ (by simp) rfl)
      have h18 : done 18 = false := by
        cases h : done 18 with
        | false => rfl
        | true => have := hcl 18 _ rfl h ⟨15, .chain⟩ (by simp) rfl; rw [hdn] at this; cases this
      have h19 : done 19 = false := by
        cases h : done 19 with
        | false => rfl
        | true => have := hcl 19 _ rfl h ⟨15, .data⟩ (by simp) rfl; rw [hdn] at this; cases this
      have h21 : done 21 = false := by
        cases h : done 21 with
        | false => rfl
        | true => have := hcl 21 _ rfl h ⟨19, .data⟩ (by simp) rfl; rw [h19] at this; cases this
      clear hdep hcl
      go_simp
      refine (rlist_c c.want q.a2 q.c2 w hl6 (hq.want.below hJ.gr |>.mono hJ.gr.size) hp6).mono ?_
      rintro e w1 ⟨v5, rfl, ho5, hb⟩
      obtain ⟨A6', K6', rfl⟩ := own_shape6 ho5
      exact hK _ _ (I53.put (A6 := A6') (K6 := K6') 21 _ hF (by omega) (by decide) (by decide) { hJ with gr := bl_tr hJ.gr hb, a15 := fun _ => rfl, a19 := fun h => (by have h' : done 19 = true := h; rw [h19] at h'; cases h'), f5 := fun h => own_below (hJ.f5 h) hb, f6 := fun _ => own_base ho5 hJ.gr.size, a20 := fun h => (let ⟨g1, g2, g3⟩ := hJ.a20 h; ⟨g1, g2, by rw [h21] at g3; exact (hb.block _ (Array.getElem?_eq_some_iff.1 g3).1).trans (by rw [show also 15 done 21 = false from h21]; exact g3)⟩), sp6 := fun _ h => (let ⟨g1, g2, g3⟩ := hJ.a20 h; fun e => by have h1 := (ho5.lt G e.symm).1; have h2 := (Array.getElem?_eq_some_iff.1 g3).1; omega) })
    · rintro done a w hcl hdn hdep ⟨A5, K5, A6, K6, G, hF, hJ⟩ K hK
      have y1 : a.tmps[1]?.getD undef = .pointer (some ⟨b0, 0, none⟩) := (hF.same 1 (by omega)).trans h1
      clear hdep hcl
      go_simp
      exact hK _ _ (I53.put 22 _ hF (by omega) (by decide) (by decide) { hJ with a16 := fun _ => rfl })
    · rintro done a w hcl hdn hdep ⟨A5, K5, A6, K6, G, hF, hJ⟩ K hK
      have x16 : a.tmps[22]?.getD undef = .pointer (some ⟨b0, 7, none⟩) := hJ.a16 (hdep ⟨16, .data⟩ (by simp) rfl)
      have c7 : w.cell? ⟨b0, 7, none⟩ = some (.int .i64 c.hlo) := (hbx.below hJ.gr hb0) 7
      have c8 : w.cell? ⟨b0, 8, none⟩ = some (.int .i64 c.hhi) := (hbx.below hJ.gr hb0) 8
      clear hdep hcl
      go_simp
      exact hK _ _ (I53.put 23 _ hF (by omega) (by decide) (by decide) { hJ with a17 := fun _ => rfl })
    · rintro done a w hcl hdn hdep ⟨A5, K5, A6, K6, G, hF, hJ⟩ K hK
      have x17 : a.tmps[23]?.getD undef = .agg #[.int .i64 c.hlo, .int .i64 c.hhi] := hJ.a17 (hdep ⟨17, .data⟩ (by simp) rfl)
      have h19 : done 19 = false := by
        cases h : done 19 with
        | false => rfl
        | true => have := hcl 19 _ rfl h ⟨18, .data⟩ (by simp) rfl; rw [hdn] at this; cases this
      have h21 : done 21 = false := by
        cases h : done 21 with
        | false => rfl
        | true => have := hcl 21 _ rfl h ⟨19, .data⟩ (by simp) rfl; rw [h19] at this; cases this
      clear hdep hcl
      go_simp
      refine (to_c c.hlo c.hhi w).mono ?_
      rintro e w1 ⟨rfl, hb⟩
      exact hK _ _ (I53.put 24 _ hF (by omega) (by decide) (by decide) { hJ with gr := bl_tr hJ.gr hb, a18 := fun _ => rfl, f5 := fun h => own_below (hJ.f5 h) hb, f6 := fun h => own_below (hJ.f6 h) hb, a20 := fun h => (let ⟨g1, g2, g3⟩ := hJ.a20 h; ⟨g1, g2, by rw [h21] at g3; exact (hb.block _ (Array.getElem?_eq_some_iff.1 g3).1).trans (by rw [show also 18 done 21 = false from h21]; exact g3)⟩) })
    · rintro done a w hcl hdn hdep ⟨A5, K5, A6, K6, G, hF, hJ⟩ K hK
      have x1 : a.tmps[7]?.getD undef = .int .i64 c.last := hJ.a1 (hdep ⟨1, .data⟩ (by simp) rfl)
      have x3 : a.tmps[9]?.getD undef = .int .i64 c.start := hJ.a3 (hdep ⟨3, .data⟩ (by simp) rfl)
      have x5 : a.tmps[11]?.getD undef = .int .i64 c.most := hJ.a5 (hdep ⟨5, .data⟩ (by simp) rfl)
      have x7 : a.tmps[13]?.getD undef = .int .i64 c.per := hJ.a7 (hdep ⟨7, .data⟩ (by simp) rfl)
      have x9 : a.tmps[15]?.getD undef = .int .i64 c.shovels := hJ.a9 (hdep ⟨9, .data⟩ (by simp) rfl)
      have x12 : a.tmps[18]?.getD undef = .slice A5 c.coal.length K5 := hJ.a12 (hdep ⟨12, .data⟩ (by simp) rfl)
      have x15 : a.tmps[21]?.getD undef = .slice A6 c.want.length K6 := hJ.a15 (hdep ⟨15, .data⟩ (by simp) rfl)
      have x18 : a.tmps[24]?.getD undef = .agg #[.int .i64 c.hlo, .int .i64 c.hhi] := hJ.a18 (hdep ⟨18, .data⟩ (by simp) rfl)
      clear hdep hcl
      go_simp
      exact hK _ _ (I53.put 25 _ hF (by omega) (by decide) (by decide) { hJ with a19 := fun _ => rfl })
    · rintro done a w hcl hdn hdep ⟨A5, K5, A6, K6, G, hF, hJ⟩ K hK
      have h21 : done 21 = false := by
        cases h : done 21 with
        | false => rfl
        | true => have := hcl 21 _ rfl h ⟨20, .data⟩ (by simp) rfl; rw [hdn] at this; cases this
      clear hdep hcl
      go_simp
      exact hK _ _ (I53.put (G := w.heap.size) 3 _ hF (by omega) (by decide) (by decide) { hJ with gr := bl_al hJ.gr _, f5 := fun h => own_below (hJ.f5 h) (bl_al (Below.refl _ _) _), f6 := fun h => own_below (hJ.f6 h) (bl_al (Below.refl _ _) _), a20 := fun _ => ⟨rfl, hJ.gr.size, by rw [show also 20 done 21 = false from h21]; exact World.alloc_heap_new _ _⟩, sp5 := fun h _ => (own_far6 (hJ.f5 h) (Nat.le_refl _)), sp6 := fun h _ => (own_far6 (hJ.f6 h) (Nat.le_refl _)) })
    · rintro done a w hcl hdn hdep ⟨A5, K5, A6, K6, G, hF, hJ⟩ K hK
      obtain ⟨g1, g2, g3⟩ := hJ.a20 (hdep ⟨20, .data⟩ (by simp) rfl)
      have x20 : a.tmps[3]?.getD undef = .pointer (some ⟨G, 0, none⟩) := g1
      have x19 : a.tmps[25]?.getD undef = .agg #[.int .i64 c.last, .int .i64 c.start, .int .i64 c.most, .int .i64 c.per, .int .i64 c.shovels, .slice A5 c.coal.length K5, .slice A6 c.want.length K6, .int .i64 c.hlo, .int .i64 c.hhi, .slice none 0 0, .slice none 0 0] := hJ.a19 (hdep ⟨19, .data⟩ (by simp) rfl)
      rw [hdn] at g3
      have hfz : ∀ o, w.frozen? ⟨G, o, none⟩ = false := fun o => by simp [World.frozen?, g3]
      have hcz : ∀ o, w.cell? ⟨G, o, none⟩ = (#[.int .i64 0, .int .i64 0, .int .i64 0, .int .i64 0, .int .i64 0, .slice none 0 0, .slice none 0 0, .int .i64 0, .int .i64 0, .slice none 0 0, .slice none 0 0])[o]? := fun o => by simp [World.cell?, g3]
      have d12 : done 12 = true := hdep ⟨12, .phase⟩ (by simp) rfl
      have d15 : done 15 = true := hdep ⟨15, .phase⟩ (by simp) rfl
      have dG0 : True := trivial
      have dG : done 20 = true := hdep ⟨20, .data⟩ (by simp) rfl
      clear hdep hcl
      go_simp
      show K _ (setAll w G 0 [(.int .i64 c.last), (.int .i64 c.start), (.int .i64 c.most), (.int .i64 c.per), (.int .i64 c.shovels), (.slice A5 c.coal.length K5), (.slice A6 c.want.length K6), (.int .i64 c.hlo), (.int .i64 c.hhi), (.slice none 0 0), (.slice none 0 0)])
      have s5 := hJ.sp5 d12 dG
      have s6 := hJ.sp6 d15 dG
      have hgw := setAll_grown w G [(.int .i64 c.last), (.int .i64 c.start), (.int .i64 c.most), (.int .i64 c.per), (.int .i64 c.shovels), (.slice A5 c.coal.length K5), (.slice A6 c.want.length K6), (.int .i64 c.hlo), (.int .i64 c.hhi), (.slice none 0 0), (.slice none 0 0)] 0
      have hhp := setAll_full w G [(.int .i64 c.last), (.int .i64 c.start), (.int .i64 c.most), (.int .i64 c.per), (.int .i64 c.shovels), (.slice A5 c.coal.length K5), (.slice A6 c.want.length K6), (.int .i64 c.hlo), (.int .i64 c.hhi), (.slice none 0 0), (.slice none 0 0)] g3 rfl
      have hgr := hJ.gr.trans (hgw.below hJ.gr.size (fun k hk => by omega))
      exact hK _ _ ⟨_, _, _, _, _, hF, { hJ with gr := hgr, f5 := fun _ => own_grownG (hJ.f5 d12) hgw s5, f6 := fun _ => own_grownG (hJ.f6 d15) hgw s6, a20 := fun _ => ⟨g1, g2, hhp⟩ }⟩
  · rintro done a w hd ⟨A5, K5, A6, K6, G, hF, hJ⟩
    obtain ⟨hg1, hg2, hg3⟩ := hJ.a20 (hd 20 (by decide))
    rw [hd 21 (by decide)] at hg3
    exact hQ a w A5 K5 A6 K6 G hF hJ.gr hg1 hg2 hg3 (hJ.f5 (hd 12 (by decide))) (hJ.f6 (hd 15 (by decide)))
end Go.Proofs.YtpgnplmjfhdncaaGreat
/- The regions that append to a list of coppers, or of a room. -/
namespace Go.Proofs.YtpgnplmjfhdncaaGreat
open Go.RowKit
set_option linter.unusedVariables false
theorem info149 : (Tryz.prog.info? 149).map (fun i => (i.zero, i.size, i.bytes)) = some (some (.agg #[.int .i64 0, .int .i64 0, .int .i64 0]), 3, 24) := by kernel_rfl
theorem info119 : (Tryz.prog.info? 119).map (fun i => (i.zero, i.size, i.bytes)) = some (some (.agg #[.int .i64 0, .int .i64 0]), 2, 16) := by kernel_rfl
structure J53b (b0 j b o n3 cap3 : Nat) (lo hi : Int) (z0 z1 z2 z3 z4 z5 z6 z7 z8 z10 : Value) (G base n : Nat) (v : Value) (xs : List Value) (W : World) (done : Nat → Bool) (s : Nat → Value) (w : World) : Prop where
  gr : Grown (fun k => k = G ∨ some k = v.ownBlock) W w
  box : w.heap[G]? = some (.cells #[z0, z1, z2, z3, z4, z5, z6, z7, z8, (if done 11 = true then s 42 else v), z10] 41 (0, 0))
  a0 : done 0 = true → s 33 = .pointer (some ⟨G, 9, none⟩)
  a1 : done 1 = true → s 34 = v
  a2 : done 2 = true → s 35 = .pointer (some ⟨b0, 9, none⟩)
  a3 : done 3 = true → s 36 = .slice (some ⟨b, o, none⟩) n3 cap3
  a4 : done 4 = true → s 37 = .int .i64 j
  a5 : done 5 = true → s 38 = .pointer (some ⟨b, o + j * 2, none⟩)
  a6 : done 6 = true → s 39 = .agg #[.int .i64 lo, .int .i64 hi]
  a7 : done 7 = true → s 40 = .agg #[.int .i64 lo, .int .i64 hi]
  a10 : done 10 = true → s 43 = .pointer (some ⟨G, 9, none⟩)
  bu : done 8 = true → done 9 = false → ∃ b, s 41 = .slice (some ⟨b, 0, none⟩) 1 1 ∧ W.heap.size ≤ b ∧ w.heap[b]? = some (.cells ([.int .i64 lo, .int .i64 hi]).toArray 37 (0, 0))
  r : done 9 = false → w.ownsRow base 37 2 v n xs
  q : done 9 = true → w.ownsRow base 37 2 (s 42) (n + 1) (xs ++ [.int .i64 lo, .int .i64 hi])
def I53b (a0 : Act) (b0 j b o n3 cap3 : Nat) (lo hi : Int) (z0 z1 z2 z3 z4 z5 z6 z7 z8 z10 : Value) (G base n : Nat) (v : Value) (xs : List Value) (W : World) (done : Nat → Bool) (a : Act) (w : World) : Prop :=
  Fr 33 43 a0 a ∧ J53b b0 j b o n3 cap3 lo hi z0 z1 z2 z3 z4 z5 z6 z7 z8 z10 G base n v xs W done (slots a) w
theorem I53b.put {a0 : Act} {b0 j b o n3 cap3 : Nat} {lo hi : Int} {z0 z1 z2 z3 z4 z5 z6 z7 z8 z10 : Value} {G base n : Nat} {v : Value} {xs : List Value} {W : World} {done : Nat → Bool} {a : Act} {w : World} (i : Nat) (u : Value)
    (hF : Fr 33 43 a0 a) (h0 : 43 < a0.tmps.size) (h1 : 33 ≤ i) (h2 : i ≤ 43) (hJ : J53b b0 j b o n3 cap3 lo hi z0 z1 z2 z3 z4 z5 z6 z7 z8 z10 G base n v xs W done (upd (slots a) i u) w) :
    I53b a0 b0 j b o n3 cap3 lo hi z0 z1 z2 z3 z4 z5 z6 z7 z8 z10 G base n v xs W done { tmps := a.tmps.setIfInBounds i u, defers := a.defers } w :=
  ⟨hF.put i u h1 h2 h0, by rw [slots_put a i u (by rw [hF.sz]; omega)]; exact hJ⟩
set_option maxRecDepth 100000 in
set_option maxHeartbeats 8000000 in
theorem r53b (ops : List Oper) (hops : Tryz.f53.body.bind (regionIn 5) = some ops) {Q : Exit → Act → World → Prop} (a0 : Act) (b0 j b o n3 cap3 : Nat) (lo hi : Int) (z0 z1 z2 z3 z4 z5 z6 z7 z8 z10 : Value) (G base n : Nat) (v : Value) (xs : List Value) (W : World)
    (hsz : a0.tmps.size = 71) (hbox : W.heap[G]? = some (.cells #[z0, z1, z2, z3, z4, z5, z6, z7, z8, v, z10] 41 (0, 0))) (hr : W.ownsRow base 37 2 v n xs) (hbase : base ≤ W.heap.size) (hG : G < base) (hn : n ≤ 100000) (hG0 : slots a0 3 = .pointer (some ⟨G, 0, none⟩)) (h1 : slots a0 1 = .pointer (some ⟨b0, 0, none⟩)) (hjs : slots a0 4 = .int .i64 j) (hj : j < n3) (hn3 : n3 ≤ 1000000) (h0G : b0 ≠ G) (h0v : some b0 ≠ v.ownBlock) (hbG : b ≠ G) (hbv : some b ≠ v.ownBlock) (hs9 : W.cell? ⟨b0, 9, none⟩ = some (.slice (some ⟨b, o, none⟩) n3 cap3)) (hl1 : W.cell? ⟨b, o + j * 2, none⟩ = some (.int .i64 lo)) (hl2 : W.cell? ⟨b, o + j * 2 + 1, none⟩ = some (.int .i64 hi))
    (hQ : ∀ a w u, Fr 33 43 a0 a → Grown (fun k => k = G ∨ some k = v.ownBlock) W w → w.heap[G]? = some (.cells #[z0, z1, z2, z3, z4, z5, z6, z7, z8, u, z10] 41 (0, 0)) → w.ownsRow base 37 2 u (n + 1) (xs ++ [.int .i64 lo, .int .i64 hi]) → Q .normal a w) :
    (Code.region 5 ops.toArray true).wp Tryz.prog Q a0 W := by
  simp only [Tryz.f53, regionIn, Option.bind_some] at hops
  simp at hops
  subst hops
  have hnG : some G ≠ v.ownBlock := fun e => by have := (hr.lt G e.symm).1; omega
  have F := Lib.hid info37
  refine wp_region_inv (I53b a0 b0 j b o n3 cap3 lo hi z0 z1 z2 z3 z4 z5 z6 z7 z8 z10 G base n v xs W) tryz_mixed (by kernel_rfl) ⟨Fr.refl _ _ _, ?_⟩ ?_ ?_
  · exact { gr := ⟨rfl, rfl, rfl, Nat.le_refl _, fun _ _ _ => rfl⟩, box := hbox, a0 := fun h => (by cases h), a1 := fun h => (by cases h), a2 := fun h => (by cases h), a3 := fun h => (by cases h), a4 := fun h => (by cases h), a5 := fun h => (by cases h), a6 := fun h => (by cases h), a7 := fun h => (by cases h), a10 := fun h => (by cases h), bu := fun h => (by cases h), r := fun _ => hr, q := fun h => (by cases h) }
  · refine ⟨?_, ?_, ?_, ?_, ?_, ?_, ?_, ?_, ?_, ?_, ?_, ?_, trivial⟩
    · rintro done a w hcl hdn hdep ⟨hF, hJ⟩ K hK
      have y3 : a.tmps[3]?.getD undef = .pointer (some ⟨G, 0, none⟩) := (hF.same 3 (by omega)).trans hG0
      clear hdep hcl
      go_simp
      exact hK _ _ (I53b.put 33 _ hF (by omega) (by decide) (by decide) { hJ with a0 := fun _ => rfl })
    · rintro done a w hcl hdn hdep ⟨hF, hJ⟩ K hK
      have x0 : a.tmps[33]?.getD undef = .pointer (some ⟨G, 9, none⟩) := hJ.a0 (hdep ⟨0, .data⟩ (by simp) rfl)
      have hst : done 11 = false := by
        cases h : done 11 with
        | false => rfl
        | true => have := hcl 11 _ rfl h ⟨1, .phase⟩ (by simp) rfl; rw [hdn] at this; cases this
      have cv : w.cell? ⟨G, 9, none⟩ = some v := by
        have := hJ.box
        rw [hst] at this
        simp [World.cell?, this]
      clear hdep hcl
      go_simp
      exact hK _ _ (I53b.put 34 _ hF (by omega) (by decide) (by decide) { hJ with a1 := fun _ => rfl })
    · rintro done a w hcl hdn hdep ⟨hF, hJ⟩ K hK
      have y1 : a.tmps[1]?.getD undef = .pointer (some ⟨b0, 0, none⟩) := (hF.same 1 (by omega)).trans h1
      clear hdep hcl
      go_simp
      exact hK _ _ (I53b.put 35 _ hF (by omega) (by decide) (by decide) { hJ with a2 := fun _ => rfl })
    · rintro done a w hcl hdn hdep ⟨hF, hJ⟩ K hK
      have x2 : a.tmps[35]?.getD undef = .pointer (some ⟨b0, 9, none⟩) := hJ.a2 (hdep ⟨2, .data⟩ (by simp) rfl)
      have c9 : w.cell? ⟨b0, 9, none⟩ = some (.slice (some ⟨b, o, none⟩) n3 cap3) := (hJ.gr.cell (World.block_lt_of_cell? W _ hs9) (by simp [h0G, h0v])).trans hs9
      clear hdep hcl
      go_simp
      exact hK _ _ (I53b.put 36 _ hF (by omega) (by decide) (by decide) { hJ with a3 := fun _ => rfl })
    · rintro done a w hcl hdn hdep ⟨hF, hJ⟩ K hK
      have y4 : a.tmps[4]?.getD undef = .int .i64 j := (hF.same 4 (by omega)).trans hjs
      clear hdep hcl
      go_simp
      exact hK _ _ (I53b.put 37 _ hF (by omega) (by decide) (by decide) { hJ with a4 := fun _ => rfl })
    · rintro done a w hcl hdn hdep ⟨hF, hJ⟩ K hK
      have x3 : a.tmps[36]?.getD undef = .slice (some ⟨b, o, none⟩) n3 cap3 := hJ.a3 (hdep ⟨3, .data⟩ (by simp) rfl)
      have x4 : a.tmps[37]?.getD undef = .int .i64 j := hJ.a4 (hdep ⟨4, .data⟩ (by simp) rfl)
      have hi1 : (j : Int) < (n3 : Int) := by omega
      clear hdep hcl
      go_simp
      exact hK _ _ (I53b.put 38 _ hF (by omega) (by decide) (by decide) { hJ with a5 := fun _ => rfl })
    · rintro done a w hcl hdn hdep ⟨hF, hJ⟩ K hK
      have x5 : a.tmps[38]?.getD undef = .pointer (some ⟨b, o + j * 2, none⟩) := hJ.a5 (hdep ⟨5, .data⟩ (by simp) rfl)
      have ca : w.cell? ⟨b, o + j * 2, none⟩ = some (.int .i64 lo) := (hJ.gr.cell (World.block_lt_of_cell? W _ hl1) (by simp [hbG, hbv])).trans hl1
      have cb : w.cell? ⟨b, o + j * 2 + 1, none⟩ = some (.int .i64 hi) := (hJ.gr.cell (World.block_lt_of_cell? W _ hl2) (by simp [hbG, hbv])).trans hl2
      clear hdep hcl
      go_simp
      exact hK _ _ (I53b.put 39 _ hF (by omega) (by decide) (by decide) { hJ with a6 := fun _ => rfl })
    · rintro done a w hcl hdn hdep ⟨hF, hJ⟩ K hK
      have x6 : a.tmps[39]?.getD undef = .agg #[.int .i64 lo, .int .i64 hi] := hJ.a6 (hdep ⟨6, .data⟩ (by simp) rfl)
      clear hdep hcl
      go_simp
      refine (to_c lo hi w).mono ?_
      rintro e w1 ⟨rfl, hb⟩
      exact hK _ _ (I53b.put 40 _ hF (by omega) (by decide) (by decide) { hJ with gr := hJ.gr.trans (Grown.bl hb), box := (hb.block _ (Array.getElem?_eq_some_iff.1 hJ.box).1).trans hJ.box, a7 := fun _ => rfl, bu := fun h h' => (let ⟨b, e1, e2, e3⟩ := hJ.bu h h'; ⟨b, e1, e2, (hb.block _ (Array.getElem?_eq_some_iff.1 e3).1).trans e3⟩), r := fun h => own_below (hJ.r h) hb, q := fun h => own_below (hJ.q h) hb })
    · rintro done a w hcl hdn hdep ⟨hF, hJ⟩ K hK
      have x7 : a.tmps[40]?.getD undef = .agg #[.int .i64 lo, .int .i64 hi] := hJ.a7 (hdep ⟨7, .data⟩ (by simp) rfl)
      clear hdep hcl
      go_simp
      exact hK _ _ (I53b.put 41 _ hF (by omega) (by decide) (by decide) { hJ with gr := hJ.gr.alloc _, box := heap_al hJ.box _, r := fun h => (hJ.r h).alloc _, q := fun h => (hJ.q h).alloc _, bu := fun _ _ => ⟨w.heap.size, rfl, hJ.gr.size, World.alloc_heap_new _ _⟩ })
    · rintro done a w hcl hdn hdep ⟨hF, hJ⟩ K hK
      have x1 : a.tmps[34]?.getD undef = v := hJ.a1 (hdep ⟨1, .data⟩ (by simp) rfl)
      obtain ⟨b, hb, hbl, hbh⟩ := hJ.bu (hdep ⟨8, .data⟩ (by simp) rfl) hdn
      have hbs : a.tmps[41]?.getD undef = .slice (some ⟨b, 0, none⟩) 1 1 := hb
      rw [if_pos (show Region.wanted _ _ = true from rfl)]
      refine wp_append_k base _ _ 38 37 _ 2 16 rfl Tryz.underlying38 F.out rfl (by decide) (by decide) v n xs ([.int .i64 lo, .int .i64 hi]) b (by simp [Act.eval, x1]) (by simp [Act.eval, hbs]) hbh rfl (by simp [Value.oneCell']) (hJ.r hdn) (by have := hJ.gr.size; omega) (by omega) ?_
      intro u w1 hown hg hat
      have hs2 : done 11 = false := by
        cases h : done 11 with
        | false => rfl
        | true => have := hcl 11 _ rfl h ⟨9, .data⟩ (by simp) rfl; rw [hdn] at this; cases this
      have hbb := hJ.box
      rw [hs2] at hbb
      have hgr : Grown (fun k => k = G ∨ some k = v.ownBlock) W w1 := hJ.gr.trans ⟨hg.os, hg.tape, hg.output, hg.size, fun k hk hn => hg.block k hk (fun e => hn (.inr e))⟩
      have hbw := (hg.block G (Array.getElem?_eq_some_iff.1 hbb).1 hnG).trans hbb
      have hbox1 : w1.heap[G]? = some (.cells #[z0, z1, z2, z3, z4, z5, z6, z7, z8, (if also 9 done 11 = true then u else v), z10] 41 (0, 0)) := by
        rw [show also 9 done 11 = false from hs2]; exact hbw
      exact hK _ _ (I53b.put 42 _ hF (by omega) (by decide) (by decide) { hJ with gr := hgr, box := hbox1, bu := fun _ h => (by cases h), r := fun h => (by cases h), q := fun _ => hown })
    · rintro done a w hcl hdn hdep ⟨hF, hJ⟩ K hK
      have y3 : a.tmps[3]?.getD undef = .pointer (some ⟨G, 0, none⟩) := (hF.same 3 (by omega)).trans hG0
      clear hdep hcl
      go_simp
      exact hK _ _ (I53b.put 43 _ hF (by omega) (by decide) (by decide) { hJ with a10 := fun _ => rfl })
    · rintro done a w hcl hdn hdep ⟨hF, hJ⟩ K hK
      have x10 : a.tmps[43]?.getD undef = .pointer (some ⟨G, 9, none⟩) := hJ.a10 (hdep ⟨10, .data⟩ (by simp) rfl)
      have hd7 : done 9 = true := hdep ⟨9, .data⟩ (by simp) rfl
      obtain ⟨A, k, hsh⟩ := own_shape6 (hJ.q hd7)
      have hs : a.tmps[42]?.getD undef = .slice A (n + 1) k := hsh
      have hbb := hJ.box
      rw [hdn] at hbb
      have hcell : w.cell? ⟨G, 9, none⟩ = some v := by simp [World.cell?, hbb]
      have hfz : w.frozen? ⟨G, 9, none⟩ = false := by simp [World.frozen?, hbb]
      clear hdep hcl
      go_simp
      refine hK _ _ ⟨hF, { hJ with gr := hJ.gr.setCell (.inl (.inl rfl)) _, box := ?_, bu := fun _ h => (by have h' : done 9 = false := h; rw [hd7] at h'; cases h'), r := fun h => (by have h' : done 9 = false := h; rw [hd7] at h'; cases h'), q := fun h => ?_ }⟩
      · rw [heap_setCell_same w G 9 _ 41 _ hbb]
        rw [show also 11 done 11 = true from rfl, if_pos rfl, hsh]
        rfl
      · exact own_grown (hJ.q hd7) ((Grown.refl (fun k => k = G) w).setCell (.inl rfl) _) (fun k hk => by omega)
  · rintro done a w hd ⟨hF, hJ⟩
    have hb := hJ.box
    rw [hd 11 (by decide)] at hb
    exact hQ a w _ hF hJ.gr hb (hJ.q (hd 9 (by decide)))
structure J53c (b0 j b o n3 cap3 : Nat) (rh lo hi : Int) (z0 z1 z2 z3 z4 z5 z6 z7 z8 z9 : Value) (G base n : Nat) (v : Value) (xs : List Value) (W : World) (done : Nat → Bool) (s : Nat → Value) (w : World) : Prop where
  gr : Grown (fun k => k = G ∨ some k = v.ownBlock) W w
  box : w.heap[G]? = some (.cells #[z0, z1, z2, z3, z4, z5, z6, z7, z8, z9, (if done 19 = true then s 68 else v)] 41 (0, 0))
  a0 : done 0 = true → s 51 = .pointer (some ⟨G, 10, none⟩)
  a1 : done 1 = true → s 52 = v
  a2 : done 2 = true → s 53 = .pointer (some ⟨b0, 10, none⟩)
  a3 : done 3 = true → s 54 = .slice (some ⟨b, o, none⟩) n3 cap3
  a4 : done 4 = true → s 55 = .int .i64 j
  a5 : done 5 = true → s 56 = .pointer (some ⟨b, o + j * 3, none⟩)
  a6 : done 6 = true → s 57 = .pointer (some ⟨b, o + j * 3, none⟩)
  a7 : done 7 = true → s 58 = .int .i64 rh
  a8 : done 8 = true → s 59 = .pointer (some ⟨b0, 10, none⟩)
  a9 : done 9 = true → s 60 = .slice (some ⟨b, o, none⟩) n3 cap3
  a10 : done 10 = true → s 61 = .int .i64 j
  a11 : done 11 = true → s 62 = .pointer (some ⟨b, o + j * 3, none⟩)
  a12 : done 12 = true → s 63 = .pointer (some ⟨b, o + j * 3 + 1, none⟩)
  a13 : done 13 = true → s 64 = .agg #[.int .i64 lo, .int .i64 hi]
  a14 : done 14 = true → s 65 = .agg #[.int .i64 lo, .int .i64 hi]
  a15 : done 15 = true → s 66 = .agg #[.int .i64 rh, .int .i64 lo, .int .i64 hi]
  a18 : done 18 = true → s 69 = .pointer (some ⟨G, 10, none⟩)
  bu : done 16 = true → done 17 = false → ∃ b, s 67 = .slice (some ⟨b, 0, none⟩) 1 1 ∧ W.heap.size ≤ b ∧ w.heap[b]? = some (.cells ([.int .i64 rh, .int .i64 lo, .int .i64 hi]).toArray 149 (0, 0))
  r : done 17 = false → w.ownsRow base 149 3 v n xs
  q : done 17 = true → w.ownsRow base 149 3 (s 68) (n + 1) (xs ++ [.int .i64 rh, .int .i64 lo, .int .i64 hi])
def I53c (a0 : Act) (b0 j b o n3 cap3 : Nat) (rh lo hi : Int) (z0 z1 z2 z3 z4 z5 z6 z7 z8 z9 : Value) (G base n : Nat) (v : Value) (xs : List Value) (W : World) (done : Nat → Bool) (a : Act) (w : World) : Prop :=
  Fr 51 69 a0 a ∧ J53c b0 j b o n3 cap3 rh lo hi z0 z1 z2 z3 z4 z5 z6 z7 z8 z9 G base n v xs W done (slots a) w
theorem I53c.put {a0 : Act} {b0 j b o n3 cap3 : Nat} {rh lo hi : Int} {z0 z1 z2 z3 z4 z5 z6 z7 z8 z9 : Value} {G base n : Nat} {v : Value} {xs : List Value} {W : World} {done : Nat → Bool} {a : Act} {w : World} (i : Nat) (u : Value)
    (hF : Fr 51 69 a0 a) (h0 : 69 < a0.tmps.size) (h1 : 51 ≤ i) (h2 : i ≤ 69) (hJ : J53c b0 j b o n3 cap3 rh lo hi z0 z1 z2 z3 z4 z5 z6 z7 z8 z9 G base n v xs W done (upd (slots a) i u) w) :
    I53c a0 b0 j b o n3 cap3 rh lo hi z0 z1 z2 z3 z4 z5 z6 z7 z8 z9 G base n v xs W done { tmps := a.tmps.setIfInBounds i u, defers := a.defers } w :=
  ⟨hF.put i u h1 h2 h0, by rw [slots_put a i u (by rw [hF.sz]; omega)]; exact hJ⟩
set_option maxRecDepth 100000 in
set_option maxHeartbeats 8000000 in
theorem r53c (ops : List Oper) (hops : Tryz.f53.body.bind (regionIn 9) = some ops) {Q : Exit → Act → World → Prop} (a0 : Act) (b0 j b o n3 cap3 : Nat) (rh lo hi : Int) (z0 z1 z2 z3 z4 z5 z6 z7 z8 z9 : Value) (G base n : Nat) (v : Value) (xs : List Value) (W : World)
    (hsz : a0.tmps.size = 71) (hbox : W.heap[G]? = some (.cells #[z0, z1, z2, z3, z4, z5, z6, z7, z8, z9, v] 41 (0, 0))) (hr : W.ownsRow base 149 3 v n xs) (hbase : base ≤ W.heap.size) (hG : G < base) (hn : n ≤ 100000) (hG0 : slots a0 3 = .pointer (some ⟨G, 0, none⟩)) (h1 : slots a0 1 = .pointer (some ⟨b0, 0, none⟩)) (hjs : slots a0 5 = .int .i64 j) (hj : j < n3) (hn3 : n3 ≤ 1000000) (h0G : b0 ≠ G) (h0v : some b0 ≠ v.ownBlock) (hbG : b ≠ G) (hbv : some b ≠ v.ownBlock) (hs9 : W.cell? ⟨b0, 10, none⟩ = some (.slice (some ⟨b, o, none⟩) n3 cap3)) (hl0 : W.cell? ⟨b, o + j * 3, none⟩ = some (.int .i64 rh)) (hl1 : W.cell? ⟨b, o + j * 3 + 1, none⟩ = some (.int .i64 lo)) (hl2 : W.cell? ⟨b, o + j * 3 + 2, none⟩ = some (.int .i64 hi))
    (hQ : ∀ a w u, Fr 51 69 a0 a → Grown (fun k => k = G ∨ some k = v.ownBlock) W w → w.heap[G]? = some (.cells #[z0, z1, z2, z3, z4, z5, z6, z7, z8, z9, u] 41 (0, 0)) → w.ownsRow base 149 3 u (n + 1) (xs ++ [.int .i64 rh, .int .i64 lo, .int .i64 hi]) → Q .normal a w) :
    (Code.region 9 ops.toArray true).wp Tryz.prog Q a0 W := by
  simp only [Tryz.f53, regionIn, Option.bind_some] at hops
  simp at hops
  subst hops
  have hnG : some G ≠ v.ownBlock := fun e => by have := (hr.lt G e.symm).1; omega
  have F := Lib.hid info149
  refine wp_region_inv (I53c a0 b0 j b o n3 cap3 rh lo hi z0 z1 z2 z3 z4 z5 z6 z7 z8 z9 G base n v xs W) tryz_mixed (by kernel_rfl) ⟨Fr.refl _ _ _, ?_⟩ ?_ ?_
  · exact { gr := ⟨rfl, rfl, rfl, Nat.le_refl _, fun _ _ _ => rfl⟩, box := hbox, a0 := fun h => (by cases h), a1 := fun h => (by cases h), a2 := fun h => (by cases h), a3 := fun h => (by cases h), a4 := fun h => (by cases h), a5 := fun h => (by cases h), a6 := fun h => (by cases h), a7 := fun h => (by cases h), a8 := fun h => (by cases h), a9 := fun h => (by cases h), a10 := fun h => (by cases h), a11 := fun h => (by cases h), a12 := fun h => (by cases h), a13 := fun h => (by cases h), a14 := fun h => (by cases h), a15 := fun h => (by cases h), a18 := fun h => (by cases h), bu := fun h => (by cases h), r := fun _ => hr, q := fun h => (by cases h) }
  · refine ⟨?_, ?_, ?_, ?_, ?_, ?_, ?_, ?_, ?_, ?_, ?_, ?_, ?_, ?_, ?_, ?_, ?_, ?_, ?_, ?_, trivial⟩
    · rintro done a w hcl hdn hdep ⟨hF, hJ⟩ K hK
      have y3 : a.tmps[3]?.getD undef = .pointer (some ⟨G, 0, none⟩) := (hF.same 3 (by omega)).trans hG0
      clear hdep hcl
      go_simp
      exact hK _ _ (I53c.put 51 _ hF (by omega) (by decide) (by decide) { hJ with a0 := fun _ => rfl })
    · rintro done a w hcl hdn hdep ⟨hF, hJ⟩ K hK
      have x0 : a.tmps[51]?.getD undef = .pointer (some ⟨G, 10, none⟩) := hJ.a0 (hdep ⟨0, .data⟩ (by simp) rfl)
      have hst : done 19 = false := by
        cases h : done 19 with
        | false => rfl
        | true => have := hcl 19 _ rfl h ⟨1, .phase⟩ (by simp) rfl; rw [hdn] at this; cases this
      have cv : w.cell? ⟨G, 10, none⟩ = some v := by
        have := hJ.box
        rw [hst] at this
        simp [World.cell?, this]
      clear hdep hcl
      go_simp
      exact hK _ _ (I53c.put 52 _ hF (by omega) (by decide) (by decide) { hJ with a1 := fun _ => rfl })
    · rintro done a w hcl hdn hdep ⟨hF, hJ⟩ K hK
      have y1 : a.tmps[1]?.getD undef = .pointer (some ⟨b0, 0, none⟩) := (hF.same 1 (by omega)).trans h1
      clear hdep hcl
      go_simp
      exact hK _ _ (I53c.put 53 _ hF (by omega) (by decide) (by decide) { hJ with a2 := fun _ => rfl })
    · rintro done a w hcl hdn hdep ⟨hF, hJ⟩ K hK
      have x2 : a.tmps[53]?.getD undef = .pointer (some ⟨b0, 10, none⟩) := hJ.a2 (hdep ⟨2, .data⟩ (by simp) rfl)
      have c9 : w.cell? ⟨b0, 10, none⟩ = some (.slice (some ⟨b, o, none⟩) n3 cap3) := (hJ.gr.cell (World.block_lt_of_cell? W _ hs9) (by simp [h0G, h0v])).trans hs9
      clear hdep hcl
      go_simp
      exact hK _ _ (I53c.put 54 _ hF (by omega) (by decide) (by decide) { hJ with a3 := fun _ => rfl })
    · rintro done a w hcl hdn hdep ⟨hF, hJ⟩ K hK
      have y5 : a.tmps[5]?.getD undef = .int .i64 j := (hF.same 5 (by omega)).trans hjs
      clear hdep hcl
      go_simp
      exact hK _ _ (I53c.put 55 _ hF (by omega) (by decide) (by decide) { hJ with a4 := fun _ => rfl })
    · rintro done a w hcl hdn hdep ⟨hF, hJ⟩ K hK
      have x3 : a.tmps[54]?.getD undef = .slice (some ⟨b, o, none⟩) n3 cap3 := hJ.a3 (hdep ⟨3, .data⟩ (by simp) rfl)
      have x4 : a.tmps[55]?.getD undef = .int .i64 j := hJ.a4 (hdep ⟨4, .data⟩ (by simp) rfl)
      have hi1 : (j : Int) < (n3 : Int) := by omega
      clear hdep hcl
      go_simp
      exact hK _ _ (I53c.put 56 _ hF (by omega) (by decide) (by decide) { hJ with a5 := fun _ => rfl })
    · rintro done a w hcl hdn hdep ⟨hF, hJ⟩ K hK
      have x5 : a.tmps[56]?.getD undef = .pointer (some ⟨b, o + j * 3, none⟩) := hJ.a5 (hdep ⟨5, .data⟩ (by simp) rfl)
      clear hdep hcl
      go_simp
      exact hK _ _ (I53c.put 57 _ hF (by omega) (by decide) (by decide) { hJ with a6 := fun _ => rfl })
    · rintro done a w hcl hdn hdep ⟨hF, hJ⟩ K hK
      have x6 : a.tmps[57]?.getD undef = .pointer (some ⟨b, o + j * 3, none⟩) := hJ.a6 (hdep ⟨6, .data⟩ (by simp) rfl)
      have ca : w.cell? ⟨b, o + j * 3, none⟩ = some (.int .i64 rh) := (hJ.gr.cell (World.block_lt_of_cell? W _ hl0) (by simp [hbG, hbv])).trans hl0
      clear hdep hcl
      go_simp
      exact hK _ _ (I53c.put 58 _ hF (by omega) (by decide) (by decide) { hJ with a7 := fun _ => rfl })
    · rintro done a w hcl hdn hdep ⟨hF, hJ⟩ K hK
      have y1 : a.tmps[1]?.getD undef = .pointer (some ⟨b0, 0, none⟩) := (hF.same 1 (by omega)).trans h1
      clear hdep hcl
      go_simp
      exact hK _ _ (I53c.put 59 _ hF (by omega) (by decide) (by decide) { hJ with a8 := fun _ => rfl })
    · rintro done a w hcl hdn hdep ⟨hF, hJ⟩ K hK
      have x8 : a.tmps[59]?.getD undef = .pointer (some ⟨b0, 10, none⟩) := hJ.a8 (hdep ⟨8, .data⟩ (by simp) rfl)
      have c9 : w.cell? ⟨b0, 10, none⟩ = some (.slice (some ⟨b, o, none⟩) n3 cap3) := (hJ.gr.cell (World.block_lt_of_cell? W _ hs9) (by simp [h0G, h0v])).trans hs9
      clear hdep hcl
      go_simp
      exact hK _ _ (I53c.put 60 _ hF (by omega) (by decide) (by decide) { hJ with a9 := fun _ => rfl })
    · rintro done a w hcl hdn hdep ⟨hF, hJ⟩ K hK
      have y5 : a.tmps[5]?.getD undef = .int .i64 j := (hF.same 5 (by omega)).trans hjs
      clear hdep hcl
      go_simp
      exact hK _ _ (I53c.put 61 _ hF (by omega) (by decide) (by decide) { hJ with a10 := fun _ => rfl })
    · rintro done a w hcl hdn hdep ⟨hF, hJ⟩ K hK
      have x9 : a.tmps[60]?.getD undef = .slice (some ⟨b, o, none⟩) n3 cap3 := hJ.a9 (hdep ⟨9, .data⟩ (by simp) rfl)
      have x10 : a.tmps[61]?.getD undef = .int .i64 j := hJ.a10 (hdep ⟨10, .data⟩ (by simp) rfl)
      have hi1 : (j : Int) < (n3 : Int) := by omega
      clear hdep hcl
      go_simp
      exact hK _ _ (I53c.put 62 _ hF (by omega) (by decide) (by decide) { hJ with a11 := fun _ => rfl })
    · rintro done a w hcl hdn hdep ⟨hF, hJ⟩ K hK
      have x11 : a.tmps[62]?.getD undef = .pointer (some ⟨b, o + j * 3, none⟩) := hJ.a11 (hdep ⟨11, .data⟩ (by simp) rfl)
      clear hdep hcl
      go_simp
      exact hK _ _ (I53c.put 63 _ hF (by omega) (by decide) (by decide) { hJ with a12 := fun _ => rfl })
    · rintro done a w hcl hdn hdep ⟨hF, hJ⟩ K hK
      have x12 : a.tmps[63]?.getD undef = .pointer (some ⟨b, o + j * 3 + 1, none⟩) := hJ.a12 (hdep ⟨12, .data⟩ (by simp) rfl)
      have ca : w.cell? ⟨b, o + j * 3 + 1, none⟩ = some (.int .i64 lo) := (hJ.gr.cell (World.block_lt_of_cell? W _ hl1) (by simp [hbG, hbv])).trans hl1
      have cb : w.cell? ⟨b, o + j * 3 + 2, none⟩ = some (.int .i64 hi) := (hJ.gr.cell (World.block_lt_of_cell? W _ hl2) (by simp [hbG, hbv])).trans hl2
      clear hdep hcl
      go_simp
      exact hK _ _ (I53c.put 64 _ hF (by omega) (by decide) (by decide) { hJ with a13 := fun _ => rfl })
    · rintro done a w hcl hdn hdep ⟨hF, hJ⟩ K hK
      have x13 : a.tmps[64]?.getD undef = .agg #[.int .i64 lo, .int .i64 hi] := hJ.a13 (hdep ⟨13, .data⟩ (by simp) rfl)
      clear hdep hcl
      go_simp
      refine (to_c lo hi w).mono ?_
      rintro e w1 ⟨rfl, hb⟩
      exact hK _ _ (I53c.put 65 _ hF (by omega) (by decide) (by decide) { hJ with gr := hJ.gr.trans (Grown.bl hb), box := (hb.block _ (Array.getElem?_eq_some_iff.1 hJ.box).1).trans hJ.box, a14 := fun _ => rfl, bu := fun h h' => (let ⟨b, e1, e2, e3⟩ := hJ.bu h h'; ⟨b, e1, e2, (hb.block _ (Array.getElem?_eq_some_iff.1 e3).1).trans e3⟩), r := fun h => own_below (hJ.r h) hb, q := fun h => own_below (hJ.q h) hb })
    · rintro done a w hcl hdn hdep ⟨hF, hJ⟩ K hK
      have x7 : a.tmps[58]?.getD undef = .int .i64 rh := hJ.a7 (hdep ⟨7, .data⟩ (by simp) rfl)
      have x14 : a.tmps[65]?.getD undef = .agg #[.int .i64 lo, .int .i64 hi] := hJ.a14 (hdep ⟨14, .data⟩ (by simp) rfl)
      clear hdep hcl
      go_simp
      exact hK _ _ (I53c.put 66 _ hF (by omega) (by decide) (by decide) { hJ with a15 := fun _ => rfl })
    · rintro done a w hcl hdn hdep ⟨hF, hJ⟩ K hK
      have x15 : a.tmps[66]?.getD undef = .agg #[.int .i64 rh, .int .i64 lo, .int .i64 hi] := hJ.a15 (hdep ⟨15, .data⟩ (by simp) rfl)
      clear hdep hcl
      go_simp
      exact hK _ _ (I53c.put 67 _ hF (by omega) (by decide) (by decide) { hJ with gr := hJ.gr.alloc _, box := heap_al hJ.box _, r := fun h => (hJ.r h).alloc _, q := fun h => (hJ.q h).alloc _, bu := fun _ _ => ⟨w.heap.size, rfl, hJ.gr.size, World.alloc_heap_new _ _⟩ })
    · rintro done a w hcl hdn hdep ⟨hF, hJ⟩ K hK
      have x1 : a.tmps[52]?.getD undef = v := hJ.a1 (hdep ⟨1, .data⟩ (by simp) rfl)
      obtain ⟨b, hb, hbl, hbh⟩ := hJ.bu (hdep ⟨16, .data⟩ (by simp) rfl) hdn
      have hbs : a.tmps[67]?.getD undef = .slice (some ⟨b, 0, none⟩) 1 1 := hb
      rw [if_pos (show Region.wanted _ _ = true from rfl)]
      refine wp_append_k base _ _ 39 149 _ 3 24 rfl Tryz.underlying39 F.out rfl (by decide) (by decide) v n xs ([.int .i64 rh, .int .i64 lo, .int .i64 hi]) b (by simp [Act.eval, x1]) (by simp [Act.eval, hbs]) hbh rfl (by simp [Value.oneCell']) (hJ.r hdn) (by have := hJ.gr.size; omega) (by omega) ?_
      intro u w1 hown hg hat
      have hs2 : done 19 = false := by
        cases h : done 19 with
        | false => rfl
        | true => have := hcl 19 _ rfl h ⟨17, .data⟩ (by simp) rfl; rw [hdn] at this; cases this
      have hbb := hJ.box
      rw [hs2] at hbb
      have hgr : Grown (fun k => k = G ∨ some k = v.ownBlock) W w1 := hJ.gr.trans ⟨hg.os, hg.tape, hg.output, hg.size, fun k hk hn => hg.block k hk (fun e => hn (.inr e))⟩
      have hbw := (hg.block G (Array.getElem?_eq_some_iff.1 hbb).1 hnG).trans hbb
      have hbox1 : w1.heap[G]? = some (.cells #[z0, z1, z2, z3, z4, z5, z6, z7, z8, z9, (if also 17 done 19 = true then u else v)] 41 (0, 0)) := by
        rw [show also 17 done 19 = false from hs2]; exact hbw
      exact hK _ _ (I53c.put 68 _ hF (by omega) (by decide) (by decide) { hJ with gr := hgr, box := hbox1, bu := fun _ h => (by cases h), r := fun h => (by cases h), q := fun _ => hown })
    · rintro done a w hcl hdn hdep ⟨hF, hJ⟩ K hK
      have y3 : a.tmps[3]?.getD undef = .pointer (some ⟨G, 0, none⟩) := (hF.same 3 (by omega)).trans hG0
      clear hdep hcl
      go_simp
      exact hK _ _ (I53c.put 69 _ hF (by omega) (by decide) (by decide) { hJ with a18 := fun _ => rfl })
    · rintro done a w hcl hdn hdep ⟨hF, hJ⟩ K hK
      have x18 : a.tmps[69]?.getD undef = .pointer (some ⟨G, 10, none⟩) := hJ.a18 (hdep ⟨18, .data⟩ (by simp) rfl)
      have hd7 : done 17 = true := hdep ⟨17, .data⟩ (by simp) rfl
      obtain ⟨A, k, hsh⟩ := own_shape6 (hJ.q hd7)
      have hs : a.tmps[68]?.getD undef = .slice A (n + 1) k := hsh
      have hbb := hJ.box
      rw [hdn] at hbb
      have hcell : w.cell? ⟨G, 10, none⟩ = some v := by simp [World.cell?, hbb]
      have hfz : w.frozen? ⟨G, 10, none⟩ = false := by simp [World.frozen?, hbb]
      clear hdep hcl
      go_simp
      refine hK _ _ ⟨hF, { hJ with gr := hJ.gr.setCell (.inl (.inl rfl)) _, box := ?_, bu := fun _ h => (by have h' : done 17 = false := h; rw [hd7] at h'; cases h'), r := fun h => (by have h' : done 17 = false := h; rw [hd7] at h'; cases h'), q := fun h => ?_ }⟩
      · rw [heap_setCell_same w G 10 _ 41 _ hbb]
        rw [show also 19 done 19 = true from rfl, if_pos rfl, hsh]
        rfl
      · exact own_grown (hJ.q hd7) ((Grown.refl (fun k => k = G) w).setCell (.inl rfl) _) (fun k hk => by omega)
  · rintro done a w hd ⟨hF, hJ⟩
    have hb := hJ.box
    rw [hd 19 (by decide)] at hb
    exact hQ a w _ hF hJ.gr hb (hJ.q (hd 17 (by decide)))
structure J25b (b0 j b o n3 cap3 : Nat) (lo hi : Int) (z0 z1 z2 z3 z4 z5 z6 z7 z8 z9 z10 z11 z12 : Value) (G base n : Nat) (v : Value) (xs : List Value) (W : World) (done : Nat → Bool) (s : Nat → Value) (w : World) : Prop where
  gr : Grown (fun k => k = G ∨ some k = v.ownBlock) W w
  box : w.heap[G]? = some (.cells #[z0, z1, z2, z3, z4, z5, z6, z7, z8, z9, z10, z11, z12, (if done 18 = true then s 36 else v)] 44 (0, 0))
  a0 : done 0 = true → s 20 = .pointer (some ⟨G, 13, none⟩)
  a1 : done 1 = true → s 21 = v
  a2 : done 2 = true → s 22 = .pointer (some ⟨b0, 13, none⟩)
  a3 : done 3 = true → s 23 = .slice (some ⟨b, o, none⟩) n3 cap3
  a4 : done 4 = true → s 24 = .int .i64 j
  a5 : done 5 = true → s 25 = .pointer (some ⟨b, o + j * 2, none⟩)
  a6 : done 6 = true → s 26 = .pointer (some ⟨b, o + j * 2, none⟩)
  a7 : done 7 = true → s 27 = .int .i64 lo
  a8 : done 8 = true → s 28 = .pointer (some ⟨b0, 13, none⟩)
  a9 : done 9 = true → s 29 = .slice (some ⟨b, o, none⟩) n3 cap3
  a10 : done 10 = true → s 30 = .int .i64 j
  a11 : done 11 = true → s 31 = .pointer (some ⟨b, o + j * 2, none⟩)
  a12 : done 12 = true → s 32 = .pointer (some ⟨b, o + j * 2 + 1, none⟩)
  a13 : done 13 = true → s 33 = .int .i64 hi
  a14 : done 14 = true → s 34 = .agg #[.int .i64 lo, .int .i64 hi]
  a17 : done 17 = true → s 37 = .pointer (some ⟨G, 13, none⟩)
  bu : done 15 = true → done 16 = false → ∃ b, s 35 = .slice (some ⟨b, 0, none⟩) 1 1 ∧ W.heap.size ≤ b ∧ w.heap[b]? = some (.cells ([.int .i64 lo, .int .i64 hi]).toArray 119 (0, 0))
  r : done 16 = false → w.ownsRow base 119 2 v n xs
  q : done 16 = true → w.ownsRow base 119 2 (s 36) (n + 1) (xs ++ [.int .i64 lo, .int .i64 hi])
def I25b (a0 : Act) (b0 j b o n3 cap3 : Nat) (lo hi : Int) (z0 z1 z2 z3 z4 z5 z6 z7 z8 z9 z10 z11 z12 : Value) (G base n : Nat) (v : Value) (xs : List Value) (W : World) (done : Nat → Bool) (a : Act) (w : World) : Prop :=
  Fr 20 37 a0 a ∧ J25b b0 j b o n3 cap3 lo hi z0 z1 z2 z3 z4 z5 z6 z7 z8 z9 z10 z11 z12 G base n v xs W done (slots a) w
theorem I25b.put {a0 : Act} {b0 j b o n3 cap3 : Nat} {lo hi : Int} {z0 z1 z2 z3 z4 z5 z6 z7 z8 z9 z10 z11 z12 : Value} {G base n : Nat} {v : Value} {xs : List Value} {W : World} {done : Nat → Bool} {a : Act} {w : World} (i : Nat) (u : Value)
    (hF : Fr 20 37 a0 a) (h0 : 37 < a0.tmps.size) (h1 : 20 ≤ i) (h2 : i ≤ 37) (hJ : J25b b0 j b o n3 cap3 lo hi z0 z1 z2 z3 z4 z5 z6 z7 z8 z9 z10 z11 z12 G base n v xs W done (upd (slots a) i u) w) :
    I25b a0 b0 j b o n3 cap3 lo hi z0 z1 z2 z3 z4 z5 z6 z7 z8 z9 z10 z11 z12 G base n v xs W done { tmps := a.tmps.setIfInBounds i u, defers := a.defers } w :=
  ⟨hF.put i u h1 h2 h0, by rw [slots_put a i u (by rw [hF.sz]; omega)]; exact hJ⟩
set_option maxRecDepth 100000 in
set_option maxHeartbeats 8000000 in
theorem r25b (ops : List Oper) (hops : Tryz.f25.body.bind (regionIn 5) = some ops) {Q : Exit → Act → World → Prop} (a0 : Act) (b0 j b o n3 cap3 : Nat) (lo hi : Int) (z0 z1 z2 z3 z4 z5 z6 z7 z8 z9 z10 z11 z12 : Value) (G base n : Nat) (v : Value) (xs : List Value) (W : World)
    (hsz : a0.tmps.size = 39) (hbox : W.heap[G]? = some (.cells #[z0, z1, z2, z3, z4, z5, z6, z7, z8, z9, z10, z11, z12, v] 44 (0, 0))) (hr : W.ownsRow base 119 2 v n xs) (hbase : base ≤ W.heap.size) (hG : G < base) (hn : n ≤ 100000) (hG0 : slots a0 3 = .pointer (some ⟨G, 0, none⟩)) (h1 : slots a0 1 = .pointer (some ⟨b0, 0, none⟩)) (hjs : slots a0 4 = .int .i64 j) (hj : j < n3) (hn3 : n3 ≤ 1000000) (h0G : b0 ≠ G) (h0v : some b0 ≠ v.ownBlock) (hbG : b ≠ G) (hbv : some b ≠ v.ownBlock) (hs9 : W.cell? ⟨b0, 13, none⟩ = some (.slice (some ⟨b, o, none⟩) n3 cap3)) (hl1 : W.cell? ⟨b, o + j * 2, none⟩ = some (.int .i64 lo)) (hl2 : W.cell? ⟨b, o + j * 2 + 1, none⟩ = some (.int .i64 hi))
    (hQ : ∀ a w u, Fr 20 37 a0 a → Grown (fun k => k = G ∨ some k = v.ownBlock) W w → w.heap[G]? = some (.cells #[z0, z1, z2, z3, z4, z5, z6, z7, z8, z9, z10, z11, z12, u] 44 (0, 0)) → w.ownsRow base 119 2 u (n + 1) (xs ++ [.int .i64 lo, .int .i64 hi]) → Q .normal a w) :
    (Code.region 5 ops.toArray true).wp Tryz.prog Q a0 W := by
  simp only [Tryz.f25, regionIn, Option.bind_some] at hops
  simp at hops
  subst hops
  have hnG : some G ≠ v.ownBlock := fun e => by have := (hr.lt G e.symm).1; omega
  have F := Lib.hid info119
  refine wp_region_inv (I25b a0 b0 j b o n3 cap3 lo hi z0 z1 z2 z3 z4 z5 z6 z7 z8 z9 z10 z11 z12 G base n v xs W) tryz_mixed (by kernel_rfl) ⟨Fr.refl _ _ _, ?_⟩ ?_ ?_
  · exact { gr := ⟨rfl, rfl, rfl, Nat.le_refl _, fun _ _ _ => rfl⟩, box := hbox, a0 := fun h => (by cases h), a1 := fun h => (by cases h), a2 := fun h => (by cases h), a3 := fun h => (by cases h), a4 := fun h => (by cases h), a5 := fun h => (by cases h), a6 := fun h => (by cases h), a7 := fun h => (by cases h), a8 := fun h => (by cases h), a9 := fun h => (by cases h), a10 := fun h => (by cases h), a11 := fun h => (by cases h), a12 := fun h => (by cases h), a13 := fun h => (by cases h), a14 := fun h => (by cases h), a17 := fun h => (by cases h), bu := fun h => (by cases h), r := fun _ => hr, q := fun h => (by cases h) }
  · refine ⟨?_, ?_, ?_, ?_, ?_, ?_, ?_, ?_, ?_, ?_, ?_, ?_, ?_, ?_, ?_, ?_, ?_, ?_, ?_, trivial⟩
    · rintro done a w hcl hdn hdep ⟨hF, hJ⟩ K hK
      have y3 : a.tmps[3]?.getD undef = .pointer (some ⟨G, 0, none⟩) := (hF.same 3 (by omega)).trans hG0
      clear hdep hcl
      go_simp
      exact hK _ _ (I25b.put 20 _ hF (by omega) (by decide) (by decide) { hJ with a0 := fun _ => rfl })
    · rintro done a w hcl hdn hdep ⟨hF, hJ⟩ K hK
      have x0 : a.tmps[20]?.getD undef = .pointer (some ⟨G, 13, none⟩) := hJ.a0 (hdep ⟨0, .data⟩ (by simp) rfl)
      have hst : done 18 = false := by
        cases h : done 18 with
        | false => rfl
        | true => have := hcl 18 _ rfl h ⟨1, .phase⟩ (by simp) rfl; rw [hdn] at this; cases this
      have cv : w.cell? ⟨G, 13, none⟩ = some v := by
        have := hJ.box
        rw [hst] at this
        simp [World.cell?, this]
      clear hdep hcl
      go_simp
      exact hK _ _ (I25b.put 21 _ hF (by omega) (by decide) (by decide) { hJ with a1 := fun _ => rfl })
    · rintro done a w hcl hdn hdep ⟨hF, hJ⟩ K hK
      have y1 : a.tmps[1]?.getD undef = .pointer (some ⟨b0, 0, none⟩) := (hF.same 1 (by omega)).trans h1
      clear hdep hcl
      go_simp
      exact hK _ _ (I25b.put 22 _ hF (by omega) (by decide) (by decide) { hJ with a2 := fun _ => rfl })
    · rintro done a w hcl hdn hdep ⟨hF, hJ⟩ K hK
      have x2 : a.tmps[22]?.getD undef = .pointer (some ⟨b0, 13, none⟩) := hJ.a2 (hdep ⟨2, .data⟩ (by simp) rfl)
      have c9 : w.cell? ⟨b0, 13, none⟩ = some (.slice (some ⟨b, o, none⟩) n3 cap3) := (hJ.gr.cell (World.block_lt_of_cell? W _ hs9) (by simp [h0G, h0v])).trans hs9
      clear hdep hcl
      go_simp
      exact hK _ _ (I25b.put 23 _ hF (by omega) (by decide) (by decide) { hJ with a3 := fun _ => rfl })
    · rintro done a w hcl hdn hdep ⟨hF, hJ⟩ K hK
      have y4 : a.tmps[4]?.getD undef = .int .i64 j := (hF.same 4 (by omega)).trans hjs
      clear hdep hcl
      go_simp
      exact hK _ _ (I25b.put 24 _ hF (by omega) (by decide) (by decide) { hJ with a4 := fun _ => rfl })
    · rintro done a w hcl hdn hdep ⟨hF, hJ⟩ K hK
      have x3 : a.tmps[23]?.getD undef = .slice (some ⟨b, o, none⟩) n3 cap3 := hJ.a3 (hdep ⟨3, .data⟩ (by simp) rfl)
      have x4 : a.tmps[24]?.getD undef = .int .i64 j := hJ.a4 (hdep ⟨4, .data⟩ (by simp) rfl)
      have hi1 : (j : Int) < (n3 : Int) := by omega
      clear hdep hcl
      go_simp
      exact hK _ _ (I25b.put 25 _ hF (by omega) (by decide) (by decide) { hJ with a5 := fun _ => rfl })
    · rintro done a w hcl hdn hdep ⟨hF, hJ⟩ K hK
      have x5 : a.tmps[25]?.getD undef = .pointer (some ⟨b, o + j * 2, none⟩) := hJ.a5 (hdep ⟨5, .data⟩ (by simp) rfl)
      clear hdep hcl
      go_simp
      exact hK _ _ (I25b.put 26 _ hF (by omega) (by decide) (by decide) { hJ with a6 := fun _ => rfl })
    · rintro done a w hcl hdn hdep ⟨hF, hJ⟩ K hK
      have x6 : a.tmps[26]?.getD undef = .pointer (some ⟨b, o + j * 2, none⟩) := hJ.a6 (hdep ⟨6, .data⟩ (by simp) rfl)
      have ca : w.cell? ⟨b, o + j * 2, none⟩ = some (.int .i64 lo) := (hJ.gr.cell (World.block_lt_of_cell? W _ hl1) (by simp [hbG, hbv])).trans hl1
      clear hdep hcl
      go_simp
      exact hK _ _ (I25b.put 27 _ hF (by omega) (by decide) (by decide) { hJ with a7 := fun _ => rfl })
    · rintro done a w hcl hdn hdep ⟨hF, hJ⟩ K hK
      have y1 : a.tmps[1]?.getD undef = .pointer (some ⟨b0, 0, none⟩) := (hF.same 1 (by omega)).trans h1
      clear hdep hcl
      go_simp
      exact hK _ _ (I25b.put 28 _ hF (by omega) (by decide) (by decide) { hJ with a8 := fun _ => rfl })
    · rintro done a w hcl hdn hdep ⟨hF, hJ⟩ K hK
      have x8 : a.tmps[28]?.getD undef = .pointer (some ⟨b0, 13, none⟩) := hJ.a8 (hdep ⟨8, .data⟩ (by simp) rfl)
      have c9 : w.cell? ⟨b0, 13, none⟩ = some (.slice (some ⟨b, o, none⟩) n3 cap3) := (hJ.gr.cell (World.block_lt_of_cell? W _ hs9) (by simp [h0G, h0v])).trans hs9
      clear hdep hcl
      go_simp
      exact hK _ _ (I25b.put 29 _ hF (by omega) (by decide) (by decide) { hJ with a9 := fun _ => rfl })
    · rintro done a w hcl hdn hdep ⟨hF, hJ⟩ K hK
      have y4 : a.tmps[4]?.getD undef = .int .i64 j := (hF.same 4 (by omega)).trans hjs
      clear hdep hcl
      go_simp
      exact hK _ _ (I25b.put 30 _ hF (by omega) (by decide) (by decide) { hJ with a10 := fun _ => rfl })
    · rintro done a w hcl hdn hdep ⟨hF, hJ⟩ K hK
      have x9 : a.tmps[29]?.getD undef = .slice (some ⟨b, o, none⟩) n3 cap3 := hJ.a9 (hdep ⟨9, .data⟩ (by simp) rfl)
      have x10 : a.tmps[30]?.getD undef = .int .i64 j := hJ.a10 (hdep ⟨10, .data⟩ (by simp) rfl)
      have hi1 : (j : Int) < (n3 : Int) := by omega
      clear hdep hcl
      go_simp
      exact hK _ _ (I25b.put 31 _ hF (by omega) (by decide) (by decide) { hJ with a11 := fun _ => rfl })
    · rintro done a w hcl hdn hdep ⟨hF, hJ⟩ K hK
      have x11 : a.tmps[31]?.getD undef = .pointer (some ⟨b, o + j * 2, none⟩) := hJ.a11 (hdep ⟨11, .data⟩ (by simp) rfl)
      clear hdep hcl
      go_simp
      exact hK _ _ (I25b.put 32 _ hF (by omega) (by decide) (by decide) { hJ with a12 := fun _ => rfl })
    · rintro done a w hcl hdn hdep ⟨hF, hJ⟩ K hK
      have x12 : a.tmps[32]?.getD undef = .pointer (some ⟨b, o + j * 2 + 1, none⟩) := hJ.a12 (hdep ⟨12, .data⟩ (by simp) rfl)
      have cb : w.cell? ⟨b, o + j * 2 + 1, none⟩ = some (.int .i64 hi) := (hJ.gr.cell (World.block_lt_of_cell? W _ hl2) (by simp [hbG, hbv])).trans hl2
      clear hdep hcl
      go_simp
      exact hK _ _ (I25b.put 33 _ hF (by omega) (by decide) (by decide) { hJ with a13 := fun _ => rfl })
    · rintro done a w hcl hdn hdep ⟨hF, hJ⟩ K hK
      have x7 : a.tmps[27]?.getD undef = .int .i64 lo := hJ.a7 (hdep ⟨7, .data⟩ (by simp) rfl)
      have x13 : a.tmps[33]?.getD undef = .int .i64 hi := hJ.a13 (hdep ⟨13, .data⟩ (by simp) rfl)
      clear hdep hcl
      go_simp
      exact hK _ _ (I25b.put 34 _ hF (by omega) (by decide) (by decide) { hJ with a14 := fun _ => rfl })
    · rintro done a w hcl hdn hdep ⟨hF, hJ⟩ K hK
      have x14 : a.tmps[34]?.getD undef = .agg #[.int .i64 lo, .int .i64 hi] := hJ.a14 (hdep ⟨14, .data⟩ (by simp) rfl)
      clear hdep hcl
      go_simp
      exact hK _ _ (I25b.put 35 _ hF (by omega) (by decide) (by decide) { hJ with gr := hJ.gr.alloc _, box := heap_al hJ.box _, r := fun h => (hJ.r h).alloc _, q := fun h => (hJ.q h).alloc _, bu := fun _ _ => ⟨w.heap.size, rfl, hJ.gr.size, World.alloc_heap_new _ _⟩ })
    · rintro done a w hcl hdn hdep ⟨hF, hJ⟩ K hK
      have x1 : a.tmps[21]?.getD undef = v := hJ.a1 (hdep ⟨1, .data⟩ (by simp) rfl)
      obtain ⟨b, hb, hbl, hbh⟩ := hJ.bu (hdep ⟨15, .data⟩ (by simp) rfl) hdn
      have hbs : a.tmps[35]?.getD undef = .slice (some ⟨b, 0, none⟩) 1 1 := hb
      rw [if_pos (show Region.wanted _ _ = true from rfl)]
      refine wp_append_k base _ _ 42 119 _ 2 16 rfl Tryz.underlying42 F.out rfl (by decide) (by decide) v n xs ([.int .i64 lo, .int .i64 hi]) b (by simp [Act.eval, x1]) (by simp [Act.eval, hbs]) hbh rfl (by simp [Value.oneCell']) (hJ.r hdn) (by have := hJ.gr.size; omega) (by omega) ?_
      intro u w1 hown hg hat
      have hs2 : done 18 = false := by
        cases h : done 18 with
        | false => rfl
        | true => have := hcl 18 _ rfl h ⟨16, .data⟩ (by simp) rfl; rw [hdn] at this; cases this
      have hbb := hJ.box
      rw [hs2] at hbb
      have hgr : Grown (fun k => k = G ∨ some k = v.ownBlock) W w1 := hJ.gr.trans ⟨hg.os, hg.tape, hg.output, hg.size, fun k hk hn => hg.block k hk (fun e => hn (.inr e))⟩
      have hbw := (hg.block G (Array.getElem?_eq_some_iff.1 hbb).1 hnG).trans hbb
      have hbox1 : w1.heap[G]? = some (.cells #[z0, z1, z2, z3, z4, z5, z6, z7, z8, z9, z10, z11, z12, (if also 16 done 18 = true then u else v)] 44 (0, 0)) := by
        rw [show also 16 done 18 = false from hs2]; exact hbw
      exact hK _ _ (I25b.put 36 _ hF (by omega) (by decide) (by decide) { hJ with gr := hgr, box := hbox1, bu := fun _ h => (by cases h), r := fun h => (by cases h), q := fun _ => hown })
    · rintro done a w hcl hdn hdep ⟨hF, hJ⟩ K hK
      have y3 : a.tmps[3]?.getD undef = .pointer (some ⟨G, 0, none⟩) := (hF.same 3 (by omega)).trans hG0
      clear hdep hcl
      go_simp
      exact hK _ _ (I25b.put 37 _ hF (by omega) (by decide) (by decide) { hJ with a17 := fun _ => rfl })
    · rintro done a w hcl hdn hdep ⟨hF, hJ⟩ K hK
      have x17 : a.tmps[37]?.getD undef = .pointer (some ⟨G, 13, none⟩) := hJ.a17 (hdep ⟨17, .data⟩ (by simp) rfl)
      have hd7 : done 16 = true := hdep ⟨16, .data⟩ (by simp) rfl
      obtain ⟨A, k, hsh⟩ := own_shape6 (hJ.q hd7)
      have hs : a.tmps[36]?.getD undef = .slice A (n + 1) k := hsh
      have hbb := hJ.box
      rw [hdn] at hbb
      have hcell : w.cell? ⟨G, 13, none⟩ = some v := by simp [World.cell?, hbb]
      have hfz : w.frozen? ⟨G, 13, none⟩ = false := by simp [World.frozen?, hbb]
      clear hdep hcl
      go_simp
      refine hK _ _ ⟨hF, { hJ with gr := hJ.gr.setCell (.inl (.inl rfl)) _, box := ?_, bu := fun _ h => (by have h' : done 16 = false := h; rw [hd7] at h'; cases h'), r := fun h => (by have h' : done 16 = false := h; rw [hd7] at h'; cases h'), q := fun h => ?_ }⟩
      · rw [heap_setCell_same w G 13 _ 44 _ hbb]
        rw [show also 18 done 18 = true from rfl, if_pos rfl, hsh]
        rfl
      · exact own_grown (hJ.q hd7) ((Grown.refl (fun k => k = G) w).setCell (.inl rfl) _) (fun k hk => by omega)
  · rintro done a w hd ⟨hF, hJ⟩
    have hb := hJ.box
    rw [hd 18 (by decide)] at hb
    exact hQ a w _ hF hJ.gr hb (hJ.q (hd 16 (by decide)))
end Go.Proofs.YtpgnplmjfhdncaaGreat
