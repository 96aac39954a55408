/- BathCoal: its walk. -/
import Derived.Test.YtpgnplmjfhdncaaGreatKV10
import Derived.Test.YtpgnplmjfhdncaaGreatKL6
namespace Go.Proofs.YtpgnplmjfhdncaaGreat
open Go.RowKit
set_option linter.unusedVariables false
theorem wantW_nums {r : Rm} (h4 : r.cop.last ≤ 4) (xs : List Int) : wantedC r (numsL r xs) = wantW r (countL xs xs.length) := by
  unfold wantedC wantW withWant wantN
  rw [numsL_buckets xs h4]
set_option maxRecDepth 100000 in
set_option maxHeartbeats 8000000 in
theorem bc_thick (r : Rm) (q : RA) (xs : List Int) (a : Option Addr) (c : Nat) (w : World) (hq : RoomAt w w.heap.size r q) (hx : IntsAt w w.heap.size a xs) (ht : ThinB r = false) : Calls Tryz.prog 10 #[roomV r q, .slice a xs.length c] w fun e w' => e = .returned (.bool true) ∧ Below w.heap.size w w' := by
  have HQ := Lib.hid hq
  have HT : Hid (∀ w, RoomAt w w.heap.size r q → Calls Tryz.prog 32 #[roomV r q] w fun e w' => e = .returned (.bool false) ∧ Below w.heap.size w w') := fun w h => ht ▸ thin_c r q w h
  clear hq hx ht
  go_enter Tryz.func10, Tryz.ntmps10
  go_wp2_with (first | (have hz := HB0; clear hz; go_at_call 23; go_loud (refine (awake_c _).mono ?_; rintro e w1_ ⟨rfl, hb⟩; have HB1 : Hid (Below w.heap.size w w1_) := bl_tr HB0.out hb; have HX1_0 : Hid (Box w1_ w.heap.size (roomCs r q)) := HX0_0.out.bl (by simp) hb; clear hbx0_0; have hbx1_0 := HX1_0.out; unfold Box roomCs at hbx1_0; clear hb)) | (go_at_call 32; go_loud (refine (HT.out _ (HQ.out.up (bl_al (Below.refl w.heap.size w) _))).mono ?_; rintro e w0_ ⟨rfl, hb⟩; have HB0 : Hid (Below w.heap.size w w0_) := bl_tr (bl_al (Below.refl w.heap.size w) _) hb; have HX0_0 : Hid (Box w0_ w.heap.size (roomCs r q)) := (Box.new w (roomCs r q) 31 (0, 0)).bl (by simp) hb; have hbx0_0 := HX0_0.out; unfold Box roomCs at hbx0_0; clear hb)))
  go_ret
  exact ⟨rfl, HB1.out⟩
set_option maxRecDepth 100000 in
set_option maxHeartbeats 8000000 in
theorem bc_long (r : Rm) (q : RA) (xs : List Int) (a : Option Addr) (c : Nat) (w : World) (hq : RoomAt w w.heap.size r q) (hx : IntsAt w w.heap.size a xs) (ht : ThinB r = true) (hl : 30 < xs.length) : Calls Tryz.prog 10 #[roomV r q, .slice a xs.length c] w fun e w' => e = .returned (.bool true) ∧ Below w.heap.size w w' := by
  have HQ := Lib.hid hq
  have hl2 : (30 : Int) < (xs.length : Int) := by omega
  have HT : Hid (∀ w, RoomAt w w.heap.size r q → Calls Tryz.prog 32 #[roomV r q] w fun e w' => e = .returned (.bool true) ∧ Below w.heap.size w w') := fun w h => ht ▸ thin_c r q w h
  clear hq hx ht
  go_enter Tryz.func10, Tryz.ntmps10
  go_wp2_with (first | (have hz := HB0; clear hz; go_at_call 23; go_loud (refine (awake_c _).mono ?_; rintro e w1_ ⟨rfl, hb⟩; have HB1 : Hid (Below w.heap.size w w1_) := bl_tr HB0.out hb; have HX1_0 : Hid (Box w1_ w.heap.size (roomCs r q)) := HX0_0.out.bl (by simp) hb; clear hbx0_0; have hbx1_0 := HX1_0.out; unfold Box roomCs at hbx1_0; clear hb)) | (go_at_call 32; go_loud (refine (HT.out _ (HQ.out.up (bl_al (Below.refl w.heap.size w) _))).mono ?_; rintro e w0_ ⟨rfl, hb⟩; have HB0 : Hid (Below w.heap.size w w0_) := bl_tr (bl_al (Below.refl w.heap.size w) _) hb; have HX0_0 : Hid (Box w0_ w.heap.size (roomCs r q)) := (Box.new w (roomCs r q) 31 (0, 0)).bl (by simp) hb; have hbx0_0 := HX0_0.out; unfold Box roomCs at hbx0_0; clear hb)))
  go_ret
  exact ⟨rfl, HB1.out⟩
set_option maxRecDepth 100000 in
set_option maxHeartbeats 8000000 in
theorem bc_err (r : Rm) (q : RA) (xs : List Int) (a : Option Addr) (c : Nat) (w : World) (hq : RoomAt w w.heap.size r q) (hx : IntsAt w w.heap.size a xs) (hp : CPl r.cop q.q) (hpa : Pl a xs.length c) (ht : ThinB r = true) (hl : xs.length ≤ 30) (he : planErr r xs true ≠ 0) : Calls Tryz.prog 10 #[roomV r q, .slice a xs.length c] w fun e w' => e = .returned (.bool true) ∧ Below w.heap.size w w' := by
  obtain ⟨hsr, hti, hsm, l1, l2, l3, l4, l5⟩ := short_small (thin_short ht)
  have HQ := Lib.hid hq
  have HX := Lib.hid hx
  have HP := Lib.hid hp
  have HPA := Lib.hid hpa
  have HTI := Lib.hid hti
  have HSR := Lib.hid hsr
  have HT : Hid (∀ w, RoomAt w w.heap.size r q → Calls Tryz.prog 32 #[roomV r q] w fun e w' => e = .returned (.bool true) ∧ Below w.heap.size w w') := fun w h => ht ▸ thin_c r q w h
  have hl2 : ¬ (30 : Int) < (xs.length : Int) := by omega
  have hl3 : decide ((30 : Int) < (xs.length : Int)) = false := decide_eq_false hl2
  obtain ⟨E, hE⟩ : ∃ E, planErr r xs true = E := ⟨_, rfl⟩
  have hE0 : ¬ E = 0 := by rw [← hE]; exact he
  have hE1 : (E == 0) = false := by simpa using hE0
  have H61 : Hid (∀ (q : RA) (A : Option Addr) (K : Nat) (w : World), RoomAt w w.heap.size r q → IntsAt w w.heap.size A xs → Calls Tryz.prog 61 #[roomV r q, .slice A xs.length K] w fun e w' => e = .returned (.tuple #[.slice none 0 0, .int .i64 E]) ∧ Below w.heap.size w w') := fun q A K w h1 h2 => hE ▸ bcoalE_c r q xs A K w h1 hsm (by omega) h2 he
  have H27 : Hid (∀ (w : World), RoomAt w w.heap.size r q → IntsAt w w.heap.size a xs → Calls Tryz.prog 27 #[roomV r q, .slice a xs.length c, .bool true] w fun e w' => e = .returned (.tuple #[.slice none 0 0, .int .i64 E]) ∧ Below w.heap.size w w') := fun w h1 h2 => hE ▸ planned27_e r q xs a c true w h1 hsr (by omega) h2 he
  clear hq hx hp hpa ht he hE hsr hti hsm
  go_enter Tryz.func10, Tryz.ntmps10
  go_wp2_with (first | (have hz := HB4; clear hz; go_at_call 23; go_loud (refine (awake_c _).mono ?_; rintro e w5_ ⟨rfl, hb⟩; have HB5 : Hid (Below w.heap.size w w5_) := bl_tr HB4.out hb; have HX5_0 : Hid (Box w5_ w.heap.size (roomCs r q)) := HX4_0.out.bl (by simp) hb; have HRq1 : Hid (RoomAt w5_ w5_.heap.size r q1) := HRq1.out.up (bl_tr (Below.refl _ _) hb); have HI1 : Hid (IntsAt w5_ w5_.heap.size A1 xs) := HI1.out.up (bl_tr (Below.refl _ _) hb); clear hbx4_0; clear hb)) | (go_at_call 27; go_loud (refine (H27.out _ (HQ.out.up HB3.out) (HX.out.up HB3.out)).mono ?_; rintro e w4_ ⟨rfl, hb⟩; have HB4 : Hid (Below w.heap.size w w4_) := bl_tr HB3.out hb; have HX4_0 : Hid (Box w4_ w.heap.size (roomCs r q)) := HX3_0.out.bl (by simp) hb; have HRq1 : Hid (RoomAt w4_ w4_.heap.size r q1) := HRq1.out.up (bl_tr (Below.refl _ _) hb); have HI1 : Hid (IntsAt w4_ w4_.heap.size A1 xs) := HI1.out.up (bl_tr (Below.refl _ _) hb); clear hbx3_0; have hbx4_0 := HX4_0.out; unfold Box roomCs at hbx4_0; clear hb)) | (go_at_call 61; go_loud (refine (H61.out q1 A1 K1 _ HRq1.out HI1.out).mono ?_; rintro e w3_ ⟨rfl, hb⟩; have HB3 : Hid (Below w.heap.size w w3_) := bl_tr HB2.out hb; have HX3_0 : Hid (Box w3_ w.heap.size (roomCs r q)) := HX2_0.out.bl (by simp) hb; have HRq1 : Hid (RoomAt w3_ w3_.heap.size r q1) := HRq1.out.up (bl_tr (Below.refl _ _) hb); have HI1 : Hid (IntsAt w3_ w3_.heap.size A1 xs) := HI1.out.up (bl_tr (Below.refl _ _) hb); clear hbx2_0; have hbx3_0 := HX3_0.out; unfold Box roomCs at hbx3_0; clear hb)) | (have hz := HB1; clear hz; go_at_call 26; go_loud (refine (list_c xs a c _ (by omega) (HX.out.up HB1.out) HPA.out).mono ?_; rintro e w2_ ⟨A1, K1, rfl, hi, hb⟩; have HB2 : Hid (Below w.heap.size w w2_) := bl_tr HB1.out hb; have HX2_0 : Hid (Box w2_ w.heap.size (roomCs r q)) := HX1_0.out.bl (by simp) hb; have HRq1 : Hid (RoomAt w2_ w2_.heap.size r q1) := HRq1.out.up (bl_tr (Below.refl _ _) hb); clear hbx1_0; have hbx2_0 := HX2_0.out; unfold Box roomCs at hbx2_0; have HI1 : Hid (IntsAt w2_ w2_.heap.size A1 xs) := hi; clear hi hb)) | (have hz := HB0; clear hz; go_at_call 25; go_loud (refine (room25_c r q _ (HQ.out.up HB0.out) HP.out HTI.out (by omega)).mono ?_; rintro e w1_ ⟨q1, rfl, hq1, hb⟩; have HB1 : Hid (Below w.heap.size w w1_) := bl_tr HB0.out hb; have HX1_0 : Hid (Box w1_ w.heap.size (roomCs r q)) := HX0_0.out.bl (by simp) hb; clear hbx0_0; have hbx1_0 := HX1_0.out; unfold Box roomCs at hbx1_0; have HRq1 : Hid (RoomAt w1_ w1_.heap.size r q1) := hq1; clear hq1 hb)) | (go_at_call 32; go_loud (refine (HT.out _ (HQ.out.up (bl_al (Below.refl w.heap.size w) _))).mono ?_; rintro e w0_ ⟨rfl, hb⟩; have HB0 : Hid (Below w.heap.size w w0_) := bl_tr (bl_al (Below.refl w.heap.size w) _) hb; have HX0_0 : Hid (Box w0_ w.heap.size (roomCs r q)) := (Box.new w (roomCs r q) 31 (0, 0)).bl (by simp) hb; have hbx0_0 := HX0_0.out; unfold Box roomCs at hbx0_0; clear hb)))
  go_ret
  exact ⟨rfl, HB5.out⟩
set_option maxRecDepth 100000 in
set_option maxHeartbeats 8000000 in
theorem bc_rds (r : Rm) (q : RA) (xs : List Int) (a : Option Addr) (c : Nat) (w : World) (hq : RoomAt w w.heap.size r q) (hx : IntsAt w w.heap.size a xs) (hp : CPl r.cop q.q) (hpa : Pl a xs.length c) (ht : ThinB r = true) (hl : xs.length ≤ 30) (he : planErr r xs true = 0) (hr : r.cop.rds ≠ []) : Calls Tryz.prog 10 #[roomV r q, .slice a xs.length c] w fun e w' => e = .returned (.bool true) ∧ Below w.heap.size w w' := by
  obtain ⟨hsr, hti, hsm, l1, l2, l3, l4, l5⟩ := short_small (thin_short ht)
  have HQ := Lib.hid hq
  have HX := Lib.hid hx
  have HP := Lib.hid hp
  have HPA := Lib.hid hpa
  have HTI := Lib.hid hti
  have HSR := Lib.hid hsr
  have HT : Hid (∀ w, RoomAt w w.heap.size r q → Calls Tryz.prog 32 #[roomV r q] w fun e w' => e = .returned (.bool true) ∧ Below w.heap.size w w') := fun w h => ht ▸ thin_c r q w h
  have hl2 : ¬ (30 : Int) < (xs.length : Int) := by omega
  have hl3 : decide ((30 : Int) < (xs.length : Int)) = false := decide_eq_false hl2
  obtain ⟨hre, har, -, hcb⟩ := planErr_ok he
  have ho := room_ok hre
  have hn5 : xs.length ≤ 5 := by rw [(are_in ho har).1]; exact ho.n5
  have H27 : Hid (∀ (w : World), RoomAt w w.heap.size r q → IntsAt w w.heap.size a xs → Calls Tryz.prog 27 #[roomV r q, .slice a xs.length c, .bool true] w fun e w' => ∃ A K, e = .returned (.tuple #[.slice A (numsL r xs).length K, .int .i64 0]) ∧ IntsAt w' w'.heap.size A (numsL r xs) ∧ Below w.heap.size w w') := fun w h1 h2 => (planned27_y r q xs a c true w h1 hsr (by omega) h2 he).mono fun e w' ⟨⟨A, K, h3, h4⟩, h5⟩ => ⟨A, K, h3, h4, h5⟩
  have hrp : (0 : Int) < (r.cop.rds.length : Int) := by have : r.cop.rds.length ≠ 0 := fun h => hr (List.eq_nil_of_length_eq_zero h); omega
  have H61 : Hid (∀ (q : RA) (A : Option Addr) (K : Nat) (w : World), RoomAt w w.heap.size r q → IntsAt w w.heap.size A xs → Calls Tryz.prog 61 #[roomV r q, .slice A xs.length K] w fun e w' => e = .returned (.tuple #[.slice none 0 0, .int .i64 8]) ∧ Below w.heap.size w w') := fun q A K w h1 h2 => bcoalR_c r q xs A K w h1 (by omega) h2 he hr
  clear hq hx hp hpa ht he hsr hti hsm ho hre har hcb hr
  go_enter Tryz.func10, Tryz.ntmps10
  go_wp2_with (first | (have hz := HB4; clear hz; go_at_call 23; go_loud (refine (awake_c _).mono ?_; rintro e w5_ ⟨rfl, hb⟩; have HB5 : Hid (Below w.heap.size w w5_) := bl_tr HB4.out hb; have HX5_0 : Hid (Box w5_ w.heap.size (roomCs r q)) := HX4_0.out.bl (by simp) hb; have HRq1 : Hid (RoomAt w5_ w5_.heap.size r q1) := HRq1.out.up (bl_tr (Below.refl _ _) hb); have HI1 : Hid (IntsAt w5_ w5_.heap.size A1 xs) := HI1.out.up (bl_tr (Below.refl _ _) hb); have HI3 : Hid (IntsAt w5_ w5_.heap.size A3 (numsL r xs)) := HI3.out.up (bl_tr (Below.refl _ _) hb); clear hbx4_0; clear hb)) | (go_at_call 27; go_loud (refine (H27.out _ (HQ.out.up HB3.out) (HX.out.up HB3.out)).mono ?_; rintro e w4_ ⟨A3, K3, rfl, hi, hb⟩; have HB4 : Hid (Below w.heap.size w w4_) := bl_tr HB3.out hb; have HX4_0 : Hid (Box w4_ w.heap.size (roomCs r q)) := HX3_0.out.bl (by simp) hb; have HRq1 : Hid (RoomAt w4_ w4_.heap.size r q1) := HRq1.out.up (bl_tr (Below.refl _ _) hb); have HI1 : Hid (IntsAt w4_ w4_.heap.size A1 xs) := HI1.out.up (bl_tr (Below.refl _ _) hb); clear hbx3_0; have hbx4_0 := HX4_0.out; unfold Box roomCs at hbx4_0; have HI3 : Hid (IntsAt w4_ w4_.heap.size A3 (numsL r xs)) := hi; clear hi hb)) | (go_at_call 61; go_loud (refine (H61.out q1 A1 K1 _ HRq1.out HI1.out).mono ?_; rintro e w3_ ⟨rfl, hb⟩; have HB3 : Hid (Below w.heap.size w w3_) := bl_tr HB2.out hb; have HX3_0 : Hid (Box w3_ w.heap.size (roomCs r q)) := HX2_0.out.bl (by simp) hb; have HRq1 : Hid (RoomAt w3_ w3_.heap.size r q1) := HRq1.out.up (bl_tr (Below.refl _ _) hb); have HI1 : Hid (IntsAt w3_ w3_.heap.size A1 xs) := HI1.out.up (bl_tr (Below.refl _ _) hb); clear hbx2_0; have hbx3_0 := HX3_0.out; unfold Box roomCs at hbx3_0; clear hb)) | (have hz := HB1; clear hz; go_at_call 26; go_loud (refine (list_c xs a c _ (by omega) (HX.out.up HB1.out) HPA.out).mono ?_; rintro e w2_ ⟨A1, K1, rfl, hi, hb⟩; have HB2 : Hid (Below w.heap.size w w2_) := bl_tr HB1.out hb; have HX2_0 : Hid (Box w2_ w.heap.size (roomCs r q)) := HX1_0.out.bl (by simp) hb; have HRq1 : Hid (RoomAt w2_ w2_.heap.size r q1) := HRq1.out.up (bl_tr (Below.refl _ _) hb); clear hbx1_0; have hbx2_0 := HX2_0.out; unfold Box roomCs at hbx2_0; have HI1 : Hid (IntsAt w2_ w2_.heap.size A1 xs) := hi; clear hi hb)) | (have hz := HB0; clear hz; go_at_call 25; go_loud (refine (room25_c r q _ (HQ.out.up HB0.out) HP.out HTI.out (by omega)).mono ?_; rintro e w1_ ⟨q1, rfl, hq1, hb⟩; have HB1 : Hid (Below w.heap.size w w1_) := bl_tr HB0.out hb; have HX1_0 : Hid (Box w1_ w.heap.size (roomCs r q)) := HX0_0.out.bl (by simp) hb; clear hbx0_0; have hbx1_0 := HX1_0.out; unfold Box roomCs at hbx1_0; have HRq1 : Hid (RoomAt w1_ w1_.heap.size r q1) := hq1; clear hq1 hb)) | (go_at_call 32; go_loud (refine (HT.out _ (HQ.out.up (bl_al (Below.refl w.heap.size w) _))).mono ?_; rintro e w0_ ⟨rfl, hb⟩; have HB0 : Hid (Below w.heap.size w w0_) := bl_tr (bl_al (Below.refl w.heap.size w) _) hb; have HX0_0 : Hid (Box w0_ w.heap.size (roomCs r q)) := (Box.new w (roomCs r q) 31 (0, 0)).bl (by simp) hb; have hbx0_0 := HX0_0.out; unfold Box roomCs at hbx0_0; clear hb)))
  go_ret
  exact ⟨rfl, HB5.out⟩
set_option maxRecDepth 100000 in
set_option maxHeartbeats 8000000 in
theorem bc_none (r : Rm) (q : RA) (xs : List Int) (a : Option Addr) (c : Nat) (w : World) (hq : RoomAt w w.heap.size r q) (hx : IntsAt w w.heap.size a xs) (hp : CPl r.cop q.q) (hpa : Pl a xs.length c) (ht : ThinB r = true) (hl : xs.length ≤ 30) (he : planErr r xs true = 0) (hr : r.cop.rds = []) (hs : leastO (wantW r (countL xs xs.length)) = none) : Calls Tryz.prog 10 #[roomV r q, .slice a xs.length c] w fun e w' => e = .returned (.bool true) ∧ Below w.heap.size w w' := by
  obtain ⟨hsr, hti, hsm, l1, l2, l3, l4, l5⟩ := short_small (thin_short ht)
  have HQ := Lib.hid hq
  have HX := Lib.hid hx
  have HP := Lib.hid hp
  have HPA := Lib.hid hpa
  have HTI := Lib.hid hti
  have HSR := Lib.hid hsr
  have HT : Hid (∀ w, RoomAt w w.heap.size r q → Calls Tryz.prog 32 #[roomV r q] w fun e w' => e = .returned (.bool true) ∧ Below w.heap.size w w') := fun w h => ht ▸ thin_c r q w h
  have hl2 : ¬ (30 : Int) < (xs.length : Int) := by omega
  have hl3 : decide ((30 : Int) < (xs.length : Int)) = false := decide_eq_false hl2
  obtain ⟨hre, har, -, hcb⟩ := planErr_ok he
  have ho := room_ok hre
  have hn5 : xs.length ≤ 5 := by rw [(are_in ho har).1]; exact ho.n5
  have H27 : Hid (∀ (w : World), RoomAt w w.heap.size r q → IntsAt w w.heap.size a xs → Calls Tryz.prog 27 #[roomV r q, .slice a xs.length c, .bool true] w fun e w' => ∃ A K, e = .returned (.tuple #[.slice A (numsL r xs).length K, .int .i64 0]) ∧ IntsAt w' w'.heap.size A (numsL r xs) ∧ Below w.heap.size w w') := fun w h1 h2 => (planned27_y r q xs a c true w h1 hsr (by omega) h2 he).mono fun e w' ⟨⟨A, K, h3, h4⟩, h5⟩ => ⟨A, K, h3, h4, h5⟩
  have hr0 : ¬ (0 : Int) < (r.cop.rds.length : Int) := by rw [hr]; simp
  have hr1 : decide ((0 : Int) < (r.cop.rds.length : Int)) = false := decide_eq_false hr0
  have hcn : ∀ j, 0 ≤ nth (countL xs xs.length) j := fun j => (cnt_bd hre har j).1
  have hoc := wantW_ok ho hcn hcb
  have hne := wantW_ne ho hr hcn hcb
  have H61 : Hid (∀ (q : RA) (A : Option Addr) (K : Nat) (w : World), RoomAt w w.heap.size r q → IntsAt w w.heap.size A xs → Calls Tryz.prog 61 #[roomV r q, .slice A xs.length K] w fun e w' => e = .returned (.tuple #[.slice none 0 0, .int .i64 10]) ∧ Below w.heap.size w w') := fun q A K w h1 h2 => (bcoal_c r q xs A K w h1 (by omega) h2 he hr).mono fun e w' ⟨h3, h4⟩ => by
    rcases h4 with ⟨h5, h6⟩ | ⟨y', A', K', h5, h6, h7⟩
    · exact ⟨h6, h3⟩
    · rw [hs] at h5; cases h5
  have hnl : ((numsL r xs).length : Int) = r.cop.last + 1 := by have := ho.cop.l0; rw [numsL_len]; omega
  have hnb : ∀ j, 0 ≤ nth (numsL r xs) j ∧ nth (numsL r xs) j ≤ 100 := fun j => by have := numsL_bd r xs j; omega
  have hwe := wantW_nums ho.cop.l4 xs
  have H50 : Hid (∀ (A : Option Addr) (K : Nat) (w : World), RoomAt w w.heap.size r q → IntsAt w w.heap.size A (numsL r xs) → Calls Tryz.prog 50 #[roomV r q, .slice A (numsL r xs).length K] w fun e w' => ∃ Q, e = .returned (copV (wantW r (countL xs xs.length)) Q) ∧ CopAt w' w'.heap.size (wantW r (countL xs xs.length)) Q ∧ Below w.heap.size w w') := fun A K w h1 h2 => (wanted_c r q (numsL r xs) A K w h1 ho hnl h2 hnb).mono fun e w' ⟨A', K', h3, h4, _, h5⟩ => ⟨_, hwe ▸ h3, hwe ▸ h4, h5⟩
  obtain ⟨C, hC⟩ : ∃ C, wantW r (countL xs xs.length) = C := ⟨_, rfl⟩
  rw [hC] at hs hoc hne H50
  have hrm := rmOf_ok hoc (check_of hoc) hne
  have HOC := Lib.hid hoc
  have hf := (least_eq hoc hrm).1 hs
  obtain ⟨y, hM⟩ : ∃ y, (leastRF C (othersN (rmOf C)).toNat).1 = y := ⟨_, rfl⟩
  have H62 : Hid (∀ (Q : CA) (A : Option Addr) (K : Nat) (w : World), CopAt w w.heap.size C Q → TruthsAt w w.heap.size A (truthsR C) → Calls Tryz.prog 62 #[copV C Q, .slice A (truthsR C).length K] w fun e w' => ∃ A K, e = .returned (.tuple #[.slice A y.length K, .bool false]) ∧ IntsAt w' w'.heap.size A y ∧ Below w.heap.size w w') := fun Q A K w h1 h2 => by
    have h3 := rleast_c C Q A K w hoc hrm h1 h2
    rw [hf, hM] at h3
    exact h3
  clear hq hx hp hpa ht he hsr hti hsm ho hre har hcb hr hcn hoc hne hnl hnb hwe hC hrm hf hM hs
  go_enter Tryz.func10, Tryz.ntmps10
  go_upto_region 10 with (first | (go_at_call 50; go_loud (refine (H50.out A3 K3 _ (HQ.out.up HB4.out) HI3.out).mono ?_; rintro e w5_ ⟨Q, rfl, hcq, hb⟩; have HB5 : Hid (Below w.heap.size w w5_) := bl_tr HB4.out hb; have HX5_0 : Hid (Box w5_ w.heap.size (roomCs r q)) := HX4_0.out.bl (by simp) hb; have HRq1 : Hid (RoomAt w5_ w5_.heap.size r q1) := HRq1.out.up (bl_tr (Below.refl _ _) hb); have HI1 : Hid (IntsAt w5_ w5_.heap.size A1 xs) := HI1.out.up (bl_tr (Below.refl _ _) hb); have HI3 : Hid (IntsAt w5_ w5_.heap.size A3 (numsL r xs)) := HI3.out.up (bl_tr (Below.refl _ _) hb); clear hbx4_0; have hbx5_0 := HX5_0.out; unfold Box roomCs at hbx5_0; have HCQ : Hid (CopAt w5_ w5_.heap.size C Q) := hcq; clear hcq hb)) | (go_at_call 27; go_loud (refine (H27.out _ (HQ.out.up HB3.out) (HX.out.up HB3.out)).mono ?_; rintro e w4_ ⟨A3, K3, rfl, hi, hb⟩; have HB4 : Hid (Below w.heap.size w w4_) := bl_tr HB3.out hb; have HX4_0 : Hid (Box w4_ w.heap.size (roomCs r q)) := HX3_0.out.bl (by simp) hb; have HRq1 : Hid (RoomAt w4_ w4_.heap.size r q1) := HRq1.out.up (bl_tr (Below.refl _ _) hb); have HI1 : Hid (IntsAt w4_ w4_.heap.size A1 xs) := HI1.out.up (bl_tr (Below.refl _ _) hb); clear hbx3_0; have hbx4_0 := HX4_0.out; unfold Box roomCs at hbx4_0; have HI3 : Hid (IntsAt w4_ w4_.heap.size A3 (numsL r xs)) := hi; clear hi hb)) | (go_at_call 61; go_loud (refine (H61.out q1 A1 K1 _ HRq1.out HI1.out).mono ?_; rintro e w3_ ⟨rfl, hb⟩; have HB3 : Hid (Below w.heap.size w w3_) := bl_tr HB2.out hb; have HX3_0 : Hid (Box w3_ w.heap.size (roomCs r q)) := HX2_0.out.bl (by simp) hb; have HRq1 : Hid (RoomAt w3_ w3_.heap.size r q1) := HRq1.out.up (bl_tr (Below.refl _ _) hb); have HI1 : Hid (IntsAt w3_ w3_.heap.size A1 xs) := HI1.out.up (bl_tr (Below.refl _ _) hb); clear hbx2_0; have hbx3_0 := HX3_0.out; unfold Box roomCs at hbx3_0; clear hb)) | (have hz := HB1; clear hz; go_at_call 26; go_loud (refine (list_c xs a c _ (by omega) (HX.out.up HB1.out) HPA.out).mono ?_; rintro e w2_ ⟨A1, K1, rfl, hi, hb⟩; have HB2 : Hid (Below w.heap.size w w2_) := bl_tr HB1.out hb; have HX2_0 : Hid (Box w2_ w.heap.size (roomCs r q)) := HX1_0.out.bl (by simp) hb; have HRq1 : Hid (RoomAt w2_ w2_.heap.size r q1) := HRq1.out.up (bl_tr (Below.refl _ _) hb); clear hbx1_0; have hbx2_0 := HX2_0.out; unfold Box roomCs at hbx2_0; have HI1 : Hid (IntsAt w2_ w2_.heap.size A1 xs) := hi; clear hi hb)) | (have hz := HB0; clear hz; go_at_call 25; go_loud (refine (room25_c r q _ (HQ.out.up HB0.out) HP.out HTI.out (by omega)).mono ?_; rintro e w1_ ⟨q1, rfl, hq1, hb⟩; have HB1 : Hid (Below w.heap.size w w1_) := bl_tr HB0.out hb; have HX1_0 : Hid (Box w1_ w.heap.size (roomCs r q)) := HX0_0.out.bl (by simp) hb; clear hbx0_0; have hbx1_0 := HX1_0.out; unfold Box roomCs at hbx1_0; have HRq1 : Hid (RoomAt w1_ w1_.heap.size r q1) := hq1; clear hq1 hb)) | (go_at_call 32; go_loud (refine (HT.out _ (HQ.out.up (bl_al (Below.refl w.heap.size w) _))).mono ?_; rintro e w0_ ⟨rfl, hb⟩; have HB0 : Hid (Below w.heap.size w w0_) := bl_tr (bl_al (Below.refl w.heap.size w) _) hb; have HX0_0 : Hid (Box w0_ w.heap.size (roomCs r q)) := (Box.new w (roomCs r q) 31 (0, 0)).bl (by simp) hb; have hbx0_0 := HX0_0.out; unfold Box roomCs at hbx0_0; clear hb)))
  generalize hW9 : World.alloc w5_ _ = w9z_
  have HB9z : Hid (Below w.heap.size w w9z_) := by rw [← hW9]; exact bl_al HB5.out _
  have HXC : Hid (Box w9z_ w5_.heap.size (copCs C Q)) := by rw [← hW9]; exact Box.new _ _ 28 (0, 0)
  have HXR : Hid (Box w9z_ w.heap.size (roomCs r q)) := by rw [← hW9]; exact HX5_0.out.al (by simp) _
  have HRq1 : Hid (RoomAt w9z_ w9z_.heap.size r q1) := by rw [← hW9]; exact HRq1.out.up (bl_al (Below.refl _ _) _)
  have HI1 : Hid (IntsAt w9z_ w9z_.heap.size A1 xs) := by rw [← hW9]; exact HI1.out.up (bl_al (Below.refl _ _) _)
  have HI3 : Hid (IntsAt w9z_ w9z_.heap.size A3 (numsL r xs)) := by rw [← hW9]; exact HI3.out.up (bl_al (Below.refl _ _) _)
  have HCQ : Hid (CopAt w9z_ w9z_.heap.size C Q) := by rw [← hW9]; exact HCQ.out.up (bl_al (Below.refl _ _) _)
  clear hW9 hbx5_0
  have hbx := HXC.out
  have k0 : w9z_.cell? ⟨w5_.heap.size, 0, none⟩ = some (.int .i64 C.last) := hbx 0
  have k1 : w9z_.cell? ⟨w5_.heap.size, 1, none⟩ = some (.int .i64 C.start) := hbx 1
  have k2 : w9z_.cell? ⟨w5_.heap.size, 2, none⟩ = some (.int .i64 C.most) := hbx 2
  have k3 : w9z_.cell? ⟨w5_.heap.size, 3, none⟩ = some (.int .i64 C.per) := hbx 3
  have k4 : w9z_.cell? ⟨w5_.heap.size, 4, none⟩ = some (.int .i64 C.shovels) := hbx 4
  have k5 : w9z_.cell? ⟨w5_.heap.size, 5, none⟩ = some (.slice Q.a1 C.coal.length Q.c1) := hbx 5
  have k6 : w9z_.cell? ⟨w5_.heap.size, 6, none⟩ = some (.slice Q.a2 C.want.length Q.c2) := hbx 6
  have k7 : w9z_.cell? ⟨w5_.heap.size, 7, none⟩ = some (.int .i64 C.hlo) := hbx 7
  have k8 : w9z_.cell? ⟨w5_.heap.size, 8, none⟩ = some (.int .i64 C.hhi) := hbx 8
  have k9 : w9z_.cell? ⟨w5_.heap.size, 9, none⟩ = some (.slice Q.a3 C.loss.length Q.c3) := hbx 9
  have k10 : w9z_.cell? ⟨w5_.heap.size, 10, none⟩ = some (.slice Q.a4 C.rds.length Q.c4) := hbx 10
  clear hbx
  go_region_held3 (fun w' => w'.cell? ⟨w5_.heap.size, 0, none⟩ = some (.int .i64 C.last) ∧ w'.cell? ⟨w5_.heap.size, 1, none⟩ = some (.int .i64 C.start) ∧ w'.cell? ⟨w5_.heap.size, 2, none⟩ = some (.int .i64 C.most) ∧ w'.cell? ⟨w5_.heap.size, 3, none⟩ = some (.int .i64 C.per) ∧ w'.cell? ⟨w5_.heap.size, 4, none⟩ = some (.int .i64 C.shovels) ∧ w'.cell? ⟨w5_.heap.size, 5, none⟩ = some (.slice Q.a1 C.coal.length Q.c1) ∧ w'.cell? ⟨w5_.heap.size, 6, none⟩ = some (.slice Q.a2 C.want.length Q.c2) ∧ w'.cell? ⟨w5_.heap.size, 7, none⟩ = some (.int .i64 C.hlo) ∧ w'.cell? ⟨w5_.heap.size, 8, none⟩ = some (.int .i64 C.hhi) ∧ w'.cell? ⟨w5_.heap.size, 9, none⟩ = some (.slice Q.a3 C.loss.length Q.c3) ∧ w'.cell? ⟨w5_.heap.size, 10, none⟩ = some (.slice Q.a4 C.rds.length Q.c4)) (first | assumption | go_keep) (first | (have hz := HR7; clear hz; go_at_call 62; refine (H62.out Q A6 K6 _ (HCQ.out.up (bl_tr (bl_dr (Below.refl _ _)) HR7.out)) HZ6.out).mono ?_; rintro e w8_ ⟨A7, K7, rfl, hi7, hb⟩; have HR8 := Lib.hid (bl_tr HR7.out hb); have HZ6 : Hid (TruthsAt w8_ w8_.heap.size A6 (truthsR C)) := HZ6.out.up hb; have hS8 : (fun w' => w'.cell? ⟨w5_.heap.size, 0, none⟩ = some (.int .i64 C.last) ∧ w'.cell? ⟨w5_.heap.size, 1, none⟩ = some (.int .i64 C.start) ∧ w'.cell? ⟨w5_.heap.size, 2, none⟩ = some (.int .i64 C.most) ∧ w'.cell? ⟨w5_.heap.size, 3, none⟩ = some (.int .i64 C.per) ∧ w'.cell? ⟨w5_.heap.size, 4, none⟩ = some (.int .i64 C.shovels) ∧ w'.cell? ⟨w5_.heap.size, 5, none⟩ = some (.slice Q.a1 C.coal.length Q.c1) ∧ w'.cell? ⟨w5_.heap.size, 6, none⟩ = some (.slice Q.a2 C.want.length Q.c2) ∧ w'.cell? ⟨w5_.heap.size, 7, none⟩ = some (.int .i64 C.hlo) ∧ w'.cell? ⟨w5_.heap.size, 8, none⟩ = some (.int .i64 C.hhi) ∧ w'.cell? ⟨w5_.heap.size, 9, none⟩ = some (.slice Q.a3 C.loss.length Q.c3) ∧ w'.cell? ⟨w5_.heap.size, 10, none⟩ = some (.slice Q.a4 C.rds.length Q.c4)) w8_ := ⟨cell_later HR8.out (w := w9z_.drew) k0, cell_later HR8.out (w := w9z_.drew) k1, cell_later HR8.out (w := w9z_.drew) k2, cell_later HR8.out (w := w9z_.drew) k3, cell_later HR8.out (w := w9z_.drew) k4, cell_later HR8.out (w := w9z_.drew) k5, cell_later HR8.out (w := w9z_.drew) k6, cell_later HR8.out (w := w9z_.drew) k7, cell_later HR8.out (w := w9z_.drew) k8, cell_later HR8.out (w := w9z_.drew) k9, cell_later HR8.out (w := w9z_.drew) k10⟩; dsimp only at hS8; have HI7 : Hid (IntsAt w8_ w8_.heap.size A7 y) := hi7; clear hi7 hb hS7) | (go_at_call 36; refine (rtruths_c C Q _ (HCQ.out.up (bl_dr (Below.refl _ _))) HOC.out).mono ?_; rintro e w7_ ⟨A6, K6, rfl, hz6, hb⟩; have HR7 := Lib.hid hb; have hS7 : (fun w' => w'.cell? ⟨w5_.heap.size, 0, none⟩ = some (.int .i64 C.last) ∧ w'.cell? ⟨w5_.heap.size, 1, none⟩ = some (.int .i64 C.start) ∧ w'.cell? ⟨w5_.heap.size, 2, none⟩ = some (.int .i64 C.most) ∧ w'.cell? ⟨w5_.heap.size, 3, none⟩ = some (.int .i64 C.per) ∧ w'.cell? ⟨w5_.heap.size, 4, none⟩ = some (.int .i64 C.shovels) ∧ w'.cell? ⟨w5_.heap.size, 5, none⟩ = some (.slice Q.a1 C.coal.length Q.c1) ∧ w'.cell? ⟨w5_.heap.size, 6, none⟩ = some (.slice Q.a2 C.want.length Q.c2) ∧ w'.cell? ⟨w5_.heap.size, 7, none⟩ = some (.int .i64 C.hlo) ∧ w'.cell? ⟨w5_.heap.size, 8, none⟩ = some (.int .i64 C.hhi) ∧ w'.cell? ⟨w5_.heap.size, 9, none⟩ = some (.slice Q.a3 C.loss.length Q.c3) ∧ w'.cell? ⟨w5_.heap.size, 10, none⟩ = some (.slice Q.a4 C.rds.length Q.c4)) w7_ := ⟨cell_later HR7.out (w := w9z_.drew) k0, cell_later HR7.out (w := w9z_.drew) k1, cell_later HR7.out (w := w9z_.drew) k2, cell_later HR7.out (w := w9z_.drew) k3, cell_later HR7.out (w := w9z_.drew) k4, cell_later HR7.out (w := w9z_.drew) k5, cell_later HR7.out (w := w9z_.drew) k6, cell_later HR7.out (w := w9z_.drew) k7, cell_later HR7.out (w := w9z_.drew) k8, cell_later HR7.out (w := w9z_.drew) k9, cell_later HR7.out (w := w9z_.drew) k10⟩; dsimp only at hS7; have HZ6 : Hid (TruthsAt w7_ w7_.heap.size A6 (truthsR C)) := hz6; clear hz6 hb))
  have HB8z : Hid (Below w.heap.size w w8_) := bl_tr (bl_dr HB9z.out) HR8.out
  have HX8_0 : Hid (Box w8_ w5_.heap.size (copCs C Q)) := Box.bl (w := w9z_.drew) (fun o => HXC.out o) (by simp) HR8.out
  have HRq1 : Hid (RoomAt w8_ w8_.heap.size r q1) := HRq1.out.up (bl_tr (bl_dr (Below.refl _ _)) HR8.out)
  have HI1 : Hid (IntsAt w8_ w8_.heap.size A1 xs) := HI1.out.up (bl_tr (bl_dr (Below.refl _ _)) HR8.out)
  have HI3 : Hid (IntsAt w8_ w8_.heap.size A3 (numsL r xs)) := HI3.out.up (bl_tr (bl_dr (Below.refl _ _)) HR8.out)
  have HCQ : Hid (CopAt w8_ w8_.heap.size C Q) := HCQ.out.up (bl_tr (bl_dr (Below.refl _ _)) HR8.out)
  clear hS8 k0 k1 k2 k3 k4 k5 k6 k7 k8 k9 k10
  go_wp2_with (first | (go_at_call 23; go_loud (refine (awake_c _).mono ?_; rintro e w9_ ⟨rfl, hb⟩; have HB9 : Hid (Below w.heap.size w w9_) := bl_tr HB8z.out hb; have HX9_0 : Hid (Box w9_ w5_.heap.size (copCs C Q)) := HX8_0.out.bl (by simp) hb; have HRq1 : Hid (RoomAt w9_ w9_.heap.size r q1) := HRq1.out.up (bl_tr (Below.refl _ _) hb); have HI1 : Hid (IntsAt w9_ w9_.heap.size A1 xs) := HI1.out.up (bl_tr (Below.refl _ _) hb); have HI3 : Hid (IntsAt w9_ w9_.heap.size A3 (numsL r xs)) := HI3.out.up (bl_tr (Below.refl _ _) hb); have HCQ : Hid (CopAt w9_ w9_.heap.size C Q) := HCQ.out.up (bl_tr (Below.refl _ _) hb); have HZ6 : Hid (TruthsAt w9_ w9_.heap.size A6 (truthsR C)) := HZ6.out.up (bl_tr (Below.refl _ _) hb); have HI7 : Hid (IntsAt w9_ w9_.heap.size A7 y) := HI7.out.up (bl_tr (Below.refl _ _) hb); clear hb)))
  go_ret
  exact ⟨rfl, HB9.out⟩
set_option maxRecDepth 100000 in
set_option maxHeartbeats 8000000 in
theorem bc_some (r : Rm) (q : RA) (xs : List Int) (a : Option Addr) (c : Nat) (w : World) (hq : RoomAt w w.heap.size r q) (hx : IntsAt w w.heap.size a xs) (hp : CPl r.cop q.q) (hpa : Pl a xs.length c) (ht : ThinB r = true) (hl : xs.length ≤ 30) (he : planErr r xs true = 0) (hr : r.cop.rds = []) (y : List Int) (hs : leastO (wantW r (countL xs xs.length)) = some y) : Calls Tryz.prog 10 #[roomV r q, .slice a xs.length c] w fun e w' => e = .returned (.bool true) ∧ Below w.heap.size w w' := by
  obtain ⟨hsr, hti, hsm, l1, l2, l3, l4, l5⟩ := short_small (thin_short ht)
  have HQ := Lib.hid hq
  have HX := Lib.hid hx
  have HP := Lib.hid hp
  have HPA := Lib.hid hpa
  have HTI := Lib.hid hti
  have HSR := Lib.hid hsr
  have HT : Hid (∀ w, RoomAt w w.heap.size r q → Calls Tryz.prog 32 #[roomV r q] w fun e w' => e = .returned (.bool true) ∧ Below w.heap.size w w') := fun w h => ht ▸ thin_c r q w h
  have hl2 : ¬ (30 : Int) < (xs.length : Int) := by omega
  have hl3 : decide ((30 : Int) < (xs.length : Int)) = false := decide_eq_false hl2
  obtain ⟨hre, har, -, hcb⟩ := planErr_ok he
  have ho := room_ok hre
  have hn5 : xs.length ≤ 5 := by rw [(are_in ho har).1]; exact ho.n5
  have H27 : Hid (∀ (w : World), RoomAt w w.heap.size r q → IntsAt w w.heap.size a xs → Calls Tryz.prog 27 #[roomV r q, .slice a xs.length c, .bool true] w fun e w' => ∃ A K, e = .returned (.tuple #[.slice A (numsL r xs).length K, .int .i64 0]) ∧ IntsAt w' w'.heap.size A (numsL r xs) ∧ Below w.heap.size w w') := fun w h1 h2 => (planned27_y r q xs a c true w h1 hsr (by omega) h2 he).mono fun e w' ⟨⟨A, K, h3, h4⟩, h5⟩ => ⟨A, K, h3, h4, h5⟩
  have hr0 : ¬ (0 : Int) < (r.cop.rds.length : Int) := by rw [hr]; simp
  have hr1 : decide ((0 : Int) < (r.cop.rds.length : Int)) = false := decide_eq_false hr0
  have hcn : ∀ j, 0 ≤ nth (countL xs xs.length) j := fun j => (cnt_bd hre har j).1
  have hoc := wantW_ok ho hcn hcb
  have hne := wantW_ne ho hr hcn hcb
  have H61 : Hid (∀ (q : RA) (A : Option Addr) (K : Nat) (w : World), RoomAt w w.heap.size r q → IntsAt w w.heap.size A xs → Calls Tryz.prog 61 #[roomV r q, .slice A xs.length K] w fun e w' => ∃ A' K', e = .returned (.tuple #[.slice A' y.length K', .int .i64 0]) ∧ IntsAt w' w'.heap.size A' y ∧ Below w.heap.size w w') := fun q A K w h1 h2 => (bcoal_c r q xs A K w h1 (by omega) h2 he hr).mono fun e w' ⟨h3, h4⟩ => by
    rcases h4 with ⟨h5, h6⟩ | ⟨y', A', K', h5, h6, h7⟩
    · rw [hs] at h5; cases h5
    · rw [hs] at h5; cases h5; exact ⟨A', K', h6, h7, h3⟩
  have hnl : ((numsL r xs).length : Int) = r.cop.last + 1 := by have := ho.cop.l0; rw [numsL_len]; omega
  have hnb : ∀ j, 0 ≤ nth (numsL r xs) j ∧ nth (numsL r xs) j ≤ 100 := fun j => by have := numsL_bd r xs j; omega
  have hwe := wantW_nums ho.cop.l4 xs
  have H50 : Hid (∀ (A : Option Addr) (K : Nat) (w : World), RoomAt w w.heap.size r q → IntsAt w w.heap.size A (numsL r xs) → Calls Tryz.prog 50 #[roomV r q, .slice A (numsL r xs).length K] w fun e w' => ∃ Q, e = .returned (copV (wantW r (countL xs xs.length)) Q) ∧ CopAt w' w'.heap.size (wantW r (countL xs xs.length)) Q ∧ Below w.heap.size w w') := fun A K w h1 h2 => (wanted_c r q (numsL r xs) A K w h1 ho hnl h2 hnb).mono fun e w' ⟨A', K', h3, h4, _, h5⟩ => ⟨_, hwe ▸ h3, hwe ▸ h4, h5⟩
  obtain ⟨C, hC⟩ : ∃ C, wantW r (countL xs xs.length) = C := ⟨_, rfl⟩
  rw [hC] at hs hoc hne H50
  have hrm := rmOf_ok hoc (check_of hoc) hne
  have HOC := Lib.hid hoc
  obtain ⟨hf, hM⟩ := (least_eq hoc hrm).2 y hs
  have hyl : y.length ≤ 100 := by have := (least_some hoc hs).1; have := hoc.l4; omega
  have H62 : Hid (∀ (Q : CA) (A : Option Addr) (K : Nat) (w : World), CopAt w w.heap.size C Q → TruthsAt w w.heap.size A (truthsR C) → Calls Tryz.prog 62 #[copV C Q, .slice A (truthsR C).length K] w fun e w' => ∃ A K, e = .returned (.tuple #[.slice A y.length K, .bool true]) ∧ IntsAt w' w'.heap.size A y ∧ Below w.heap.size w w') := fun Q A K w h1 h2 => by
    have h3 := rleast_c C Q A K w hoc hrm h1 h2
    rw [hf, hM] at h3
    exact h3
  clear hq hx hp hpa ht he hsr hti hsm ho hre har hcb hr hcn hoc hne hnl hnb hwe hC hrm hf hM hs
  go_enter Tryz.func10, Tryz.ntmps10
  go_upto_region 10 with (first | (go_at_call 50; go_loud (refine (H50.out A3 K3 _ (HQ.out.up HB4.out) HI3.out).mono ?_; rintro e w5_ ⟨Q, rfl, hcq, hb⟩; have HB5 : Hid (Below w.heap.size w w5_) := bl_tr HB4.out hb; have HX5_0 : Hid (Box w5_ w.heap.size (roomCs r q)) := HX4_0.out.bl (by simp) hb; have HRq1 : Hid (RoomAt w5_ w5_.heap.size r q1) := HRq1.out.up (bl_tr (Below.refl _ _) hb); have HI1 : Hid (IntsAt w5_ w5_.heap.size A1 xs) := HI1.out.up (bl_tr (Below.refl _ _) hb); have HI2 : Hid (IntsAt w5_ w5_.heap.size A2 y) := HI2.out.up (bl_tr (Below.refl _ _) hb); have HI3 : Hid (IntsAt w5_ w5_.heap.size A3 (numsL r xs)) := HI3.out.up (bl_tr (Below.refl _ _) hb); clear hbx4_0; have hbx5_0 := HX5_0.out; unfold Box roomCs at hbx5_0; have HCQ : Hid (CopAt w5_ w5_.heap.size C Q) := hcq; clear hcq hb)) | (go_at_call 27; go_loud (refine (H27.out _ (HQ.out.up HB3.out) (HX.out.up HB3.out)).mono ?_; rintro e w4_ ⟨A3, K3, rfl, hi, hb⟩; have HB4 : Hid (Below w.heap.size w w4_) := bl_tr HB3.out hb; have HX4_0 : Hid (Box w4_ w.heap.size (roomCs r q)) := HX3_0.out.bl (by simp) hb; have HRq1 : Hid (RoomAt w4_ w4_.heap.size r q1) := HRq1.out.up (bl_tr (Below.refl _ _) hb); have HI1 : Hid (IntsAt w4_ w4_.heap.size A1 xs) := HI1.out.up (bl_tr (Below.refl _ _) hb); have HI2 : Hid (IntsAt w4_ w4_.heap.size A2 y) := HI2.out.up (bl_tr (Below.refl _ _) hb); clear hbx3_0; have hbx4_0 := HX4_0.out; unfold Box roomCs at hbx4_0; have HI3 : Hid (IntsAt w4_ w4_.heap.size A3 (numsL r xs)) := hi; clear hi hb)) | (go_at_call 61; go_loud (refine (H61.out q1 A1 K1 _ HRq1.out HI1.out).mono ?_; rintro e w3_ ⟨A2, K2, rfl, hi2, hb⟩; have HB3 : Hid (Below w.heap.size w w3_) := bl_tr HB2.out hb; have HX3_0 : Hid (Box w3_ w.heap.size (roomCs r q)) := HX2_0.out.bl (by simp) hb; have HRq1 : Hid (RoomAt w3_ w3_.heap.size r q1) := HRq1.out.up (bl_tr (Below.refl _ _) hb); have HI1 : Hid (IntsAt w3_ w3_.heap.size A1 xs) := HI1.out.up (bl_tr (Below.refl _ _) hb); clear hbx2_0; have hbx3_0 := HX3_0.out; unfold Box roomCs at hbx3_0; have HI2 : Hid (IntsAt w3_ w3_.heap.size A2 y) := hi2; clear hi2 hb)) | (have hz := HB1; clear hz; go_at_call 26; go_loud (refine (list_c xs a c _ (by omega) (HX.out.up HB1.out) HPA.out).mono ?_; rintro e w2_ ⟨A1, K1, rfl, hi, hb⟩; have HB2 : Hid (Below w.heap.size w w2_) := bl_tr HB1.out hb; have HX2_0 : Hid (Box w2_ w.heap.size (roomCs r q)) := HX1_0.out.bl (by simp) hb; have HRq1 : Hid (RoomAt w2_ w2_.heap.size r q1) := HRq1.out.up (bl_tr (Below.refl _ _) hb); clear hbx1_0; have hbx2_0 := HX2_0.out; unfold Box roomCs at hbx2_0; have HI1 : Hid (IntsAt w2_ w2_.heap.size A1 xs) := hi; clear hi hb)) | (have hz := HB0; clear hz; go_at_call 25; go_loud (refine (room25_c r q _ (HQ.out.up HB0.out) HP.out HTI.out (by omega)).mono ?_; rintro e w1_ ⟨q1, rfl, hq1, hb⟩; have HB1 : Hid (Below w.heap.size w w1_) := bl_tr HB0.out hb; have HX1_0 : Hid (Box w1_ w.heap.size (roomCs r q)) := HX0_0.out.bl (by simp) hb; clear hbx0_0; have hbx1_0 := HX1_0.out; unfold Box roomCs at hbx1_0; have HRq1 : Hid (RoomAt w1_ w1_.heap.size r q1) := hq1; clear hq1 hb)) | (go_at_call 32; go_loud (refine (HT.out _ (HQ.out.up (bl_al (Below.refl w.heap.size w) _))).mono ?_; rintro e w0_ ⟨rfl, hb⟩; have HB0 : Hid (Below w.heap.size w w0_) := bl_tr (bl_al (Below.refl w.heap.size w) _) hb; have HX0_0 : Hid (Box w0_ w.heap.size (roomCs r q)) := (Box.new w (roomCs r q) 31 (0, 0)).bl (by simp) hb; have hbx0_0 := HX0_0.out; unfold Box roomCs at hbx0_0; clear hb)))
  generalize hW9 : World.alloc w5_ _ = w9z_
  have HB9z : Hid (Below w.heap.size w w9z_) := by rw [← hW9]; exact bl_al HB5.out _
  have HXC : Hid (Box w9z_ w5_.heap.size (copCs C Q)) := by rw [← hW9]; exact Box.new _ _ 28 (0, 0)
  have HXR : Hid (Box w9z_ w.heap.size (roomCs r q)) := by rw [← hW9]; exact HX5_0.out.al (by simp) _
  have HRq1 : Hid (RoomAt w9z_ w9z_.heap.size r q1) := by rw [← hW9]; exact HRq1.out.up (bl_al (Below.refl _ _) _)
  have HI1 : Hid (IntsAt w9z_ w9z_.heap.size A1 xs) := by rw [← hW9]; exact HI1.out.up (bl_al (Below.refl _ _) _)
  have HI2 : Hid (IntsAt w9z_ w9z_.heap.size A2 y) := by rw [← hW9]; exact HI2.out.up (bl_al (Below.refl _ _) _)
  have HI3 : Hid (IntsAt w9z_ w9z_.heap.size A3 (numsL r xs)) := by rw [← hW9]; exact HI3.out.up (bl_al (Below.refl _ _) _)
  have HCQ : Hid (CopAt w9z_ w9z_.heap.size C Q) := by rw [← hW9]; exact HCQ.out.up (bl_al (Below.refl _ _) _)
  clear hW9 hbx5_0
  have hbx := HXC.out
  have k0 : w9z_.cell? ⟨w5_.heap.size, 0, none⟩ = some (.int .i64 C.last) := hbx 0
  have k1 : w9z_.cell? ⟨w5_.heap.size, 1, none⟩ = some (.int .i64 C.start) := hbx 1
  have k2 : w9z_.cell? ⟨w5_.heap.size, 2, none⟩ = some (.int .i64 C.most) := hbx 2
  have k3 : w9z_.cell? ⟨w5_.heap.size, 3, none⟩ = some (.int .i64 C.per) := hbx 3
  have k4 : w9z_.cell? ⟨w5_.heap.size, 4, none⟩ = some (.int .i64 C.shovels) := hbx 4
  have k5 : w9z_.cell? ⟨w5_.heap.size, 5, none⟩ = some (.slice Q.a1 C.coal.length Q.c1) := hbx 5
  have k6 : w9z_.cell? ⟨w5_.heap.size, 6, none⟩ = some (.slice Q.a2 C.want.length Q.c2) := hbx 6
  have k7 : w9z_.cell? ⟨w5_.heap.size, 7, none⟩ = some (.int .i64 C.hlo) := hbx 7
  have k8 : w9z_.cell? ⟨w5_.heap.size, 8, none⟩ = some (.int .i64 C.hhi) := hbx 8
  have k9 : w9z_.cell? ⟨w5_.heap.size, 9, none⟩ = some (.slice Q.a3 C.loss.length Q.c3) := hbx 9
  have k10 : w9z_.cell? ⟨w5_.heap.size, 10, none⟩ = some (.slice Q.a4 C.rds.length Q.c4) := hbx 10
  clear hbx
  go_region_held3 (fun w' => w'.cell? ⟨w5_.heap.size, 0, none⟩ = some (.int .i64 C.last) ∧ w'.cell? ⟨w5_.heap.size, 1, none⟩ = some (.int .i64 C.start) ∧ w'.cell? ⟨w5_.heap.size, 2, none⟩ = some (.int .i64 C.most) ∧ w'.cell? ⟨w5_.heap.size, 3, none⟩ = some (.int .i64 C.per) ∧ w'.cell? ⟨w5_.heap.size, 4, none⟩ = some (.int .i64 C.shovels) ∧ w'.cell? ⟨w5_.heap.size, 5, none⟩ = some (.slice Q.a1 C.coal.length Q.c1) ∧ w'.cell? ⟨w5_.heap.size, 6, none⟩ = some (.slice Q.a2 C.want.length Q.c2) ∧ w'.cell? ⟨w5_.heap.size, 7, none⟩ = some (.int .i64 C.hlo) ∧ w'.cell? ⟨w5_.heap.size, 8, none⟩ = some (.int .i64 C.hhi) ∧ w'.cell? ⟨w5_.heap.size, 9, none⟩ = some (.slice Q.a3 C.loss.length Q.c3) ∧ w'.cell? ⟨w5_.heap.size, 10, none⟩ = some (.slice Q.a4 C.rds.length Q.c4)) (first | assumption | go_keep) (first | (have hz := HR7; clear hz; go_at_call 62; refine (H62.out Q A6 K6 _ (HCQ.out.up (bl_tr (bl_dr (Below.refl _ _)) HR7.out)) HZ6.out).mono ?_; rintro e w8_ ⟨A7, K7, rfl, hi7, hb⟩; have HR8 := Lib.hid (bl_tr HR7.out hb); have HZ6 : Hid (TruthsAt w8_ w8_.heap.size A6 (truthsR C)) := HZ6.out.up hb; have hS8 : (fun w' => w'.cell? ⟨w5_.heap.size, 0, none⟩ = some (.int .i64 C.last) ∧ w'.cell? ⟨w5_.heap.size, 1, none⟩ = some (.int .i64 C.start) ∧ w'.cell? ⟨w5_.heap.size, 2, none⟩ = some (.int .i64 C.most) ∧ w'.cell? ⟨w5_.heap.size, 3, none⟩ = some (.int .i64 C.per) ∧ w'.cell? ⟨w5_.heap.size, 4, none⟩ = some (.int .i64 C.shovels) ∧ w'.cell? ⟨w5_.heap.size, 5, none⟩ = some (.slice Q.a1 C.coal.length Q.c1) ∧ w'.cell? ⟨w5_.heap.size, 6, none⟩ = some (.slice Q.a2 C.want.length Q.c2) ∧ w'.cell? ⟨w5_.heap.size, 7, none⟩ = some (.int .i64 C.hlo) ∧ w'.cell? ⟨w5_.heap.size, 8, none⟩ = some (.int .i64 C.hhi) ∧ w'.cell? ⟨w5_.heap.size, 9, none⟩ = some (.slice Q.a3 C.loss.length Q.c3) ∧ w'.cell? ⟨w5_.heap.size, 10, none⟩ = some (.slice Q.a4 C.rds.length Q.c4)) w8_ := ⟨cell_later HR8.out (w := w9z_.drew) k0, cell_later HR8.out (w := w9z_.drew) k1, cell_later HR8.out (w := w9z_.drew) k2, cell_later HR8.out (w := w9z_.drew) k3, cell_later HR8.out (w := w9z_.drew) k4, cell_later HR8.out (w := w9z_.drew) k5, cell_later HR8.out (w := w9z_.drew) k6, cell_later HR8.out (w := w9z_.drew) k7, cell_later HR8.out (w := w9z_.drew) k8, cell_later HR8.out (w := w9z_.drew) k9, cell_later HR8.out (w := w9z_.drew) k10⟩; dsimp only at hS8; have HI7 : Hid (IntsAt w8_ w8_.heap.size A7 y) := hi7; clear hi7 hb hS7) | (go_at_call 36; refine (rtruths_c C Q _ (HCQ.out.up (bl_dr (Below.refl _ _))) HOC.out).mono ?_; rintro e w7_ ⟨A6, K6, rfl, hz6, hb⟩; have HR7 := Lib.hid hb; have hS7 : (fun w' => w'.cell? ⟨w5_.heap.size, 0, none⟩ = some (.int .i64 C.last) ∧ w'.cell? ⟨w5_.heap.size, 1, none⟩ = some (.int .i64 C.start) ∧ w'.cell? ⟨w5_.heap.size, 2, none⟩ = some (.int .i64 C.most) ∧ w'.cell? ⟨w5_.heap.size, 3, none⟩ = some (.int .i64 C.per) ∧ w'.cell? ⟨w5_.heap.size, 4, none⟩ = some (.int .i64 C.shovels) ∧ w'.cell? ⟨w5_.heap.size, 5, none⟩ = some (.slice Q.a1 C.coal.length Q.c1) ∧ w'.cell? ⟨w5_.heap.size, 6, none⟩ = some (.slice Q.a2 C.want.length Q.c2) ∧ w'.cell? ⟨w5_.heap.size, 7, none⟩ = some (.int .i64 C.hlo) ∧ w'.cell? ⟨w5_.heap.size, 8, none⟩ = some (.int .i64 C.hhi) ∧ w'.cell? ⟨w5_.heap.size, 9, none⟩ = some (.slice Q.a3 C.loss.length Q.c3) ∧ w'.cell? ⟨w5_.heap.size, 10, none⟩ = some (.slice Q.a4 C.rds.length Q.c4)) w7_ := ⟨cell_later HR7.out (w := w9z_.drew) k0, cell_later HR7.out (w := w9z_.drew) k1, cell_later HR7.out (w := w9z_.drew) k2, cell_later HR7.out (w := w9z_.drew) k3, cell_later HR7.out (w := w9z_.drew) k4, cell_later HR7.out (w := w9z_.drew) k5, cell_later HR7.out (w := w9z_.drew) k6, cell_later HR7.out (w := w9z_.drew) k7, cell_later HR7.out (w := w9z_.drew) k8, cell_later HR7.out (w := w9z_.drew) k9, cell_later HR7.out (w := w9z_.drew) k10⟩; dsimp only at hS7; have HZ6 : Hid (TruthsAt w7_ w7_.heap.size A6 (truthsR C)) := hz6; clear hz6 hb))
  have HB8z : Hid (Below w.heap.size w w8_) := bl_tr (bl_dr HB9z.out) HR8.out
  have HX8_0 : Hid (Box w8_ w5_.heap.size (copCs C Q)) := Box.bl (w := w9z_.drew) (fun o => HXC.out o) (by simp) HR8.out
  have HRq1 : Hid (RoomAt w8_ w8_.heap.size r q1) := HRq1.out.up (bl_tr (bl_dr (Below.refl _ _)) HR8.out)
  have HI1 : Hid (IntsAt w8_ w8_.heap.size A1 xs) := HI1.out.up (bl_tr (bl_dr (Below.refl _ _)) HR8.out)
  have HI2 : Hid (IntsAt w8_ w8_.heap.size A2 y) := HI2.out.up (bl_tr (bl_dr (Below.refl _ _)) HR8.out)
  have HI3 : Hid (IntsAt w8_ w8_.heap.size A3 (numsL r xs)) := HI3.out.up (bl_tr (bl_dr (Below.refl _ _)) HR8.out)
  have HCQ : Hid (CopAt w8_ w8_.heap.size C Q) := HCQ.out.up (bl_tr (bl_dr (Below.refl _ _)) HR8.out)
  clear hS8 k0 k1 k2 k3 k4 k5 k6 k7 k8 k9 k10
  go_wp2_with (first | (go_at_call 23; go_loud (refine (awake_c _).mono ?_; rintro e w10_ ⟨rfl, hb⟩; have HB10 : Hid (Below w.heap.size w w10_) := bl_tr HB9.out hb; have HX10_0 : Hid (Box w10_ w5_.heap.size (copCs C Q)) := HX9_0.out.bl (by simp) hb; have HRq1 : Hid (RoomAt w10_ w10_.heap.size r q1) := HRq1.out.up (bl_tr (Below.refl _ _) hb); have HI1 : Hid (IntsAt w10_ w10_.heap.size A1 xs) := HI1.out.up (bl_tr (Below.refl _ _) hb); have HI2 : Hid (IntsAt w10_ w10_.heap.size A2 y) := HI2.out.up (bl_tr (Below.refl _ _) hb); have HI3 : Hid (IntsAt w10_ w10_.heap.size A3 (numsL r xs)) := HI3.out.up (bl_tr (Below.refl _ _) hb); have HCQ : Hid (CopAt w10_ w10_.heap.size C Q) := HCQ.out.up (bl_tr (Below.refl _ _) hb); have HZ6 : Hid (TruthsAt w10_ w10_.heap.size A6 (truthsR C)) := HZ6.out.up (bl_tr (Below.refl _ _) hb); have HI7 : Hid (IntsAt w10_ w10_.heap.size A7 y) := HI7.out.up (bl_tr (Below.refl _ _) hb); clear hb)) | (go_at_call 30; go_loud (refine (ints_t y A2 K2 A7 K7 _ HI2.out HI7.out (by omega)).mono ?_; rintro e w9_ ⟨rfl, hb⟩; have HB9 : Hid (Below w.heap.size w w9_) := bl_tr HB8z.out hb; have HX9_0 : Hid (Box w9_ w5_.heap.size (copCs C Q)) := HX8_0.out.bl (by simp) hb; have HRq1 : Hid (RoomAt w9_ w9_.heap.size r q1) := HRq1.out.up (bl_tr (Below.refl _ _) hb); have HI1 : Hid (IntsAt w9_ w9_.heap.size A1 xs) := HI1.out.up (bl_tr (Below.refl _ _) hb); have HI2 : Hid (IntsAt w9_ w9_.heap.size A2 y) := HI2.out.up (bl_tr (Below.refl _ _) hb); have HI3 : Hid (IntsAt w9_ w9_.heap.size A3 (numsL r xs)) := HI3.out.up (bl_tr (Below.refl _ _) hb); have HCQ : Hid (CopAt w9_ w9_.heap.size C Q) := HCQ.out.up (bl_tr (Below.refl _ _) hb); have HZ6 : Hid (TruthsAt w9_ w9_.heap.size A6 (truthsR C)) := HZ6.out.up (bl_tr (Below.refl _ _) hb); have HI7 : Hid (IntsAt w9_ w9_.heap.size A7 y) := HI7.out.up (bl_tr (Below.refl _ _) hb); clear hb)))
  go_ret
  exact ⟨rfl, HB10.out⟩
theorem bathCoal_c (r : Rm) (q : RA) (xs : List Int) (a : Option Addr) (c : Nat) (w : World) (hq : RoomAt w w.heap.size r q) (hp : CPl r.cop q.q) (hx : IntsAt w w.heap.size a xs) (hpa : Pl a xs.length c) : Calls Tryz.prog 10 #[roomV r q, .slice a xs.length c] w fun e w' => e = .returned (.bool true) ∧ Below w.heap.size w w' := by
  cases ht : ThinB r with
  | false => exact bc_thick r q xs a c w hq hx ht
  | true =>
    by_cases hl : 30 < xs.length
    · exact bc_long r q xs a c w hq hx ht hl
    · by_cases he : planErr r xs true = 0
      · by_cases hr : r.cop.rds = []
        · cases hs : leastO (wantW r (countL xs xs.length)) with
          | none => exact bc_none r q xs a c w hq hx hp hpa ht (by omega) he hr hs
          | some y => exact bc_some r q xs a c w hq hx hp hpa ht (by omega) he hr y hs
        · exact bc_rds r q xs a c w hq hx hp hpa ht (by omega) he hr
      · exact bc_err r q xs a c w hq hx hp hpa ht (by omega) he
end Go.Proofs.YtpgnplmjfhdncaaGreat
