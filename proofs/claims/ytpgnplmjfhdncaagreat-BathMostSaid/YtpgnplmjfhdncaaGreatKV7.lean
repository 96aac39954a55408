/- Reference: Most. -/
import Derived.Test.YtpgnplmjfhdncaaGreatKV6
namespace Go.Proofs.YtpgnplmjfhdncaaGreat
open Go.RowKit
set_option linter.unusedVariables false
theorem othersL_c (r : Rm) (q : RA) (m : Int) (w : World) (ho : RoomOk r) (hm0 : 0 ≤ m) (hm9 : m ≤ 100000) :
    Calls Tryz.prog 67 #[roomV r q, .int .i64 m] w fun e w' => ∃ A K, e = .returned (.slice A (otherL r m).length K) ∧ IntsAt w' w'.heap.size A (otherL r m) ∧ Below w.heap.size w w' :=
  (other_c r q m w ho hm0 hm9).mono fun e w' ⟨v, h1, h2, h3⟩ => by
    rw [← otherL_len r m] at h2
    obtain ⟨A, K, rfl⟩ := own_shape6 h2
    exact ⟨A, K, h1, own_ints' h2, h3⟩
/-- The best of the first numbers of baths, and whether there is one. -/
def mostRF (r : Rm) : Nat → List Int × Bool
  | 0 => ([], false)
  | n + 1 => if ((mostRF r n).2 = false ∨ sumN (mostRF r n).1 (mostRF r n).1.length < sumN (otherL r n) (otherL r n).length) ∧ sureB r (otherL r n) = true then (otherL r n, true) else mostRF r n
theorem mostRF_is (r : Rm) : ∀ n, (mostRF r n).1 = [] ∨ ∃ m : Nat, (mostRF r n).1 = otherL r m
  | 0 => .inl rfl
  | n + 1 => by
    rw [mostRF]
    split
    · exact .inr ⟨n, rfl⟩
    · exact mostRF_is r n
theorem mostRF_bd {r : Rm} (ho : RoomOk r) (n : Nat) : (mostRF r n).1.length ≤ 1000 ∧ ∀ j, 0 ≤ nth (mostRF r n).1 j ∧ nth (mostRF r n).1 j ≤ 100 := by
  rcases mostRF_is r n with h | ⟨m, h⟩
  · rw [h]; exact ⟨by simp, fun j => by rw [nth_out _ _ (by simp)]; omega⟩
  · rw [h]
    refine ⟨by rw [otherL_len]; have := ho.cop.l4; omega, fun j => ?_⟩
    have h1 := otherL_bd ho m j
    have h2 := ho.p5
    omega
set_option maxRecDepth 100000 in
set_option maxHeartbeats 8000000 in
theorem rmost_c (r : Rm) (q : RA) (at_ : Option Addr) (kt : Nat) (w : World) (ho : RoomOk r) (hq : RoomAt w w.heap.size r q) (hz : TruthsAt w w.heap.size at_ (truthsR r.cop)) :
    Calls Tryz.prog 43 #[roomV r q, .slice at_ (truthsR r.cop).length kt] w fun e w' => ∃ A K, e = .returned (.tuple #[.slice A (mostRF r (othersN r).toNat).1.length K, .bool (mostRF r (othersN r).toNat).2]) ∧ IntsAt w' w'.heap.size A (mostRF r (othersN r).toNat).1 ∧ Below w.heap.size w w' := by
  have HQ := Lib.hid hq
  have HZ := Lib.hid hz
  have HO := Lib.hid ho
  have hp0 := ho.p0
  have hp5 := ho.p5
  have hl0 := ho.cop.l0
  have hl4 := ho.cop.l4
  have hob : 1 ≤ othersN r ∧ othersN r ≤ 8000 := powN_bd (K := r.places + 1) (by omega) (by omega) _ (by omega)
  obtain ⟨N, hN⟩ : ∃ N : Nat, othersN r = N := ⟨(othersN r).toNat, by omega⟩
  have hNN : (othersN r).toNat = N := by omega
  have hN8 : N ≤ 8000 := by omega
  rw [hNN]
  have H68 : Hid (∀ w, Calls Tryz.prog 68 #[roomV r q] w fun e w' => e = .returned (.int .i64 N) ∧ Below w.heap.size w w') := fun w => hN ▸ others_c r q w ho
  clear hq hz ho hob hN hNN hp0 hp5 hl0 hl4
  go_enter Tryz.func43, Tryz.ntmps43
  go_wp2
  go_loopw [6, 7, 8] (fun b f i wr => ∃ (j : Nat) (A : Option Addr) (K : Nat), j ≤ N ∧ i = .int .i64 j ∧ f = .bool (mostRF r j).2 ∧ b = .slice A (mostRF r j).1.length K ∧ IntsAt wr wr.heap.size A (mostRF r j).1 ∧ Box wr w.heap.size (roomCs r q) ∧ Below w.heap.size w wr) (fun _ _ i _ => N - (intOf i).toNat)
  case atStart => exact ⟨0, none, 0, by omega, rfl, rfl, rfl, .inl rfl, Box.new _ _ _ _, bl_al (Below.refl _ _) _⟩
  case round =>
    obtain ⟨j, A, K, hj, rfl, rfl, rfl, hi, hbx, hb⟩ := hrel
    have HB := Lib.hid hb
    have HBX := Lib.hid hbx
    have HA := Lib.hid hi
    by_cases hlt : j < N
    · have hj1 : (j : Int) < (N : Int) := by omega
      have H67 : Hid (∀ w, Calls Tryz.prog 67 #[roomV r q, .int .i64 j] w fun e w' => ∃ A K, e = .returned (.slice A (otherL r j).length K) ∧ IntsAt w' w'.heap.size A (otherL r j) ∧ Below w.heap.size w w') := fun w => othersL_c r q j w HO.out (by omega) (by omega)
      have HS : Hid (mostRF r (j + 1) = if ((mostRF r j).2 = false ∨ sumN (mostRF r j).1 (mostRF r j).1.length < sumN (otherL r j) (otherL r j).length) ∧ sureB r (otherL r j) = true then (otherL r j, true) else mostRF r j) := rfl
      have hbd := mostRF_bd HO.out j
      have HSA : Hid (∀ (A : Option Addr) (K : Nat) (w : World), IntsAt w w.heap.size A (mostRF r j).1 → Calls Tryz.prog 60 #[.slice A (mostRF r j).1.length K] w fun e w' => e = .returned (.int .i64 (sumN (mostRF r j).1 (mostRF r j).1.length)) ∧ Below w.heap.size w w') := fun A K w h => rsum60_c _ A K w h hbd.2 hbd.1
      have hxl : ((otherL r j).length : Int) = r.cop.last + 1 := by have := HO.out.cop.l0; rw [otherL_len]; omega
      have hxb : ∀ i, 0 ≤ nth (otherL r j) i ∧ nth (otherL r j) i ≤ 100 := fun i => by have := otherL_bd HO.out j i; have := HO.out.p5; omega
      have HSX : Hid (∀ (A : Option Addr) (K : Nat) (w : World), IntsAt w w.heap.size A (otherL r j) → Calls Tryz.prog 60 #[.slice A (otherL r j).length K] w fun e w' => e = .returned (.int .i64 (sumN (otherL r j) (otherL r j).length)) ∧ Below w.heap.size w w') := fun A K w h => rsum60_c _ A K w h hxb (by have := HO.out.cop.l4; omega)
      have HSU : Hid (∀ (A : Option Addr) (K : Nat) (w : World), RoomAt w w.heap.size r q → TruthsAt w w.heap.size at_ (truthsR r.cop) → IntsAt w w.heap.size A (otherL r j) → Calls Tryz.prog 56 #[roomV r q, .slice at_ (truthsR r.cop).length kt, .slice A (otherL r j).length K] w fun e w' => e = .returned (.bool (sureB r (otherL r j))) ∧ Below w.heap.size w w') := fun A K w h1 h2 h3 => rsure_c r q _ A at_ K kt w HO.out hxl hxb h1 h3 h2
      clear hbd hxl hxb hlt
      obtain ⟨p, hp⟩ : ∃ p, mostRF r j = p := ⟨_, rfl⟩
      rw [hp] at HS HSA HA ⊢
      obtain ⟨x, hx⟩ : ∃ x, otherL r j = x := ⟨_, rfl⟩
      rw [hx] at HS HSX HSU H67
      obtain ⟨s1, hs1⟩ : ∃ s1, sumN p.1 p.1.length = s1 := ⟨_, rfl⟩
      obtain ⟨s2, hs2⟩ : ∃ s2, sumN x x.length = s2 := ⟨_, rfl⟩
      rw [hs1] at HS HSA
      rw [hs2] at HS HSX
      obtain ⟨S, hS⟩ : ∃ S, sureB r x = S := ⟨_, rfl⟩
      rw [hS] at HS HSU
      obtain ⟨bst, F⟩ := p
      dsimp only at *
      clear hp hx hs1 hs2 hS hi hbx hb
      cases F with
      | false =>
        clear HSA HSX
        cases S with
        | false =>
          have HS2 : Hid (mostRF r (j + 1) = (bst, false)) := by show _ = _; rw [HS.out]; simp
          have hbz := HBX.out
          unfold Box roomCs at hbz
          go_wp2_with (first | (go_at_call 56; go_loud (refine (HSU.out A1 K1 _ (HQ.out.up HB2.out) (HZ.out.up HB2.out) HI1.out).mono ?_; rintro e w3_ ⟨rfl, hb⟩; have HB3 : Hid (Below w.heap.size w w3_) := bl_tr HB2.out hb; have HX3_0 : Hid (Box w3_ w.heap.size (roomCs r q)) := HX2_0.out.bl (by simp) hb; have HA : Hid (IntsAt w3_ w3_.heap.size A bst) := HA.out.up (bl_tr (Below.refl _ _) hb); have HI1 : Hid (IntsAt w3_ w3_.heap.size A1 x) := HI1.out.up (bl_tr (Below.refl _ _) hb); clear hbx2_0; have hbx3_0 := HX3_0.out; unfold Box roomCs at hbx3_0; clear hb)) | (go_at_call 67; go_loud (refine (H67.out _).mono ?_; rintro e w2_ ⟨A1, K1, rfl, hi, hb⟩; have HB2 : Hid (Below w.heap.size w w2_) := bl_tr HB1.out hb; have HX2_0 : Hid (Box w2_ w.heap.size (roomCs r q)) := HX1_0.out.bl (by simp) hb; have HA : Hid (IntsAt w2_ w2_.heap.size A bst) := HA.out.up (bl_tr (Below.refl _ _) hb); clear hbx1_0; have hbx2_0 := HX2_0.out; unfold Box roomCs at hbx2_0; have HI1 : Hid (IntsAt w2_ w2_.heap.size A1 x) := hi; clear hi hb)) | (go_at_call 68; go_loud (refine (H68.out _).mono ?_; rintro e w1_ ⟨rfl, hb⟩; have HB1 : Hid (Below w.heap.size w w1_) := bl_tr HB.out hb; have HX1_0 : Hid (Box w1_ w.heap.size (roomCs r q)) := HBX.out.bl (by simp) hb; have HA : Hid (IntsAt w1_ w1_.heap.size A bst) := HA.out.up (bl_tr (Below.refl _ _) hb); clear hbz; have hbx1_0 := HX1_0.out; unfold Box roomCs at hbx1_0; clear hb)))
          go_roundw
          case rel => exact ⟨j + 1, A, K, by omega, by go_num, by rw [HS2.out], by rw [HS2.out], by rw [HS2.out]; exact HA.out, HX3_0.out, HB3.out⟩
          case measure => simp [intOf]; omega
        | true =>
          have HS2 : Hid (mostRF r (j + 1) = (x, true)) := by show _ = _; rw [HS.out]; simp
          have hbz := HBX.out
          unfold Box roomCs at hbz
          go_wp2_with (first | (go_at_call 56; go_loud (refine (HSU.out A1 K1 _ (HQ.out.up HB2.out) (HZ.out.up HB2.out) HI1.out).mono ?_; rintro e w3_ ⟨rfl, hb⟩; have HB3 : Hid (Below w.heap.size w w3_) := bl_tr HB2.out hb; have HX3_0 : Hid (Box w3_ w.heap.size (roomCs r q)) := HX2_0.out.bl (by simp) hb; have HA : Hid (IntsAt w3_ w3_.heap.size A bst) := HA.out.up (bl_tr (Below.refl _ _) hb); have HI1 : Hid (IntsAt w3_ w3_.heap.size A1 x) := HI1.out.up (bl_tr (Below.refl _ _) hb); clear hbx2_0; have hbx3_0 := HX3_0.out; unfold Box roomCs at hbx3_0; clear hb)) | (go_at_call 67; go_loud (refine (H67.out _).mono ?_; rintro e w2_ ⟨A1, K1, rfl, hi, hb⟩; have HB2 : Hid (Below w.heap.size w w2_) := bl_tr HB1.out hb; have HX2_0 : Hid (Box w2_ w.heap.size (roomCs r q)) := HX1_0.out.bl (by simp) hb; have HA : Hid (IntsAt w2_ w2_.heap.size A bst) := HA.out.up (bl_tr (Below.refl _ _) hb); clear hbx1_0; have hbx2_0 := HX2_0.out; unfold Box roomCs at hbx2_0; have HI1 : Hid (IntsAt w2_ w2_.heap.size A1 x) := hi; clear hi hb)) | (go_at_call 68; go_loud (refine (H68.out _).mono ?_; rintro e w1_ ⟨rfl, hb⟩; have HB1 : Hid (Below w.heap.size w w1_) := bl_tr HB.out hb; have HX1_0 : Hid (Box w1_ w.heap.size (roomCs r q)) := HBX.out.bl (by simp) hb; have HA : Hid (IntsAt w1_ w1_.heap.size A bst) := HA.out.up (bl_tr (Below.refl _ _) hb); clear hbz; have hbx1_0 := HX1_0.out; unfold Box roomCs at hbx1_0; clear hb)))
          go_roundw
          case rel => exact ⟨j + 1, A1, K1, by omega, by go_num, by rw [HS2.out], by rw [HS2.out], by rw [HS2.out]; exact HI1.out, HX3_0.out, HB3.out⟩
          case measure => simp [intOf]; omega
      | true =>
        by_cases hgt : s1 < s2
        · have hgd : decide (s1 < s2) = true := decide_eq_true hgt
          cases S with
          | false =>
            have HS2 : Hid (mostRF r (j + 1) = (bst, true)) := by show _ = _; rw [HS.out]; simp [hgt]
            have hbz := HBX.out
            unfold Box roomCs at hbz
            go_wp2_with (first | (go_at_call 56; go_loud (refine (HSU.out A1 K1 _ (HQ.out.up HB4.out) (HZ.out.up HB4.out) HI1.out).mono ?_; rintro e w5_ ⟨rfl, hb⟩; have HB5 : Hid (Below w.heap.size w w5_) := bl_tr HB4.out hb; have HX5_0 : Hid (Box w5_ w.heap.size (roomCs r q)) := HX4_0.out.bl (by simp) hb; have HA : Hid (IntsAt w5_ w5_.heap.size A bst) := HA.out.up (bl_tr (Below.refl _ _) hb); have HI1 : Hid (IntsAt w5_ w5_.heap.size A1 x) := HI1.out.up (bl_tr (Below.refl _ _) hb); clear hbx4_0; have hbx5_0 := HX5_0.out; unfold Box roomCs at hbx5_0; clear hb)) | (have hz := HB3; clear hz; go_at_call 60; go_loud (refine (HSA.out A K _ HA.out).mono ?_; rintro e w4_ ⟨rfl, hb⟩; have HB4 : Hid (Below w.heap.size w w4_) := bl_tr HB3.out hb; have HX4_0 : Hid (Box w4_ w.heap.size (roomCs r q)) := HX3_0.out.bl (by simp) hb; have HA : Hid (IntsAt w4_ w4_.heap.size A bst) := HA.out.up (bl_tr (Below.refl _ _) hb); have HI1 : Hid (IntsAt w4_ w4_.heap.size A1 x) := HI1.out.up (bl_tr (Below.refl _ _) hb); clear hbx3_0; have hbx4_0 := HX4_0.out; unfold Box roomCs at hbx4_0; clear hb)) | (go_at_call 60; go_loud (refine (HSX.out A1 K1 _ HI1.out).mono ?_; rintro e w3_ ⟨rfl, hb⟩; have HB3 : Hid (Below w.heap.size w w3_) := bl_tr HB2.out hb; have HX3_0 : Hid (Box w3_ w.heap.size (roomCs r q)) := HX2_0.out.bl (by simp) hb; have HA : Hid (IntsAt w3_ w3_.heap.size A bst) := HA.out.up (bl_tr (Below.refl _ _) hb); have HI1 : Hid (IntsAt w3_ w3_.heap.size A1 x) := HI1.out.up (bl_tr (Below.refl _ _) hb); clear hbx2_0; have hbx3_0 := HX3_0.out; unfold Box roomCs at hbx3_0; clear hb)) | (go_at_call 67; go_loud (refine (H67.out _).mono ?_; rintro e w2_ ⟨A1, K1, rfl, hi, hb⟩; have HB2 : Hid (Below w.heap.size w w2_) := bl_tr HB1.out hb; have HX2_0 : Hid (Box w2_ w.heap.size (roomCs r q)) := HX1_0.out.bl (by simp) hb; have HA : Hid (IntsAt w2_ w2_.heap.size A bst) := HA.out.up (bl_tr (Below.refl _ _) hb); clear hbx1_0; have hbx2_0 := HX2_0.out; unfold Box roomCs at hbx2_0; have HI1 : Hid (IntsAt w2_ w2_.heap.size A1 x) := hi; clear hi hb)) | (go_at_call 68; go_loud (refine (H68.out _).mono ?_; rintro e w1_ ⟨rfl, hb⟩; have HB1 : Hid (Below w.heap.size w w1_) := bl_tr HB.out hb; have HX1_0 : Hid (Box w1_ w.heap.size (roomCs r q)) := HBX.out.bl (by simp) hb; have HA : Hid (IntsAt w1_ w1_.heap.size A bst) := HA.out.up (bl_tr (Below.refl _ _) hb); clear hbz; have hbx1_0 := HX1_0.out; unfold Box roomCs at hbx1_0; clear hb)))
            go_roundw
            case rel => exact ⟨j + 1, A, K, by omega, by go_num, by rw [HS2.out], by rw [HS2.out], by rw [HS2.out]; exact HA.out, HX5_0.out, HB5.out⟩
            case measure => simp [intOf]; omega
          | true =>
            have HS2 : Hid (mostRF r (j + 1) = (x, true)) := by show _ = _; rw [HS.out]; simp [hgt]
            have hbz := HBX.out
            unfold Box roomCs at hbz
            go_wp2_with (first | (go_at_call 56; go_loud (refine (HSU.out A1 K1 _ (HQ.out.up HB4.out) (HZ.out.up HB4.out) HI1.out).mono ?_; rintro e w5_ ⟨rfl, hb⟩; have HB5 : Hid (Below w.heap.size w w5_) := bl_tr HB4.out hb; have HX5_0 : Hid (Box w5_ w.heap.size (roomCs r q)) := HX4_0.out.bl (by simp) hb; have HA : Hid (IntsAt w5_ w5_.heap.size A bst) := HA.out.up (bl_tr (Below.refl _ _) hb); have HI1 : Hid (IntsAt w5_ w5_.heap.size A1 x) := HI1.out.up (bl_tr (Below.refl _ _) hb); clear hbx4_0; have hbx5_0 := HX5_0.out; unfold Box roomCs at hbx5_0; clear hb)) | (have hz := HB3; clear hz; go_at_call 60; go_loud (refine (HSA.out A K _ HA.out).mono ?_; rintro e w4_ ⟨rfl, hb⟩; have HB4 : Hid (Below w.heap.size w w4_) := bl_tr HB3.out hb; have HX4_0 : Hid (Box w4_ w.heap.size (roomCs r q)) := HX3_0.out.bl (by simp) hb; have HA : Hid (IntsAt w4_ w4_.heap.size A bst) := HA.out.up (bl_tr (Below.refl _ _) hb); have HI1 : Hid (IntsAt w4_ w4_.heap.size A1 x) := HI1.out.up (bl_tr (Below.refl _ _) hb); clear hbx3_0; have hbx4_0 := HX4_0.out; unfold Box roomCs at hbx4_0; clear hb)) | (go_at_call 60; go_loud (refine (HSX.out A1 K1 _ HI1.out).mono ?_; rintro e w3_ ⟨rfl, hb⟩; have HB3 : Hid (Below w.heap.size w w3_) := bl_tr HB2.out hb; have HX3_0 : Hid (Box w3_ w.heap.size (roomCs r q)) := HX2_0.out.bl (by simp) hb; have HA : Hid (IntsAt w3_ w3_.heap.size A bst) := HA.out.up (bl_tr (Below.refl _ _) hb); have HI1 : Hid (IntsAt w3_ w3_.heap.size A1 x) := HI1.out.up (bl_tr (Below.refl _ _) hb); clear hbx2_0; have hbx3_0 := HX3_0.out; unfold Box roomCs at hbx3_0; clear hb)) | (go_at_call 67; go_loud (refine (H67.out _).mono ?_; rintro e w2_ ⟨A1, K1, rfl, hi, hb⟩; have HB2 : Hid (Below w.heap.size w w2_) := bl_tr HB1.out hb; have HX2_0 : Hid (Box w2_ w.heap.size (roomCs r q)) := HX1_0.out.bl (by simp) hb; have HA : Hid (IntsAt w2_ w2_.heap.size A bst) := HA.out.up (bl_tr (Below.refl _ _) hb); clear hbx1_0; have hbx2_0 := HX2_0.out; unfold Box roomCs at hbx2_0; have HI1 : Hid (IntsAt w2_ w2_.heap.size A1 x) := hi; clear hi hb)) | (go_at_call 68; go_loud (refine (H68.out _).mono ?_; rintro e w1_ ⟨rfl, hb⟩; have HB1 : Hid (Below w.heap.size w w1_) := bl_tr HB.out hb; have HX1_0 : Hid (Box w1_ w.heap.size (roomCs r q)) := HBX.out.bl (by simp) hb; have HA : Hid (IntsAt w1_ w1_.heap.size A bst) := HA.out.up (bl_tr (Below.refl _ _) hb); clear hbz; have hbx1_0 := HX1_0.out; unfold Box roomCs at hbx1_0; clear hb)))
            go_roundw
            case rel => exact ⟨j + 1, A1, K1, by omega, by go_num, by rw [HS2.out], by rw [HS2.out], by rw [HS2.out]; exact HI1.out, HX5_0.out, HB5.out⟩
            case measure => simp [intOf]; omega
        · have hgd : decide (s1 < s2) = false := decide_eq_false hgt
          have HS2 : Hid (mostRF r (j + 1) = (bst, true)) := by show _ = _; rw [HS.out]; simp [hgt]
          have hbz := HBX.out
          unfold Box roomCs at hbz
          go_wp2_with (first | (have hz := HB3; clear hz; go_at_call 60; go_loud (refine (HSA.out A K _ HA.out).mono ?_; rintro e w4_ ⟨rfl, hb⟩; have HB4 : Hid (Below w.heap.size w w4_) := bl_tr HB3.out hb; have HX4_0 : Hid (Box w4_ w.heap.size (roomCs r q)) := HX3_0.out.bl (by simp) hb; have HA : Hid (IntsAt w4_ w4_.heap.size A bst) := HA.out.up (bl_tr (Below.refl _ _) hb); have HI1 : Hid (IntsAt w4_ w4_.heap.size A1 x) := HI1.out.up (bl_tr (Below.refl _ _) hb); clear hbx3_0; have hbx4_0 := HX4_0.out; unfold Box roomCs at hbx4_0; clear hb)) | (go_at_call 60; go_loud (refine (HSX.out A1 K1 _ HI1.out).mono ?_; rintro e w3_ ⟨rfl, hb⟩; have HB3 : Hid (Below w.heap.size w w3_) := bl_tr HB2.out hb; have HX3_0 : Hid (Box w3_ w.heap.size (roomCs r q)) := HX2_0.out.bl (by simp) hb; have HA : Hid (IntsAt w3_ w3_.heap.size A bst) := HA.out.up (bl_tr (Below.refl _ _) hb); have HI1 : Hid (IntsAt w3_ w3_.heap.size A1 x) := HI1.out.up (bl_tr (Below.refl _ _) hb); clear hbx2_0; have hbx3_0 := HX3_0.out; unfold Box roomCs at hbx3_0; clear hb)) | (go_at_call 67; go_loud (refine (H67.out _).mono ?_; rintro e w2_ ⟨A1, K1, rfl, hi, hb⟩; have HB2 : Hid (Below w.heap.size w w2_) := bl_tr HB1.out hb; have HX2_0 : Hid (Box w2_ w.heap.size (roomCs r q)) := HX1_0.out.bl (by simp) hb; have HA : Hid (IntsAt w2_ w2_.heap.size A bst) := HA.out.up (bl_tr (Below.refl _ _) hb); clear hbx1_0; have hbx2_0 := HX2_0.out; unfold Box roomCs at hbx2_0; have HI1 : Hid (IntsAt w2_ w2_.heap.size A1 x) := hi; clear hi hb)) | (go_at_call 68; go_loud (refine (H68.out _).mono ?_; rintro e w1_ ⟨rfl, hb⟩; have HB1 : Hid (Below w.heap.size w w1_) := bl_tr HB.out hb; have HX1_0 : Hid (Box w1_ w.heap.size (roomCs r q)) := HBX.out.bl (by simp) hb; have HA : Hid (IntsAt w1_ w1_.heap.size A bst) := HA.out.up (bl_tr (Below.refl _ _) hb); clear hbz; have hbx1_0 := HX1_0.out; unfold Box roomCs at hbx1_0; clear hb)))
          go_roundw
          case rel => exact ⟨j + 1, A, K, by omega, by go_num, by rw [HS2.out], by rw [HS2.out], by rw [HS2.out]; exact HA.out, HX4_0.out, HB4.out⟩
          case measure => simp [intOf]; omega
    · obtain rfl : j = N := by omega
      obtain ⟨p, hp⟩ : ∃ p, mostRF r j = p := ⟨_, rfl⟩
      rw [hp] at hi ⊢
      obtain ⟨bst, F⟩ := p
      dsimp only at *
      have HA := Lib.hid hi
      have HP := Lib.hid hp
      clear hb hbx hi hp
      have hbz := HBX.out
      unfold Box roomCs at hbz
      go_wp2_with (first | (go_at_call 68; go_loud (refine (H68.out _).mono ?_; rintro e w1_ ⟨rfl, hb⟩; have HB1 : Hid (Below w.heap.size w w1_) := bl_tr HB.out hb; have HX1_0 : Hid (Box w1_ w.heap.size (roomCs r q)) := HBX.out.bl (by simp) hb; have HA : Hid (IntsAt w1_ w1_.heap.size A bst) := HA.out.up (bl_tr (Below.refl _ _) hb); clear hbz; have hbx1_0 := HX1_0.out; unfold Box roomCs at hbx1_0; clear hb)))
      go_ret2
      exact ⟨A, K, by rw [HP.out]; rfl, by rw [HP.out]; exact HA.out, HB1.out⟩
end Go.Proofs.YtpgnplmjfhdncaaGreat
