/- Whether all is kept, by the reference; BathKeeps: its walk. -/
import Derived.Test.YtpgnplmjfhdncaaGreatKV4
namespace Go.Proofs.YtpgnplmjfhdncaaGreat
open Go.RowKit
set_option linter.unusedVariables false
theorem rbk_c (r : Rm) (q : RA) (ns : List Int) (a : Option Addr) (k : Nat) (w : World) (ho : RoomOk r) (hl : (ns.length : Int) = r.cop.last + 1) (hb : ∀ j, 0 ≤ nth ns j ∧ nth ns j ≤ 100) (hx : IntsAt w w.heap.size a ns) :
    Calls Tryz.prog 31 #[roomV r q, .slice a ns.length k] w fun e w' => ∃ A K, e = .returned (.slice A (bucketsL r ns).length K) ∧ IntsAt w' w'.heap.size A (bucketsL r ns) ∧ Below w.heap.size w w' :=
  (rbuckets_c r q ns a k w ho.b1 ho.b9 (by have := ho.cop.l4; omega) hx hb).mono fun e w' ⟨v, h1, h2, h3⟩ => by
    have e1 : rowI (fun h => r.buckets * nth ns h) ns.length = bucketsL r ns := by
      rw [bucketsL, show ns.length = (r.cop.last + 1).toNat by omega]
    rw [e1] at h2
    have e2 : ns.length = (bucketsL r ns).length := by rw [bucketsL, rowI_len]; omega
    rw [e2] at h2
    obtain ⟨A, K, rfl⟩ := own_shape6 h2
    exact ⟨A, K, h1, own_ints' h2, h3⟩
theorem rsm_c (r : Rm) (ns : List Int) (a a2 : Option Addr) (k k2 : Nat) (w : World) (ho : RoomOk r) (hb : ∀ j, 0 ≤ nth ns j ∧ nth ns j ≤ 100) (hx : IntsAt w w.heap.size a r.cop.want) (hy : IntsAt w w.heap.size a2 (bucketsL r ns)) :
    Calls Tryz.prog 78 #[.slice a r.cop.want.length k, .slice a2 (bucketsL r ns).length k2] w fun e w' => ∃ A K, e = .returned (.slice A (wantN r ns).length K) ∧ IntsAt w' w'.heap.size A (wantN r ns) ∧ Below w.heap.size w w' :=
  (rsum_c r.cop.want (bucketsL r ns) a a2 k k2 w (by have := ho.cop.l4; have := ho.cop.wl; omega) (by have := ho.cop.wl; rw [bucketsL, rowI_len]; omega) hx hy (fun j => by have := ho.cop.wb j; omega) (fun j => by
    by_cases hj : j < (r.cop.last + 1).toNat
    · rw [bucketsL_at _ _ hj]
      have h1 := hb j; have h2 := ho.b1; have h3 := ho.b9
      have h4 : 0 ≤ r.buckets * nth ns j := Int.mul_nonneg (by omega) h1.1
      have h5 : r.buckets * nth ns j ≤ 9 * 100 := Int.mul_le_mul h3 h1.2 h1.1 (by omega)
      omega
    · rw [nth_out _ _ (by rw [bucketsL, rowI_len]; omega)]; omega)).mono fun e w' ⟨v, h1, h2, h3⟩ => by
    have e0 : r.cop.want.length = (r.cop.last + 1).toNat := by have := ho.cop.wl; omega
    rw [e0] at h2
    have e1 : sumL r.cop.want (bucketsL r ns) (r.cop.last + 1).toNat = wantN r ns := rfl
    rw [e1] at h2
    have e2 : (r.cop.last + 1).toNat = (wantN r ns).length := (wantN_len r ns).symm
    rw [e2] at h2
    obtain ⟨A, K, rfl⟩ := own_shape6 h2
    exact ⟨A, K, h1, own_ints' h2, h3⟩
theorem truthsR_small {c : Cop} (ho : Okc c) : (truthsR c).length ≤ 2000 := by
  have h1 := truthsN_len c (manyN c c.loss.length).toNat
  have h2 := manyN_ok ho
  unfold truthsR
  omega
theorem truthsR_sc {c : Cop} (ho : Okc c) : ∀ j, j < (truthsR c).length → IsSc c (scN (truthsR c) j) := fun j hj => by
  have h1 : scN (truthsR c) j ∈ truthsC c := (mem_truthsR ho _).1 (scN_mem hj)
  obtain ⟨k, hk, h2⟩ := mem_scN h1
  rw [← h2]
  exact truths_sc ho.l0 k hk
set_option maxRecDepth 100000 in
set_option maxHeartbeats 8000000 in
theorem rkeeps_c (r : Rm) (q : RA) (ns : List Int) (a at_ : Option Addr) (k kt : Nat) (w : World) (ho : RoomOk r) (hl : (ns.length : Int) = r.cop.last + 1) (hb : ∀ j, 0 ≤ nth ns j ∧ nth ns j ≤ 100) (hw : ∀ j, 0 ≤ nth (wantN r ns) j ∧ nth (wantN r ns) j ≤ 100)
    (hq : RoomAt w w.heap.size r q) (hx : IntsAt w w.heap.size a ns) (hz : TruthsAt w w.heap.size at_ (truthsR r.cop)) :
    Calls Tryz.prog 73 #[roomV r q, .slice at_ (truthsR r.cop).length kt, .slice a ns.length k] w fun e w' => e = .returned (.int .i64 (keepsF r ns)) ∧ Below w.heap.size w w' := by
  have HQ := Lib.hid hq
  have HN := Lib.hid hx
  have HZ := Lib.hid hz
  have HO := Lib.hid ho
  have HL := Lib.hid hl
  have HBD := Lib.hid hb
  have HP : Hid (∀ j, j < (truthsR r.cop).length → Plays r.cop r.cop.coal (wantN r ns) (scN (truthsR r.cop) j)) := fun j hj =>
    plays_of ho.cop (truthsR_sc ho.cop j hj) ho.cop.cl (by have := ho.cop.l0; rw [wantN_len]; omega) (fun i => by have := ho.cop.cb i; have := ho.cop.h3; omega) hw
  have HS : Hid (∀ j, j < (truthsR r.cop).length → ((scN (truthsR r.cop) j).2.length : Int) = r.cop.last + 1) := fun j hj => by have h := (truthsR_sc ho.cop j hj).len; have := ho.cop.ll; have := ho.cop.l0; omega
  have HT : Hid ((truthsR r.cop).length ≤ 1000000) := by have h := truthsR_small ho.cop; exact Nat.le_trans h (by omega)
  have HE : Hid (wholesN r.cop (truthsR r.cop) r.cop.coal (wantN r ns) = keepsF r ns) := wholes_eq ho.cop ho.tr _ _
  clear hq hx hz ho hb hw hl
  go_enter Tryz.func73, Tryz.ntmps73
  go_upto_region 1 with (fail)
  generalize hW0 : World.alloc w _ = w0_
  have HB0z : Hid (Below w.heap.size w w0_) := by rw [← hW0]; exact bl_al (Below.refl _ _) _
  have HX0z : Hid (Box w0_ w.heap.size (roomCs r q)) := by rw [← hW0]; exact Box.new w _ 31 (0, 0)
  clear hW0
  have HQ0 : Hid (RoomAt w0_ w0_.heap.size r q) := HQ.out.up HB0z.out
  have HN0 : Hid (IntsAt w0_ w0_.heap.size a ns) := HN.out.up HB0z.out
  have HZ0 : Hid (TruthsAt w0_ w0_.heap.size at_ (truthsR r.cop)) := HZ.out.up HB0z.out
  have hbx := HX0z.out
  have k0 : w0_.cell? ⟨w.heap.size, 0, none⟩ = some (.int .i64 r.cop.last) := hbx 0
  have k1 : w0_.cell? ⟨w.heap.size, 1, none⟩ = some (.int .i64 r.cop.start) := hbx 1
  have k2 : w0_.cell? ⟨w.heap.size, 2, none⟩ = some (.int .i64 r.cop.most) := hbx 2
  have k3 : w0_.cell? ⟨w.heap.size, 3, none⟩ = some (.int .i64 r.cop.per) := hbx 3
  have k4 : w0_.cell? ⟨w.heap.size, 4, none⟩ = some (.int .i64 r.cop.shovels) := hbx 4
  have k5 : w0_.cell? ⟨w.heap.size, 5, none⟩ = some (.slice q.q.a1 r.cop.coal.length q.q.c1) := hbx 5
  have k6 : w0_.cell? ⟨w.heap.size, 6, none⟩ = some (.slice q.q.a2 r.cop.want.length q.q.c2) := hbx 6
  have k7 : w0_.cell? ⟨w.heap.size, 7, none⟩ = some (.int .i64 r.cop.hlo) := hbx 7
  have k8 : w0_.cell? ⟨w.heap.size, 8, none⟩ = some (.int .i64 r.cop.hhi) := hbx 8
  have k9 : w0_.cell? ⟨w.heap.size, 9, none⟩ = some (.slice q.q.a3 r.cop.loss.length q.q.c3) := hbx 9
  have k10 : w0_.cell? ⟨w.heap.size, 10, none⟩ = some (.slice q.q.a4 r.cop.rds.length q.q.c4) := hbx 10
  have k11 : w0_.cell? ⟨w.heap.size, 11, none⟩ = some (.int .i64 r.buckets) := hbx 11
  have k12 : w0_.cell? ⟨w.heap.size, 12, none⟩ = some (.int .i64 r.places) := hbx 12
  have k13 : w0_.cell? ⟨w.heap.size, 13, none⟩ = some (.slice q.a5 r.baths.length q.c5) := hbx 13
  clear hbx
  go_region_held3 (fun w' => w'.cell? ⟨w.heap.size, 0, none⟩ = some (.int .i64 r.cop.last) ∧ w'.cell? ⟨w.heap.size, 1, none⟩ = some (.int .i64 r.cop.start) ∧ w'.cell? ⟨w.heap.size, 2, none⟩ = some (.int .i64 r.cop.most) ∧ w'.cell? ⟨w.heap.size, 3, none⟩ = some (.int .i64 r.cop.per) ∧ w'.cell? ⟨w.heap.size, 4, none⟩ = some (.int .i64 r.cop.shovels) ∧ w'.cell? ⟨w.heap.size, 5, none⟩ = some (.slice q.q.a1 r.cop.coal.length q.q.c1) ∧ w'.cell? ⟨w.heap.size, 6, none⟩ = some (.slice q.q.a2 r.cop.want.length q.q.c2) ∧ w'.cell? ⟨w.heap.size, 7, none⟩ = some (.int .i64 r.cop.hlo) ∧ w'.cell? ⟨w.heap.size, 8, none⟩ = some (.int .i64 r.cop.hhi) ∧ w'.cell? ⟨w.heap.size, 9, none⟩ = some (.slice q.q.a3 r.cop.loss.length q.q.c3) ∧ w'.cell? ⟨w.heap.size, 10, none⟩ = some (.slice q.q.a4 r.cop.rds.length q.q.c4) ∧ w'.cell? ⟨w.heap.size, 11, none⟩ = some (.int .i64 r.buckets) ∧ w'.cell? ⟨w.heap.size, 12, none⟩ = some (.int .i64 r.places) ∧ w'.cell? ⟨w.heap.size, 13, none⟩ = some (.slice q.a5 r.baths.length q.c5)) (first | assumption | go_keep) (first | (have hz := HR2; clear hz; go_at_call 118; refine (rwholes_c r.cop q.q (truthsR r.cop) at_ kt r.cop.coal (wantN r ns) q.q.a1 q.q.c1 A2 K2 HP.out HS.out HT.out _ (HQ.out.up (bl_tr (bl_dr HB0z.out) HR2.out)).cop.coal HI2.out (HZ.out.up (bl_tr (bl_dr HB0z.out) HR2.out))).mono ?_; rintro e w3_ ⟨rfl, hb⟩; have HR3 := Lib.hid (bl_tr HR2.out hb); have HI1 : Hid (IntsAt w3_ w3_.heap.size A1 (bucketsL r ns)) := HI1.out.up hb; have HI2 : Hid (IntsAt w3_ w3_.heap.size A2 (wantN r ns)) := HI2.out.up hb; have hS3 : (fun w' => w'.cell? ⟨w.heap.size, 0, none⟩ = some (.int .i64 r.cop.last) ∧ w'.cell? ⟨w.heap.size, 1, none⟩ = some (.int .i64 r.cop.start) ∧ w'.cell? ⟨w.heap.size, 2, none⟩ = some (.int .i64 r.cop.most) ∧ w'.cell? ⟨w.heap.size, 3, none⟩ = some (.int .i64 r.cop.per) ∧ w'.cell? ⟨w.heap.size, 4, none⟩ = some (.int .i64 r.cop.shovels) ∧ w'.cell? ⟨w.heap.size, 5, none⟩ = some (.slice q.q.a1 r.cop.coal.length q.q.c1) ∧ w'.cell? ⟨w.heap.size, 6, none⟩ = some (.slice q.q.a2 r.cop.want.length q.q.c2) ∧ w'.cell? ⟨w.heap.size, 7, none⟩ = some (.int .i64 r.cop.hlo) ∧ w'.cell? ⟨w.heap.size, 8, none⟩ = some (.int .i64 r.cop.hhi) ∧ w'.cell? ⟨w.heap.size, 9, none⟩ = some (.slice q.q.a3 r.cop.loss.length q.q.c3) ∧ w'.cell? ⟨w.heap.size, 10, none⟩ = some (.slice q.q.a4 r.cop.rds.length q.q.c4) ∧ w'.cell? ⟨w.heap.size, 11, none⟩ = some (.int .i64 r.buckets) ∧ w'.cell? ⟨w.heap.size, 12, none⟩ = some (.int .i64 r.places) ∧ w'.cell? ⟨w.heap.size, 13, none⟩ = some (.slice q.a5 r.baths.length q.c5)) w3_ := ⟨cell_later HR3.out (w := w0_.drew) k0, cell_later HR3.out (w := w0_.drew) k1, cell_later HR3.out (w := w0_.drew) k2, cell_later HR3.out (w := w0_.drew) k3, cell_later HR3.out (w := w0_.drew) k4, cell_later HR3.out (w := w0_.drew) k5, cell_later HR3.out (w := w0_.drew) k6, cell_later HR3.out (w := w0_.drew) k7, cell_later HR3.out (w := w0_.drew) k8, cell_later HR3.out (w := w0_.drew) k9, cell_later HR3.out (w := w0_.drew) k10, cell_later HR3.out (w := w0_.drew) k11, cell_later HR3.out (w := w0_.drew) k12, cell_later HR3.out (w := w0_.drew) k13⟩; dsimp only at hS3; clear hb hS2) | (have hz := HR1; clear hz; go_at_call 78; refine (rsm_c r ns q.q.a2 A1 q.q.c2 K1 _ HO.out HBD.out (HQ.out.up (bl_tr (bl_dr HB0z.out) HR1.out)).cop.want HI1.out).mono ?_; rintro e w2_ ⟨A2, K2, rfl, hi, hb⟩; have HR2 := Lib.hid (bl_tr HR1.out hb); have HI1 : Hid (IntsAt w2_ w2_.heap.size A1 (bucketsL r ns)) := HI1.out.up hb; have hS2 : (fun w' => w'.cell? ⟨w.heap.size, 0, none⟩ = some (.int .i64 r.cop.last) ∧ w'.cell? ⟨w.heap.size, 1, none⟩ = some (.int .i64 r.cop.start) ∧ w'.cell? ⟨w.heap.size, 2, none⟩ = some (.int .i64 r.cop.most) ∧ w'.cell? ⟨w.heap.size, 3, none⟩ = some (.int .i64 r.cop.per) ∧ w'.cell? ⟨w.heap.size, 4, none⟩ = some (.int .i64 r.cop.shovels) ∧ w'.cell? ⟨w.heap.size, 5, none⟩ = some (.slice q.q.a1 r.cop.coal.length q.q.c1) ∧ w'.cell? ⟨w.heap.size, 6, none⟩ = some (.slice q.q.a2 r.cop.want.length q.q.c2) ∧ w'.cell? ⟨w.heap.size, 7, none⟩ = some (.int .i64 r.cop.hlo) ∧ w'.cell? ⟨w.heap.size, 8, none⟩ = some (.int .i64 r.cop.hhi) ∧ w'.cell? ⟨w.heap.size, 9, none⟩ = some (.slice q.q.a3 r.cop.loss.length q.q.c3) ∧ w'.cell? ⟨w.heap.size, 10, none⟩ = some (.slice q.q.a4 r.cop.rds.length q.q.c4) ∧ w'.cell? ⟨w.heap.size, 11, none⟩ = some (.int .i64 r.buckets) ∧ w'.cell? ⟨w.heap.size, 12, none⟩ = some (.int .i64 r.places) ∧ w'.cell? ⟨w.heap.size, 13, none⟩ = some (.slice q.a5 r.baths.length q.c5)) w2_ := ⟨cell_later HR2.out (w := w0_.drew) k0, cell_later HR2.out (w := w0_.drew) k1, cell_later HR2.out (w := w0_.drew) k2, cell_later HR2.out (w := w0_.drew) k3, cell_later HR2.out (w := w0_.drew) k4, cell_later HR2.out (w := w0_.drew) k5, cell_later HR2.out (w := w0_.drew) k6, cell_later HR2.out (w := w0_.drew) k7, cell_later HR2.out (w := w0_.drew) k8, cell_later HR2.out (w := w0_.drew) k9, cell_later HR2.out (w := w0_.drew) k10, cell_later HR2.out (w := w0_.drew) k11, cell_later HR2.out (w := w0_.drew) k12, cell_later HR2.out (w := w0_.drew) k13⟩; dsimp only at hS2; have HI2 : Hid (IntsAt w2_ w2_.heap.size A2 (wantN r ns)) := hi; clear hi hb hS1) | (go_at_call 31; refine (rbk_c r q ns a k _ HO.out HL.out HBD.out (HN.out.up (bl_dr HB0z.out))).mono ?_; rintro e w1_ ⟨A1, K1, rfl, hi, hb⟩; have HR1 := Lib.hid hb; have hS1 : (fun w' => w'.cell? ⟨w.heap.size, 0, none⟩ = some (.int .i64 r.cop.last) ∧ w'.cell? ⟨w.heap.size, 1, none⟩ = some (.int .i64 r.cop.start) ∧ w'.cell? ⟨w.heap.size, 2, none⟩ = some (.int .i64 r.cop.most) ∧ w'.cell? ⟨w.heap.size, 3, none⟩ = some (.int .i64 r.cop.per) ∧ w'.cell? ⟨w.heap.size, 4, none⟩ = some (.int .i64 r.cop.shovels) ∧ w'.cell? ⟨w.heap.size, 5, none⟩ = some (.slice q.q.a1 r.cop.coal.length q.q.c1) ∧ w'.cell? ⟨w.heap.size, 6, none⟩ = some (.slice q.q.a2 r.cop.want.length q.q.c2) ∧ w'.cell? ⟨w.heap.size, 7, none⟩ = some (.int .i64 r.cop.hlo) ∧ w'.cell? ⟨w.heap.size, 8, none⟩ = some (.int .i64 r.cop.hhi) ∧ w'.cell? ⟨w.heap.size, 9, none⟩ = some (.slice q.q.a3 r.cop.loss.length q.q.c3) ∧ w'.cell? ⟨w.heap.size, 10, none⟩ = some (.slice q.q.a4 r.cop.rds.length q.q.c4) ∧ w'.cell? ⟨w.heap.size, 11, none⟩ = some (.int .i64 r.buckets) ∧ w'.cell? ⟨w.heap.size, 12, none⟩ = some (.int .i64 r.places) ∧ w'.cell? ⟨w.heap.size, 13, none⟩ = some (.slice q.a5 r.baths.length q.c5)) w1_ := ⟨cell_later HR1.out (w := w0_.drew) k0, cell_later HR1.out (w := w0_.drew) k1, cell_later HR1.out (w := w0_.drew) k2, cell_later HR1.out (w := w0_.drew) k3, cell_later HR1.out (w := w0_.drew) k4, cell_later HR1.out (w := w0_.drew) k5, cell_later HR1.out (w := w0_.drew) k6, cell_later HR1.out (w := w0_.drew) k7, cell_later HR1.out (w := w0_.drew) k8, cell_later HR1.out (w := w0_.drew) k9, cell_later HR1.out (w := w0_.drew) k10, cell_later HR1.out (w := w0_.drew) k11, cell_later HR1.out (w := w0_.drew) k12, cell_later HR1.out (w := w0_.drew) k13⟩; dsimp only at hS1; have HI1 : Hid (IntsAt w1_ w1_.heap.size A1 (bucketsL r ns)) := hi; clear hi hb))
  have HB3z : Hid (Below w.heap.size w w3_) := bl_tr (bl_dr HB0z.out) HR3.out
  have HX3_0 : Hid (Box w3_ w.heap.size (roomCs r q)) := Box.bl (w := w0_.drew) (fun o => HX0z.out o) (by simp) HR3.out
  have HQ0 : Hid (RoomAt w3_ w3_.heap.size r q) := HQ0.out.up (bl_tr (bl_dr (Below.refl _ _)) HR3.out)
  have HN0 : Hid (IntsAt w3_ w3_.heap.size a ns) := HN0.out.up (bl_tr (bl_dr (Below.refl _ _)) HR3.out)
  have HZ0 : Hid (TruthsAt w3_ w3_.heap.size at_ (truthsR r.cop)) := HZ0.out.up (bl_tr (bl_dr (Below.refl _ _)) HR3.out)
  clear hS3 k0 k1 k2 k3 k4 k5 k6 k7 k8 k9 k10 k11 k12 k13
  rw [HE.out]
  go_wp2
  go_ret
  exact ⟨rfl, HB3z.out⟩
end Go.Proofs.YtpgnplmjfhdncaaGreat
