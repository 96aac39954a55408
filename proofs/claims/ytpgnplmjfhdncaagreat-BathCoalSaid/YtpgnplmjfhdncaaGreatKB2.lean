/- A part of the proof: B2, B3, B4, B5. -/
import Derived.Test.YtpgnplmjfhdncaaGreatKC13
import Derived.Test.YtpgnplmjfhdncaaGreatKB1
import Derived.Laws.MakeOwn
namespace Go.Proofs.YtpgnplmjfhdncaaGreat
open Go.RowKit
set_option linter.unusedVariables false
def bathOk (last fr to : Int) : Bool := decide (0 ≤ fr) && decide (fr ≤ to) && decide (to ≤ last)
set_option maxHeartbeats 1000000 in
theorem valid_c (r : Rm) (q : RA) (fr to : Int) (w : World) :
    Calls Tryz.prog 86 #[roomV r q, .agg #[.int .i64 fr, .int .i64 to]] w fun e w' => e = .returned (.bool (bathOk r.cop.last fr to)) ∧ Below w.heap.size w w' := by
  cases h1 : decide (0 ≤ fr) with
  | true =>
    cases h2 : decide (fr ≤ to) with
    | true =>
      have HF : Hid (bathOk r.cop.last fr to = decide (to ≤ r.cop.last)) := by unfold Hid; simp only [bathOk, h1, h2, Bool.true_and]
      go_enter Tryz.func86, Tryz.ntmps86
      go_wp2
      go_ret
      exact ⟨by rw [HF.out]; rfl, bl_al (bl_al (Below.refl _ _) _) _⟩
    | false =>
      have HF : Hid (bathOk r.cop.last fr to = false) := by unfold Hid; simp only [bathOk, h1, h2, Bool.true_and, Bool.false_and]
      go_enter Tryz.func86, Tryz.ntmps86
      go_wp2
      go_ret
      exact ⟨by rw [HF.out]; rfl, bl_al (bl_al (Below.refl _ _) _) _⟩
  | false =>
    have HF : Hid (bathOk r.cop.last fr to = false) := by unfold Hid; simp only [bathOk, h1, Bool.false_and]
    go_enter Tryz.func86, Tryz.ntmps86
    go_wp2
    go_ret
    exact ⟨by rw [HF.out]; rfl, bl_al (bl_al (Below.refl _ _) _) _⟩
def rm1 (r : Rm) : Bool := decide (5 < r.places) || decide ((5 : Int) < (r.baths.length : Int))
def rm2 (r : Rm) : Bool := decide (r.places < 0) || !within r.buckets 1 9 || !allN (fun j => bathOk r.cop.last (p1 r.baths j) (p2 r.baths j)) r.baths.length
def roomErr (r : Rm) : Int := if copErr r.cop ≠ 0 then copErr r.cop else if rm1 r = true then 3 else if rm2 r = true then 1 else 0
theorem bounds3_c (c : Cop) (q : CA) (w : World) (hq : CopAt w w.heap.size c q) (hsm : Small c) :
    Calls Tryz.prog 85 #[copV c q] w fun e w' => ∃ u1 u2, e = .returned (.tuple #[u1, u2, .int .i64 (copErr c)]) ∧ Below w.heap.size w w' := by
  by_cases h1 : checkCop c = 0
  · by_cases h2 : truthsC c = []
    · have : copErr c = 11 := by unfold copErr; rw [if_neg (by simp [h1]), if_pos h2]
      rw [this]
      exact (bounds_11 c q w hq hsm h1 h2).mono fun e w' ⟨a, b⟩ => ⟨_, _, a, b⟩
    · have : copErr c = 0 := by unfold copErr; rw [if_neg (by simp [h1]), if_neg h2]
      rw [this]
      exact bounds_ok c q w hq h1 h2
  · have : copErr c = checkCop c := by unfold copErr; rw [if_pos h1]
    rw [this]
    exact (bounds_bad c q w hq hsm h1).mono fun e w' ⟨a, b⟩ => ⟨_, _, a, b⟩
set_option maxRecDepth 100000 in
set_option maxHeartbeats 4000000 in
theorem room_bad (r : Rm) (q : RA) (w : World) (hq : RoomAt w w.heap.size r q) (hsm : Small r.cop) (he : copErr r.cop ≠ 0) :
    Calls Tryz.prog 28 #[roomV r q] w fun e w' => e = .returned (.int .i64 (copErr r.cop)) ∧ Below w.heap.size w w' := by
  have HQ := Lib.hid hq
  have hne : (copErr r.cop == 0) = false := by simpa using he
  clear hq he
  go_enter Tryz.func28, Tryz.ntmps28
  go_wp2_with (go_at_call 85; refine (bounds3_c r.cop q.q _ (HQ.out.cop.up (bl_al (Below.refl _ _) _)) hsm).mono ?_; rintro e w1 ⟨u1, u2, rfl, hb⟩; have HB := Lib.hid hb; clear hb)
  go_ret
  exact ⟨rfl, bl_tr (bl_al (Below.refl _ _) _) HB.out⟩
set_option maxRecDepth 100000 in
set_option maxHeartbeats 4000000 in
theorem room_1 (r : Rm) (q : RA) (w : World) (hq : RoomAt w w.heap.size r q) (hsm : Small r.cop) (he : copErr r.cop = 0) (h1 : rm1 r = true) :
    Calls Tryz.prog 28 #[roomV r q] w fun e w' => e = .returned (.int .i64 3) ∧ Below w.heap.size w w' := by
  have HQ := Lib.hid hq
  have HE := Lib.hid he
  clear hq he
  cases g1 : decide (5 < r.places) with
  | true =>
    clear h1
    go_enter Tryz.func28, Tryz.ntmps28
    go_wp2_with (go_at_call 85; refine (bounds3_c r.cop q.q _ (HQ.out.cop.up (bl_al (Below.refl _ _) _)) hsm).mono ?_; rintro e w1 ⟨u1, u2, rfl, hb⟩; rw [HE.out]; have hbx : Box w1 w.heap.size (roomCs r q) := (Box.new w (roomCs r q) 44 (0, 0)).bl (by simp) hb; unfold Box roomCs at hbx; have HB := Lib.hid hb; clear hb)
    go_ret
    exact ⟨rfl, bl_tr (bl_al (Below.refl _ _) _) HB.out⟩
  | false =>
    have g2 : decide ((5 : Int) < (r.baths.length : Int)) = true := by simpa [rm1, g1] using h1
    clear h1
    go_enter Tryz.func28, Tryz.ntmps28
    go_wp2_with (go_at_call 85; refine (bounds3_c r.cop q.q _ (HQ.out.cop.up (bl_al (Below.refl _ _) _)) hsm).mono ?_; rintro e w1 ⟨u1, u2, rfl, hb⟩; rw [HE.out]; have hbx : Box w1 w.heap.size (roomCs r q) := (Box.new w (roomCs r q) 44 (0, 0)).bl (by simp) hb; unfold Box roomCs at hbx; have HB := Lib.hid hb; clear hb)
    go_ret
    exact ⟨rfl, bl_tr (bl_al (Below.refl _ _) _) HB.out⟩
end Go.Proofs.YtpgnplmjfhdncaaGreat
namespace Go.Proofs.YtpgnplmjfhdncaaGreat
open Go.RowKit
set_option linter.unusedVariables false
theorem allValid_c (r : Rm) (q : RA) (w : World) (hq : RoomAt w w.heap.size r q) (hn : r.baths.length ≤ 5) :
    Calls Tryz.prog 88 #[.slice q.a5 r.baths.length q.c5, .func (.func 86) #[roomV r q] #[]] w fun e w' => e = .returned (.bool (allN (fun j => bathOk r.cop.last (p1 r.baths j) (p2 r.baths j)) r.baths.length)) ∧ Below w.heap.size w w' :=
  allB_c 86 #[roomV r q] #[] (enters_of Tryz.func86 (by kernel_rfl) rfl) (fun j => bathOk r.cop.last (p1 r.baths j) (p2 r.baths j)) r.baths q.a5 q.c5 w (by omega) hq.baths (fun j hj W hW => valid_c r q _ _ W)
set_option maxRecDepth 100000 in
set_option maxHeartbeats 4000000 in
theorem room_2 (r : Rm) (q : RA) (w : World) (hq : RoomAt w w.heap.size r q) (hsm : Small r.cop) (he : copErr r.cop = 0) (h1 : rm1 r = false) (h2 : rm2 r = true) :
    Calls Tryz.prog 28 #[roomV r q] w fun e w' => e = .returned (.int .i64 1) ∧ Below w.heap.size w w' := by
  have HQ := Lib.hid hq
  have HE := Lib.hid he
  have g1 : decide (5 < r.places) = false := by simp only [rm1, Bool.or_eq_false_iff] at h1; exact h1.1
  have g2 : decide ((5 : Int) < (r.baths.length : Int)) = false := by simp only [rm1, Bool.or_eq_false_iff] at h1; exact h1.2
  have HN : Hid (r.baths.length ≤ 5) := by unfold Hid; simp at g2; omega
  clear hq he h1
  cases g3 : decide (r.places < 0) with
  | true =>
    clear h2
    go_enter Tryz.func28, Tryz.ntmps28
    go_wp2_with (first | (go_at_call 85; refine (bounds3_c r.cop q.q _ (HQ.out.cop.up (bl_al (Below.refl _ _) _)) hsm).mono ?_; rintro e w1 ⟨u1, u2, rfl, hb⟩; rw [HE.out]; have hbx : Box w1 w.heap.size (roomCs r q) := (Box.new w (roomCs r q) 44 (0, 0)).bl (by simp) hb; unfold Box roomCs at hbx; have HB := Lib.hid (bl_tr (bl_al (Below.refl w.heap.size w) _) hb); clear hb))
    go_ret
    exact ⟨rfl, HB.out⟩
  | false =>
    cases g4 : within r.buckets 1 9 with
    | false =>
      clear h2
      have HW4 := Lib.hid g4
      clear g4
      go_enter Tryz.func28, Tryz.ntmps28
      go_wp2_with (first | (go_at_call 85; refine (bounds3_c r.cop q.q _ (HQ.out.cop.up (bl_al (Below.refl _ _) _)) hsm).mono ?_; rintro e w1 ⟨u1, u2, rfl, hb⟩; rw [HE.out]; have hbx : Box w1 w.heap.size (roomCs r q) := (Box.new w (roomCs r q) 44 (0, 0)).bl (by simp) hb; unfold Box roomCs at hbx; have HB := Lib.hid (bl_tr (bl_al (Below.refl w.heap.size w) _) hb); clear hb) | (go_at_call 87; refine (within9_c _ _ _ _).mono ?_; rintro e w2 ⟨rfl, rfl⟩; rw [HW4.out]))
      go_ret
      exact ⟨rfl, HB.out⟩
    | true =>
      have HAL : Hid (allN (fun j => bathOk r.cop.last (p1 r.baths j) (p2 r.baths j)) r.baths.length = false) := by unfold Hid; simpa [rm2, g3, g4] using h2
      clear h2
      have HW4 := Lib.hid g4
      clear g4
      go_enter Tryz.func28, Tryz.ntmps28
      go_wp2_with (first | (go_at_call 85; refine (bounds3_c r.cop q.q _ (HQ.out.cop.up (bl_al (Below.refl _ _) _)) hsm).mono ?_; rintro e w1 ⟨u1, u2, rfl, hb⟩; rw [HE.out]; have hbx : Box w1 w.heap.size (roomCs r q) := (Box.new w (roomCs r q) 44 (0, 0)).bl (by simp) hb; unfold Box roomCs at hbx; have HB := Lib.hid (bl_tr (bl_al (Below.refl w.heap.size w) _) hb); clear hb) | (go_at_call 87; refine (within9_c _ _ _ _).mono ?_; rintro e w2 ⟨rfl, rfl⟩; rw [HW4.out]) | (go_at_call 88; refine (allValid_c r q _ (HQ.out.up HB.out) HN.out).mono ?_; rintro e w3 ⟨rfl, hb3⟩; have HB3 := Lib.hid hb3; clear hb3; rw [HAL.out]))
      go_ret
      exact ⟨rfl, bl_tr HB.out HB3.out⟩
set_option maxRecDepth 100000 in
set_option maxHeartbeats 4000000 in
theorem room_0 (r : Rm) (q : RA) (w : World) (hq : RoomAt w w.heap.size r q) (hsm : Small r.cop) (he : copErr r.cop = 0) (h1 : rm1 r = false) (h2 : rm2 r = false) :
    Calls Tryz.prog 28 #[roomV r q] w fun e w' => e = .returned (.int .i64 0) ∧ Below w.heap.size w w' := by
  have HQ := Lib.hid hq
  have HE := Lib.hid he
  have g1 : decide (5 < r.places) = false := by simp only [rm1, Bool.or_eq_false_iff] at h1; exact h1.1
  have g2 : decide ((5 : Int) < (r.baths.length : Int)) = false := by simp only [rm1, Bool.or_eq_false_iff] at h1; exact h1.2
  have HN : Hid (r.baths.length ≤ 5) := by unfold Hid; simp at g2; omega
  clear hq he h1
  have g3 : decide (r.places < 0) = false := by simp only [rm2, Bool.or_eq_false_iff] at h2; exact h2.1.1
  have HW4 : Hid (within r.buckets 1 9 = true) := by unfold Hid; simp only [rm2, Bool.or_eq_false_iff, Bool.not_eq_false'] at h2; exact h2.1.2
  have HAL : Hid (allN (fun j => bathOk r.cop.last (p1 r.baths j) (p2 r.baths j)) r.baths.length = true) := by unfold Hid; simp only [rm2, Bool.or_eq_false_iff, Bool.not_eq_false'] at h2; exact h2.2
  clear h2
  go_enter Tryz.func28, Tryz.ntmps28
  go_wp2_with (first | (go_at_call 85; refine (bounds3_c r.cop q.q _ (HQ.out.cop.up (bl_al (Below.refl _ _) _)) hsm).mono ?_; rintro e w1 ⟨u1, u2, rfl, hb⟩; rw [HE.out]; have hbx : Box w1 w.heap.size (roomCs r q) := (Box.new w (roomCs r q) 44 (0, 0)).bl (by simp) hb; unfold Box roomCs at hbx; have HB := Lib.hid (bl_tr (bl_al (Below.refl w.heap.size w) _) hb); clear hb) | (go_at_call 87; refine (within9_c _ _ _ _).mono ?_; rintro e w2 ⟨rfl, rfl⟩; rw [HW4.out]) | (go_at_call 88; refine (allValid_c r q _ (HQ.out.up HB.out) HN.out).mono ?_; rintro e w3 ⟨rfl, hb3⟩; have HB3 := Lib.hid hb3; clear hb3; rw [HAL.out]))
  go_ret
  exact ⟨rfl, bl_tr HB.out HB3.out⟩
theorem room_chk (r : Rm) (q : RA) (w : World) (hq : RoomAt w w.heap.size r q) (hsm : Small r.cop) :
    Calls Tryz.prog 28 #[roomV r q] w fun e w' => e = .returned (.int .i64 (roomErr r)) ∧ Below w.heap.size w w' := by
  unfold roomErr
  by_cases h0 : copErr r.cop = 0
  · rw [if_neg (by simp [h0])]
    cases h1 : rm1 r with
    | true => exact room_1 r q w hq hsm h0 h1
    | false =>
      cases h2 : rm2 r with
      | true => exact room_2 r q w hq hsm h0 h1 h2
      | false => exact room_0 r q w hq hsm h0 h1 h2
  · rw [if_pos h0]
    exact room_bad r q w hq hsm h0
structure RoomOk (r : Rm) : Prop where
  cop : Okc r.cop
  chk : checkCop r.cop = 0
  tr : truthsC r.cop ≠ []
  p5 : r.places ≤ 5
  p0 : 0 ≤ r.places
  n5 : r.baths.length ≤ 5
  b1 : 1 ≤ r.buckets
  b9 : r.buckets ≤ 9
  bs : ∀ j, j < r.baths.length → 0 ≤ p1 r.baths j ∧ p1 r.baths j ≤ p2 r.baths j ∧ p2 r.baths j ≤ r.cop.last
theorem room_ok {r : Rm} (h : roomErr r = 0) : RoomOk r := by
  unfold roomErr at h
  have h0 : copErr r.cop = 0 := by
    by_cases h0 : copErr r.cop = 0
    · exact h0
    · rw [if_pos h0] at h; exact absurd h h0
  rw [if_neg (by simp [h0])] at h
  have h1 : rm1 r = false := by
    cases h1 : rm1 r with
    | false => rfl
    | true => rw [h1] at h; simp at h
  have h2 : rm2 r = false := by
    cases h2 : rm2 r with
    | false => rfl
    | true => rw [h1, h2] at h; simp at h
  have hc : checkCop r.cop = 0 := by
    by_cases hc : checkCop r.cop = 0
    · exact hc
    · unfold copErr at h0; rw [if_pos hc] at h0; exact absurd h0 hc
  have ht : truthsC r.cop ≠ [] := fun ht => by
    unfold copErr at h0
    rw [if_neg (by simp [hc]), if_pos ht] at h0
    cases h0
  simp only [rm1, Bool.or_eq_false_iff, decide_eq_false_iff_not] at h1
  simp only [rm2, Bool.or_eq_false_iff, decide_eq_false_iff_not, Bool.not_eq_false', within_iff, allN_iff, bathOk, Bool.and_eq_true, decide_eq_true_eq] at h2
  exact ⟨okc_of hc, hc, ht, by omega, by omega, by omega, by omega, by omega, fun j hj => by have := h2.2 j hj; omega⟩
theorem RoomOk.fine {r : Rm} (h : RoomOk r) : Fine r :=
  ⟨h.cop.l0, h.cop.l4, h.cop.wl, fun j => (h.cop.wb j).1, fun j => (h.cop.wb j).2, h.b1, h.b9, h.p0, h.p5⟩
end Go.Proofs.YtpgnplmjfhdncaaGreat
namespace Go.Proofs.YtpgnplmjfhdncaaGreat
open Go.RowKit
set_option linter.unusedVariables false
/-- A room at work: the room's cells, the map. -/
abbrev bwCs (r : Rm) (q : RA) (m : Nat) : Array Value := #[.int .i64 r.cop.last, .int .i64 r.cop.start, .int .i64 r.cop.most, .int .i64 r.cop.per, .int .i64 r.cop.shovels, .slice q.q.a1 r.cop.coal.length q.q.c1, .slice q.q.a2 r.cop.want.length q.q.c2, .int .i64 r.cop.hlo, .int .i64 r.cop.hhi, .slice q.q.a3 r.cop.loss.length q.q.c3, .slice q.q.a4 r.cop.rds.length q.q.c4, .int .i64 r.buckets, .int .i64 r.places, .slice q.a5 r.baths.length q.c5, .map (some m)]
set_option maxRecDepth 100000 in
set_option maxHeartbeats 4000000 in
theorem askedR_bad (r : Rm) (q : RA) (w : World) (hq : RoomAt w w.heap.size r q) (hsm : Small r.cop) (he : roomErr r ≠ 0) :
    Calls Tryz.prog 89 #[roomV r q] w fun e w' => e = .returned (.tuple #[.pointer none, .int .i64 (roomErr r)]) ∧ Below w.heap.size w w' := by
  have HQ := Lib.hid hq
  have hne : (roomErr r == 0) = false := by simpa using he
  clear hq he
  go_enter Tryz.func89, Tryz.ntmps89
  go_wp2_with (go_at_call 28; refine (room_chk r q _ (HQ.out.up (bl_al (Below.refl _ _) _)) hsm).mono ?_; rintro e w1 ⟨rfl, hb⟩; have HB := Lib.hid hb; clear hb)
  go_ret2
  exact ⟨rfl, bl_tr (bl_al (Below.refl _ _) _) HB.out⟩
set_option maxRecDepth 100000 in
set_option maxHeartbeats 4000000 in
theorem askedR_ok (r : Rm) (q : RA) (w : World) (hq : RoomAt w w.heap.size r q) (hsm : Small r.cop) (he : roomErr r = 0) :
    Calls Tryz.prog 89 #[roomV r q] w fun e w' => ∃ m, e = .returned (.tuple #[.pointer (some ⟨m + 1, 0, none⟩), .int .i64 0]) ∧ w.heap.size < m ∧ w'.heap[m]? = some (.map #[] 0) ∧ w'.heap[m + 1]? = some (.cells (bwCs r q m) 174 (0, 0)) ∧ Below w.heap.size w w' := by
  have HQ := Lib.hid hq
  have HE := Lib.hid he
  have hmm := @run_makeMap Tryz.prog
  clear hq he
  go_enter Tryz.func89, Tryz.ntmps89
  go_wp2_with (go_at_call 28; refine (room_chk r q _ (HQ.out.up (bl_al (Below.refl _ _) _)) hsm).mono ?_; rintro e w1 ⟨rfl, hb⟩; rw [HE.out]; have hbx : Box w1 w.heap.size (roomCs r q) := (Box.new w (roomCs r q) 44 (0, 0)).bl (by simp) hb; unfold Box roomCs at hbx; have HS := Lib.hid hb.size; have HB := Lib.hid (bl_tr (bl_al (Below.refl w.heap.size w) _) hb); clear hb)
  go_ret2
  refine ⟨w1.heap.size, rfl, by have := HS.out; simp at this; omega, heap_al (World.alloc_heap_new w1 _) _, ?_, bl_al (bl_al HB.out _) _⟩
  have := World.alloc_heap_new (w1.alloc (.map #[] 0)) (.cells (bwCs r q w1.heap.size) 174)
  rw [World.size_alloc] at this
  exact this
end Go.Proofs.YtpgnplmjfhdncaaGreat
namespace Go.Proofs.YtpgnplmjfhdncaaGreat
open Go.RowKit
set_option linter.unusedVariables false
theorem mk_ints (n : Int) (h0 : 0 ≤ n) (h9 : n ≤ 1000) : ∃ Z : Array Value, Z.size = n.toNat ∧ (∀ j, j < n.toNat → Z[j]? = some (.int .i64 0)) ∧ ∀ w : World, (Instr.makeSlice 22 (.int .i64 n) (.int .i64 n)).run Tryz.prog w = .ok (.slice (some ⟨w.heap.size, 0, none⟩) n.toNat n.toNat) (w.alloc (.cells Z 3)) := by
  obtain ⟨i0, hi, hzz⟩ := Option.map_eq_some_iff.1 info3
  simp only [Prod.mk.injEq] at hzz
  obtain ⟨hz0, hz1, hz2⟩ := hzz
  refine ⟨_, ?_, ?_, fun w => run_makeSlice w 22 3 i0 (.int .i64 0) Tryz.underlying22 hi hz0 .i64 .i64 n n h0 (Int.le_refl _) (by rw [hz1]; omega) (by rw [hz2]; omega) (by omega)⟩
  · rw [hz1]; simp [madeCells, Value.cells]
  · intro j hj
    rw [hz1]
    simp [madeCells, Value.cells, hj, Nat.mod_one]
def bucketsL (r : Rm) (n : List Int) : List Int := rowI (fun h => r.buckets * nth n h) (r.cop.last + 1).toNat
set_option maxRecDepth 100000 in
set_option maxHeartbeats 4000000 in
theorem buckets_r (r : Rm) (q : RA) (n : List Int) (w : World) (h0 : 0 ≤ r.cop.last) (h4 : r.cop.last ≤ 4) (hb1 : 1 ≤ r.buckets) (hb9 : r.buckets ≤ 9) (hn : ∀ j, 0 ≤ nth n j ∧ nth n j ≤ 100) :
    Calls Tryz.prog 84 #[roomV r q, nv n] w fun e w' => ∃ v, e = .returned v ∧ w'.ownsRow w.heap.size 3 1 v (r.cop.last + 1).toNat (ints (bucketsL r n)) ∧ Below w.heap.size w w' := by
  have HN := Lib.hid hn
  clear hn
  obtain ⟨Z, hZ1, hZ2, hZ3⟩ := mk_ints (r.cop.last + 1) (by omega) (by omega)
  have HZ1 := Lib.hid hZ1
  have HZ2 := Lib.hid hZ2
  clear hZ1 hZ2
  go_enter Tryz.func84, Tryz.ntmps84
  go_wp2_with (go_at_call 103; refine (hours_c r q _ h0 h4).mono ?_; rintro e w1 ⟨rfl, hb⟩; have HB := Lib.hid hb; clear hb)
  have HS1 : Hid (w.heap.size + 2 ≤ w1.heap.size) := by have := HB.out.size; simp at this; unfold Hid; omega
  have HR0 : Hid (Box w1 w.heap.size (roomCs r q)) := ((Box.new w (roomCs r q) 44 (0, 0)).al (by simp) _).bl (by simp) HB.out
  have HN0 : Hid (Box w1 (w.heap.size + 1) (nvs n)) := (Box.new' (w.alloc (.cells (roomCs r q) 44)) (nvs n) 115 (0, 0) (by simp)).bl (by simp) HB.out
  have HB0 : Hid (Below w.heap.size w w1) := bl_tr (bl_al (bl_al (Below.refl _ _) _) _) HB.out
  clear hZ3
  go_loopw [12] (fun i wr => ∃ (j : Nat) (cu : Array Value), j ≤ (r.cop.last + 1).toNat ∧ i = .int .i64 j ∧ Below w1.heap.size w1 wr ∧ wr.heap[w1.heap.size]? = some (.cells cu 3 (0, 0)) ∧ cu.size = (r.cop.last + 1).toNat ∧ (∀ k, k < (r.cop.last + 1).toNat → cu[k]? = some (.int .i64 (if k < j then r.buckets * nth n k else 0)))) (fun i _ => (r.cop.last + 1).toNat - (intOf i).toNat)
  case atStart =>
    exact ⟨0, Z, Nat.zero_le _, rfl, bl_al (Below.refl _ _) _, World.alloc_heap_new w1 _, HZ1.out, fun k hk => by rw [if_neg (by omega)]; exact HZ2.out k hk⟩
  case round =>
    obtain ⟨j, cu, hj, rfl, hb, hh, hcs, hcu⟩ := hrel
    have HB1 := Lib.hid hb
    have HH := Lib.hid hh
    have HCU := Lib.hid hcu
    have HCS := Lib.hid hcs
    clear hb hcu hcs
    by_cases hlt : j < (r.cop.last + 1).toNat
    · have hcj : wr.cell? ⟨w1.heap.size, j, none⟩ = some (.int .i64 0) := by
        have := HCU.out j hlt
        rw [if_neg (by omega)] at this
        simp [World.cell?, hh, this]
      have hfj : wr.frozen? ⟨w1.heap.size, j, none⟩ = false := by simp [World.frozen?, hh]
      have hbk : wr.cell? ⟨w.heap.size, 11, none⟩ = some (.int .i64 r.buckets) := (HR0.out.bl (by simp) HB1.out) 11
      have hnj : wr.cell? ⟨w.heap.size + 1, j, none⟩ = some (.int .i64 (nth n j)) := ((HN0.out.bl (by simp) HB1.out) j).trans (nvs_at n j (by omega))
      have hnn := HN.out j
      have hm1 : 0 ≤ r.buckets * nth n j := Int.mul_nonneg (by omega) (by omega)
      have hm2 : r.buckets * nth n j ≤ 9 * 100 := Int.mul_le_mul hb9 hnn.2 hnn.1 (by omega)
      have hj1 : (j : Int) < r.cop.last + 1 := by omega
      have hj5 : (j : Int) < 5 := by omega
      have hne1 : ¬ w.heap.size = w1.heap.size := by have := HS1.out; omega
      have hne2 : ¬ w.heap.size + 1 = w1.heap.size := by have := HS1.out; omega
      have hj2 : (j : Int) < ((r.cop.last + 1).toNat : Int) := by omega
      have hg0 : w1.heap.size < wr.heap.size := (Array.getElem?_eq_some_iff.1 hh).1
      have KK1 : Hid (∀ v, (wr.setCell ⟨w1.heap.size, j, none⟩ v).drew.cell? ⟨w.heap.size, 11, none⟩ = some (.int .i64 r.buckets)) := fun v => (((Grown.refl (fun k => k = w1.heap.size) wr).setCell (p := ⟨w1.heap.size, j, none⟩) (.inl rfl) v).cell (b := w.heap.size) (o := 11) (by have := HS1.out; omega) (by have := HS1.out; omega)).trans hbk
      have KK2 : Hid (∀ v, (wr.setCell ⟨w1.heap.size, j, none⟩ v).drew.cell? ⟨w.heap.size + 1, j, none⟩ = some (.int .i64 (nth n j))) := fun v => (((Grown.refl (fun k => k = w1.heap.size) wr).setCell (p := ⟨w1.heap.size, j, none⟩) (.inl rfl) v).cell (b := w.heap.size + 1) (o := j) (by have := HS1.out; omega) (by have := HS1.out; omega)).trans hnj
      have hwr : IntKind.i64.wrap (r.buckets * nth n j) = r.buckets * nth n j := IntWalk.i64_in _ (by omega)
      have kk1 : ∀ v, (wr.setCell ⟨w1.heap.size, j, none⟩ v).cell? ⟨w.heap.size, 11, none⟩ = some (.int .i64 r.buckets) := fun v => KK1.out v
      have kk2 : ∀ v, (wr.setCell ⟨w1.heap.size, j, none⟩ v).cell? ⟨w.heap.size + 1, j, none⟩ = some (.int .i64 (nth n j)) := fun v => KK2.out v
      clear hh hne1 hne2 hg0 hm1 hm2 hnn KK1 KK2
      go_wp2
      go_region_held3 (fun w' => w'.cell? ⟨w.heap.size, 11, none⟩ = some (.int .i64 r.buckets) ∧ w'.cell? ⟨w.heap.size + 1, j, none⟩ = some (.int .i64 (nth n j))) (first | go_keep) (fail)
      go_wp2
      go_roundw
      case rel =>
        refine ⟨j + 1, _, by omega, by go_num, bl_dr (bl_st HB1.out (Nat.le_refl _) _), heap_setCell_same _ _ j _ _ _ HH.out, by simpa using HCS.out, fun k hk => ?_⟩
        have hk2 := HCU.out k hk
        by_cases hkj : k = j
        · subst hkj
          rw [if_pos (by omega)]
          simp [HCS.out, hk]
        · rw [Array.getElem?_setIfInBounds_ne (by omega), hk2]
          by_cases hkl : k < j
          · rw [if_pos hkl, if_pos (by omega)]
          · rw [if_neg hkl, if_neg (by omega)]
      case measure => simp [intOf]; omega
    · obtain rfl : j = (r.cop.last + 1).toNat := by omega
      have HG := Lib.hid hh
      clear hh
      go_wp2
      go_ret
      refine ⟨_, rfl, ⟨?_, .inr ⟨w1.heap.size, _, cu, rfl, by have := HS1.out; omega, HG.out, Nat.le_refl _, by simp only [maxLen]; omega, by have := HCS.out; omega, ?_⟩⟩, bl_tr HB0.out HB1.out⟩
      · simp [ints_len, bucketsL, rowI_len]
      · apply List.ext_getElem?
        intro k
        by_cases hk : k < (r.cop.last + 1).toNat
        · have h1 := HCU.out k hk
          rw [if_pos hk] at h1
          rw [List.getElem?_take, if_pos (by omega), ints_at _ k (by rw [bucketsL, rowI_len]; exact hk), bucketsL, nth_rowI _ hk]
          simpa using h1
        · rw [List.getElem?_eq_none (by simp; omega), List.getElem?_eq_none (by rw [ints_len, bucketsL, rowI_len]; omega)]
end Go.Proofs.YtpgnplmjfhdncaaGreat
