/- A part of the proof: C4. -/
import Derived.Test.YtpgnplmjfhdncaaGreatKC3
import Derived.Test.YtpgnplmjfhdncaaGreatKGet
namespace Go.Proofs.YtpgnplmjfhdncaaGreat
open Go.RowKit
set_option linter.unusedVariables false
set_option maxRecDepth 100000 in
set_option maxHeartbeats 1000000 in
theorem check_1a (c : Cop) (q : CA) (w : World) (h1 : decide (4 < c.last) = true) :
    Calls Tryz.prog 121 #[copV c q] w fun e w' => e = .returned (.int .i64 3) ∧ Below w.heap.size w w' := by
  go_enter Tryz.func121, Tryz.ntmps121
  go_wp2
  go_ret
  exact ⟨rfl, bl_al (Below.refl _ _) _⟩
set_option maxRecDepth 100000 in
set_option maxHeartbeats 1000000 in
theorem check_1b (c : Cop) (q : CA) (w : World) (h1 : decide (4 < c.last) = false) (h2 : decide ((5 : Int) < (c.rds.length : Int)) = true) :
    Calls Tryz.prog 121 #[copV c q] w fun e w' => e = .returned (.int .i64 3) ∧ Below w.heap.size w w' := by
  go_enter Tryz.func121, Tryz.ntmps121
  go_wp2
  go_ret
  exact ⟨rfl, bl_al (Below.refl _ _) _⟩
set_option maxRecDepth 100000 in
set_option maxHeartbeats 1000000 in
theorem check_2a (c : Cop) (q : CA) (w : World) (h1 : decide (4 < c.last) = false) (h2 : decide ((5 : Int) < (c.rds.length : Int)) = false) (v1 : decide (c.last < 0) = true) :
    Calls Tryz.prog 121 #[copV c q] w fun e w' => e = .returned (.int .i64 1) ∧ Below w.heap.size w w' := by
  go_enter Tryz.func121, Tryz.ntmps121
  go_wp2
  go_ret
  exact ⟨rfl, bl_al (Below.refl _ _) _⟩
set_option maxRecDepth 100000 in
set_option maxHeartbeats 1000000 in
theorem check_2b (c : Cop) (q : CA) (w : World) (h1 : decide (4 < c.last) = false) (h2 : decide ((5 : Int) < (c.rds.length : Int)) = false) (v1 : decide (c.last < 0) = false) (v2 : within c.start 0 c.most = false) :
    Calls Tryz.prog 121 #[copV c q] w fun e w' => e = .returned (.int .i64 1) ∧ Below w.heap.size w w' := by
  go_enter Tryz.func121, Tryz.ntmps121
  go_wp2_with (go_at_call 144; refine (within_c _ _ _ _).mono ?_; rintro e w1 ⟨rfl, rfl⟩)
  go_ret
  exact ⟨rfl, bl_al (Below.refl _ _) _⟩
set_option maxRecDepth 100000 in
set_option maxHeartbeats 1000000 in
theorem check_2c (c : Cop) (q : CA) (w : World) (h1 : decide (4 < c.last) = false) (h2 : decide ((5 : Int) < (c.rds.length : Int)) = false) (v1 : decide (c.last < 0) = false) (v2 : within c.start 0 c.most = true) (v3 : decide (999 < c.most) = true) :
    Calls Tryz.prog 121 #[copV c q] w fun e w' => e = .returned (.int .i64 1) ∧ Below w.heap.size w w' := by
  go_enter Tryz.func121, Tryz.ntmps121
  go_wp2_with (go_at_call 144; refine (within_c _ _ _ _).mono ?_; rintro e w1 ⟨rfl, rfl⟩)
  go_ret
  exact ⟨rfl, bl_al (Below.refl _ _) _⟩
set_option maxRecDepth 100000 in
set_option maxHeartbeats 1000000 in
theorem check_2d (c : Cop) (q : CA) (w : World) (h1 : decide (4 < c.last) = false) (h2 : decide ((5 : Int) < (c.rds.length : Int)) = false) (v1 : decide (c.last < 0) = false) (v2 : within c.start 0 c.most = true) (v3 : decide (999 < c.most) = false) (v4 : within c.per 1 20 = false) :
    Calls Tryz.prog 121 #[copV c q] w fun e w' => e = .returned (.int .i64 1) ∧ Below w.heap.size w w' := by
  go_enter Tryz.func121, Tryz.ntmps121
  go_wp2_with (go_at_call 144; refine (within_c _ _ _ _).mono ?_; rintro e w1 ⟨rfl, rfl⟩)
  go_ret
  exact ⟨rfl, bl_al (Below.refl _ _) _⟩
set_option maxRecDepth 100000 in
set_option maxHeartbeats 1000000 in
theorem check_2e (c : Cop) (q : CA) (w : World) (h1 : decide (4 < c.last) = false) (h2 : decide ((5 : Int) < (c.rds.length : Int)) = false) (v1 : decide (c.last < 0) = false) (v2 : within c.start 0 c.most = true) (v3 : decide (999 < c.most) = false) (v4 : within c.per 1 20 = true) (v5 : within c.shovels 0 3 = false) :
    Calls Tryz.prog 121 #[copV c q] w fun e w' => e = .returned (.int .i64 1) ∧ Below w.heap.size w w' := by
  go_enter Tryz.func121, Tryz.ntmps121
  go_wp2_with (go_at_call 144; refine (within_c _ _ _ _).mono ?_; rintro e w1 ⟨rfl, rfl⟩)
  go_ret
  exact ⟨rfl, bl_al (Below.refl _ _) _⟩
theorem check_1 (c : Cop) (q : CA) (w : World) (h : bad1 c = true) :
    Calls Tryz.prog 121 #[copV c q] w fun e w' => e = .returned (.int .i64 3) ∧ Below w.heap.size w w' := by
  cases h1 : decide (4 < c.last) with
  | true => exact check_1a c q w h1
  | false =>
    have h2 : decide ((5 : Int) < (c.rds.length : Int)) = true := by simpa [bad1, h1] using h
    exact check_1b c q w h1 h2
theorem check_2 (c : Cop) (q : CA) (w : World) (h0 : bad1 c = false) (h : bad2 c = true) :
    Calls Tryz.prog 121 #[copV c q] w fun e w' => e = .returned (.int .i64 1) ∧ Below w.heap.size w w' := by
  simp only [bad1, Bool.or_eq_false_iff] at h0
  obtain ⟨h1, h2⟩ := h0
  cases v1 : decide (c.last < 0) with
  | true => exact check_2a c q w h1 h2 v1
  | false =>
    cases v2 : within c.start 0 c.most with
    | false => exact check_2b c q w h1 h2 v1 v2
    | true =>
      cases v3 : decide (999 < c.most) with
      | true => exact check_2c c q w h1 h2 v1 v2 v3
      | false =>
        cases v4 : within c.per 1 20 with
        | false => exact check_2d c q w h1 h2 v1 v2 v3 v4
        | true =>
          cases v5 : within c.shovels 0 3 with
          | false => exact check_2e c q w h1 h2 v1 v2 v3 v4 v5
          | true => simp [bad2, v1, v2, v3, v4, v5] at h
set_option maxRecDepth 100000 in
set_option maxHeartbeats 1000000 in
theorem check_3a (c : Cop) (q : CA) (w : World) (hq : CopAt w w.heap.size c q) (hn1 : c.coal.length ≤ 1000000000) (hn2 : c.want.length ≤ 1000000000) (hn3 : c.loss.length ≤ 1000000000) (hn4 : c.rds.length ≤ 1000000000) (h1 : decide (4 < c.last) = false) (h2 : decide ((5 : Int) < (c.rds.length : Int)) = false) (v1 : decide (c.last < 0) = false) (v2 : within c.start 0 c.most = true) (v3 : decide (999 < c.most) = false) (v4 : within c.per 1 20 = true) (v5 : within c.shovels 0 3 = true)
    (u1 : coalB c c.coal = false) :
    Calls Tryz.prog 121 #[copV c q] w fun e w' => e = .returned (.int .i64 1) ∧ Below w.heap.size w w' := by
  have HQ := Lib.hid hq
  clear hq
  have hl0 : 0 ≤ c.last := by simpa using v1
  have hl4 : c.last ≤ 4 := by simpa using h1
  go_enter Tryz.func121, Tryz.ntmps121
  go_wp2_with (first | (go_at_call 144; refine (within_c _ _ _ _).mono ?_; rintro e w1 ⟨rfl, rfl⟩) | (go_at_call 154; refine (isCoal_c c q c.coal q.a1 q.c1 _ (by omega) (by omega) hn1 (HQ.out.coal.up (by repeat (first | exact Below.refl _ _ | refine bl_al ?_ _ | refine bl_pl ?_ _)))).mono ?_; rintro e w1 ⟨rfl, hb⟩; obtain ⟨d, rfl⟩ := below_plus hb; clear hb) | (go_at_call 119; refine (promised_c c q c.want q.a2 q.c2 _ (by omega) (by omega) hn2 (HQ.out.want.up (by repeat (first | exact Below.refl _ _ | refine bl_al ?_ _ | refine bl_pl ?_ _)))).mono ?_; rintro e w1 ⟨rfl, hb⟩; obtain ⟨d, rfl⟩ := below_plus hb; clear hb) | (go_at_call 155; refine (inside_c _ _ _ _).mono ?_; rintro e w1 ⟨rfl, hb⟩; obtain ⟨d, rfl⟩ := below_plus hb; clear hb) | (go_at_call 156; refine (allR_c 157 #[] #[] (enters_of Tryz.func157 (by kernel_rfl) rfl) (fun j => okR 99 (p1 c.loss j) (p2 c.loss j)) c.loss q.a3 q.c3 _ hn3 (HQ.out.loss.up (by repeat (first | exact Below.refl _ _ | refine bl_al ?_ _ | refine bl_pl ?_ _))) (fun j hj W hW => lost_c _ _ _)).mono ?_; rintro e w1 ⟨rfl, hb⟩; obtain ⟨d, rfl⟩ := below_plus hb; clear hb) | (go_at_call 158; refine (allD_c 153 #[copV c q] #[] (enters_of Tryz.func153 (by kernel_rfl) rfl) (fun j => okRd c.last (t1 c.rds j) (t2 c.rds j) (t3 c.rds j)) c.rds q.a4 q.c4 _ hn4 (HQ.out.rds.up (by repeat (first | exact Below.refl _ _ | refine bl_al ?_ _ | refine bl_pl ?_ _))) (fun j hj W hW => reading_c c q _ _ _ _)).mono ?_; rintro e w1 ⟨rfl, hb⟩; obtain ⟨d, rfl⟩ := below_plus hb; clear hb))
  go_ret
  exact ⟨rfl, by repeat (first | exact bl_al (Below.refl _ _) _ | refine bl_pl ?_ _)⟩
set_option maxRecDepth 100000 in
set_option maxHeartbeats 1000000 in
theorem check_3b (c : Cop) (q : CA) (w : World) (hq : CopAt w w.heap.size c q) (hn1 : c.coal.length ≤ 1000000000) (hn2 : c.want.length ≤ 1000000000) (hn3 : c.loss.length ≤ 1000000000) (hn4 : c.rds.length ≤ 1000000000) (h1 : decide (4 < c.last) = false) (h2 : decide ((5 : Int) < (c.rds.length : Int)) = false) (v1 : decide (c.last < 0) = false) (v2 : within c.start 0 c.most = true) (v3 : decide (999 < c.most) = false) (v4 : within c.per 1 20 = true) (v5 : within c.shovels 0 3 = true)
    (u1 : coalB c c.coal = true) (u2 : promB c c.want = false) :
    Calls Tryz.prog 121 #[copV c q] w fun e w' => e = .returned (.int .i64 1) ∧ Below w.heap.size w w' := by
  have HQ := Lib.hid hq
  clear hq
  have hl0 : 0 ≤ c.last := by simpa using v1
  have hl4 : c.last ≤ 4 := by simpa using h1
  go_enter Tryz.func121, Tryz.ntmps121
  go_wp2_with (first | (go_at_call 144; refine (within_c _ _ _ _).mono ?_; rintro e w1 ⟨rfl, rfl⟩) | (go_at_call 154; refine (isCoal_c c q c.coal q.a1 q.c1 _ (by omega) (by omega) hn1 (HQ.out.coal.up (by repeat (first | exact Below.refl _ _ | refine bl_al ?_ _ | refine bl_pl ?_ _)))).mono ?_; rintro e w1 ⟨rfl, hb⟩; obtain ⟨d, rfl⟩ := below_plus hb; clear hb) | (go_at_call 119; refine (promised_c c q c.want q.a2 q.c2 _ (by omega) (by omega) hn2 (HQ.out.want.up (by repeat (first | exact Below.refl _ _ | refine bl_al ?_ _ | refine bl_pl ?_ _)))).mono ?_; rintro e w1 ⟨rfl, hb⟩; obtain ⟨d, rfl⟩ := below_plus hb; clear hb) | (go_at_call 155; refine (inside_c _ _ _ _).mono ?_; rintro e w1 ⟨rfl, hb⟩; obtain ⟨d, rfl⟩ := below_plus hb; clear hb) | (go_at_call 156; refine (allR_c 157 #[] #[] (enters_of Tryz.func157 (by kernel_rfl) rfl) (fun j => okR 99 (p1 c.loss j) (p2 c.loss j)) c.loss q.a3 q.c3 _ hn3 (HQ.out.loss.up (by repeat (first | exact Below.refl _ _ | refine bl_al ?_ _ | refine bl_pl ?_ _))) (fun j hj W hW => lost_c _ _ _)).mono ?_; rintro e w1 ⟨rfl, hb⟩; obtain ⟨d, rfl⟩ := below_plus hb; clear hb) | (go_at_call 158; refine (allD_c 153 #[copV c q] #[] (enters_of Tryz.func153 (by kernel_rfl) rfl) (fun j => okRd c.last (t1 c.rds j) (t2 c.rds j) (t3 c.rds j)) c.rds q.a4 q.c4 _ hn4 (HQ.out.rds.up (by repeat (first | exact Below.refl _ _ | refine bl_al ?_ _ | refine bl_pl ?_ _))) (fun j hj W hW => reading_c c q _ _ _ _)).mono ?_; rintro e w1 ⟨rfl, hb⟩; obtain ⟨d, rfl⟩ := below_plus hb; clear hb))
  go_ret
  exact ⟨rfl, by repeat (first | exact bl_al (Below.refl _ _) _ | refine bl_pl ?_ _)⟩
set_option maxRecDepth 100000 in
set_option maxHeartbeats 1000000 in
theorem check_3c (c : Cop) (q : CA) (w : World) (hq : CopAt w w.heap.size c q) (hn1 : c.coal.length ≤ 1000000000) (hn2 : c.want.length ≤ 1000000000) (hn3 : c.loss.length ≤ 1000000000) (hn4 : c.rds.length ≤ 1000000000) (h1 : decide (4 < c.last) = false) (h2 : decide ((5 : Int) < (c.rds.length : Int)) = false) (v1 : decide (c.last < 0) = false) (v2 : within c.start 0 c.most = true) (v3 : decide (999 < c.most) = false) (v4 : within c.per 1 20 = true) (v5 : within c.shovels 0 3 = true)
    (u1 : coalB c c.coal = true) (u2 : promB c c.want = true) (u3 : okR 99 c.hlo c.hhi = false) :
    Calls Tryz.prog 121 #[copV c q] w fun e w' => e = .returned (.int .i64 1) ∧ Below w.heap.size w w' := by
  have HQ := Lib.hid hq
  clear hq
  have hl0 : 0 ≤ c.last := by simpa using v1
  have hl4 : c.last ≤ 4 := by simpa using h1
  go_enter Tryz.func121, Tryz.ntmps121
  go_wp2_with (first | (go_at_call 144; refine (within_c _ _ _ _).mono ?_; rintro e w1 ⟨rfl, rfl⟩) | (go_at_call 154; refine (isCoal_c c q c.coal q.a1 q.c1 _ (by omega) (by omega) hn1 (HQ.out.coal.up (by repeat (first | exact Below.refl _ _ | refine bl_al ?_ _ | refine bl_pl ?_ _)))).mono ?_; rintro e w1 ⟨rfl, hb⟩; obtain ⟨d, rfl⟩ := below_plus hb; clear hb) | (go_at_call 119; refine (promised_c c q c.want q.a2 q.c2 _ (by omega) (by omega) hn2 (HQ.out.want.up (by repeat (first | exact Below.refl _ _ | refine bl_al ?_ _ | refine bl_pl ?_ _)))).mono ?_; rintro e w1 ⟨rfl, hb⟩; obtain ⟨d, rfl⟩ := below_plus hb; clear hb) | (go_at_call 155; refine (inside_c _ _ _ _).mono ?_; rintro e w1 ⟨rfl, hb⟩; obtain ⟨d, rfl⟩ := below_plus hb; clear hb) | (go_at_call 156; refine (allR_c 157 #[] #[] (enters_of Tryz.func157 (by kernel_rfl) rfl) (fun j => okR 99 (p1 c.loss j) (p2 c.loss j)) c.loss q.a3 q.c3 _ hn3 (HQ.out.loss.up (by repeat (first | exact Below.refl _ _ | refine bl_al ?_ _ | refine bl_pl ?_ _))) (fun j hj W hW => lost_c _ _ _)).mono ?_; rintro e w1 ⟨rfl, hb⟩; obtain ⟨d, rfl⟩ := below_plus hb; clear hb) | (go_at_call 158; refine (allD_c 153 #[copV c q] #[] (enters_of Tryz.func153 (by kernel_rfl) rfl) (fun j => okRd c.last (t1 c.rds j) (t2 c.rds j) (t3 c.rds j)) c.rds q.a4 q.c4 _ hn4 (HQ.out.rds.up (by repeat (first | exact Below.refl _ _ | refine bl_al ?_ _ | refine bl_pl ?_ _))) (fun j hj W hW => reading_c c q _ _ _ _)).mono ?_; rintro e w1 ⟨rfl, hb⟩; obtain ⟨d, rfl⟩ := below_plus hb; clear hb))
  go_ret
  exact ⟨rfl, by repeat (first | exact bl_al (Below.refl _ _) _ | refine bl_pl ?_ _)⟩
set_option maxRecDepth 100000 in
set_option maxHeartbeats 1000000 in
theorem check_3d (c : Cop) (q : CA) (w : World) (hq : CopAt w w.heap.size c q) (hn1 : c.coal.length ≤ 1000000000) (hn2 : c.want.length ≤ 1000000000) (hn3 : c.loss.length ≤ 1000000000) (hn4 : c.rds.length ≤ 1000000000) (h1 : decide (4 < c.last) = false) (h2 : decide ((5 : Int) < (c.rds.length : Int)) = false) (v1 : decide (c.last < 0) = false) (v2 : within c.start 0 c.most = true) (v3 : decide (999 < c.most) = false) (v4 : within c.per 1 20 = true) (v5 : within c.shovels 0 3 = true)
    (u1 : coalB c c.coal = true) (u2 : promB c c.want = true) (u3 : okR 99 c.hlo c.hhi = true) (u4 : ((c.loss.length : Int) != c.last + 1) = true) :
    Calls Tryz.prog 121 #[copV c q] w fun e w' => e = .returned (.int .i64 1) ∧ Below w.heap.size w w' := by
  have HQ := Lib.hid hq
  clear hq
  have hl0 : 0 ≤ c.last := by simpa using v1
  have hl4 : c.last ≤ 4 := by simpa using h1
  go_enter Tryz.func121, Tryz.ntmps121
  go_wp2_with (first | (go_at_call 144; refine (within_c _ _ _ _).mono ?_; rintro e w1 ⟨rfl, rfl⟩) | (go_at_call 154; refine (isCoal_c c q c.coal q.a1 q.c1 _ (by omega) (by omega) hn1 (HQ.out.coal.up (by repeat (first | exact Below.refl _ _ | refine bl_al ?_ _ | refine bl_pl ?_ _)))).mono ?_; rintro e w1 ⟨rfl, hb⟩; obtain ⟨d, rfl⟩ := below_plus hb; clear hb) | (go_at_call 119; refine (promised_c c q c.want q.a2 q.c2 _ (by omega) (by omega) hn2 (HQ.out.want.up (by repeat (first | exact Below.refl _ _ | refine bl_al ?_ _ | refine bl_pl ?_ _)))).mono ?_; rintro e w1 ⟨rfl, hb⟩; obtain ⟨d, rfl⟩ := below_plus hb; clear hb) | (go_at_call 155; refine (inside_c _ _ _ _).mono ?_; rintro e w1 ⟨rfl, hb⟩; obtain ⟨d, rfl⟩ := below_plus hb; clear hb) | (go_at_call 156; refine (allR_c 157 #[] #[] (enters_of Tryz.func157 (by kernel_rfl) rfl) (fun j => okR 99 (p1 c.loss j) (p2 c.loss j)) c.loss q.a3 q.c3 _ hn3 (HQ.out.loss.up (by repeat (first | exact Below.refl _ _ | refine bl_al ?_ _ | refine bl_pl ?_ _))) (fun j hj W hW => lost_c _ _ _)).mono ?_; rintro e w1 ⟨rfl, hb⟩; obtain ⟨d, rfl⟩ := below_plus hb; clear hb) | (go_at_call 158; refine (allD_c 153 #[copV c q] #[] (enters_of Tryz.func153 (by kernel_rfl) rfl) (fun j => okRd c.last (t1 c.rds j) (t2 c.rds j) (t3 c.rds j)) c.rds q.a4 q.c4 _ hn4 (HQ.out.rds.up (by repeat (first | exact Below.refl _ _ | refine bl_al ?_ _ | refine bl_pl ?_ _))) (fun j hj W hW => reading_c c q _ _ _ _)).mono ?_; rintro e w1 ⟨rfl, hb⟩; obtain ⟨d, rfl⟩ := below_plus hb; clear hb))
  go_ret
  exact ⟨rfl, by repeat (first | exact bl_al (Below.refl _ _) _ | refine bl_pl ?_ _)⟩
set_option maxRecDepth 100000 in
set_option maxHeartbeats 1000000 in
theorem check_3e (c : Cop) (q : CA) (w : World) (hq : CopAt w w.heap.size c q) (hn1 : c.coal.length ≤ 1000000000) (hn2 : c.want.length ≤ 1000000000) (hn3 : c.loss.length ≤ 1000000000) (hn4 : c.rds.length ≤ 1000000000) (h1 : decide (4 < c.last) = false) (h2 : decide ((5 : Int) < (c.rds.length : Int)) = false) (v1 : decide (c.last < 0) = false) (v2 : within c.start 0 c.most = true) (v3 : decide (999 < c.most) = false) (v4 : within c.per 1 20 = true) (v5 : within c.shovels 0 3 = true)
    (u1 : coalB c c.coal = true) (u2 : promB c c.want = true) (u3 : okR 99 c.hlo c.hhi = true) (u4 : ((c.loss.length : Int) != c.last + 1) = false) (u5 : allN (fun j => okR 99 (p1 c.loss j) (p2 c.loss j)) c.loss.length = false) :
    Calls Tryz.prog 121 #[copV c q] w fun e w' => e = .returned (.int .i64 1) ∧ Below w.heap.size w w' := by
  have HQ := Lib.hid hq
  clear hq
  have hl0 : 0 ≤ c.last := by simpa using v1
  have hl4 : c.last ≤ 4 := by simpa using h1
  go_enter Tryz.func121, Tryz.ntmps121
  go_wp2_with (first | (go_at_call 144; refine (within_c _ _ _ _).mono ?_; rintro e w1 ⟨rfl, rfl⟩) | (go_at_call 154; refine (isCoal_c c q c.coal q.a1 q.c1 _ (by omega) (by omega) hn1 (HQ.out.coal.up (by repeat (first | exact Below.refl _ _ | refine bl_al ?_ _ | refine bl_pl ?_ _)))).mono ?_; rintro e w1 ⟨rfl, hb⟩; obtain ⟨d, rfl⟩ := below_plus hb; clear hb) | (go_at_call 119; refine (promised_c c q c.want q.a2 q.c2 _ (by omega) (by omega) hn2 (HQ.out.want.up (by repeat (first | exact Below.refl _ _ | refine bl_al ?_ _ | refine bl_pl ?_ _)))).mono ?_; rintro e w1 ⟨rfl, hb⟩; obtain ⟨d, rfl⟩ := below_plus hb; clear hb) | (go_at_call 155; refine (inside_c _ _ _ _).mono ?_; rintro e w1 ⟨rfl, hb⟩; obtain ⟨d, rfl⟩ := below_plus hb; clear hb) | (go_at_call 156; refine (allR_c 157 #[] #[] (enters_of Tryz.func157 (by kernel_rfl) rfl) (fun j => okR 99 (p1 c.loss j) (p2 c.loss j)) c.loss q.a3 q.c3 _ hn3 (HQ.out.loss.up (by repeat (first | exact Below.refl _ _ | refine bl_al ?_ _ | refine bl_pl ?_ _))) (fun j hj W hW => lost_c _ _ _)).mono ?_; rintro e w1 ⟨rfl, hb⟩; obtain ⟨d, rfl⟩ := below_plus hb; clear hb) | (go_at_call 158; refine (allD_c 153 #[copV c q] #[] (enters_of Tryz.func153 (by kernel_rfl) rfl) (fun j => okRd c.last (t1 c.rds j) (t2 c.rds j) (t3 c.rds j)) c.rds q.a4 q.c4 _ hn4 (HQ.out.rds.up (by repeat (first | exact Below.refl _ _ | refine bl_al ?_ _ | refine bl_pl ?_ _))) (fun j hj W hW => reading_c c q _ _ _ _)).mono ?_; rintro e w1 ⟨rfl, hb⟩; obtain ⟨d, rfl⟩ := below_plus hb; clear hb))
  go_ret
  exact ⟨rfl, by repeat (first | exact bl_al (Below.refl _ _) _ | refine bl_pl ?_ _)⟩
set_option maxRecDepth 100000 in
set_option maxHeartbeats 1000000 in
theorem check_3f (c : Cop) (q : CA) (w : World) (hq : CopAt w w.heap.size c q) (hn1 : c.coal.length ≤ 1000000000) (hn2 : c.want.length ≤ 1000000000) (hn3 : c.loss.length ≤ 1000000000) (hn4 : c.rds.length ≤ 1000000000) (h1 : decide (4 < c.last) = false) (h2 : decide ((5 : Int) < (c.rds.length : Int)) = false) (v1 : decide (c.last < 0) = false) (v2 : within c.start 0 c.most = true) (v3 : decide (999 < c.most) = false) (v4 : within c.per 1 20 = true) (v5 : within c.shovels 0 3 = true)
    (u1 : coalB c c.coal = true) (u2 : promB c c.want = true) (u3 : okR 99 c.hlo c.hhi = true) (u4 : ((c.loss.length : Int) != c.last + 1) = false) (u5 : allN (fun j => okR 99 (p1 c.loss j) (p2 c.loss j)) c.loss.length = true) (u6 : allN (fun j => okRd c.last (t1 c.rds j) (t2 c.rds j) (t3 c.rds j)) c.rds.length = false) :
    Calls Tryz.prog 121 #[copV c q] w fun e w' => e = .returned (.int .i64 1) ∧ Below w.heap.size w w' := by
  have HQ := Lib.hid hq
  clear hq
  have hl0 : 0 ≤ c.last := by simpa using v1
  have hl4 : c.last ≤ 4 := by simpa using h1
  go_enter Tryz.func121, Tryz.ntmps121
  go_wp2_with (first | (go_at_call 144; refine (within_c _ _ _ _).mono ?_; rintro e w1 ⟨rfl, rfl⟩) | (go_at_call 154; refine (isCoal_c c q c.coal q.a1 q.c1 _ (by omega) (by omega) hn1 (HQ.out.coal.up (by repeat (first | exact Below.refl _ _ | refine bl_al ?_ _ | refine bl_pl ?_ _)))).mono ?_; rintro e w1 ⟨rfl, hb⟩; obtain ⟨d, rfl⟩ := below_plus hb; clear hb) | (go_at_call 119; refine (promised_c c q c.want q.a2 q.c2 _ (by omega) (by omega) hn2 (HQ.out.want.up (by repeat (first | exact Below.refl _ _ | refine bl_al ?_ _ | refine bl_pl ?_ _)))).mono ?_; rintro e w1 ⟨rfl, hb⟩; obtain ⟨d, rfl⟩ := below_plus hb; clear hb) | (go_at_call 155; refine (inside_c _ _ _ _).mono ?_; rintro e w1 ⟨rfl, hb⟩; obtain ⟨d, rfl⟩ := below_plus hb; clear hb) | (go_at_call 156; refine (allR_c 157 #[] #[] (enters_of Tryz.func157 (by kernel_rfl) rfl) (fun j => okR 99 (p1 c.loss j) (p2 c.loss j)) c.loss q.a3 q.c3 _ hn3 (HQ.out.loss.up (by repeat (first | exact Below.refl _ _ | refine bl_al ?_ _ | refine bl_pl ?_ _))) (fun j hj W hW => lost_c _ _ _)).mono ?_; rintro e w1 ⟨rfl, hb⟩; obtain ⟨d, rfl⟩ := below_plus hb; clear hb) | (go_at_call 158; refine (allD_c 153 #[copV c q] #[] (enters_of Tryz.func153 (by kernel_rfl) rfl) (fun j => okRd c.last (t1 c.rds j) (t2 c.rds j) (t3 c.rds j)) c.rds q.a4 q.c4 _ hn4 (HQ.out.rds.up (by repeat (first | exact Below.refl _ _ | refine bl_al ?_ _ | refine bl_pl ?_ _))) (fun j hj W hW => reading_c c q _ _ _ _)).mono ?_; rintro e w1 ⟨rfl, hb⟩; obtain ⟨d, rfl⟩ := below_plus hb; clear hb))
  go_ret
  exact ⟨rfl, by repeat (first | exact bl_al (Below.refl _ _) _ | refine bl_pl ?_ _)⟩
set_option maxRecDepth 100000 in
set_option maxHeartbeats 1000000 in
theorem check_ok (c : Cop) (q : CA) (w : World) (hq : CopAt w w.heap.size c q) (hn1 : c.coal.length ≤ 1000000000) (hn2 : c.want.length ≤ 1000000000) (hn3 : c.loss.length ≤ 1000000000) (hn4 : c.rds.length ≤ 1000000000) (h1 : decide (4 < c.last) = false) (h2 : decide ((5 : Int) < (c.rds.length : Int)) = false) (v1 : decide (c.last < 0) = false) (v2 : within c.start 0 c.most = true) (v3 : decide (999 < c.most) = false) (v4 : within c.per 1 20 = true) (v5 : within c.shovels 0 3 = true)
    (u1 : coalB c c.coal = true) (u2 : promB c c.want = true) (u3 : okR 99 c.hlo c.hhi = true) (u4 : ((c.loss.length : Int) != c.last + 1) = false) (u5 : allN (fun j => okR 99 (p1 c.loss j) (p2 c.loss j)) c.loss.length = true) (u6 : allN (fun j => okRd c.last (t1 c.rds j) (t2 c.rds j) (t3 c.rds j)) c.rds.length = true) :
    Calls Tryz.prog 121 #[copV c q] w fun e w' => e = .returned (.int .i64 (if 2000 < manyC c c.loss.length then 3 else 0)) ∧ Below w.heap.size w w' := by
  have hlz : 0 < c.loss.length := by
    have e1 : (c.loss.length : Int) = c.last + 1 := by simpa using u4
    have e2 : 0 ≤ c.last := by simpa using v1
    omega
  obtain ⟨b, o, ha⟩ := hq.loss.some_ hlz
  obtain ⟨a1, c1, a2, c2, a3, c3, a4, c4⟩ := q
  dsimp only at ha
  subst ha
  have HQ := Lib.hid hq
  clear hq
  have hl0 : 0 ≤ c.last := by simpa using v1
  have hl4 : c.last ≤ 4 := by simpa using h1
  have hbd : Hid (∀ j, j ≤ c.loss.length → 1 ≤ manyC c j ∧ manyC c j ≤ 2001) := manyC_bd u3 ((allN_iff _ _).1 u5)
  have hok : Hid (∀ j, j < c.loss.length → okR 99 (p1 c.loss j) (p2 c.loss j) = true) := (allN_iff _ _).1 u5
  have hh := okR_spec u3
  obtain ⟨hh1, hh2, hh3⟩ := hh
  go_enter Tryz.func121, Tryz.ntmps121
  go_wp2_with (first | (go_at_call 144; refine (within_c _ _ _ _).mono ?_; rintro e w1 ⟨rfl, rfl⟩) | (go_at_call 154; refine (isCoal_c c ⟨a1, c1, a2, c2, some ⟨b, o, none⟩, c3, a4, c4⟩ c.coal a1 c1 _ (by omega) (by omega) hn1 (HQ.out.coal.up (by repeat (first | exact Below.refl _ _ | refine bl_al ?_ _ | refine bl_pl ?_ _)))).mono ?_; rintro e w1 ⟨rfl, hb⟩; obtain ⟨d, rfl⟩ := below_plus hb; clear hb) | (go_at_call 119; refine (promised_c c ⟨a1, c1, a2, c2, some ⟨b, o, none⟩, c3, a4, c4⟩ c.want a2 c2 _ (by omega) (by omega) hn2 (HQ.out.want.up (by repeat (first | exact Below.refl _ _ | refine bl_al ?_ _ | refine bl_pl ?_ _)))).mono ?_; rintro e w1 ⟨rfl, hb⟩; obtain ⟨d, rfl⟩ := below_plus hb; clear hb) | (go_at_call 155; refine (inside_c _ _ _ _).mono ?_; rintro e w1 ⟨rfl, hb⟩; obtain ⟨d, rfl⟩ := below_plus hb; clear hb) | (go_at_call 156; refine (allR_c 157 #[] #[] (enters_of Tryz.func157 (by kernel_rfl) rfl) (fun j => okR 99 (p1 c.loss j) (p2 c.loss j)) c.loss (some ⟨b, o, none⟩) c3 _ hn3 (HQ.out.loss.up (by repeat (first | exact Below.refl _ _ | refine bl_al ?_ _ | refine bl_pl ?_ _))) (fun j hj W hW => lost_c _ _ _)).mono ?_; rintro e w1 ⟨rfl, hb⟩; obtain ⟨d, rfl⟩ := below_plus hb; clear hb) | (go_at_call 158; refine (allD_c 153 #[copV c ⟨a1, c1, a2, c2, some ⟨b, o, none⟩, c3, a4, c4⟩] #[] (enters_of Tryz.func153 (by kernel_rfl) rfl) (fun j => okRd c.last (t1 c.rds j) (t2 c.rds j) (t3 c.rds j)) c.rds a4 c4 _ hn4 (HQ.out.rds.up (by repeat (first | exact Below.refl _ _ | refine bl_al ?_ _ | refine bl_pl ?_ _))) (fun j hj W hW => reading_c c ⟨a1, c1, a2, c2, some ⟨b, o, none⟩, c3, a4, c4⟩ _ _ _ _)).mono ?_; rintro e w1 ⟨rfl, hb⟩; obtain ⟨d, rfl⟩ := below_plus hb; clear hb) | (go_at_call 159; refine (size_c _ _ _ (by omega) (by omega) (by omega)).mono ?_; rintro e w1 ⟨rfl, hb⟩; obtain ⟨d, rfl⟩ := below_plus hb; clear hb))
  go_loopw [4, 95] (fun m i wr => ∃ j : Nat, j ≤ c.loss.length ∧ i = .int .i64 j ∧ m = .int .i64 (manyC c j) ∧ Below w.heap.size w wr) (fun _ i _ => c.loss.length - (intOf i).toNat)
  case atStart => exact ⟨0, Nat.zero_le _, rfl, rfl, (by repeat (first | exact Below.refl _ _ | refine bl_al ?_ _ | refine bl_pl ?_ _))⟩
  case round =>
    obtain ⟨j, hj, rfl, rfl, hb⟩ := hrel
    have HB := Lib.hid hb
    clear hb
    have hm := hbd.out j hj
    obtain ⟨hm1, hm2⟩ := hm
    by_cases hlt : j < c.loss.length
    · have hl := okR_spec (hok.out j hlt)
      obtain ⟨hl1, hl2, hl3⟩ := hl
      obtain ⟨hc1, hc2⟩ := (HQ.out.loss.below HB.out).get j hlt
      have hp1 : 0 ≤ manyC c j * (p2 c.loss j - p1 c.loss j + 1) := Int.mul_nonneg (by omega) (by omega)
      have hp2 : manyC c j * (p2 c.loss j - p1 c.loss j + 1) ≤ 2001 * 100 := Int.mul_le_mul (by omega) (by omega) (by omega) (by omega)
      have hmn : Hid (min (manyC c j * (p2 c.loss j - p1 c.loss j + 1)) 2001 = manyC c (j + 1)) := rfl
      go_wp2_with (first | (go_at_call 159; refine (size_c _ _ _ (by omega) (by omega) (by omega)).mono ?_; rintro e w1 ⟨rfl, hb⟩; obtain ⟨d, rfl⟩ := below_plus hb; clear hb) | (go_at_call 148; refine (min2_c (manyC c j * (p2 c.loss j - p1 c.loss j + 1)) 2001 _ _ _ _ (by go_simp) (by go_simp)).mono ?_; rintro e w1 ⟨rfl, rfl⟩))
      go_roundw
      case rel => exact ⟨j + 1, by omega, by go_num, by rw [hmn.out], by repeat (first | exact HB.out | refine bl_al ?_ _ | refine bl_pl ?_ _)⟩
      case measure => simp [intOf]; omega
    · obtain rfl : j = c.loss.length := by omega
      by_cases hgt : 2000 < manyC c c.loss.length
      · have hif : Hid ((if 2000 < manyC c c.loss.length then (3 : Int) else 0) = 3) := if_pos hgt
        go_wp2
        go_ret
        exact ⟨by first | rfl | (rw [hif.out]; rfl), HB.out⟩
      · have hif : Hid ((if 2000 < manyC c c.loss.length then (3 : Int) else 0) = 0) := if_neg hgt
        have hle : manyC c c.loss.length ≤ 2000 := by omega
        go_wp2
        go_ret
        exact ⟨by first | rfl | (rw [hif.out]; rfl), HB.out⟩
/-- **CheckCopper.** -/
theorem check_c (c : Cop) (q : CA) (w : World) (hq : CopAt w w.heap.size c q) (hn1 : c.coal.length ≤ 1000000000) (hn2 : c.want.length ≤ 1000000000) (hn3 : c.loss.length ≤ 1000000000) (hn4 : c.rds.length ≤ 1000000000) :
    Calls Tryz.prog 121 #[copV c q] w fun e w' => e = .returned (.int .i64 (checkCop c)) ∧ Below w.heap.size w w' := by
  unfold checkCop
  cases g1 : bad1 c with
  | true => exact check_1 c q w g1
  | false =>
    cases g2 : bad2 c with
    | true => exact check_2 c q w g1 g2
    | false =>
      have hb1 := g1
      have hb2 := g2
      simp only [bad1, Bool.or_eq_false_iff] at hb1
      simp only [bad2, Bool.or_eq_false_iff, Bool.not_eq_false'] at hb2
      obtain ⟨h1, h2⟩ := hb1
      obtain ⟨⟨⟨⟨v1, v2⟩, v3⟩, v4⟩, v5⟩ := hb2
      simp only [Bool.false_eq_true, if_false]
      have hne : ∀ b : Bool, ((c.loss.length : Int) != c.last + 1) = b ↔ decide ((c.loss.length : Int) = c.last + 1) = !b := by
        intro b
        cases b <;> simp
      cases u1 : coalB c c.coal with
      | false => rw [if_pos (by simp [bad3, u1])]; exact check_3a c q w hq hn1 hn2 hn3 hn4 h1 h2 v1 v2 v3 v4 v5 u1
      | true =>
        cases u2 : promB c c.want with
        | false => rw [if_pos (by simp [bad3, u1, u2])]; exact check_3b c q w hq hn1 hn2 hn3 hn4 h1 h2 v1 v2 v3 v4 v5 u1 u2
        | true =>
          cases u3 : okR 99 c.hlo c.hhi with
          | false => rw [if_pos (by simp [bad3, u1, u2, u3])]; exact check_3c c q w hq hn1 hn2 hn3 hn4 h1 h2 v1 v2 v3 v4 v5 u1 u2 u3
          | true =>
            cases u4 : decide ((c.loss.length : Int) = c.last + 1) with
            | false => rw [if_pos (by simp only [bad3, u4]; simp)]; exact check_3d c q w hq hn1 hn2 hn3 hn4 h1 h2 v1 v2 v3 v4 v5 u1 u2 u3 ((hne _).2 u4)
            | true =>
              cases u5 : allN (fun j => okR 99 (p1 c.loss j) (p2 c.loss j)) c.loss.length with
              | false => rw [if_pos (by simp only [bad3, u5]; simp)]; exact check_3e c q w hq hn1 hn2 hn3 hn4 h1 h2 v1 v2 v3 v4 v5 u1 u2 u3 ((hne _).2 u4) u5
              | true =>
                cases u6 : allN (fun j => okRd c.last (t1 c.rds j) (t2 c.rds j) (t3 c.rds j)) c.rds.length with
                | false => rw [if_pos (by simp only [bad3, u6]; simp)]; exact check_3f c q w hq hn1 hn2 hn3 hn4 h1 h2 v1 v2 v3 v4 v5 u1 u2 u3 ((hne _).2 u4) u5 u6
                | true => rw [if_neg (by simp only [bad3, u1, u2, u3, u4, u5, u6]; simp)]; exact check_ok c q w hq hn1 hn2 hn3 hn4 h1 h2 v1 v2 v3 v4 v5 u1 u2 u3 ((hne _).2 u4) u5 u6
end Go.Proofs.YtpgnplmjfhdncaaGreat
