/- What the statements use: list, fault, CanBe, IsPlan. -/
import Derived.Test.YtpgnplmjfhdncaaGreatKA1
namespace Go.Proofs.YtpgnplmjfhdncaaGreat
open Go.RowKit
set_option linter.unusedVariables false
theorem list26_c (xs : List Int) (a : Option Addr) (c : Nat) (w : World) (hn : xs.length ≤ 10000) (hx : IntsAt w w.heap.size a xs) (hp : Pl a xs.length c) :
    Calls Tryz.prog 26 #[.slice a xs.length c] w fun e w' => ∃ v, e = .returned v ∧ w'.ownsRow w.heap.size 3 1 v xs.length (ints xs) ∧ Below w.heap.size w w' := by
  have HX := Lib.hid hx
  clear hx
  rcases hp with ⟨rfl, h0, rfl⟩ | ⟨b, o, rfl⟩ | ⟨⟨x, rfl⟩, h0⟩
  · obtain rfl : xs = [] := List.eq_nil_of_length_eq_zero h0
    clear h0
    obtain ⟨i0, hi, -⟩ := Option.map_eq_some_iff.1 info3
    have HI := Lib.hid hi
    clear hi
    simp only [List.length_nil]
    go_enter Tryz.func26, Tryz.ntmps26
    go_wp2_with (refine wpList_append_own_none rfl _ _ 22 rfl w.heap.size 3 i0 1 Tryz.underlying22 HI.out _ 0 [] rfl (World.ownsRow_nil _ _ _ _) rfl ?_)
    go_ret
    exact ⟨_, rfl, World.ownsRow_nil _ _ _ _, Below.refl _ _⟩
  · go_enter Tryz.func26, Tryz.ntmps26
    go_wp2_with (refine wpList_append_ints rfl w.heap.size _ _ 22 3 rfl Tryz.underlying22 info3 _ 0 [] xs b o c w.heap.size rfl rfl HX.out (World.ownsRow_nil _ _ _ _) (by simp) (by omega) ?_; intro v1 w1 hown hg; have HO := Lib.hid hown; have HG := Lib.hid hg; clear hown hg)
    go_ret
    refine ⟨v1, rfl, (by have := HO.out; simpa using this), bl_gr (Below.refl _ _) HG.out (fun k hk => ?_)⟩
    cases hk
  · obtain rfl : xs = [] := List.eq_nil_of_length_eq_zero h0
    clear h0
    simp only [List.length_nil]
    go_enter Tryz.func26, Tryz.ntmps26
    go_wp2
    go_ret
    exact ⟨_, rfl, World.ownsRow_nil _ _ _ _, Below.refl _ _⟩
theorem fault29_c (r : Rm) (q : RA) (w : World) (hq : RoomAt w w.heap.size r q) (hs : SmallR r.cop) :
    Calls Tryz.prog 29 #[roomV r q] w fun e w' => e = .returned (.int .i64 (roomErr r)) ∧ Below w.heap.size w w' := by
  have HQ := Lib.hid hq
  clear hq
  go_enter Tryz.func29, Tryz.ntmps29
  go_wp2_with (go_at_call 45; go_loud (refine (rfault_c r q _ (HQ.out.up (bl_al (Below.refl _ _) _)) hs).mono ?_; rintro e w1 ⟨rfl, hb⟩; have HB := Lib.hid (bl_tr (bl_al (Below.refl w.heap.size w) _) hb); clear hb))
  go_ret
  exact ⟨rfl, HB.out⟩
set_option maxRecDepth 100000 in
set_option maxHeartbeats 4000000 in
theorem canbe_c (r : Rm) (q : RA) (n : List Int) (a : Option Addr) (c : Nat) (w : World) (hq : RoomAt w w.heap.size r q) (ho : RoomOk r) (hl : (n.length : Int) = r.cop.last + 1) (hn : ∀ j, 0 ≤ nth n j ∧ nth n j ≤ 100) (hx : IntsAt w w.heap.size a n) :
    Calls Tryz.prog 70 #[roomV r q, .slice a n.length c] w fun e w' => e = .returned (.bool (canB r n)) ∧ Below w.heap.size w w' := by
  have hl0 := ho.cop.l0
  have hl4 := ho.cop.l4
  have hwl := ho.cop.wl
  have hb1 := ho.b1
  have hb9 := ho.b9
  have hp0 := ho.p0
  have hp5 := ho.p5
  obtain ⟨b, o, rfl, hbl, hc⟩ := hx.at_ (by omega)
  obtain ⟨b1, o1, ha2, hbl1, hcw⟩ := hq.cop.want.at_ (by omega)
  have HA2 := Lib.hid ha2
  have HO := Lib.hid ho
  have HN := Lib.hid hn
  have HC : Hid (∀ W, Below w.heap.size w W → ∀ j, j < n.length → W.cell? ⟨b, o + j, none⟩ = some (.int .i64 (nth n j))) := fun W hW j hj => cell_later hW (hc j hj)
  have HCW : Hid (∀ W, Below w.heap.size w W → ∀ j, j < n.length → W.cell? ⟨b1, o1 + j, none⟩ = some (.int .i64 (nth r.cop.want j))) := fun W hW j hj => cell_later hW (hcw j (by omega))
  have HL := Lib.hid hl
  clear hx hq ho hn hc hcw ha2
  go_enter Tryz.func70, Tryz.ntmps70
  go_wp2
  go_loopw [5] (fun i wr => ∃ k : Nat, k ≤ n.length ∧ i = .int .i64 (k : Int) ∧ Box wr w.heap.size (roomCs r q) ∧ Below w.heap.size w wr ∧ canFrom r n 0 k = true) (fun i _ => n.length - (intOf i).toNat)
  case atStart => exact ⟨0, Nat.zero_le _, rfl, Box.new _ _ _ _, bl_al (Below.refl _ _) _, rfl⟩
  case round =>
    obtain ⟨k, hk, rfl, hbx, hb, hcf⟩ := hrel
    have HBX := Lib.hid hbx
    have HB := Lib.hid hb
    have HCF := Lib.hid hcf
    have hkl := HL.out
    by_cases hlt : k < n.length
    · have hlt' : (k : Int) < (n.length : Int) := by omega
      have hk2 : (k : Int) < (r.cop.want.length : Int) := by omega
      have k1 := HC.out wr hb k hlt
      have k2 := HCW.out wr hb k hlt
      have p2 : wr.cell? ⟨w.heap.size, 12, none⟩ = some (.int .i64 r.places) := hbx 12
      have p1 : wr.cell? ⟨w.heap.size, 11, none⟩ = some (.int .i64 r.buckets) := hbx 11
      have p6 : wr.cell? ⟨w.heap.size, 6, none⟩ = some (.slice (some ⟨b1, o1, none⟩) r.cop.want.length q.q.c2) := by rw [hbx 6, ← HA2.out]; rfl
      have hnk := HN.out k
      have hwk := HO.out.cop.wb k
      have hm1 : 0 ≤ r.buckets * nth n k := Int.mul_nonneg (by omega) (by omega)
      have hm2 : r.buckets * nth n k ≤ 9 * 100 := Int.mul_le_mul (by omega) (by omega) (by omega) (by omega)
      have hw1 : IntKind.i64.wrap (r.buckets * nth n k) = r.buckets * nth n k := IntWalk.i64_in _ (by omega)
      have hw2 : IntKind.i64.wrap (nth r.cop.want k + r.buckets * nth n k) = nth r.cop.want k + r.buckets * nth n k := IntWalk.i64_in _ (by omega)
      have hkn : k < (r.cop.last + 1).toNat := by omega
      have HKN := Lib.hid hkn
      clear hbx hb hcf hkn
      by_cases h1 : r.places < nth n k
      · have HF : Hid (roomB r.places (nth r.cop.want k) r.buckets (nth n k) = false) := by
          unfold Hid roomB
          simp
          omega
        go_wp2
        refine wp_region_plus (by kernel_rfl) ?_
        repeat (go_big_quiet_step (fail))
        refine wpQuiet_nil ?_
        rintro _ ⟨d2, rfl⟩
        clear k1 k2 p1 p2 p6
        go_wp2
        go_ret
        exact ⟨by rw [canB_false HKN.out HF.out]; rfl, bl_pl HB.out d2⟩
      · have hd1 : decide (r.places < nth n k) = false := decide_eq_false h1
        by_cases h2 : 20 < nth r.cop.want k + r.buckets * nth n k
        · have hd2 : decide (20 < nth r.cop.want k + r.buckets * nth n k) = true := decide_eq_true h2
          have HF : Hid (roomB r.places (nth r.cop.want k) r.buckets (nth n k) = false) := by
            unfold Hid roomB
            have : nth n k ≠ 0 := fun h => by rw [h] at h2; simp at h2; omega
            simp
            omega
          go_wp2
          refine wp_region_plus (by kernel_rfl) ?_
          repeat (go_big_quiet_step (fail))
          refine wpQuiet_nil ?_
          rintro _ ⟨d2, rfl⟩
          clear k1 k2 p1 p2 p6
          go_wp2
          go_ret
          exact ⟨by rw [canB_false HKN.out HF.out]; rfl, bl_pl HB.out d2⟩
        · have hd2 : decide (20 < nth r.cop.want k + r.buckets * nth n k) = false := decide_eq_false h2
          have HF : Hid (roomB r.places (nth r.cop.want k) r.buckets (nth n k) = true) := by
            unfold Hid roomB
            simp
            omega
          go_wp2
          refine wp_region_plus (by kernel_rfl) ?_
          repeat (go_big_quiet_step (fail))
          refine wpQuiet_nil ?_
          rintro _ ⟨d2, rfl⟩
          clear k1 k2 p1 p2 p6
          go_wp2
          go_roundw
          case rel => exact ⟨k + 1, by omega, by go_num, HBX.out.plus d2 (by simp [roomCs]), bl_pl HB.out d2, by rw [canFrom_le, HCF.out, Nat.zero_add, HF.out]; rfl⟩
          case measure => simp [intOf]; omega
    · have hge : ¬ ((k : Int) < (n.length : Int)) := by omega
      have HF : Hid (canB r n = true) := by unfold Hid canB; rw [show (r.cop.last + 1).toNat = k from by omega]; exact HCF.out
      clear hbx hb hcf
      go_wp2
      go_ret
      exact ⟨by rw [HF.out]; rfl, HB.out⟩
end Go.Proofs.YtpgnplmjfhdncaaGreat
/- The reference's IsPlan; planned. -/
namespace Go.Proofs.YtpgnplmjfhdncaaGreat
open Go.RowKit
set_option linter.unusedVariables false
theorem in_pl (a b c : Int) (w : World) : Calls Tryz.prog 38 #[.int .i64 a, .int .i64 b, .int .i64 c] w fun e w' => e = .returned (.bool (within a b c)) ∧ Below w.heap.size w w' :=
  (in_c a b c w).mono fun e w' ⟨h1, h2⟩ => ⟨h1, h2 ▸ Below.refl _ _⟩
set_option maxRecDepth 100000 in
set_option maxHeartbeats 8000000 in
theorem isplan_c (r : Rm) (q : RA) (plan : List Int) (a : Option Addr) (c : Nat) (w : World) (hq : RoomAt w w.heap.size r q) (hn5 : r.baths.length ≤ 5) (hpl : plan.length ≤ 1000000) (hx : IntsAt w w.heap.size a plan) :
    Calls Tryz.prog 74 #[roomV r q, .slice a plan.length c, .int .i64 (fullN r.baths.length)] w fun e w' => e = .returned (.bool (areB r plan)) ∧ Below w.heap.size w w' := by
  have HX := Lib.hid hx
  have HQ := Lib.hid hq
  clear hx hq
  by_cases hne : plan.length = r.baths.length
  · have hn1 : ((plan.length : Int) == (r.baths.length : Int)) = true := by simp; omega
    have HNE := Lib.hid hne
    obtain ⟨bits, hbits⟩ : ∃ bits, fullN r.baths.length = bits := ⟨_, rfl⟩
    have HBT := Lib.hid hbits
    rw [hbits]
    clear hbits
    have hn2 : plan.length ≤ 5 := by omega
    clear hne
    go_enter Tryz.func74, Tryz.ntmps74
    go_wp2
    go_loopw [7] (fun i wr => ∃ k : Nat, k ≤ plan.length ∧ i = .int .i64 (k : Int) ∧ Box wr w.heap.size (roomCs r q) ∧ Below w.heap.size w wr ∧ ∀ j, j < k → inB r plan j = true) (fun i _ => plan.length - (intOf i).toNat)
    case atStart => exact ⟨0, Nat.zero_le _, rfl, Box.new _ _ _ _, bl_al (Below.refl _ _) _, fun j hj => by omega⟩
    case round =>
      obtain ⟨k, hk, rfl, hbx, hb, hin⟩ := hrel
      have HBX := Lib.hid hbx
      have HB := Lib.hid hb
      have HIN := Lib.hid hin
      by_cases hlt : k < plan.length
      · have hlt' : (k : Int) < (plan.length : Int) := by omega
        have hkb : k < r.baths.length := by rw [← HNE.out]; exact hlt
        have hk2 : (k : Int) < (r.baths.length : Int) := by omega
        obtain ⟨b1, o1, rfl, _, c1⟩ := (HX.out.below hb).at_ (by omega)
        have k1 := c1 k hlt
        obtain ⟨b5, o5, e5, _, c5⟩ := (HQ.out.baths.below hb).at_ (by omega)
        obtain ⟨k5, k6⟩ := c5 k hkb
        have p13 : wr.cell? ⟨w.heap.size, 13, none⟩ = some (.slice (some ⟨b5, o5, none⟩) r.baths.length q.c5) := by rw [hbx 13, ← e5]; rfl
        have hbit : ((bits / 2 ^ k).tmod 2 == 1) = true := by rw [← HBT.out]; exact bit_full (by omega) hkb
        have hk9 : (k : Int) ≤ 5 := by omega
        clear c1 c5 hbx hb hin e5
        cases hwi : inB r plan k with
        | true =>
          have HW : Hid (within (nth plan k) (p1 r.baths k) (p2 r.baths k) = true) := hwi
          have HWI := Lib.hid hwi
          have HC : Hid (∀ w, Calls Tryz.prog 38 #[.int .i64 (nth plan k), .int .i64 (p1 r.baths k), .int .i64 (p2 r.baths k)] w fun e w' => e = .returned (.bool true) ∧ Below w.heap.size w w') := fun w => by have := in_pl (nth plan k) (p1 r.baths k) (p2 r.baths k) w; rw [HW.out] at this; exact this
          clear hwi
          go_wp2
          refine wp_region_plus (by kernel_rfl) ?_
          repeat (go_big_quiet_step ((go_at_call 38; exact Calls.pl (HC.out _))))
          refine wpQuiet_nil ?_
          rintro _ ⟨d2, rfl⟩
          clear k1 k5 k6 p13
          go_wp2
          go_roundw
          case rel =>
            refine ⟨k + 1, by omega, by go_num, HBX.out.plus d2 (by simp [roomCs]), bl_pl HB.out d2, fun j hj => ?_⟩
            rcases Nat.lt_or_ge j k with h | h
            · exact HIN.out j h
            · obtain rfl : j = k := by omega
              exact HWI.out
          case measure => simp [intOf]; omega
        | false =>
          have HW : Hid (within (nth plan k) (p1 r.baths k) (p2 r.baths k) = false) := hwi
          have HWI := Lib.hid hwi
          have HC : Hid (∀ w, Calls Tryz.prog 38 #[.int .i64 (nth plan k), .int .i64 (p1 r.baths k), .int .i64 (p2 r.baths k)] w fun e w' => e = .returned (.bool false) ∧ Below w.heap.size w w') := fun w => by have := in_pl (nth plan k) (p1 r.baths k) (p2 r.baths k) w; rw [HW.out] at this; exact this
          have HF : Hid (areB r plan = false) := by
            unfold Hid
            cases h : areB r plan with
            | false => rfl
            | true =>
              simp only [areB, Bool.and_eq_true, allN_iff] at h
              rw [h.2 k hkb] at hwi
              cases hwi
          clear hwi
          go_wp2
          refine wp_region_plus (by kernel_rfl) ?_
          repeat (go_big_quiet_step ((go_at_call 38; exact Calls.pl (HC.out _))))
          refine wpQuiet_nil ?_
          rintro _ ⟨d2, rfl⟩
          clear k1 k5 k6 p13
          go_wp2
          go_ret
          exact ⟨by rw [HF.out]; rfl, bl_pl HB.out d2⟩
      · have HF : Hid (areB r plan = true) := by
          unfold Hid
          simp only [areB, Bool.and_eq_true, allN_iff, decide_eq_true_eq]
          exact ⟨HNE.out, fun j hj => hin j (by have := HNE.out; omega)⟩
        have hge : ¬ ((k : Int) < (plan.length : Int)) := by omega
        clear hbx hb hin
        go_wp2
        go_ret
        exact ⟨by rw [HF.out]; rfl, HB.out⟩
  · have hn1 : ((plan.length : Int) == (r.baths.length : Int)) = false := by simp; omega
    have hne' : ¬ ((plan.length : Int) = (r.baths.length : Int)) := by omega
    have HF : Hid (areB r plan = false) := by unfold Hid areB; rw [decide_eq_false hne]; rfl
    go_enter Tryz.func74, Tryz.ntmps74
    go_wp2
    go_ret
    exact ⟨by rw [HF.out]; rfl, bl_al (Below.refl _ _) _⟩
end Go.Proofs.YtpgnplmjfhdncaaGreat
/- planned, of the statements. -/
namespace Go.Proofs.YtpgnplmjfhdncaaGreat
open Go.RowKit
set_option linter.unusedVariables false
/-- The numbers of a plan, of the hours alone. -/
def numsL (r : Rm) (plan : List Int) : List Int := rowI (cntI plan plan.length) (r.cop.last + 1).toNat
theorem numsL_at {r : Rm} {plan : List Int} {i : Nat} (h4 : r.cop.last ≤ 4) (hi : i < (r.cop.last + 1).toNat) : nth (numsL r plan) i = nth (countL plan plan.length) i := by
  rw [numsL, nth_rowI _ hi, countL, nth_rowI _ (by omega)]
theorem numsL_len (r : Rm) (plan : List Int) : (numsL r plan).length = (r.cop.last + 1).toNat := by rw [numsL, rowI_len]
theorem numsL_bd (r : Rm) (plan : List Int) (j : Nat) : 0 ≤ nth (numsL r plan) j ∧ nth (numsL r plan) j ≤ plan.length := by
  by_cases hj : j < (r.cop.last + 1).toNat
  · rw [numsL, nth_rowI _ hj]
    have := cntI_le plan plan.length j
    omega
  · rw [nth_out _ _ (by rw [numsL_len]; omega)]; omega
theorem canFrom_congr {r : Rm} {a b : List Int} : ∀ (d i : Nat), (∀ j, i ≤ j → j < i + d → nth a j = nth b j) → canFrom r a i d = canFrom r b i d := by
  intro d
  induction d with
  | zero => intro i _; rfl
  | succ d ih => intro i h; simp only [canFrom, h i (Nat.le_refl _) (by omega), ih (i + 1) (fun j h1 h2 => h j (by omega) (by omega))]
theorem canB_congr {r : Rm} {a b : List Int} (h : ∀ j, j < (r.cop.last + 1).toNat → nth a j = nth b j) : canB r a = canB r b := canFrom_congr _ 0 (fun j _ hj => h j (by omega))
theorem bucketsL_congr {r : Rm} {a b : List Int} (h : ∀ j, j < (r.cop.last + 1).toNat → nth a j = nth b j) : bucketsL r a = bucketsL r b := rowI_congr (fun j hj => by rw [h j hj])
theorem numsL_can {r : Rm} (plan : List Int) (h4 : r.cop.last ≤ 4) : canB r (numsL r plan) = canB r (countL plan plan.length) := canB_congr (fun j hj => numsL_at h4 hj)
theorem numsL_buckets {r : Rm} (plan : List Int) (h4 : r.cop.last ≤ 4) : bucketsL r (numsL r plan) = bucketsL r (countL plan plan.length) := bucketsL_congr (fun j hj => numsL_at h4 hj)
theorem are_in {r : Rm} (ho : RoomOk r) {plan : List Int} (h : areB r plan = true) : plan.length = r.baths.length ∧ ∀ j, j < plan.length → 0 ≤ nth plan j ∧ nth plan j ≤ r.cop.last := by
  simp only [areB, Bool.and_eq_true, allN_iff, decide_eq_true_eq] at h
  refine ⟨h.1, fun j hj => ?_⟩
  have h1 := within_iff.1 (h.2 j (by omega))
  have h2 := ho.bs j (by omega)
  omega
set_option maxRecDepth 100000 in
set_option maxHeartbeats 4000000 in
theorem planned27_1 (r : Rm) (q : RA) (plan : List Int) (a : Option Addr) (c : Nat) (fine : Bool) (w : World) (hq : RoomAt w w.heap.size r q) (hs : SmallR r.cop) (hpl : plan.length ≤ 1000000) (hx : IntsAt w w.heap.size a plan) (he : roomErr r ≠ 0) : Calls Tryz.prog 27 #[roomV r q, .slice a plan.length c, .bool fine] w fun e w' => e = .returned (.tuple #[.slice none 0 0, .int .i64 (roomErr r)]) ∧ Below w.heap.size w w' := by
  have hne : (roomErr r == 0) = false := by simpa using he
  have HQ := Lib.hid hq
  have HX := Lib.hid hx
  have HF29 : Hid (∀ w, RoomAt w w.heap.size r q → Calls Tryz.prog 29 #[roomV r q] w fun e w' => e = .returned (.int .i64 (roomErr r)) ∧ Below w.heap.size w w') := fun w hq => fault29_c r q w hq hs
  clear hq hx he
  go_enter Tryz.func27, Tryz.ntmps27
  go_wp2_with (first | (go_at_call 29; go_loud (refine (HF29.out _ (HQ.out.up (bl_al (Below.refl _ _) _))).mono ?_; rintro e w1 ⟨rfl, hb⟩; have HB1 : Hid (Below w.heap.size w w1) := bl_tr (bl_al (Below.refl w.heap.size w) _) hb; have HX1 : Hid (Box w1 w.heap.size (roomCs r q)) := (Box.new w (roomCs r q) 31 (0, 0)).bl (by simp [roomCs]) hb; clear hb)))
  go_ret2
  exact ⟨rfl, HB1.out⟩
set_option maxRecDepth 100000 in
set_option maxHeartbeats 4000000 in
theorem planned27_2 (r : Rm) (q : RA) (plan : List Int) (a : Option Addr) (c : Nat) (fine : Bool) (w : World) (hq : RoomAt w w.heap.size r q) (hs : SmallR r.cop) (hpl : plan.length ≤ 1000000) (hx : IntsAt w w.heap.size a plan) (he : roomErr r = 0) (hf : (areB r plan && fine) = false) : Calls Tryz.prog 27 #[roomV r q, .slice a plan.length c, .bool fine] w fun e w' => e = .returned (.tuple #[.slice none 0 0, .int .i64 2]) ∧ Below w.heap.size w w' := by
  have HQ := Lib.hid hq
  have HX := Lib.hid hx
  have HF29 : Hid (∀ w, RoomAt w w.heap.size r q → Calls Tryz.prog 29 #[roomV r q] w fun e w' => e = .returned (.int .i64 (roomErr r)) ∧ Below w.heap.size w w') := fun w hq => fault29_c r q w hq hs
  have HE0 := Lib.hid he
  have ho := room_ok he
  have hn5 := ho.n5
  cases har : areB r plan with
  | false =>
    have HAR := Lib.hid har
    clear har
    clear hq hx he ho hf
    go_enter Tryz.func27, Tryz.ntmps27
    go_upto_region 4 with (first | (go_at_call 29; go_loud (refine (HF29.out _ (HQ.out.up (bl_al (Below.refl _ _) _))).mono ?_; rw [HE0.out]; rintro e w1 ⟨rfl, hb⟩; have HB1 : Hid (Below w.heap.size w w1) := bl_tr (bl_al (Below.refl w.heap.size w) _) hb; have HX1 : Hid (Box w1 w.heap.size (roomCs r q)) := (Box.new w (roomCs r q) 31 (0, 0)).bl (by simp [roomCs]) hb; clear hb)))
    have HIS : Hid (∀ W, Below w1.heap.size w1 W → Calls Tryz.prog 74 #[roomV r q, .slice a plan.length c, .int .i64 (fullN r.baths.length)] W fun e w' => e = .returned (.bool false) ∧ Below W.heap.size W w') := fun W hW => by
      have := isplan_c r q plan a c W (HQ.out.up (bl_tr HB1.out hW)) hn5 hpl (HX.out.up (bl_tr HB1.out hW))
      rw [HAR.out] at this
      exact this
    have hbx := HX1.out
    have k0 : w1.cell? ⟨w.heap.size, 0, none⟩ = some (.int .i64 r.cop.last) := hbx 0
    have k1 : w1.cell? ⟨w.heap.size, 1, none⟩ = some (.int .i64 r.cop.start) := hbx 1
    have k2 : w1.cell? ⟨w.heap.size, 2, none⟩ = some (.int .i64 r.cop.most) := hbx 2
    have k3 : w1.cell? ⟨w.heap.size, 3, none⟩ = some (.int .i64 r.cop.per) := hbx 3
    have k4 : w1.cell? ⟨w.heap.size, 4, none⟩ = some (.int .i64 r.cop.shovels) := hbx 4
    have k5 : w1.cell? ⟨w.heap.size, 5, none⟩ = some (.slice q.q.a1 r.cop.coal.length q.q.c1) := hbx 5
    have k6 : w1.cell? ⟨w.heap.size, 6, none⟩ = some (.slice q.q.a2 r.cop.want.length q.q.c2) := hbx 6
    have k7 : w1.cell? ⟨w.heap.size, 7, none⟩ = some (.int .i64 r.cop.hlo) := hbx 7
    have k8 : w1.cell? ⟨w.heap.size, 8, none⟩ = some (.int .i64 r.cop.hhi) := hbx 8
    have k9 : w1.cell? ⟨w.heap.size, 9, none⟩ = some (.slice q.q.a3 r.cop.loss.length q.q.c3) := hbx 9
    have k10 : w1.cell? ⟨w.heap.size, 10, none⟩ = some (.slice q.q.a4 r.cop.rds.length q.q.c4) := hbx 10
    have k11 : w1.cell? ⟨w.heap.size, 11, none⟩ = some (.int .i64 r.buckets) := hbx 11
    have k12 : w1.cell? ⟨w.heap.size, 12, none⟩ = some (.int .i64 r.places) := hbx 12
    have k13 : w1.cell? ⟨w.heap.size, 13, none⟩ = some (.slice q.a5 r.baths.length q.c5) := hbx 13
    clear hbx
    refine wp_region_plus (by kernel_rfl) ?_
    repeat (go_big_quiet_step (first | (go_at_call 37; exact Calls.pl (full37_c r q _ (by omega))) | (go_at_call 74; exact Calls.pl (HIS.out _ (bl_pl (Below.refl _ _) _)))))
    refine wpQuiet_nil ?_
    rintro w2 ⟨d2, hd2⟩
    have HB2 : Hid (Below w1.heap.size w1 w2) := by rw [hd2]; exact bl_pl (Below.refl _ _) d2
    clear hd2 k0 k1 k2 k3 k4 k5 k6 k7 k8 k9 k10 k11 k12 k13
    go_wp2
    go_ret2
    exact ⟨rfl, bl_tr HB1.out HB2.out⟩
  | true =>
    have HAR := Lib.hid har
    have hfi : fine = false := by rw [har] at hf; simpa using hf
    subst hfi
    clear har
    clear hq hx he ho hf
    go_enter Tryz.func27, Tryz.ntmps27
    go_upto_region 4 with (first | (go_at_call 29; go_loud (refine (HF29.out _ (HQ.out.up (bl_al (Below.refl _ _) _))).mono ?_; rw [HE0.out]; rintro e w1 ⟨rfl, hb⟩; have HB1 : Hid (Below w.heap.size w w1) := bl_tr (bl_al (Below.refl w.heap.size w) _) hb; have HX1 : Hid (Box w1 w.heap.size (roomCs r q)) := (Box.new w (roomCs r q) 31 (0, 0)).bl (by simp [roomCs]) hb; clear hb)))
    have HIS : Hid (∀ W, Below w1.heap.size w1 W → Calls Tryz.prog 74 #[roomV r q, .slice a plan.length c, .int .i64 (fullN r.baths.length)] W fun e w' => e = .returned (.bool true) ∧ Below W.heap.size W w') := fun W hW => by
      have := isplan_c r q plan a c W (HQ.out.up (bl_tr HB1.out hW)) hn5 hpl (HX.out.up (bl_tr HB1.out hW))
      rw [HAR.out] at this
      exact this
    have hbx := HX1.out
    have k0 : w1.cell? ⟨w.heap.size, 0, none⟩ = some (.int .i64 r.cop.last) := hbx 0
    have k1 : w1.cell? ⟨w.heap.size, 1, none⟩ = some (.int .i64 r.cop.start) := hbx 1
    have k2 : w1.cell? ⟨w.heap.size, 2, none⟩ = some (.int .i64 r.cop.most) := hbx 2
    have k3 : w1.cell? ⟨w.heap.size, 3, none⟩ = some (.int .i64 r.cop.per) := hbx 3
    have k4 : w1.cell? ⟨w.heap.size, 4, none⟩ = some (.int .i64 r.cop.shovels) := hbx 4
    have k5 : w1.cell? ⟨w.heap.size, 5, none⟩ = some (.slice q.q.a1 r.cop.coal.length q.q.c1) := hbx 5
    have k6 : w1.cell? ⟨w.heap.size, 6, none⟩ = some (.slice q.q.a2 r.cop.want.length q.q.c2) := hbx 6
    have k7 : w1.cell? ⟨w.heap.size, 7, none⟩ = some (.int .i64 r.cop.hlo) := hbx 7
    have k8 : w1.cell? ⟨w.heap.size, 8, none⟩ = some (.int .i64 r.cop.hhi) := hbx 8
    have k9 : w1.cell? ⟨w.heap.size, 9, none⟩ = some (.slice q.q.a3 r.cop.loss.length q.q.c3) := hbx 9
    have k10 : w1.cell? ⟨w.heap.size, 10, none⟩ = some (.slice q.q.a4 r.cop.rds.length q.q.c4) := hbx 10
    have k11 : w1.cell? ⟨w.heap.size, 11, none⟩ = some (.int .i64 r.buckets) := hbx 11
    have k12 : w1.cell? ⟨w.heap.size, 12, none⟩ = some (.int .i64 r.places) := hbx 12
    have k13 : w1.cell? ⟨w.heap.size, 13, none⟩ = some (.slice q.a5 r.baths.length q.c5) := hbx 13
    clear hbx
    refine wp_region_plus (by kernel_rfl) ?_
    repeat (go_big_quiet_step (first | (go_at_call 37; exact Calls.pl (full37_c r q _ (by omega))) | (go_at_call 74; exact Calls.pl (HIS.out _ (bl_pl (Below.refl _ _) _)))))
    refine wpQuiet_nil ?_
    rintro w2 ⟨d2, hd2⟩
    have HB2 : Hid (Below w1.heap.size w1 w2) := by rw [hd2]; exact bl_pl (Below.refl _ _) d2
    clear hd2 k0 k1 k2 k3 k4 k5 k6 k7 k8 k9 k10 k11 k12 k13
    go_wp2
    go_ret2
    exact ⟨rfl, bl_tr HB1.out HB2.out⟩
set_option maxRecDepth 100000 in
set_option maxHeartbeats 8000000 in
theorem planned27_3 (r : Rm) (q : RA) (plan : List Int) (a : Option Addr) (c : Nat) (w : World) (hq : RoomAt w w.heap.size r q) (hs : SmallR r.cop) (hpl : plan.length ≤ 1000000) (hx : IntsAt w w.heap.size a plan) (he : roomErr r = 0) (har : areB r plan = true) (hc : canB r (countL plan plan.length) = false) : Calls Tryz.prog 27 #[roomV r q, .slice a plan.length c, .bool true] w fun e w' => e = .returned (.tuple #[.slice none 0 0, .int .i64 9]) ∧ Below w.heap.size w w' := by
  have HQ := Lib.hid hq
  have HX := Lib.hid hx
  have HF29 : Hid (∀ w, RoomAt w w.heap.size r q → Calls Tryz.prog 29 #[roomV r q] w fun e w' => e = .returned (.int .i64 (roomErr r)) ∧ Below w.heap.size w w') := fun w hq => fault29_c r q w hq hs
  have HE0 := Lib.hid he
  have ho := room_ok he
  have hn5 := ho.n5
  have hl0 := ho.cop.l0
  have hl4 := ho.cop.l4
  obtain ⟨hlen, hin⟩ := are_in ho har
  have HIN := Lib.hid hin
  have HAR := Lib.hid har
  have HO := Lib.hid ho
  have HLE := Lib.hid hlen
  have HCN : Hid (canB r (numsL r plan) = false) := by unfold Hid; rw [numsL_can plan hl4]; exact hc
  clear hq hx he ho har hc hin hlen
  go_enter Tryz.func27, Tryz.ntmps27
  go_upto_region 4 with (first | (go_at_call 29; go_loud (refine (HF29.out _ (HQ.out.up (bl_al (Below.refl _ _) _))).mono ?_; rw [HE0.out]; rintro e w1 ⟨rfl, hb⟩; have HB1 : Hid (Below w.heap.size w w1) := bl_tr (bl_al (Below.refl w.heap.size w) _) hb; have HX1 : Hid (Box w1 w.heap.size (roomCs r q)) := (Box.new w (roomCs r q) 31 (0, 0)).bl (by simp [roomCs]) hb; clear hb)))
  have HIS : Hid (∀ W, Below w1.heap.size w1 W → Calls Tryz.prog 74 #[roomV r q, .slice a plan.length c, .int .i64 (fullN r.baths.length)] W fun e w' => e = .returned (.bool true) ∧ Below W.heap.size W w') := fun W hW => by
    have := isplan_c r q plan a c W (HQ.out.up (bl_tr HB1.out hW)) hn5 hpl (HX.out.up (bl_tr HB1.out hW))
    rw [HAR.out] at this
    exact this
  have hbx := HX1.out
  have k0 : w1.cell? ⟨w.heap.size, 0, none⟩ = some (.int .i64 r.cop.last) := hbx 0
  have k1 : w1.cell? ⟨w.heap.size, 1, none⟩ = some (.int .i64 r.cop.start) := hbx 1
  have k2 : w1.cell? ⟨w.heap.size, 2, none⟩ = some (.int .i64 r.cop.most) := hbx 2
  have k3 : w1.cell? ⟨w.heap.size, 3, none⟩ = some (.int .i64 r.cop.per) := hbx 3
  have k4 : w1.cell? ⟨w.heap.size, 4, none⟩ = some (.int .i64 r.cop.shovels) := hbx 4
  have k5 : w1.cell? ⟨w.heap.size, 5, none⟩ = some (.slice q.q.a1 r.cop.coal.length q.q.c1) := hbx 5
  have k6 : w1.cell? ⟨w.heap.size, 6, none⟩ = some (.slice q.q.a2 r.cop.want.length q.q.c2) := hbx 6
  have k7 : w1.cell? ⟨w.heap.size, 7, none⟩ = some (.int .i64 r.cop.hlo) := hbx 7
  have k8 : w1.cell? ⟨w.heap.size, 8, none⟩ = some (.int .i64 r.cop.hhi) := hbx 8
  have k9 : w1.cell? ⟨w.heap.size, 9, none⟩ = some (.slice q.q.a3 r.cop.loss.length q.q.c3) := hbx 9
  have k10 : w1.cell? ⟨w.heap.size, 10, none⟩ = some (.slice q.q.a4 r.cop.rds.length q.q.c4) := hbx 10
  have k11 : w1.cell? ⟨w.heap.size, 11, none⟩ = some (.int .i64 r.buckets) := hbx 11
  have k12 : w1.cell? ⟨w.heap.size, 12, none⟩ = some (.int .i64 r.places) := hbx 12
  have k13 : w1.cell? ⟨w.heap.size, 13, none⟩ = some (.slice q.a5 r.baths.length q.c5) := hbx 13
  clear hbx
  refine wp_region_plus (by kernel_rfl) ?_
  repeat (go_big_quiet_step (first | (go_at_call 37; exact Calls.pl (full37_c r q _ (by omega))) | (go_at_call 74; exact Calls.pl (HIS.out _ (bl_pl (Below.refl _ _) _)))))
  refine wpQuiet_nil ?_
  rintro w2 ⟨d2, hd2⟩
  have HB2 : Hid (Below w1.heap.size w1 w2) := by rw [hd2]; exact bl_pl (Below.refl _ _) d2
  clear hd2 k0 k1 k2 k3 k4 k5 k6 k7 k8 k9 k10 k11 k12 k13
  go_upto_region 6 with (fail)
  have HX2 : Hid (Box w2 w.heap.size (roomCs r q)) := HX1.out.bl (by simp [roomCs]) HB2.out
  have hbx := HX2.out
  have k0 : w2.cell? ⟨w.heap.size, 0, none⟩ = some (.int .i64 r.cop.last) := hbx 0
  have k1 : w2.cell? ⟨w.heap.size, 1, none⟩ = some (.int .i64 r.cop.start) := hbx 1
  have k2 : w2.cell? ⟨w.heap.size, 2, none⟩ = some (.int .i64 r.cop.most) := hbx 2
  have k3 : w2.cell? ⟨w.heap.size, 3, none⟩ = some (.int .i64 r.cop.per) := hbx 3
  have k4 : w2.cell? ⟨w.heap.size, 4, none⟩ = some (.int .i64 r.cop.shovels) := hbx 4
  have k5 : w2.cell? ⟨w.heap.size, 5, none⟩ = some (.slice q.q.a1 r.cop.coal.length q.q.c1) := hbx 5
  have k6 : w2.cell? ⟨w.heap.size, 6, none⟩ = some (.slice q.q.a2 r.cop.want.length q.q.c2) := hbx 6
  have k7 : w2.cell? ⟨w.heap.size, 7, none⟩ = some (.int .i64 r.cop.hlo) := hbx 7
  have k8 : w2.cell? ⟨w.heap.size, 8, none⟩ = some (.int .i64 r.cop.hhi) := hbx 8
  have k9 : w2.cell? ⟨w.heap.size, 9, none⟩ = some (.slice q.q.a3 r.cop.loss.length q.q.c3) := hbx 9
  have k10 : w2.cell? ⟨w.heap.size, 10, none⟩ = some (.slice q.q.a4 r.cop.rds.length q.q.c4) := hbx 10
  have k11 : w2.cell? ⟨w.heap.size, 11, none⟩ = some (.int .i64 r.buckets) := hbx 11
  have k12 : w2.cell? ⟨w.heap.size, 12, none⟩ = some (.int .i64 r.places) := hbx 12
  have k13 : w2.cell? ⟨w.heap.size, 13, none⟩ = some (.slice q.a5 r.baths.length q.c5) := hbx 13
  clear hbx
  go_region_held3 (fun w' => w'.cell? ⟨w.heap.size, 0, none⟩ = some (.int .i64 r.cop.last) ∧ w'.cell? ⟨w.heap.size, 1, none⟩ = some (.int .i64 r.cop.start) ∧ w'.cell? ⟨w.heap.size, 2, none⟩ = some (.int .i64 r.cop.most) ∧ w'.cell? ⟨w.heap.size, 3, none⟩ = some (.int .i64 r.cop.per) ∧ w'.cell? ⟨w.heap.size, 4, none⟩ = some (.int .i64 r.cop.shovels) ∧ w'.cell? ⟨w.heap.size, 5, none⟩ = some (.slice q.q.a1 r.cop.coal.length q.q.c1) ∧ w'.cell? ⟨w.heap.size, 6, none⟩ = some (.slice q.q.a2 r.cop.want.length q.q.c2) ∧ w'.cell? ⟨w.heap.size, 7, none⟩ = some (.int .i64 r.cop.hlo) ∧ w'.cell? ⟨w.heap.size, 8, none⟩ = some (.int .i64 r.cop.hhi) ∧ w'.cell? ⟨w.heap.size, 9, none⟩ = some (.slice q.q.a3 r.cop.loss.length q.q.c3) ∧ w'.cell? ⟨w.heap.size, 10, none⟩ = some (.slice q.q.a4 r.cop.rds.length q.q.c4) ∧ w'.cell? ⟨w.heap.size, 11, none⟩ = some (.int .i64 r.buckets) ∧ w'.cell? ⟨w.heap.size, 12, none⟩ = some (.int .i64 r.places) ∧ w'.cell? ⟨w.heap.size, 13, none⟩ = some (.slice q.a5 r.baths.length q.c5)) (first | assumption | go_keep) (first | (go_at_call 37; refine (full37_c r q _ (by omega)).mono ?_; rintro e w3 ⟨rfl, hb3⟩; have HB3 := Lib.hid hb3; have hS3 : (fun w' => w'.cell? ⟨w.heap.size, 0, none⟩ = some (.int .i64 r.cop.last) ∧ w'.cell? ⟨w.heap.size, 1, none⟩ = some (.int .i64 r.cop.start) ∧ w'.cell? ⟨w.heap.size, 2, none⟩ = some (.int .i64 r.cop.most) ∧ w'.cell? ⟨w.heap.size, 3, none⟩ = some (.int .i64 r.cop.per) ∧ w'.cell? ⟨w.heap.size, 4, none⟩ = some (.int .i64 r.cop.shovels) ∧ w'.cell? ⟨w.heap.size, 5, none⟩ = some (.slice q.q.a1 r.cop.coal.length q.q.c1) ∧ w'.cell? ⟨w.heap.size, 6, none⟩ = some (.slice q.q.a2 r.cop.want.length q.q.c2) ∧ w'.cell? ⟨w.heap.size, 7, none⟩ = some (.int .i64 r.cop.hlo) ∧ w'.cell? ⟨w.heap.size, 8, none⟩ = some (.int .i64 r.cop.hhi) ∧ w'.cell? ⟨w.heap.size, 9, none⟩ = some (.slice q.q.a3 r.cop.loss.length q.q.c3) ∧ w'.cell? ⟨w.heap.size, 10, none⟩ = some (.slice q.q.a4 r.cop.rds.length q.q.c4) ∧ w'.cell? ⟨w.heap.size, 11, none⟩ = some (.int .i64 r.buckets) ∧ w'.cell? ⟨w.heap.size, 12, none⟩ = some (.int .i64 r.places) ∧ w'.cell? ⟨w.heap.size, 13, none⟩ = some (.slice q.a5 r.baths.length q.c5)) w3 := ⟨cell_later hb3 (w := w2.drew) k0, cell_later hb3 (w := w2.drew) k1, cell_later hb3 (w := w2.drew) k2, cell_later hb3 (w := w2.drew) k3, cell_later hb3 (w := w2.drew) k4, cell_later hb3 (w := w2.drew) k5, cell_later hb3 (w := w2.drew) k6, cell_later hb3 (w := w2.drew) k7, cell_later hb3 (w := w2.drew) k8, cell_later hb3 (w := w2.drew) k9, cell_later hb3 (w := w2.drew) k10, cell_later hb3 (w := w2.drew) k11, cell_later hb3 (w := w2.drew) k12, cell_later hb3 (w := w2.drew) k13⟩; dsimp only at hS3; clear hb3) | (go_at_call 49; refine (numbers_c r q plan a c (fullN r.baths.length) _ hl0 hl4 (by have := HLE.out; omega) (HX.out.up (bl_tr (bl_tr HB1.out HB2.out) (bl_tr (bl_dr (Below.refl _ _)) HB3.out))) (by rw [HLE.out]) HIN.out).mono ?_; rintro e w4 ⟨v, rfl, hown, hb4⟩; have HB4 := Lib.hid (bl_tr HB3.out hb4); obtain ⟨A, K, rfl⟩ := own_shape6 hown; have HI4 := Lib.hid (own_ints' hown); have hS4 : (fun w' => w'.cell? ⟨w.heap.size, 0, none⟩ = some (.int .i64 r.cop.last) ∧ w'.cell? ⟨w.heap.size, 1, none⟩ = some (.int .i64 r.cop.start) ∧ w'.cell? ⟨w.heap.size, 2, none⟩ = some (.int .i64 r.cop.most) ∧ w'.cell? ⟨w.heap.size, 3, none⟩ = some (.int .i64 r.cop.per) ∧ w'.cell? ⟨w.heap.size, 4, none⟩ = some (.int .i64 r.cop.shovels) ∧ w'.cell? ⟨w.heap.size, 5, none⟩ = some (.slice q.q.a1 r.cop.coal.length q.q.c1) ∧ w'.cell? ⟨w.heap.size, 6, none⟩ = some (.slice q.q.a2 r.cop.want.length q.q.c2) ∧ w'.cell? ⟨w.heap.size, 7, none⟩ = some (.int .i64 r.cop.hlo) ∧ w'.cell? ⟨w.heap.size, 8, none⟩ = some (.int .i64 r.cop.hhi) ∧ w'.cell? ⟨w.heap.size, 9, none⟩ = some (.slice q.q.a3 r.cop.loss.length q.q.c3) ∧ w'.cell? ⟨w.heap.size, 10, none⟩ = some (.slice q.q.a4 r.cop.rds.length q.q.c4) ∧ w'.cell? ⟨w.heap.size, 11, none⟩ = some (.int .i64 r.buckets) ∧ w'.cell? ⟨w.heap.size, 12, none⟩ = some (.int .i64 r.places) ∧ w'.cell? ⟨w.heap.size, 13, none⟩ = some (.slice q.a5 r.baths.length q.c5)) w4 := ⟨cell_later (bl_tr HB3.out hb4) (w := w2.drew) k0, cell_later (bl_tr HB3.out hb4) (w := w2.drew) k1, cell_later (bl_tr HB3.out hb4) (w := w2.drew) k2, cell_later (bl_tr HB3.out hb4) (w := w2.drew) k3, cell_later (bl_tr HB3.out hb4) (w := w2.drew) k4, cell_later (bl_tr HB3.out hb4) (w := w2.drew) k5, cell_later (bl_tr HB3.out hb4) (w := w2.drew) k6, cell_later (bl_tr HB3.out hb4) (w := w2.drew) k7, cell_later (bl_tr HB3.out hb4) (w := w2.drew) k8, cell_later (bl_tr HB3.out hb4) (w := w2.drew) k9, cell_later (bl_tr HB3.out hb4) (w := w2.drew) k10, cell_later (bl_tr HB3.out hb4) (w := w2.drew) k11, cell_later (bl_tr HB3.out hb4) (w := w2.drew) k12, cell_later (bl_tr HB3.out hb4) (w := w2.drew) k13⟩; dsimp only at hS4; clear hb4 hown hS3))
  have HBW4 : Hid (Below w.heap.size w w4) := bl_tr (bl_tr HB1.out HB2.out) (bl_tr (bl_dr (Below.refl _ _)) HB4.out)
  have HNL : Hid ((r.cop.last + 1).toNat = (numsL r plan).length) := (numsL_len r plan).symm
  rw [HNL.out]
  have HI5 : Hid (IntsAt w4 w4.heap.size A (numsL r plan)) := HI4.out
  clear hS4 k0 k1 k2 k3 k4 k5 k6 k7 k8 k9 k10 k11 k12 k13
  have hbx4 : Box w4 w.heap.size (roomCs r q) := Box.bl (w := w2.drew) (fun o => HX2.out o) (by simp [roomCs]) HB4.out
  unfold Box roomCs at hbx4
  go_wp2_with (first | (go_at_call 70; go_loud (refine (canbe_c r q (numsL r plan) A K _ (HQ.out.up HBW4.out) HO.out (by rw [← HNL.out]; omega) (fun j => by have := numsL_bd r plan j; have := HLE.out; omega) HI5.out).mono ?_; rw [HCN.out]; rintro e w6 ⟨rfl, hb6⟩; have HB6 := Lib.hid hb6; clear hb6)))
  go_ret2
  exact ⟨rfl, bl_tr HBW4.out HB6.out⟩
set_option maxRecDepth 100000 in
set_option maxHeartbeats 8000000 in
theorem planned27_4 (r : Rm) (q : RA) (plan : List Int) (a : Option Addr) (c : Nat) (w : World) (hq : RoomAt w w.heap.size r q) (hs : SmallR r.cop) (hpl : plan.length ≤ 1000000) (hx : IntsAt w w.heap.size a plan) (he : roomErr r = 0) (har : areB r plan = true) (hc : canB r (countL plan plan.length) = true) : Calls Tryz.prog 27 #[roomV r q, .slice a plan.length c, .bool true] w fun e w' => (∃ A K, e = .returned (.tuple #[.slice A (numsL r plan).length K, .int .i64 0]) ∧ IntsAt w' w'.heap.size A (numsL r plan)) ∧ Below w.heap.size w w' := by
  have HQ := Lib.hid hq
  have HX := Lib.hid hx
  have HF29 : Hid (∀ w, RoomAt w w.heap.size r q → Calls Tryz.prog 29 #[roomV r q] w fun e w' => e = .returned (.int .i64 (roomErr r)) ∧ Below w.heap.size w w') := fun w hq => fault29_c r q w hq hs
  have HE0 := Lib.hid he
  have ho := room_ok he
  have hn5 := ho.n5
  have hl0 := ho.cop.l0
  have hl4 := ho.cop.l4
  obtain ⟨hlen, hin⟩ := are_in ho har
  have HIN := Lib.hid hin
  have HAR := Lib.hid har
  have HO := Lib.hid ho
  have HLE := Lib.hid hlen
  have HCN : Hid (canB r (numsL r plan) = true) := by unfold Hid; rw [numsL_can plan hl4]; exact hc
  clear hq hx he ho har hc hin hlen
  go_enter Tryz.func27, Tryz.ntmps27
  go_upto_region 4 with (first | (go_at_call 29; go_loud (refine (HF29.out _ (HQ.out.up (bl_al (Below.refl _ _) _))).mono ?_; rw [HE0.out]; rintro e w1 ⟨rfl, hb⟩; have HB1 : Hid (Below w.heap.size w w1) := bl_tr (bl_al (Below.refl w.heap.size w) _) hb; have HX1 : Hid (Box w1 w.heap.size (roomCs r q)) := (Box.new w (roomCs r q) 31 (0, 0)).bl (by simp [roomCs]) hb; clear hb)))
  have HIS : Hid (∀ W, Below w1.heap.size w1 W → Calls Tryz.prog 74 #[roomV r q, .slice a plan.length c, .int .i64 (fullN r.baths.length)] W fun e w' => e = .returned (.bool true) ∧ Below W.heap.size W w') := fun W hW => by
    have := isplan_c r q plan a c W (HQ.out.up (bl_tr HB1.out hW)) hn5 hpl (HX.out.up (bl_tr HB1.out hW))
    rw [HAR.out] at this
    exact this
  have hbx := HX1.out
  have k0 : w1.cell? ⟨w.heap.size, 0, none⟩ = some (.int .i64 r.cop.last) := hbx 0
  have k1 : w1.cell? ⟨w.heap.size, 1, none⟩ = some (.int .i64 r.cop.start) := hbx 1
  have k2 : w1.cell? ⟨w.heap.size, 2, none⟩ = some (.int .i64 r.cop.most) := hbx 2
  have k3 : w1.cell? ⟨w.heap.size, 3, none⟩ = some (.int .i64 r.cop.per) := hbx 3
  have k4 : w1.cell? ⟨w.heap.size, 4, none⟩ = some (.int .i64 r.cop.shovels) := hbx 4
  have k5 : w1.cell? ⟨w.heap.size, 5, none⟩ = some (.slice q.q.a1 r.cop.coal.length q.q.c1) := hbx 5
  have k6 : w1.cell? ⟨w.heap.size, 6, none⟩ = some (.slice q.q.a2 r.cop.want.length q.q.c2) := hbx 6
  have k7 : w1.cell? ⟨w.heap.size, 7, none⟩ = some (.int .i64 r.cop.hlo) := hbx 7
  have k8 : w1.cell? ⟨w.heap.size, 8, none⟩ = some (.int .i64 r.cop.hhi) := hbx 8
  have k9 : w1.cell? ⟨w.heap.size, 9, none⟩ = some (.slice q.q.a3 r.cop.loss.length q.q.c3) := hbx 9
  have k10 : w1.cell? ⟨w.heap.size, 10, none⟩ = some (.slice q.q.a4 r.cop.rds.length q.q.c4) := hbx 10
  have k11 : w1.cell? ⟨w.heap.size, 11, none⟩ = some (.int .i64 r.buckets) := hbx 11
  have k12 : w1.cell? ⟨w.heap.size, 12, none⟩ = some (.int .i64 r.places) := hbx 12
  have k13 : w1.cell? ⟨w.heap.size, 13, none⟩ = some (.slice q.a5 r.baths.length q.c5) := hbx 13
  clear hbx
  refine wp_region_plus (by kernel_rfl) ?_
  repeat (go_big_quiet_step (first | (go_at_call 37; exact Calls.pl (full37_c r q _ (by omega))) | (go_at_call 74; exact Calls.pl (HIS.out _ (bl_pl (Below.refl _ _) _)))))
  refine wpQuiet_nil ?_
  rintro w2 ⟨d2, hd2⟩
  have HB2 : Hid (Below w1.heap.size w1 w2) := by rw [hd2]; exact bl_pl (Below.refl _ _) d2
  clear hd2 k0 k1 k2 k3 k4 k5 k6 k7 k8 k9 k10 k11 k12 k13
  go_upto_region 6 with (fail)
  have HX2 : Hid (Box w2 w.heap.size (roomCs r q)) := HX1.out.bl (by simp [roomCs]) HB2.out
  have hbx := HX2.out
  have k0 : w2.cell? ⟨w.heap.size, 0, none⟩ = some (.int .i64 r.cop.last) := hbx 0
  have k1 : w2.cell? ⟨w.heap.size, 1, none⟩ = some (.int .i64 r.cop.start) := hbx 1
  have k2 : w2.cell? ⟨w.heap.size, 2, none⟩ = some (.int .i64 r.cop.most) := hbx 2
  have k3 : w2.cell? ⟨w.heap.size, 3, none⟩ = some (.int .i64 r.cop.per) := hbx 3
  have k4 : w2.cell? ⟨w.heap.size, 4, none⟩ = some (.int .i64 r.cop.shovels) := hbx 4
  have k5 : w2.cell? ⟨w.heap.size, 5, none⟩ = some (.slice q.q.a1 r.cop.coal.length q.q.c1) := hbx 5
  have k6 : w2.cell? ⟨w.heap.size, 6, none⟩ = some (.slice q.q.a2 r.cop.want.length q.q.c2) := hbx 6
  have k7 : w2.cell? ⟨w.heap.size, 7, none⟩ = some (.int .i64 r.cop.hlo) := hbx 7
  have k8 : w2.cell? ⟨w.heap.size, 8, none⟩ = some (.int .i64 r.cop.hhi) := hbx 8
  have k9 : w2.cell? ⟨w.heap.size, 9, none⟩ = some (.slice q.q.a3 r.cop.loss.length q.q.c3) := hbx 9
  have k10 : w2.cell? ⟨w.heap.size, 10, none⟩ = some (.slice q.q.a4 r.cop.rds.length q.q.c4) := hbx 10
  have k11 : w2.cell? ⟨w.heap.size, 11, none⟩ = some (.int .i64 r.buckets) := hbx 11
  have k12 : w2.cell? ⟨w.heap.size, 12, none⟩ = some (.int .i64 r.places) := hbx 12
  have k13 : w2.cell? ⟨w.heap.size, 13, none⟩ = some (.slice q.a5 r.baths.length q.c5) := hbx 13
  clear hbx
  go_region_held3 (fun w' => w'.cell? ⟨w.heap.size, 0, none⟩ = some (.int .i64 r.cop.last) ∧ w'.cell? ⟨w.heap.size, 1, none⟩ = some (.int .i64 r.cop.start) ∧ w'.cell? ⟨w.heap.size, 2, none⟩ = some (.int .i64 r.cop.most) ∧ w'.cell? ⟨w.heap.size, 3, none⟩ = some (.int .i64 r.cop.per) ∧ w'.cell? ⟨w.heap.size, 4, none⟩ = some (.int .i64 r.cop.shovels) ∧ w'.cell? ⟨w.heap.size, 5, none⟩ = some (.slice q.q.a1 r.cop.coal.length q.q.c1) ∧ w'.cell? ⟨w.heap.size, 6, none⟩ = some (.slice q.q.a2 r.cop.want.length q.q.c2) ∧ w'.cell? ⟨w.heap.size, 7, none⟩ = some (.int .i64 r.cop.hlo) ∧ w'.cell? ⟨w.heap.size, 8, none⟩ = some (.int .i64 r.cop.hhi) ∧ w'.cell? ⟨w.heap.size, 9, none⟩ = some (.slice q.q.a3 r.cop.loss.length q.q.c3) ∧ w'.cell? ⟨w.heap.size, 10, none⟩ = some (.slice q.q.a4 r.cop.rds.length q.q.c4) ∧ w'.cell? ⟨w.heap.size, 11, none⟩ = some (.int .i64 r.buckets) ∧ w'.cell? ⟨w.heap.size, 12, none⟩ = some (.int .i64 r.places) ∧ w'.cell? ⟨w.heap.size, 13, none⟩ = some (.slice q.a5 r.baths.length q.c5)) (first | assumption | go_keep) (first | (go_at_call 37; refine (full37_c r q _ (by omega)).mono ?_; rintro e w3 ⟨rfl, hb3⟩; have HB3 := Lib.hid hb3; have hS3 : (fun w' => w'.cell? ⟨w.heap.size, 0, none⟩ = some (.int .i64 r.cop.last) ∧ w'.cell? ⟨w.heap.size, 1, none⟩ = some (.int .i64 r.cop.start) ∧ w'.cell? ⟨w.heap.size, 2, none⟩ = some (.int .i64 r.cop.most) ∧ w'.cell? ⟨w.heap.size, 3, none⟩ = some (.int .i64 r.cop.per) ∧ w'.cell? ⟨w.heap.size, 4, none⟩ = some (.int .i64 r.cop.shovels) ∧ w'.cell? ⟨w.heap.size, 5, none⟩ = some (.slice q.q.a1 r.cop.coal.length q.q.c1) ∧ w'.cell? ⟨w.heap.size, 6, none⟩ = some (.slice q.q.a2 r.cop.want.length q.q.c2) ∧ w'.cell? ⟨w.heap.size, 7, none⟩ = some (.int .i64 r.cop.hlo) ∧ w'.cell? ⟨w.heap.size, 8, none⟩ = some (.int .i64 r.cop.hhi) ∧ w'.cell? ⟨w.heap.size, 9, none⟩ = some (.slice q.q.a3 r.cop.loss.length q.q.c3) ∧ w'.cell? ⟨w.heap.size, 10, none⟩ = some (.slice q.q.a4 r.cop.rds.length q.q.c4) ∧ w'.cell? ⟨w.heap.size, 11, none⟩ = some (.int .i64 r.buckets) ∧ w'.cell? ⟨w.heap.size, 12, none⟩ = some (.int .i64 r.places) ∧ w'.cell? ⟨w.heap.size, 13, none⟩ = some (.slice q.a5 r.baths.length q.c5)) w3 := ⟨cell_later hb3 (w := w2.drew) k0, cell_later hb3 (w := w2.drew) k1, cell_later hb3 (w := w2.drew) k2, cell_later hb3 (w := w2.drew) k3, cell_later hb3 (w := w2.drew) k4, cell_later hb3 (w := w2.drew) k5, cell_later hb3 (w := w2.drew) k6, cell_later hb3 (w := w2.drew) k7, cell_later hb3 (w := w2.drew) k8, cell_later hb3 (w := w2.drew) k9, cell_later hb3 (w := w2.drew) k10, cell_later hb3 (w := w2.drew) k11, cell_later hb3 (w := w2.drew) k12, cell_later hb3 (w := w2.drew) k13⟩; dsimp only at hS3; clear hb3) | (go_at_call 49; refine (numbers_c r q plan a c (fullN r.baths.length) _ hl0 hl4 (by have := HLE.out; omega) (HX.out.up (bl_tr (bl_tr HB1.out HB2.out) (bl_tr (bl_dr (Below.refl _ _)) HB3.out))) (by rw [HLE.out]) HIN.out).mono ?_; rintro e w4 ⟨v, rfl, hown, hb4⟩; have HB4 := Lib.hid (bl_tr HB3.out hb4); obtain ⟨A, K, rfl⟩ := own_shape6 hown; have HI4 := Lib.hid (own_ints' hown); have hS4 : (fun w' => w'.cell? ⟨w.heap.size, 0, none⟩ = some (.int .i64 r.cop.last) ∧ w'.cell? ⟨w.heap.size, 1, none⟩ = some (.int .i64 r.cop.start) ∧ w'.cell? ⟨w.heap.size, 2, none⟩ = some (.int .i64 r.cop.most) ∧ w'.cell? ⟨w.heap.size, 3, none⟩ = some (.int .i64 r.cop.per) ∧ w'.cell? ⟨w.heap.size, 4, none⟩ = some (.int .i64 r.cop.shovels) ∧ w'.cell? ⟨w.heap.size, 5, none⟩ = some (.slice q.q.a1 r.cop.coal.length q.q.c1) ∧ w'.cell? ⟨w.heap.size, 6, none⟩ = some (.slice q.q.a2 r.cop.want.length q.q.c2) ∧ w'.cell? ⟨w.heap.size, 7, none⟩ = some (.int .i64 r.cop.hlo) ∧ w'.cell? ⟨w.heap.size, 8, none⟩ = some (.int .i64 r.cop.hhi) ∧ w'.cell? ⟨w.heap.size, 9, none⟩ = some (.slice q.q.a3 r.cop.loss.length q.q.c3) ∧ w'.cell? ⟨w.heap.size, 10, none⟩ = some (.slice q.q.a4 r.cop.rds.length q.q.c4) ∧ w'.cell? ⟨w.heap.size, 11, none⟩ = some (.int .i64 r.buckets) ∧ w'.cell? ⟨w.heap.size, 12, none⟩ = some (.int .i64 r.places) ∧ w'.cell? ⟨w.heap.size, 13, none⟩ = some (.slice q.a5 r.baths.length q.c5)) w4 := ⟨cell_later (bl_tr HB3.out hb4) (w := w2.drew) k0, cell_later (bl_tr HB3.out hb4) (w := w2.drew) k1, cell_later (bl_tr HB3.out hb4) (w := w2.drew) k2, cell_later (bl_tr HB3.out hb4) (w := w2.drew) k3, cell_later (bl_tr HB3.out hb4) (w := w2.drew) k4, cell_later (bl_tr HB3.out hb4) (w := w2.drew) k5, cell_later (bl_tr HB3.out hb4) (w := w2.drew) k6, cell_later (bl_tr HB3.out hb4) (w := w2.drew) k7, cell_later (bl_tr HB3.out hb4) (w := w2.drew) k8, cell_later (bl_tr HB3.out hb4) (w := w2.drew) k9, cell_later (bl_tr HB3.out hb4) (w := w2.drew) k10, cell_later (bl_tr HB3.out hb4) (w := w2.drew) k11, cell_later (bl_tr HB3.out hb4) (w := w2.drew) k12, cell_later (bl_tr HB3.out hb4) (w := w2.drew) k13⟩; dsimp only at hS4; clear hb4 hown hS3))
  have HBW4 : Hid (Below w.heap.size w w4) := bl_tr (bl_tr HB1.out HB2.out) (bl_tr (bl_dr (Below.refl _ _)) HB4.out)
  have HNL : Hid ((r.cop.last + 1).toNat = (numsL r plan).length) := (numsL_len r plan).symm
  rw [HNL.out]
  have HI5 : Hid (IntsAt w4 w4.heap.size A (numsL r plan)) := HI4.out
  clear hS4 k0 k1 k2 k3 k4 k5 k6 k7 k8 k9 k10 k11 k12 k13
  have hbx4 : Box w4 w.heap.size (roomCs r q) := Box.bl (w := w2.drew) (fun o => HX2.out o) (by simp [roomCs]) HB4.out
  unfold Box roomCs at hbx4
  go_wp2_with (first | (go_at_call 70; go_loud (refine (canbe_c r q (numsL r plan) A K _ (HQ.out.up HBW4.out) HO.out (by rw [← HNL.out]; omega) (fun j => by have := numsL_bd r plan j; have := HLE.out; omega) HI5.out).mono ?_; rw [HCN.out]; rintro e w6 ⟨rfl, hb6⟩; have HB6 := Lib.hid hb6; clear hb6)))
  go_ret2
  exact ⟨⟨A, K, rfl, HI5.out.up HB6.out⟩, bl_tr HBW4.out HB6.out⟩
/-- planned, whole. -/
theorem planned27_e (r : Rm) (q : RA) (plan : List Int) (a : Option Addr) (c : Nat) (fine : Bool) (w : World) (hq : RoomAt w w.heap.size r q) (hs : SmallR r.cop) (hpl : plan.length ≤ 1000000) (hx : IntsAt w w.heap.size a plan) (he : planErr r plan fine ≠ 0) : Calls Tryz.prog 27 #[roomV r q, .slice a plan.length c, .bool fine] w fun e w' => e = .returned (.tuple #[.slice none 0 0, .int .i64 (planErr r plan fine)]) ∧ Below w.heap.size w w' := by
  unfold planErr at he ⊢
  by_cases h0 : roomErr r = 0
  · rw [if_neg (by simp [h0])] at he ⊢
    by_cases h1 : (areB r plan && fine) = false
    · rw [if_pos h1]
      exact planned27_2 r q plan a c fine w hq hs hpl hx h0 h1
    · rw [if_neg h1] at he ⊢
      have h2 : areB r plan = true ∧ fine = true := by simpa using h1
      obtain ⟨h3, rfl⟩ := h2
      by_cases h4 : canB r (countL plan plan.length) = false
      · rw [if_pos h4]
        exact planned27_3 r q plan a c w hq hs hpl hx h0 h3 h4
      · rw [if_neg h4] at he
        exact (he rfl).elim
  · rw [if_pos h0]
    exact planned27_1 r q plan a c fine w hq hs hpl hx h0
theorem planned27_y (r : Rm) (q : RA) (plan : List Int) (a : Option Addr) (c : Nat) (fine : Bool) (w : World) (hq : RoomAt w w.heap.size r q) (hs : SmallR r.cop) (hpl : plan.length ≤ 1000000) (hx : IntsAt w w.heap.size a plan) (he : planErr r plan fine = 0) : Calls Tryz.prog 27 #[roomV r q, .slice a plan.length c, .bool fine] w fun e w' => (∃ A K, e = .returned (.tuple #[.slice A (numsL r plan).length K, .int .i64 0]) ∧ IntsAt w' w'.heap.size A (numsL r plan)) ∧ Below w.heap.size w w' := by
  obtain ⟨h0, h1, rfl, h3⟩ := planErr_ok he
  exact planned27_4 r q plan a c w hq hs hpl hx h0 h1 h3
end Go.Proofs.YtpgnplmjfhdncaaGreat
