/- Reference: IsSure, Sum, Others, Other. -/
import Derived.Test.YtpgnplmjfhdncaaGreatKV5
namespace Go.Proofs.YtpgnplmjfhdncaaGreat
open Go.RowKit
set_option linter.unusedVariables false
set_option maxRecDepth 100000 in
set_option maxHeartbeats 8000000 in
theorem rsureN_c (r : Rm) (q : RA) (ns : List Int) (a at_ : Option Addr) (k kt : Nat) (w : World) (ho : RoomOk r) (hl : (ns.length : Int) = r.cop.last + 1) (hb : ∀ j, 0 ≤ nth ns j ∧ nth ns j ≤ 100) (hq : RoomAt w w.heap.size r q) (hx : IntsAt w w.heap.size a ns) (hz : TruthsAt w w.heap.size at_ (truthsR r.cop)) (hc : canB r ns = false) : Calls Tryz.prog 56 #[roomV r q, .slice at_ (truthsR r.cop).length kt, .slice a ns.length k] w fun e w' => e = .returned (.bool (sureB r ns)) ∧ Below w.heap.size w w' := by
  have hs : sureB r ns = false := by rw [sureB, hc]; rfl
  rw [hs]
  have HQ := Lib.hid hq
  have HN := Lib.hid hx
  have HO := Lib.hid ho
  have HL := Lib.hid hl
  have HB := Lib.hid hb
  have HC : Hid (∀ (w : World), RoomAt w w.heap.size r q → IntsAt w w.heap.size a ns → Calls Tryz.prog 70 #[roomV r q, .slice a ns.length k] w fun e w' => e = .returned (.bool false) ∧ Below w.heap.size w w') := fun w h1 h2 => hc ▸ canbe_c r q ns a k w h1 ho hl hb h2
  clear hq hx hz ho hl hb hs hc
  go_enter Tryz.func56, Tryz.ntmps56
  go_wp2_with (first | (go_at_call 70; go_loud (refine (HC.out _ (HQ.out.up (bl_al (Below.refl w.heap.size w) _)) (HN.out.up (bl_al (Below.refl w.heap.size w) _))).mono ?_; rintro e w0_ ⟨rfl, hb⟩; have HB0 : Hid (Below w.heap.size w w0_) := bl_tr (bl_al (Below.refl w.heap.size w) _) hb; have HX0_0 : Hid (Box w0_ w.heap.size (roomCs r q)) := (Box.new w (roomCs r q) 31 (0, 0)).bl (by simp) hb; have hbx0_0 := HX0_0.out; unfold Box roomCs at hbx0_0; clear hb)))
  go_ret
  exact ⟨rfl, HB0.out⟩
set_option maxRecDepth 100000 in
set_option maxHeartbeats 8000000 in
theorem rsure_one (r : Rm) (q : RA) (ns : List Int) (a at_ : Option Addr) (k kt : Nat) (w : World) (ho : RoomOk r) (hl : (ns.length : Int) = r.cop.last + 1) (hb : ∀ j, 0 ≤ nth ns j ∧ nth ns j ≤ 100) (hq : RoomAt w w.heap.size r q) (hx : IntsAt w w.heap.size a ns) (hz : TruthsAt w w.heap.size at_ (truthsR r.cop)) (hc : canB r ns = true) (hk : keepsF r ns = 1) : Calls Tryz.prog 56 #[roomV r q, .slice at_ (truthsR r.cop).length kt, .slice a ns.length k] w fun e w' => e = .returned (.bool (sureB r ns)) ∧ Below w.heap.size w w' := by
  have hs : sureB r ns = true := by rw [sureB, hc]; simpa using hk
  rw [hs]
  have HQ := Lib.hid hq
  have HN := Lib.hid hx
  have HZ := Lib.hid hz
  have hw : ∀ j, 0 ≤ nth (wantN r ns) j ∧ nth (wantN r ns) j ≤ 100 := fun j => by have := wantN_bd ho (fun j => (hb j).1) hc j; omega
  have hV := hk
  have HC : Hid (∀ (w : World), RoomAt w w.heap.size r q → IntsAt w w.heap.size a ns → Calls Tryz.prog 70 #[roomV r q, .slice a ns.length k] w fun e w' => e = .returned (.bool true) ∧ Below w.heap.size w w') := fun w h1 h2 => hc ▸ canbe_c r q ns a k w h1 ho hl hb h2
  have HK : Hid (∀ (w : World), RoomAt w w.heap.size r q → IntsAt w w.heap.size a ns → TruthsAt w w.heap.size at_ (truthsR r.cop) → Calls Tryz.prog 73 #[roomV r q, .slice at_ (truthsR r.cop).length kt, .slice a ns.length k] w fun e w' => e = .returned (.int .i64 1) ∧ Below w.heap.size w w') := fun w h1 h2 h3 => hV ▸ rkeeps_c r q ns a at_ k kt w ho hl hb hw h1 h2 h3
  clear hq hx hz ho hl hb hs hc hw hk hV
  go_enter Tryz.func56, Tryz.ntmps56
  go_wp2_with (first | (go_at_call 73; go_loud (refine (HK.out _ (HQ.out.up HB0.out) (HN.out.up HB0.out) (HZ.out.up HB0.out)).mono ?_; rintro e w1_ ⟨rfl, hb⟩; have HB1 : Hid (Below w.heap.size w w1_) := bl_tr HB0.out hb; have HX1_0 : Hid (Box w1_ w.heap.size (roomCs r q)) := HX0_0.out.bl (by simp) hb; clear hbx0_0; clear hb)) | (go_at_call 70; go_loud (refine (HC.out _ (HQ.out.up (bl_al (Below.refl w.heap.size w) _)) (HN.out.up (bl_al (Below.refl w.heap.size w) _))).mono ?_; rintro e w0_ ⟨rfl, hb⟩; have HB0 : Hid (Below w.heap.size w w0_) := bl_tr (bl_al (Below.refl w.heap.size w) _) hb; have HX0_0 : Hid (Box w0_ w.heap.size (roomCs r q)) := (Box.new w (roomCs r q) 31 (0, 0)).bl (by simp) hb; have hbx0_0 := HX0_0.out; unfold Box roomCs at hbx0_0; clear hb)))
  go_ret
  exact ⟨rfl, HB1.out⟩
set_option maxRecDepth 100000 in
set_option maxHeartbeats 8000000 in
theorem rsure_not (r : Rm) (q : RA) (ns : List Int) (a at_ : Option Addr) (k kt : Nat) (w : World) (ho : RoomOk r) (hl : (ns.length : Int) = r.cop.last + 1) (hb : ∀ j, 0 ≤ nth ns j ∧ nth ns j ≤ 100) (hq : RoomAt w w.heap.size r q) (hx : IntsAt w w.heap.size a ns) (hz : TruthsAt w w.heap.size at_ (truthsR r.cop)) (hc : canB r ns = true) (hk : ¬ keepsF r ns = 1) : Calls Tryz.prog 56 #[roomV r q, .slice at_ (truthsR r.cop).length kt, .slice a ns.length k] w fun e w' => e = .returned (.bool (sureB r ns)) ∧ Below w.heap.size w w' := by
  have hs : sureB r ns = false := by rw [sureB, hc]; simpa using hk
  rw [hs]
  have HQ := Lib.hid hq
  have HN := Lib.hid hx
  have HZ := Lib.hid hz
  have hw : ∀ j, 0 ≤ nth (wantN r ns) j ∧ nth (wantN r ns) j ≤ 100 := fun j => by have := wantN_bd ho (fun j => (hb j).1) hc j; omega
  obtain ⟨V, hV⟩ : ∃ V, keepsF r ns = V := ⟨_, rfl⟩
  have hv1 : ¬ V = 1 := by rw [← hV]; exact hk
  have hv2 : (V == 1) = false := by simpa using hv1
  have HC : Hid (∀ (w : World), RoomAt w w.heap.size r q → IntsAt w w.heap.size a ns → Calls Tryz.prog 70 #[roomV r q, .slice a ns.length k] w fun e w' => e = .returned (.bool true) ∧ Below w.heap.size w w') := fun w h1 h2 => hc ▸ canbe_c r q ns a k w h1 ho hl hb h2
  have HK : Hid (∀ (w : World), RoomAt w w.heap.size r q → IntsAt w w.heap.size a ns → TruthsAt w w.heap.size at_ (truthsR r.cop) → Calls Tryz.prog 73 #[roomV r q, .slice at_ (truthsR r.cop).length kt, .slice a ns.length k] w fun e w' => e = .returned (.int .i64 V) ∧ Below w.heap.size w w') := fun w h1 h2 h3 => hV ▸ rkeeps_c r q ns a at_ k kt w ho hl hb hw h1 h2 h3
  clear hq hx hz ho hl hb hs hc hw hk hV
  go_enter Tryz.func56, Tryz.ntmps56
  go_wp2_with (first | (go_at_call 73; go_loud (refine (HK.out _ (HQ.out.up HB0.out) (HN.out.up HB0.out) (HZ.out.up HB0.out)).mono ?_; rintro e w1_ ⟨rfl, hb⟩; have HB1 : Hid (Below w.heap.size w w1_) := bl_tr HB0.out hb; have HX1_0 : Hid (Box w1_ w.heap.size (roomCs r q)) := HX0_0.out.bl (by simp) hb; clear hbx0_0; clear hb)) | (go_at_call 70; go_loud (refine (HC.out _ (HQ.out.up (bl_al (Below.refl w.heap.size w) _)) (HN.out.up (bl_al (Below.refl w.heap.size w) _))).mono ?_; rintro e w0_ ⟨rfl, hb⟩; have HB0 : Hid (Below w.heap.size w w0_) := bl_tr (bl_al (Below.refl w.heap.size w) _) hb; have HX0_0 : Hid (Box w0_ w.heap.size (roomCs r q)) := (Box.new w (roomCs r q) 31 (0, 0)).bl (by simp) hb; have hbx0_0 := HX0_0.out; unfold Box roomCs at hbx0_0; clear hb)))
  go_ret
  exact ⟨rfl, HB1.out⟩
theorem rsure_c (r : Rm) (q : RA) (ns : List Int) (a at_ : Option Addr) (k kt : Nat) (w : World) (ho : RoomOk r) (hl : (ns.length : Int) = r.cop.last + 1) (hb : ∀ j, 0 ≤ nth ns j ∧ nth ns j ≤ 100) (hq : RoomAt w w.heap.size r q) (hx : IntsAt w w.heap.size a ns) (hz : TruthsAt w w.heap.size at_ (truthsR r.cop)) : Calls Tryz.prog 56 #[roomV r q, .slice at_ (truthsR r.cop).length kt, .slice a ns.length k] w fun e w' => e = .returned (.bool (sureB r ns)) ∧ Below w.heap.size w w' := by
  cases hc : canB r ns with
  | false => exact rsureN_c r q ns a at_ k kt w ho hl hb hq hx hz hc
  | true =>
    by_cases hk : keepsF r ns = 1
    · exact rsure_one r q ns a at_ k kt w ho hl hb hq hx hz hc hk
    · exact rsure_not r q ns a at_ k kt w ho hl hb hq hx hz hc hk
set_option maxRecDepth 100000 in
set_option maxHeartbeats 8000000 in
theorem rsum60_c (xs : List Int) (a : Option Addr) (c : Nat) (w : World) (hx : IntsAt w w.heap.size a xs) (hn : ∀ j, 0 ≤ nth xs j ∧ nth xs j ≤ 100) (hl : xs.length ≤ 1000) :
    Calls Tryz.prog 60 #[.slice a xs.length c] w fun e w' => e = .returned (.int .i64 (sumN xs xs.length)) ∧ Below w.heap.size w w' := by
  have HX := Lib.hid hx
  have HN := Lib.hid hn
  clear hx hn
  go_enter Tryz.func60, Tryz.ntmps60
  go_wp2
  go_loopw [3, 4] (fun s i wr => ∃ j : Nat, j ≤ xs.length ∧ i = .int .i64 j ∧ s = .int .i64 (sumN xs j) ∧ Below w.heap.size w wr) (fun _ i _ => xs.length - (intOf i).toNat)
  case atStart => exact ⟨0, by omega, rfl, rfl, Below.refl _ _⟩
  case round =>
    obtain ⟨j, hj, rfl, rfl, hb⟩ := hrel
    have HB := Lib.hid hb
    by_cases hlt : j < xs.length
    · obtain ⟨b, o, rfl⟩ := HX.out.some_ (by omega)
      have hpc := (HX.out.below HB.out).get j hlt
      have hs := sumN_bd HN.out j
      have hv := HN.out j
      have hj1 : (j : Int) < (xs.length : Int) := by omega
      clear hb
      go_wp2
      go_roundw
      case rel => exact ⟨j + 1, by omega, by go_num, rfl, HB.out⟩
      case measure => simp [intOf]; omega
    · obtain rfl : j = xs.length := by omega
      clear hb
      go_wp2
      go_ret
      exact ⟨rfl, HB.out⟩
/-- A power. -/
def powN (K : Int) : Nat → Int
  | 0 => 1
  | j + 1 => powN K j * K
theorem powN_bd {K : Int} (h1 : 1 ≤ K) (h6 : K ≤ 6) : ∀ j, j ≤ 5 → 1 ≤ powN K j ∧ powN K j ≤ 8000 := by
  intro j hj
  have h : K = 1 ∨ K = 2 ∨ K = 3 ∨ K = 4 ∨ K = 5 ∨ K = 6 := by omega
  match j, hj with
  | 0, _ => rcases h with rfl | rfl | rfl | rfl | rfl | rfl <;> decide
  | 1, _ => rcases h with rfl | rfl | rfl | rfl | rfl | rfl <;> decide
  | 2, _ => rcases h with rfl | rfl | rfl | rfl | rfl | rfl <;> decide
  | 3, _ => rcases h with rfl | rfl | rfl | rfl | rfl | rfl <;> decide
  | 4, _ => rcases h with rfl | rfl | rfl | rfl | rfl | rfl <;> decide
  | 5, _ => rcases h with rfl | rfl | rfl | rfl | rfl | rfl <;> decide
/-- How many numbers of baths there are. -/
def othersN (r : Rm) : Int := powN (r.places + 1) (r.cop.last + 1).toNat
set_option maxRecDepth 100000 in
set_option maxHeartbeats 8000000 in
theorem others_c (r : Rm) (q : RA) (w : World) (ho : RoomOk r) :
    Calls Tryz.prog 68 #[roomV r q] w fun e w' => e = .returned (.int .i64 (othersN r)) ∧ Below w.heap.size w w' := by
  have hl0 := ho.cop.l0
  have hl4 := ho.cop.l4
  have hp0 := ho.p0
  have hp5 := ho.p5
  obtain ⟨n, hn⟩ : ∃ n : Nat, r.cop.last + 1 = n := ⟨(r.cop.last + 1).toNat, by omega⟩
  have HR : Hid (othersN r = powN (r.places + 1) n) := by unfold othersN; rw [hn]; rfl
  have hpw := fun j (h : j ≤ 5) => powN_bd (K := r.places + 1) (by omega) (by omega) j h
  have HPW := Lib.hid hpw
  clear ho hpw
  have hl : r.cop.last = n - 1 := by omega
  have HLL := Lib.hid hl
  clear hn hl
  go_enter Tryz.func68, Tryz.ntmps68
  go_wp2
  go_loopw [3, 4] (fun s i wr => ∃ j : Nat, j ≤ n ∧ i = .int .i64 j ∧ s = .int .i64 (powN (r.places + 1) j) ∧ Box wr w.heap.size (roomCs r q) ∧ Below w.heap.size w wr) (fun _ i _ => n - (intOf i).toNat)
  case atStart => exact ⟨0, by omega, rfl, rfl, Box.new _ _ _ _, bl_al (Below.refl _ _) _⟩
  case round =>
    obtain ⟨j, hj, rfl, rfl, hbx, hb⟩ := hrel
    have HB := Lib.hid hb
    have HBX := Lib.hid hbx
    have hLL := HLL.out
    have k0 : wr.cell? ⟨w.heap.size, 0, none⟩ = some (.int .i64 r.cop.last) := hbx 0
    have k12 : wr.cell? ⟨w.heap.size, 12, none⟩ = some (.int .i64 r.places) := hbx 12
    by_cases hlt : j < n
    · have hs := HPW.out j (by omega)
      have hs2 := HPW.out (j + 1) (by omega)
      have hj1 : (j : Int) ≤ r.cop.last := by omega
      have hw1 : IntKind.i64.wrap (r.places + 1) = r.places + 1 := IntWalk.i64_in _ (by omega)
      have hw2 : IntKind.i64.wrap (powN (r.places + 1) j * (r.places + 1)) = powN (r.places + 1) j * (r.places + 1) := IntWalk.i64_in _ (by simp only [powN] at hs2; omega)
      clear hb hbx hs hs2 hLL
      go_wp2
      go_roundw
      case rel => exact ⟨j + 1, by omega, by go_num, rfl, HBX.out, HB.out⟩
      case measure => simp [intOf]; omega
    · obtain rfl : j = n := by omega
      have hj1 : ¬ (j : Int) ≤ r.cop.last := by omega
      clear hb hbx hLL
      go_wp2
      go_ret
      exact ⟨by rw [HR.out]; rfl, HB.out⟩
/-- A number without its last digits. -/
def divN (K n : Int) : Nat → Int
  | 0 => n
  | j + 1 => divN K n j / K
theorem divN_bd {K n : Int} (h1 : 1 ≤ K) (h0 : 0 ≤ n) : ∀ j, 0 ≤ divN K n j ∧ divN K n j ≤ n
  | 0 => ⟨h0, Int.le_refl _⟩
  | j + 1 => by
    have h := divN_bd h1 h0 j
    refine ⟨Int.ediv_nonneg h.1 (by omega), Int.le_trans (Int.ediv_le_self _ h.1) h.2⟩
/-- The numbers of baths with a number. -/
def otherL (r : Rm) (n : Int) : List Int := rowI (fun i => divN (r.places + 1) n ((r.cop.last + 1).toNat - 1 - i) % (r.places + 1)) (r.cop.last + 1).toNat
theorem otherL_len (r : Rm) (n : Int) : (otherL r n).length = (r.cop.last + 1).toNat := by rw [otherL, rowI_len]
theorem otherL_bd {r : Rm} (ho : RoomOk r) (n : Int) (j : Nat) : 0 ≤ nth (otherL r n) j ∧ nth (otherL r n) j ≤ r.places := by
  by_cases hj : j < (r.cop.last + 1).toNat
  · rw [otherL, nth_rowI _ hj]
    have h0 := ho.p0
    have h1 := Int.emod_nonneg (divN (r.places + 1) n ((r.cop.last + 1).toNat - 1 - j)) (b := r.places + 1) (by omega)
    have h2 := Int.emod_lt_of_pos (divN (r.places + 1) n ((r.cop.last + 1).toNat - 1 - j)) (b := r.places + 1) (by omega)
    omega
  · rw [nth_out _ _ (by rw [otherL_len]; omega)]; have := ho.p0; omega
set_option maxRecDepth 100000 in
set_option maxHeartbeats 8000000 in
theorem other_c (r : Rm) (q : RA) (m : Int) (w : World) (ho : RoomOk r) (hm0 : 0 ≤ m) (hm9 : m ≤ 100000) :
    Calls Tryz.prog 67 #[roomV r q, .int .i64 m] w fun e w' => ∃ v, e = .returned v ∧ w'.ownsRow w.heap.size 3 1 v (r.cop.last + 1).toNat (ints (otherL r m)) ∧ Below w.heap.size w w' := by
  have hl0 := ho.cop.l0
  have hl4 := ho.cop.l4
  have hp0 := ho.p0
  have hp5 := ho.p5
  obtain ⟨n, hn⟩ : ∃ n : Nat, r.cop.last + 1 = n := ⟨(r.cop.last + 1).toNat, by omega⟩
  have hnn : (r.cop.last + 1).toNat = n := by omega
  have HDV : Hid (∀ j, 0 ≤ divN (r.places + 1) m j ∧ divN (r.places + 1) m j ≤ m) := fun j => divN_bd (by omega) hm0 j
  have HE : Hid (otherL r m = rowI (fun i => divN (r.places + 1) m (n - 1 - i) % (r.places + 1)) n) := by unfold otherL; rw [hnn]; trivial
  rw [hnn]
  obtain ⟨Z, hZ1, hZ2, hZ3⟩ := mk_ints (r.cop.last + 1) (by omega) (by omega)
  have HZ1 : Hid (Z.size = n) := by rw [hZ1]; exact hnn
  have HLL : Hid (r.cop.last = n - 1) := by show _ = _; omega
  have HNN := Lib.hid hnn
  clear ho hZ1 hZ2 hn
  have hw0 : IntKind.i64.wrap (r.cop.last + 1) = r.cop.last + 1 := IntWalk.i64_in _ (by omega)
  go_enter Tryz.func67, Tryz.ntmps67
  go_wp2
  clear hZ3 hnn
  go_loopw [1, 6] (fun s i wr => ∃ (j : Nat) (cu : Array Value), j ≤ n ∧ i = .int .i64 ((j : Int) - 1) ∧ s = .int .i64 (divN (r.places + 1) m (n - j)) ∧ Below w.heap.size w wr ∧ Box wr w.heap.size (roomCs r q) ∧ wr.heap[w.heap.size + 1]? = some (.cells cu 3 (0, 0)) ∧ cu.size = n ∧ (∀ h, j ≤ h → h < n → cu[h]? = some (.int .i64 (divN (r.places + 1) m (n - 1 - h) % (r.places + 1))))) (fun _ i _ => (intOf i + 1).toNat)
  case atStart =>
    exact ⟨n, Z, Nat.le_refl _, by have := HLL.out; go_num, by rw [Nat.sub_self]; rfl, bl_al (bl_al (Below.refl _ _) _) _, (Box.new _ _ _ _).al (by simp) _, by have := World.alloc_heap_new (w.alloc (.cells (roomCs r q) 31)) (.cells Z 3); rw [World.size_alloc] at this; exact this, by simpa using HZ1.out, fun h h1 h2 => by omega⟩
  case round =>
    obtain ⟨j, cu, hj, rfl, rfl, hb, hb0, hg, hcs, hcu⟩ := hrel
    have HB := Lib.hid hb
    have HB0 := Lib.hid hb0
    have HG := Lib.hid hg
    have HCS := Lib.hid hcs
    have HCU := Lib.hid hcu
    have hLL := HLL.out
    by_cases hlt : 0 < j
    · obtain ⟨i, rfl⟩ : ∃ i, j = i + 1 := ⟨j - 1, by omega⟩
      have hi1 : ((i + 1 : Nat) : Int) - 1 = i := by omega
      rw [hi1]
      have hi0 : (0 : Int) ≤ (i : Int) := by omega
      have hi5 : (i : Int) ≤ 5 := by omega
      have hi6 : (i : Int) < (n : Int) := by omega
      have hin : i < n := by omega
      obtain ⟨D, hD⟩ : ∃ D, divN (r.places + 1) m (n - (i + 1)) = D := ⟨_, rfl⟩
      have hD1 : divN (r.places + 1) m (n - 1 - i) = D := by rw [← hD, show n - 1 - i = n - (i + 1) by omega]
      have hD2 : divN (r.places + 1) m (n - i) = D / (r.places + 1) := by rw [← hD, show n - i = (n - (i + 1)) + 1 by omega]; rfl
      have hDb := HDV.out (n - (i + 1))
      rw [hD] at hDb ⊢
      have HD1 := Lib.hid hD1
      have HD2 := Lib.hid hD2
      have k12 : wr.cell? ⟨w.heap.size, 12, none⟩ = some (.int .i64 r.places) := hb0 12
      have hcm : ∃ u, wr.cell? ⟨w.heap.size + 1, i, none⟩ = some u := ⟨_, by simp only [World.cell?, hg]; exact Array.getElem?_eq_getElem (by omega)⟩
      obtain ⟨u, hcm⟩ := hcm
      have hfm : wr.frozen? ⟨w.heap.size + 1, i, none⟩ = false := by simp [World.frozen?, hg]
      obtain ⟨M, hM⟩ : ∃ M, D % (r.places + 1) = M := ⟨_, rfl⟩
      obtain ⟨E, hE⟩ : ∃ E, D / (r.places + 1) = E := ⟨_, rfl⟩
      have hM0 : 0 ≤ M := by rw [← hM]; exact Int.emod_nonneg _ (by omega)
      have hM9 : M < r.places + 1 := by rw [← hM]; exact Int.emod_lt_of_pos _ (by omega)
      have hE0 : 0 ≤ E := by rw [← hE]; exact Int.ediv_nonneg hDb.1 (by omega)
      have hE9 : E ≤ D := by rw [← hE]; exact Int.ediv_le_self _ hDb.1
      have hm : D.tmod (r.places + 1) = M := by rw [Int.tmod_eq_emod_of_nonneg hDb.1]; exact hM
      have hd : D.tdiv (r.places + 1) = E := by rw [Int.tdiv_eq_ediv_of_nonneg hDb.1]; exact hE
      have hK0 : ¬ r.places + 1 = 0 := by omega
      have hK1 : (r.places + 1 == 0) = false := by simpa using hK0
      have hwK : IntKind.i64.wrap (r.places + 1) = r.places + 1 := IntWalk.i64_in _ (by omega)
      have hwM : IntKind.i64.wrap M = M := IntWalk.i64_in _ (by omega)
      have hwE : IntKind.i64.wrap E = E := IntWalk.i64_in _ (by omega)
      have HME : Hid (M = D % (r.places + 1) ∧ E = D / (r.places + 1)) := ⟨hM.symm, hE.symm⟩
      have kb : Hid (∀ v, Box (wr.setCell ⟨w.heap.size + 1, i, none⟩ v).drew w.heap.size (roomCs r q)) := fun v => (((Grown.refl (fun k => k = w.heap.size + 1) wr).setCell (p := ⟨w.heap.size + 1, i, none⟩) (.inl rfl) v).drew).box HB0.out (HB0.out.lt (by simp)) (by omega)
      have kk1 : ∀ v, (wr.setCell ⟨w.heap.size + 1, i, none⟩ v).cell? ⟨w.heap.size, 12, none⟩ = some (.int .i64 r.places) := fun v => (((Grown.refl (fun k => k = w.heap.size + 1) wr).setCell (p := ⟨w.heap.size + 1, i, none⟩) (.inl rfl) v).cell (b := w.heap.size) (o := 12) (World.block_lt_of_cell? wr _ k12) (by omega)).trans k12
      clear hg hb hb0 hcs hcu hM hE hD hD1 hD2 hLL
      go_wp2
      go_region_held3 (fun w' => w'.cell? ⟨w.heap.size, 12, none⟩ = some (.int .i64 r.places)) (first | assumption | go_keep) (fail)
      go_wp2
      go_roundw
      case rel =>
        refine ⟨i, _, by omega, by go_num, by rw [HD2.out, HME.out.2], bl_dr (bl_st HB.out (by simp) _), fun o => (kb.out _ o), heap_setCell_same _ _ i _ _ _ HG.out, by simpa using HCS.out, fun h h1 h2 => ?_⟩
        by_cases he : h = i
        · subst he
          rw [HD1.out, ← HME.out.1]
          simp [HCS.out, h2]
        · rw [Array.getElem?_setIfInBounds_ne (by omega)]
          exact HCU.out h (by omega) h2
      case measure => first | (simp [intOf]; done) | (simp [intOf]; omega)
    · obtain rfl : j = 0 := by omega
      have HF := Lib.hid (rowI_row (base := w.heap.size) HG.out HCS.out (by omega) (by omega) (fun h hh => HCU.out h (by omega) hh))
      clear hg hcu hb hb0 hcs
      go_wp2
      go_ret
      exact ⟨_, rfl, by rw [HE.out]; exact HF.out, HB.out⟩
end Go.Proofs.YtpgnplmjfhdncaaGreat
