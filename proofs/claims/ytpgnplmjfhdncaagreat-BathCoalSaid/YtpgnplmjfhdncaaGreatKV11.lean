/- Reference: Shovels, Coals, Coal, Least. -/
import Derived.Test.YtpgnplmjfhdncaaGreatKV7
import Derived.Test.YtpgnplmjfhdncaaGreatKL5
import Derived.Test.YtpgnplmjfhdncaaGreatKS1
namespace Go.Proofs.YtpgnplmjfhdncaaGreat
open Go.RowKit
set_option linter.unusedVariables false
/-- A room with as many places as shovels. -/
def rmOf (c : Cop) : Rm := ⟨c, 1, c.shovels, []⟩
theorem rmOf_ok {c : Cop} (h : Okc c) (hc : checkCop c = 0) (ht : truthsC c ≠ []) : RoomOk (rmOf c) :=
  ⟨h, hc, ht, by have := h.h3; show c.shovels ≤ 5; omega, h.h0, by simp [rmOf], by simp [rmOf], by simp [rmOf], fun j hj => by simp [rmOf] at hj⟩
set_option maxRecDepth 100000 in
set_option maxHeartbeats 8000000 in
theorem rsum77_c (xs : List Int) (a : Option Addr) (c : Nat) (w : World) (hx : IntsAt w w.heap.size a xs) (hn : ∀ j, 0 ≤ nth xs j ∧ nth xs j ≤ 100) (hl : xs.length ≤ 1000) :
    Calls Tryz.prog 77 #[.slice a xs.length c] w fun e w' => e = .returned (.int .i64 (sumN xs xs.length)) ∧ Below w.heap.size w w' := by
  have HX := Lib.hid hx
  have HN := Lib.hid hn
  clear hx hn
  go_enter Tryz.func77, Tryz.ntmps77
  go_wp2
  go_loopw [3, 4] (fun s i wr => ∃ j : Nat, j ≤ xs.length ∧ i = .int .i64 j ∧ s = .int .i64 (sumN xs j) ∧ Below w.heap.size w wr) (fun _ i _ => xs.length - (intOf i).toNat)
  case atStart => exact ⟨0, by omega, rfl, rfl, Below.refl _ _⟩
  case round =>
    obtain ⟨j, hj, rfl, rfl, hb⟩ := hrel
    have HB := Lib.hid hb
    by_cases hlt : j < xs.length
    · obtain ⟨b, o, rfl⟩ := HX.out.some_ (by omega)
      have hpc := (HX.out.below HB.out).get j hlt
      have hs := sumN_bd HN.out j
      have hv := HN.out j
      have hj1 : (j : Int) < (xs.length : Int) := by omega
      clear hb
      go_wp2
      go_roundw
      case rel => exact ⟨j + 1, by omega, by go_num, rfl, HB.out⟩
      case measure => simp [intOf]; omega
    · obtain rfl : j = xs.length := by omega
      clear hb
      go_wp2
      go_ret
      exact ⟨rfl, HB.out⟩
set_option maxRecDepth 100000 in
set_option maxHeartbeats 8000000 in
theorem coals_c (c : Cop) (q : CA) (w : World) (ho : RoomOk (rmOf c)) :
    Calls Tryz.prog 76 #[copV c q] w fun e w' => e = .returned (.int .i64 (othersN (rmOf c))) ∧ Below w.heap.size w w' := by
  have hl0 : 0 ≤ c.last := ho.cop.l0
  have hl4 : c.last ≤ 4 := ho.cop.l4
  have hp0 : 0 ≤ c.shovels := ho.p0
  have hp5 : c.shovels ≤ 5 := ho.p5
  obtain ⟨n, hn⟩ : ∃ n : Nat, c.last + 1 = n := ⟨(c.last + 1).toNat, by omega⟩
  have HR : Hid (othersN (rmOf c) = powN (c.shovels + 1) n) := by show powN (c.shovels + 1) (c.last + 1).toNat = _; rw [hn]; rfl
  have hpw := fun j (h : j ≤ 5) => powN_bd (K := c.shovels + 1) (by omega) (by omega) j h
  have HPW := Lib.hid hpw
  clear ho hpw
  have hl : c.last = n - 1 := by omega
  have HLL := Lib.hid hl
  clear hn hl
  go_enter Tryz.func76, Tryz.ntmps76
  go_wp2
  go_loopw [3, 4] (fun s i wr => ∃ j : Nat, j ≤ n ∧ i = .int .i64 j ∧ s = .int .i64 (powN (c.shovels + 1) j) ∧ Box wr w.heap.size (copCs c q) ∧ Below w.heap.size w wr) (fun _ i _ => n - (intOf i).toNat)
  case atStart => exact ⟨0, by omega, rfl, rfl, Box.new _ _ _ _, bl_al (Below.refl _ _) _⟩
  case round =>
    obtain ⟨j, hj, rfl, rfl, hbx, hb⟩ := hrel
    have HB := Lib.hid hb
    have HBX := Lib.hid hbx
    have hLL := HLL.out
    have k0 : wr.cell? ⟨w.heap.size, 0, none⟩ = some (.int .i64 c.last) := hbx 0
    have k12 : wr.cell? ⟨w.heap.size, 4, none⟩ = some (.int .i64 c.shovels) := hbx 4
    by_cases hlt : j < n
    · have hs := HPW.out j (by omega)
      have hs2 := HPW.out (j + 1) (by omega)
      have hj1 : (j : Int) ≤ c.last := by omega
      have hw1 : IntKind.i64.wrap (c.shovels + 1) = c.shovels + 1 := IntWalk.i64_in _ (by omega)
      have hw2 : IntKind.i64.wrap (powN (c.shovels + 1) j * (c.shovels + 1)) = powN (c.shovels + 1) j * (c.shovels + 1) := IntWalk.i64_in _ (by simp only [powN] at hs2; omega)
      clear hb hbx hs hs2 hLL
      go_wp2
      go_roundw
      case rel => exact ⟨j + 1, by omega, by go_num, rfl, HBX.out, HB.out⟩
      case measure => simp [intOf]; omega
    · obtain rfl : j = n := by omega
      have hj1 : ¬ (j : Int) ≤ c.last := by omega
      clear hb hbx hLL
      go_wp2
      go_ret
      exact ⟨by rw [HR.out]; rfl, HB.out⟩
set_option maxRecDepth 100000 in
set_option maxHeartbeats 8000000 in
theorem coal75_c (c : Cop) (q : CA) (m : Int) (w : World) (ho : RoomOk (rmOf c)) (hm0 : 0 ≤ m) (hm9 : m ≤ 100000) :
    Calls Tryz.prog 75 #[copV c q, .int .i64 m] w fun e w' => ∃ v, e = .returned v ∧ w'.ownsRow w.heap.size 3 1 v (c.last + 1).toNat (ints (otherL (rmOf c) m)) ∧ Below w.heap.size w w' := by
  have hl0 : 0 ≤ c.last := ho.cop.l0
  have hl4 : c.last ≤ 4 := ho.cop.l4
  have hp0 : 0 ≤ c.shovels := ho.p0
  have hp5 : c.shovels ≤ 5 := ho.p5
  obtain ⟨n, hn⟩ : ∃ n : Nat, c.last + 1 = n := ⟨(c.last + 1).toNat, by omega⟩
  have hnn : (c.last + 1).toNat = n := by omega
  have HDV : Hid (∀ j, 0 ≤ divN (c.shovels + 1) m j ∧ divN (c.shovels + 1) m j ≤ m) := fun j => divN_bd (by omega) hm0 j
  have HE : Hid (otherL (rmOf c) m = rowI (fun i => divN (c.shovels + 1) m (n - 1 - i) % (c.shovels + 1)) n) := by show rowI (fun i => divN (c.shovels + 1) m ((c.last + 1).toNat - 1 - i) % (c.shovels + 1)) (c.last + 1).toNat = _; rw [hnn]
  rw [hnn]
  obtain ⟨Z, hZ1, hZ2, hZ3⟩ := mk_ints (c.last + 1) (by omega) (by omega)
  have HZ1 : Hid (Z.size = n) := by rw [hZ1]; exact hnn
  have HLL : Hid (c.last = n - 1) := by show _ = _; omega
  have HNN := Lib.hid hnn
  clear ho hZ1 hZ2 hn
  have hw0 : IntKind.i64.wrap (c.last + 1) = c.last + 1 := IntWalk.i64_in _ (by omega)
  go_enter Tryz.func75, Tryz.ntmps75
  go_wp2
  clear hZ3 hnn
  go_loopw [1, 6] (fun s i wr => ∃ (j : Nat) (cu : Array Value), j ≤ n ∧ i = .int .i64 ((j : Int) - 1) ∧ s = .int .i64 (divN (c.shovels + 1) m (n - j)) ∧ Below w.heap.size w wr ∧ Box wr w.heap.size (copCs c q) ∧ wr.heap[w.heap.size + 1]? = some (.cells cu 3 (0, 0)) ∧ cu.size = n ∧ (∀ h, j ≤ h → h < n → cu[h]? = some (.int .i64 (divN (c.shovels + 1) m (n - 1 - h) % (c.shovels + 1))))) (fun _ i _ => (intOf i + 1).toNat)
  case atStart =>
    exact ⟨n, Z, Nat.le_refl _, by have := HLL.out; go_num, by rw [Nat.sub_self]; rfl, bl_al (bl_al (Below.refl _ _) _) _, (Box.new _ _ _ _).al (by simp) _, by have := World.alloc_heap_new (w.alloc (.cells (copCs c q) 28)) (.cells Z 3); rw [World.size_alloc] at this; exact this, by simpa using HZ1.out, fun h h1 h2 => by omega⟩
  case round =>
    obtain ⟨j, cu, hj, rfl, rfl, hb, hb0, hg, hcs, hcu⟩ := hrel
    have HB := Lib.hid hb
    have HB0 := Lib.hid hb0
    have HG := Lib.hid hg
    have HCS := Lib.hid hcs
    have HCU := Lib.hid hcu
    have hLL := HLL.out
    by_cases hlt : 0 < j
    · obtain ⟨i, rfl⟩ : ∃ i, j = i + 1 := ⟨j - 1, by omega⟩
      have hi1 : ((i + 1 : Nat) : Int) - 1 = i := by omega
      rw [hi1]
      have hi0 : (0 : Int) ≤ (i : Int) := by omega
      have hi5 : (i : Int) ≤ 5 := by omega
      have hi6 : (i : Int) < (n : Int) := by omega
      have hin : i < n := by omega
      obtain ⟨D, hD⟩ : ∃ D, divN (c.shovels + 1) m (n - (i + 1)) = D := ⟨_, rfl⟩
      have hD1 : divN (c.shovels + 1) m (n - 1 - i) = D := by rw [← hD, show n - 1 - i = n - (i + 1) by omega]
      have hD2 : divN (c.shovels + 1) m (n - i) = D / (c.shovels + 1) := by rw [← hD, show n - i = (n - (i + 1)) + 1 by omega]; rfl
      have hDb := HDV.out (n - (i + 1))
      rw [hD] at hDb ⊢
      have HD1 := Lib.hid hD1
      have HD2 := Lib.hid hD2
      have k12 : wr.cell? ⟨w.heap.size, 4, none⟩ = some (.int .i64 c.shovels) := hb0 4
      have hcm : ∃ u, wr.cell? ⟨w.heap.size + 1, i, none⟩ = some u := ⟨_, by simp only [World.cell?, hg]; exact Array.getElem?_eq_getElem (by omega)⟩
      obtain ⟨u, hcm⟩ := hcm
      have hfm : wr.frozen? ⟨w.heap.size + 1, i, none⟩ = false := by simp [World.frozen?, hg]
      obtain ⟨M, hM⟩ : ∃ M, D % (c.shovels + 1) = M := ⟨_, rfl⟩
      obtain ⟨E, hE⟩ : ∃ E, D / (c.shovels + 1) = E := ⟨_, rfl⟩
      have hM0 : 0 ≤ M := by rw [← hM]; exact Int.emod_nonneg _ (by omega)
      have hM9 : M < c.shovels + 1 := by rw [← hM]; exact Int.emod_lt_of_pos _ (by omega)
      have hE0 : 0 ≤ E := by rw [← hE]; exact Int.ediv_nonneg hDb.1 (by omega)
      have hE9 : E ≤ D := by rw [← hE]; exact Int.ediv_le_self _ hDb.1
      have hm : D.tmod (c.shovels + 1) = M := by rw [Int.tmod_eq_emod_of_nonneg hDb.1]; exact hM
      have hd : D.tdiv (c.shovels + 1) = E := by rw [Int.tdiv_eq_ediv_of_nonneg hDb.1]; exact hE
      have hK0 : ¬ c.shovels + 1 = 0 := by omega
      have hK1 : (c.shovels + 1 == 0) = false := by simpa using hK0
      have hwK : IntKind.i64.wrap (c.shovels + 1) = c.shovels + 1 := IntWalk.i64_in _ (by omega)
      have hwM : IntKind.i64.wrap M = M := IntWalk.i64_in _ (by omega)
      have hwE : IntKind.i64.wrap E = E := IntWalk.i64_in _ (by omega)
      have HME : Hid (M = D % (c.shovels + 1) ∧ E = D / (c.shovels + 1)) := ⟨hM.symm, hE.symm⟩
      have kb : Hid (∀ v, Box (wr.setCell ⟨w.heap.size + 1, i, none⟩ v).drew w.heap.size (copCs c q)) := fun v => (((Grown.refl (fun k => k = w.heap.size + 1) wr).setCell (p := ⟨w.heap.size + 1, i, none⟩) (.inl rfl) v).drew).box HB0.out (HB0.out.lt (by simp)) (by omega)
      have kk1 : ∀ v, (wr.setCell ⟨w.heap.size + 1, i, none⟩ v).cell? ⟨w.heap.size, 4, none⟩ = some (.int .i64 c.shovels) := fun v => (((Grown.refl (fun k => k = w.heap.size + 1) wr).setCell (p := ⟨w.heap.size + 1, i, none⟩) (.inl rfl) v).cell (b := w.heap.size) (o := 4) (World.block_lt_of_cell? wr _ k12) (by omega)).trans k12
      clear hg hb hb0 hcs hcu hM hE hD hD1 hD2 hLL
      go_wp2
      go_region_held3 (fun w' => w'.cell? ⟨w.heap.size, 4, none⟩ = some (.int .i64 c.shovels)) (first | assumption | go_keep) (fail)
      go_wp2
      go_roundw
      case rel =>
        refine ⟨i, _, by omega, by go_num, by rw [HD2.out, HME.out.2], bl_dr (bl_st HB.out (by simp) _), fun o => (kb.out _ o), heap_setCell_same _ _ i _ _ _ HG.out, by simpa using HCS.out, fun h h1 h2 => ?_⟩
        by_cases he : h = i
        · subst he
          rw [HD1.out, ← HME.out.1]
          simp [HCS.out, h2]
        · rw [Array.getElem?_setIfInBounds_ne (by omega)]
          exact HCU.out h (by omega) h2
      case measure => first | (simp [intOf]; done) | (simp [intOf]; omega)
    · obtain rfl : j = 0 := by omega
      have HF := Lib.hid (rowI_row (base := w.heap.size) HG.out HCS.out (by omega) (by omega) (fun h hh => HCU.out h (by omega) hh))
      clear hg hcu hb hb0 hcs
      go_wp2
      go_ret
      exact ⟨_, rfl, by rw [HE.out]; exact HF.out, HB.out⟩
theorem coalL_c (c : Cop) (q : CA) (m : Int) (w : World) (ho : RoomOk (rmOf c)) (hm0 : 0 ≤ m) (hm9 : m ≤ 100000) :
    Calls Tryz.prog 75 #[copV c q, .int .i64 m] w fun e w' => ∃ A K, e = .returned (.slice A (otherL (rmOf c) m).length K) ∧ IntsAt w' w'.heap.size A (otherL (rmOf c) m) ∧ Below w.heap.size w w' :=
  (coal75_c c q m w ho hm0 hm9).mono fun e w' ⟨v, h1, h2, h3⟩ => by
    rw [show (c.last + 1).toNat = (otherL (rmOf c) m).length from (otherL_len (rmOf c) m).symm] at h2
    obtain ⟨A, K, rfl⟩ := own_shape6 h2
    exact ⟨A, K, h1, own_ints' h2, h3⟩
/-- Whether coal is sure. -/
def sureW (c : Cop) (x : List Int) : Bool := wholesN c (truthsR c) x c.want == 1
/-- The least of the first coals, and whether there is one. -/
def leastRF (c : Cop) : Nat → List Int × Bool
  | 0 => ([], false)
  | n + 1 => if ((leastRF c n).2 = false ∨ sumN (otherL (rmOf c) n) (otherL (rmOf c) n).length < sumN (leastRF c n).1 (leastRF c n).1.length) ∧ sureW c (otherL (rmOf c) n) = true then (otherL (rmOf c) n, true) else leastRF c n
theorem leastRF_is (c : Cop) : ∀ n, (leastRF c n).1 = [] ∨ ∃ m : Nat, (leastRF c n).1 = otherL (rmOf c) m
  | 0 => .inl rfl
  | n + 1 => by
    rw [leastRF]
    split
    · exact .inr ⟨n, rfl⟩
    · exact leastRF_is c n
theorem leastRF_bd {c : Cop} (ho : RoomOk (rmOf c)) (n : Nat) : (leastRF c n).1.length ≤ 1000 ∧ ∀ j, 0 ≤ nth (leastRF c n).1 j ∧ nth (leastRF c n).1 j ≤ 100 := by
  rcases leastRF_is c n with h | ⟨m, h⟩
  · rw [h]; exact ⟨by simp, fun j => by rw [nth_out _ _ (by simp)]; omega⟩
  · rw [h]
    refine ⟨by rw [otherL_len]; have := ho.cop.l4; omega, fun j => ?_⟩
    have h1 := otherL_bd ho m j
    have h2 := ho.p5
    omega
set_option maxRecDepth 100000 in
set_option maxHeartbeats 8000000 in
theorem rleast_c (c : Cop) (q : CA) (at_ : Option Addr) (kt : Nat) (w : World) (hc : Okc c) (ho : RoomOk (rmOf c)) (hq : CopAt w w.heap.size c q) (hz : TruthsAt w w.heap.size at_ (truthsR c)) :
    Calls Tryz.prog 62 #[copV c q, .slice at_ (truthsR c).length kt] w fun e w' => ∃ A K, e = .returned (.tuple #[.slice A (leastRF c (othersN (rmOf c)).toNat).1.length K, .bool (leastRF c (othersN (rmOf c)).toNat).2]) ∧ IntsAt w' w'.heap.size A (leastRF c (othersN (rmOf c)).toNat).1 ∧ Below w.heap.size w w' := by
  have HQ := Lib.hid hq
  have HZ := Lib.hid hz
  have HO := Lib.hid ho
  have HC := Lib.hid hc
  have hp0 : 0 ≤ c.shovels := ho.p0
  have hp5 : c.shovels ≤ 5 := ho.p5
  have hl0 : 0 ≤ c.last := ho.cop.l0
  have hl4 : c.last ≤ 4 := ho.cop.l4
  have hob : 1 ≤ othersN (rmOf c) ∧ othersN (rmOf c) ≤ 8000 := powN_bd (K := c.shovels + 1) (by omega) (by omega) _ (by show (c.last + 1).toNat ≤ 5; omega)
  obtain ⟨N, hN⟩ : ∃ N : Nat, othersN (rmOf c) = N := ⟨(othersN (rmOf c)).toNat, by omega⟩
  have hNN : (othersN (rmOf c)).toNat = N := by omega
  have hN8 : N ≤ 8000 := by omega
  rw [hNN]
  have H76 : Hid (∀ w, Calls Tryz.prog 76 #[copV c q] w fun e w' => e = .returned (.int .i64 N) ∧ Below w.heap.size w w') := fun w => hN ▸ coals_c c q w ho
  clear hq hz ho hob hN hNN hp0 hp5 hl0 hl4 hc
  go_enter Tryz.func62, Tryz.ntmps62
  go_wp2
  go_loopw [6, 7, 8] (fun b f i wr => ∃ (j : Nat) (A : Option Addr) (K : Nat), j ≤ N ∧ i = .int .i64 j ∧ f = .bool (leastRF c j).2 ∧ b = .slice A (leastRF c j).1.length K ∧ IntsAt wr wr.heap.size A (leastRF c j).1 ∧ Box wr w.heap.size (copCs c q) ∧ Below w.heap.size w wr) (fun _ _ i _ => N - (intOf i).toNat)
  case atStart => exact ⟨0, none, 0, by omega, rfl, rfl, rfl, .inl rfl, Box.new _ _ _ _, bl_al (Below.refl _ _) _⟩
  case round =>
    obtain ⟨j, A, K, hj, rfl, rfl, rfl, hi, hbx, hb⟩ := hrel
    have HB := Lib.hid hb
    have HBX := Lib.hid hbx
    have HA := Lib.hid hi
    by_cases hlt : j < N
    · have hj1 : (j : Int) < (N : Int) := by omega
      have H75 : Hid (∀ w, Calls Tryz.prog 75 #[copV c q, .int .i64 j] w fun e w' => ∃ A K, e = .returned (.slice A (otherL (rmOf c) j).length K) ∧ IntsAt w' w'.heap.size A (otherL (rmOf c) j) ∧ Below w.heap.size w w') := fun w => coalL_c c q j w HO.out (by omega) (by omega)
      have HS : Hid (leastRF c (j + 1) = if ((leastRF c j).2 = false ∨ sumN (otherL (rmOf c) j) (otherL (rmOf c) j).length < sumN (leastRF c j).1 (leastRF c j).1.length) ∧ sureW c (otherL (rmOf c) j) = true then (otherL (rmOf c) j, true) else leastRF c j) := rfl
      have hbd := leastRF_bd HO.out j
      have HSA : Hid (∀ (A : Option Addr) (K : Nat) (w : World), IntsAt w w.heap.size A (leastRF c j).1 → Calls Tryz.prog 77 #[.slice A (leastRF c j).1.length K] w fun e w' => e = .returned (.int .i64 (sumN (leastRF c j).1 (leastRF c j).1.length)) ∧ Below w.heap.size w w') := fun A K w h => rsum77_c _ A K w h hbd.2 hbd.1
      have hxl : ((otherL (rmOf c) j).length : Int) = c.last + 1 := by have h0 : 0 ≤ c.last := HC.out.l0; rw [otherL_len]; show (((c.last + 1).toNat : Nat) : Int) = c.last + 1; omega
      have hxb : ∀ i, 0 ≤ nth (otherL (rmOf c) j) i ∧ nth (otherL (rmOf c) j) i ≤ 3 := fun i => by have h1 := otherL_bd HO.out j i; have h2 := HC.out.h3; have h3 : (rmOf c).places = c.shovels := rfl; omega
      have HSX : Hid (∀ (A : Option Addr) (K : Nat) (w : World), IntsAt w w.heap.size A (otherL (rmOf c) j) → Calls Tryz.prog 77 #[.slice A (otherL (rmOf c) j).length K] w fun e w' => e = .returned (.int .i64 (sumN (otherL (rmOf c) j) (otherL (rmOf c) j).length)) ∧ Below w.heap.size w w') := fun A K w h => rsum77_c _ A K w h (fun i => by have := hxb i; omega) (by have := HC.out.l4; omega)
      have HSU : Hid (∀ (A : Option Addr) (K : Nat) (w : World), CopAt w w.heap.size c q → TruthsAt w w.heap.size at_ (truthsR c) → IntsAt w w.heap.size A (otherL (rmOf c) j) → Calls Tryz.prog 118 #[copV c q, .slice at_ (truthsR c).length kt, .slice A (otherL (rmOf c) j).length K, .slice q.a2 c.want.length q.c2] w fun e w' => e = .returned (.int .i64 (wholesN c (truthsR c) (otherL (rmOf c) j) c.want)) ∧ Below w.heap.size w w') := fun A K w h1 h2 h3 =>
        rwholes_c c q (truthsR c) at_ kt (otherL (rmOf c) j) c.want A K q.a2 q.c2 (fun i hi => plays_of HC.out (truthsR_sc HC.out i hi) hxl HC.out.wl hxb (fun i => by have := HC.out.wb i; omega)) (fun i hi => by have h := (truthsR_sc HC.out i hi).len; have := HC.out.ll; have := HC.out.l0; omega) (by have h := truthsR_small HC.out; exact Nat.le_trans h (by omega)) w h3 h1.want h2
      clear hbd hxl hxb hlt
      obtain ⟨p, hp⟩ : ∃ p, leastRF c j = p := ⟨_, rfl⟩
      rw [hp] at HS HSA HA ⊢
      obtain ⟨x, hx⟩ : ∃ x, otherL (rmOf c) j = x := ⟨_, rfl⟩
      rw [hx] at HS HSX HSU H75
      obtain ⟨s1, hs1⟩ : ∃ s1, sumN p.1 p.1.length = s1 := ⟨_, rfl⟩
      obtain ⟨s2, hs2⟩ : ∃ s2, sumN x x.length = s2 := ⟨_, rfl⟩
      rw [hs1] at HS HSA
      rw [hs2] at HS HSX
      obtain ⟨V, hV⟩ : ∃ V, wholesN c (truthsR c) x c.want = V := ⟨_, rfl⟩
      rw [hV] at HSU
      have hSV : sureW c x = (V == 1) := by unfold sureW; rw [hV]
      rw [hSV] at HS
      obtain ⟨bst, F⟩ := p
      dsimp only at *
      clear hp hx hs1 hs2 hV hSV hi hbx hb
      cases F with
      | false =>
        clear HSA HSX
        by_cases hV1 : V = 1
        · subst hV1
          have HS2 : Hid (leastRF c (j + 1) = (x, true)) := by show _ = _; rw [HS.out]; simp
          have hbz := HBX.out
          unfold Box copCs at hbz
          go_wp2_with (first | (go_at_call 118; go_loud (refine (HSU.out A1 K1 _ (HQ.out.up HB2.out) (HZ.out.up HB2.out) HI1.out).mono ?_; rintro e w3_ ⟨rfl, hb⟩; have HB3 : Hid (Below w.heap.size w w3_) := bl_tr HB2.out hb; have HX3_0 : Hid (Box w3_ w.heap.size (copCs c q)) := HX2_0.out.bl (by simp) hb; have HA : Hid (IntsAt w3_ w3_.heap.size A bst) := HA.out.up (bl_tr (Below.refl _ _) hb); have HI1 : Hid (IntsAt w3_ w3_.heap.size A1 x) := HI1.out.up (bl_tr (Below.refl _ _) hb); clear hbx2_0; have hbx3_0 := HX3_0.out; unfold Box copCs at hbx3_0; clear hb)) | (go_at_call 75; go_loud (refine (H75.out _).mono ?_; rintro e w2_ ⟨A1, K1, rfl, hi, hb⟩; have HB2 : Hid (Below w.heap.size w w2_) := bl_tr HB1.out hb; have HX2_0 : Hid (Box w2_ w.heap.size (copCs c q)) := HX1_0.out.bl (by simp) hb; have HA : Hid (IntsAt w2_ w2_.heap.size A bst) := HA.out.up (bl_tr (Below.refl _ _) hb); clear hbx1_0; have hbx2_0 := HX2_0.out; unfold Box copCs at hbx2_0; have HI1 : Hid (IntsAt w2_ w2_.heap.size A1 x) := hi; clear hi hb)) | (go_at_call 76; go_loud (refine (H76.out _).mono ?_; rintro e w1_ ⟨rfl, hb⟩; have HB1 : Hid (Below w.heap.size w w1_) := bl_tr HB.out hb; have HX1_0 : Hid (Box w1_ w.heap.size (copCs c q)) := HBX.out.bl (by simp) hb; have HA : Hid (IntsAt w1_ w1_.heap.size A bst) := HA.out.up (bl_tr (Below.refl _ _) hb); clear hbz; have hbx1_0 := HX1_0.out; unfold Box copCs at hbx1_0; clear hb)))
          go_roundw
          case rel => exact ⟨j + 1, A1, K1, by omega, by go_num, by rw [HS2.out], by rw [HS2.out], by rw [HS2.out]; exact HI1.out, HX3_0.out, HB3.out⟩
          case measure => simp [intOf]; omega
        · have hS : (V == 1) = false := by simpa using hV1
          have HS2 : Hid (leastRF c (j + 1) = (bst, false)) := by show _ = _; rw [HS.out]; simp [hS]
          have hbz := HBX.out
          unfold Box copCs at hbz
          go_wp2_with (first | (go_at_call 118; go_loud (refine (HSU.out A1 K1 _ (HQ.out.up HB2.out) (HZ.out.up HB2.out) HI1.out).mono ?_; rintro e w3_ ⟨rfl, hb⟩; have HB3 : Hid (Below w.heap.size w w3_) := bl_tr HB2.out hb; have HX3_0 : Hid (Box w3_ w.heap.size (copCs c q)) := HX2_0.out.bl (by simp) hb; have HA : Hid (IntsAt w3_ w3_.heap.size A bst) := HA.out.up (bl_tr (Below.refl _ _) hb); have HI1 : Hid (IntsAt w3_ w3_.heap.size A1 x) := HI1.out.up (bl_tr (Below.refl _ _) hb); clear hbx2_0; have hbx3_0 := HX3_0.out; unfold Box copCs at hbx3_0; clear hb)) | (go_at_call 75; go_loud (refine (H75.out _).mono ?_; rintro e w2_ ⟨A1, K1, rfl, hi, hb⟩; have HB2 : Hid (Below w.heap.size w w2_) := bl_tr HB1.out hb; have HX2_0 : Hid (Box w2_ w.heap.size (copCs c q)) := HX1_0.out.bl (by simp) hb; have HA : Hid (IntsAt w2_ w2_.heap.size A bst) := HA.out.up (bl_tr (Below.refl _ _) hb); clear hbx1_0; have hbx2_0 := HX2_0.out; unfold Box copCs at hbx2_0; have HI1 : Hid (IntsAt w2_ w2_.heap.size A1 x) := hi; clear hi hb)) | (go_at_call 76; go_loud (refine (H76.out _).mono ?_; rintro e w1_ ⟨rfl, hb⟩; have HB1 : Hid (Below w.heap.size w w1_) := bl_tr HB.out hb; have HX1_0 : Hid (Box w1_ w.heap.size (copCs c q)) := HBX.out.bl (by simp) hb; have HA : Hid (IntsAt w1_ w1_.heap.size A bst) := HA.out.up (bl_tr (Below.refl _ _) hb); clear hbz; have hbx1_0 := HX1_0.out; unfold Box copCs at hbx1_0; clear hb)))
          go_roundw
          case rel => exact ⟨j + 1, A, K, by omega, by go_num, by rw [HS2.out], by rw [HS2.out], by rw [HS2.out]; exact HA.out, HX3_0.out, HB3.out⟩
          case measure => simp [intOf]; omega
      | true =>
        by_cases hgt : s2 < s1
        · have hgd : decide (s2 < s1) = true := decide_eq_true hgt
          by_cases hV1 : V = 1
          · subst hV1
            have HS2 : Hid (leastRF c (j + 1) = (x, true)) := by show _ = _; rw [HS.out]; simp [hgt]
            have hbz := HBX.out
            unfold Box copCs at hbz
            go_wp2_with (first | (go_at_call 118; go_loud (refine (HSU.out A1 K1 _ (HQ.out.up HB4.out) (HZ.out.up HB4.out) HI1.out).mono ?_; rintro e w5_ ⟨rfl, hb⟩; have HB5 : Hid (Below w.heap.size w w5_) := bl_tr HB4.out hb; have HX5_0 : Hid (Box w5_ w.heap.size (copCs c q)) := HX4_0.out.bl (by simp) hb; have HA : Hid (IntsAt w5_ w5_.heap.size A bst) := HA.out.up (bl_tr (Below.refl _ _) hb); have HI1 : Hid (IntsAt w5_ w5_.heap.size A1 x) := HI1.out.up (bl_tr (Below.refl _ _) hb); clear hbx4_0; have hbx5_0 := HX5_0.out; unfold Box copCs at hbx5_0; clear hb)) | (have hz := HB3; clear hz; go_at_call 77; go_loud (refine (HSA.out A K _ HA.out).mono ?_; rintro e w4_ ⟨rfl, hb⟩; have HB4 : Hid (Below w.heap.size w w4_) := bl_tr HB3.out hb; have HX4_0 : Hid (Box w4_ w.heap.size (copCs c q)) := HX3_0.out.bl (by simp) hb; have HA : Hid (IntsAt w4_ w4_.heap.size A bst) := HA.out.up (bl_tr (Below.refl _ _) hb); have HI1 : Hid (IntsAt w4_ w4_.heap.size A1 x) := HI1.out.up (bl_tr (Below.refl _ _) hb); clear hbx3_0; have hbx4_0 := HX4_0.out; unfold Box copCs at hbx4_0; clear hb)) | (go_at_call 77; go_loud (refine (HSX.out A1 K1 _ HI1.out).mono ?_; rintro e w3_ ⟨rfl, hb⟩; have HB3 : Hid (Below w.heap.size w w3_) := bl_tr HB2.out hb; have HX3_0 : Hid (Box w3_ w.heap.size (copCs c q)) := HX2_0.out.bl (by simp) hb; have HA : Hid (IntsAt w3_ w3_.heap.size A bst) := HA.out.up (bl_tr (Below.refl _ _) hb); have HI1 : Hid (IntsAt w3_ w3_.heap.size A1 x) := HI1.out.up (bl_tr (Below.refl _ _) hb); clear hbx2_0; have hbx3_0 := HX3_0.out; unfold Box copCs at hbx3_0; clear hb)) | (go_at_call 75; go_loud (refine (H75.out _).mono ?_; rintro e w2_ ⟨A1, K1, rfl, hi, hb⟩; have HB2 : Hid (Below w.heap.size w w2_) := bl_tr HB1.out hb; have HX2_0 : Hid (Box w2_ w.heap.size (copCs c q)) := HX1_0.out.bl (by simp) hb; have HA : Hid (IntsAt w2_ w2_.heap.size A bst) := HA.out.up (bl_tr (Below.refl _ _) hb); clear hbx1_0; have hbx2_0 := HX2_0.out; unfold Box copCs at hbx2_0; have HI1 : Hid (IntsAt w2_ w2_.heap.size A1 x) := hi; clear hi hb)) | (go_at_call 76; go_loud (refine (H76.out _).mono ?_; rintro e w1_ ⟨rfl, hb⟩; have HB1 : Hid (Below w.heap.size w w1_) := bl_tr HB.out hb; have HX1_0 : Hid (Box w1_ w.heap.size (copCs c q)) := HBX.out.bl (by simp) hb; have HA : Hid (IntsAt w1_ w1_.heap.size A bst) := HA.out.up (bl_tr (Below.refl _ _) hb); clear hbz; have hbx1_0 := HX1_0.out; unfold Box copCs at hbx1_0; clear hb)))
            go_roundw
            case rel => exact ⟨j + 1, A1, K1, by omega, by go_num, by rw [HS2.out], by rw [HS2.out], by rw [HS2.out]; exact HI1.out, HX5_0.out, HB5.out⟩
            case measure => simp [intOf]; omega
          · have hS : (V == 1) = false := by simpa using hV1
            have HS2 : Hid (leastRF c (j + 1) = (bst, true)) := by show _ = _; rw [HS.out]; simp [hgt, hS]
            have hbz := HBX.out
            unfold Box copCs at hbz
            go_wp2_with (first | (go_at_call 118; go_loud (refine (HSU.out A1 K1 _ (HQ.out.up HB4.out) (HZ.out.up HB4.out) HI1.out).mono ?_; rintro e w5_ ⟨rfl, hb⟩; have HB5 : Hid (Below w.heap.size w w5_) := bl_tr HB4.out hb; have HX5_0 : Hid (Box w5_ w.heap.size (copCs c q)) := HX4_0.out.bl (by simp) hb; have HA : Hid (IntsAt w5_ w5_.heap.size A bst) := HA.out.up (bl_tr (Below.refl _ _) hb); have HI1 : Hid (IntsAt w5_ w5_.heap.size A1 x) := HI1.out.up (bl_tr (Below.refl _ _) hb); clear hbx4_0; have hbx5_0 := HX5_0.out; unfold Box copCs at hbx5_0; clear hb)) | (have hz := HB3; clear hz; go_at_call 77; go_loud (refine (HSA.out A K _ HA.out).mono ?_; rintro e w4_ ⟨rfl, hb⟩; have HB4 : Hid (Below w.heap.size w w4_) := bl_tr HB3.out hb; have HX4_0 : Hid (Box w4_ w.heap.size (copCs c q)) := HX3_0.out.bl (by simp) hb; have HA : Hid (IntsAt w4_ w4_.heap.size A bst) := HA.out.up (bl_tr (Below.refl _ _) hb); have HI1 : Hid (IntsAt w4_ w4_.heap.size A1 x) := HI1.out.up (bl_tr (Below.refl _ _) hb); clear hbx3_0; have hbx4_0 := HX4_0.out; unfold Box copCs at hbx4_0; clear hb)) | (go_at_call 77; go_loud (refine (HSX.out A1 K1 _ HI1.out).mono ?_; rintro e w3_ ⟨rfl, hb⟩; have HB3 : Hid (Below w.heap.size w w3_) := bl_tr HB2.out hb; have HX3_0 : Hid (Box w3_ w.heap.size (copCs c q)) := HX2_0.out.bl (by simp) hb; have HA : Hid (IntsAt w3_ w3_.heap.size A bst) := HA.out.up (bl_tr (Below.refl _ _) hb); have HI1 : Hid (IntsAt w3_ w3_.heap.size A1 x) := HI1.out.up (bl_tr (Below.refl _ _) hb); clear hbx2_0; have hbx3_0 := HX3_0.out; unfold Box copCs at hbx3_0; clear hb)) | (go_at_call 75; go_loud (refine (H75.out _).mono ?_; rintro e w2_ ⟨A1, K1, rfl, hi, hb⟩; have HB2 : Hid (Below w.heap.size w w2_) := bl_tr HB1.out hb; have HX2_0 : Hid (Box w2_ w.heap.size (copCs c q)) := HX1_0.out.bl (by simp) hb; have HA : Hid (IntsAt w2_ w2_.heap.size A bst) := HA.out.up (bl_tr (Below.refl _ _) hb); clear hbx1_0; have hbx2_0 := HX2_0.out; unfold Box copCs at hbx2_0; have HI1 : Hid (IntsAt w2_ w2_.heap.size A1 x) := hi; clear hi hb)) | (go_at_call 76; go_loud (refine (H76.out _).mono ?_; rintro e w1_ ⟨rfl, hb⟩; have HB1 : Hid (Below w.heap.size w w1_) := bl_tr HB.out hb; have HX1_0 : Hid (Box w1_ w.heap.size (copCs c q)) := HBX.out.bl (by simp) hb; have HA : Hid (IntsAt w1_ w1_.heap.size A bst) := HA.out.up (bl_tr (Below.refl _ _) hb); clear hbz; have hbx1_0 := HX1_0.out; unfold Box copCs at hbx1_0; clear hb)))
            go_roundw
            case rel => exact ⟨j + 1, A, K, by omega, by go_num, by rw [HS2.out], by rw [HS2.out], by rw [HS2.out]; exact HA.out, HX5_0.out, HB5.out⟩
            case measure => simp [intOf]; omega
        · have hgd : decide (s2 < s1) = false := decide_eq_false hgt
          have HS2 : Hid (leastRF c (j + 1) = (bst, true)) := by show _ = _; rw [HS.out]; simp [hgt]
          have hbz := HBX.out
          unfold Box copCs at hbz
          go_wp2_with (first | (have hz := HB3; clear hz; go_at_call 77; go_loud (refine (HSA.out A K _ HA.out).mono ?_; rintro e w4_ ⟨rfl, hb⟩; have HB4 : Hid (Below w.heap.size w w4_) := bl_tr HB3.out hb; have HX4_0 : Hid (Box w4_ w.heap.size (copCs c q)) := HX3_0.out.bl (by simp) hb; have HA : Hid (IntsAt w4_ w4_.heap.size A bst) := HA.out.up (bl_tr (Below.refl _ _) hb); have HI1 : Hid (IntsAt w4_ w4_.heap.size A1 x) := HI1.out.up (bl_tr (Below.refl _ _) hb); clear hbx3_0; have hbx4_0 := HX4_0.out; unfold Box copCs at hbx4_0; clear hb)) | (go_at_call 77; go_loud (refine (HSX.out A1 K1 _ HI1.out).mono ?_; rintro e w3_ ⟨rfl, hb⟩; have HB3 : Hid (Below w.heap.size w w3_) := bl_tr HB2.out hb; have HX3_0 : Hid (Box w3_ w.heap.size (copCs c q)) := HX2_0.out.bl (by simp) hb; have HA : Hid (IntsAt w3_ w3_.heap.size A bst) := HA.out.up (bl_tr (Below.refl _ _) hb); have HI1 : Hid (IntsAt w3_ w3_.heap.size A1 x) := HI1.out.up (bl_tr (Below.refl _ _) hb); clear hbx2_0; have hbx3_0 := HX3_0.out; unfold Box copCs at hbx3_0; clear hb)) | (go_at_call 75; go_loud (refine (H75.out _).mono ?_; rintro e w2_ ⟨A1, K1, rfl, hi, hb⟩; have HB2 : Hid (Below w.heap.size w w2_) := bl_tr HB1.out hb; have HX2_0 : Hid (Box w2_ w.heap.size (copCs c q)) := HX1_0.out.bl (by simp) hb; have HA : Hid (IntsAt w2_ w2_.heap.size A bst) := HA.out.up (bl_tr (Below.refl _ _) hb); clear hbx1_0; have hbx2_0 := HX2_0.out; unfold Box copCs at hbx2_0; have HI1 : Hid (IntsAt w2_ w2_.heap.size A1 x) := hi; clear hi hb)) | (go_at_call 76; go_loud (refine (H76.out _).mono ?_; rintro e w1_ ⟨rfl, hb⟩; have HB1 : Hid (Below w.heap.size w w1_) := bl_tr HB.out hb; have HX1_0 : Hid (Box w1_ w.heap.size (copCs c q)) := HBX.out.bl (by simp) hb; have HA : Hid (IntsAt w1_ w1_.heap.size A bst) := HA.out.up (bl_tr (Below.refl _ _) hb); clear hbz; have hbx1_0 := HX1_0.out; unfold Box copCs at hbx1_0; clear hb)))
          go_roundw
          case rel => exact ⟨j + 1, A, K, by omega, by go_num, by rw [HS2.out], by rw [HS2.out], by rw [HS2.out]; exact HA.out, HX4_0.out, HB4.out⟩
          case measure => simp [intOf]; omega
    · obtain rfl : j = N := by omega
      obtain ⟨p, hp⟩ : ∃ p, leastRF c j = p := ⟨_, rfl⟩
      rw [hp] at hi ⊢
      obtain ⟨bst, F⟩ := p
      dsimp only at *
      have HA := Lib.hid hi
      have HP := Lib.hid hp
      clear hb hbx hi hp
      have hbz := HBX.out
      unfold Box copCs at hbz
      go_wp2_with (first | (go_at_call 76; go_loud (refine (H76.out _).mono ?_; rintro e w1_ ⟨rfl, hb⟩; have HB1 : Hid (Below w.heap.size w w1_) := bl_tr HB.out hb; have HX1_0 : Hid (Box w1_ w.heap.size (copCs c q)) := HBX.out.bl (by simp) hb; have HA : Hid (IntsAt w1_ w1_.heap.size A bst) := HA.out.up (bl_tr (Below.refl _ _) hb); clear hbz; have hbx1_0 := HX1_0.out; unfold Box copCs at hbx1_0; clear hb)))
      go_ret2
      exact ⟨A, K, by rw [HP.out]; rfl, by rw [HP.out]; exact HA.out, HB1.out⟩
end Go.Proofs.YtpgnplmjfhdncaaGreat
