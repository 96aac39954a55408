/- Numbers, Buckets, Sum. -/
import Derived.Test.YtpgnplmjfhdncaaGreatKR14
namespace Go.Proofs.YtpgnplmjfhdncaaGreat
open Go.RowKit
set_option linter.unusedVariables false
theorem bit_full' : ∀ n : Nat, n < 6 → ∀ j : Nat, j < n → ((fullN n / 2 ^ j).tmod 2 == 1) = true := by decide +kernel
theorem bit_full {n j : Nat} (hn : n ≤ 5) (hj : j < n) : ((fullN n / 2 ^ j).tmod 2 == 1) = true := bit_full' n (by omega) j hj
theorem rowI_row {w : World} {g : Nat} {cu : Array Value} {f : Nat → Int} {n base : Nat} (hg : w.heap[g]? = some (.cells cu 3 (0, 0))) (hcs : cu.size = n) (hb : base ≤ g) (hn : n ≤ 1000) (hcu : ∀ h, h < n → cu[h]? = some (.int .i64 (f h))) : w.ownsRow base 3 1 (.slice (some ⟨g, 0, none⟩) n n) n (ints (rowI f n)) := by
  refine ⟨by simp [ints_len, rowI_len], .inr ⟨g, n, cu, rfl, hb, hg, Nat.le_refl _, by simp only [maxLen]; omega, by omega, ?_⟩⟩
  apply List.ext_getElem?
  intro k
  by_cases hk : k < n
  · rw [List.getElem?_take, if_pos (by omega), ints_at _ k (by rw [rowI_len]; exact hk), nth_rowI _ hk]
    simpa using hcu k hk
  · rw [List.getElem?_eq_none (by simp; omega), List.getElem?_eq_none (by rw [ints_len, rowI_len]; omega)]
set_option maxRecDepth 100000 in
set_option maxHeartbeats 4000000 in
theorem numbers_c (r : Rm) (q : RA) (plan : List Int) (a : Option Addr) (k : Nat) (bits : Int) (w : World) (hl0 : 0 ≤ r.cop.last) (hl4 : r.cop.last ≤ 4) (hn5 : plan.length ≤ 5) (hx : IntsAt w w.heap.size a plan)
    (hb : bits = fullN plan.length) (hp : ∀ j, j < plan.length → 0 ≤ nth plan j ∧ nth plan j ≤ r.cop.last) :
    Calls Tryz.prog 49 #[roomV r q, .slice a plan.length k, .int .i64 bits] w fun e w' => ∃ v, e = .returned v ∧ w'.ownsRow w.heap.size 3 1 v (r.cop.last + 1).toNat (ints (rowI (cntI plan plan.length) (r.cop.last + 1).toNat)) ∧ Below w.heap.size w w' := by
  have HX := Lib.hid hx
  have HP := Lib.hid hp
  have HBT := Lib.hid hb
  clear hx hp hb
  obtain ⟨Z, hZ1, hZ2, hZ3⟩ := mk_ints (r.cop.last + 1) (by omega) (by omega)
  have HZ1 := Lib.hid hZ1
  have HZ2 := Lib.hid hZ2
  clear hZ1 hZ2
  go_enter Tryz.func49, Tryz.ntmps49
  go_wp2
  clear hZ3
  go_loopw [8] (fun i wr => ∃ (j : Nat) (cu : Array Value), j ≤ plan.length ∧ i = .int .i64 j ∧ Below w.heap.size w wr ∧ wr.heap[w.heap.size + 1]? = some (.cells cu 3 (0, 0)) ∧ cu.size = (r.cop.last + 1).toNat ∧ (∀ h, h < (r.cop.last + 1).toNat → cu[h]? = some (.int .i64 (cntI plan j h)))) (fun i _ => plan.length - (intOf i).toNat)
  case atStart =>
    refine ⟨0, Z, Nat.zero_le _, rfl, bl_al (bl_al (Below.refl _ _) _) _, by have := World.alloc_heap_new (w.alloc (.cells (roomCs r q) 31)) (.cells Z 3); rw [World.size_alloc] at this; exact this, HZ1.out, fun h hh => ?_⟩
    rw [HZ2.out h hh]
    rfl
  case round =>
    obtain ⟨j, cu, hj, rfl, hb, hg, hcs, hcu⟩ := hrel
    have HB := Lib.hid hb
    have HG := Lib.hid hg
    have HCS := Lib.hid hcs
    have HCU := Lib.hid hcu
    clear hb hcs hcu
    have hjb : (j : Int) ≤ 5 := by omega
    by_cases hlt : j < plan.length
    · obtain ⟨b, o, rfl⟩ := HX.out.some_ (by omega)
      have hpc := (HX.out.below HB.out).get j hlt
      obtain ⟨p0, p9⟩ := HP.out j hlt
      obtain ⟨m, hm⟩ : ∃ m : Nat, nth plan j = m := ⟨(nth plan j).toNat, by omega⟩
      have hmn : m < (r.cop.last + 1).toNat := by omega
      have hj1 : (j : Int) < (plan.length : Int) := by omega
      have HM := Lib.hid hm
      rw [hm] at hpc
      have hcm : wr.cell? ⟨w.heap.size + 1, m, none⟩ = some (.int .i64 (cntI plan j m)) := by simp only [World.cell?, hg]; exact HCU.out m hmn
      have hfm : wr.frozen? ⟨w.heap.size + 1, m, none⟩ = false := by simp [World.frozen?, hg]
      obtain ⟨n0, n9⟩ := cntI_le plan j m
      have hm1 : (m : Int) < ((r.cop.last + 1).toNat : Int) := by omega
      have hbit : ((bits / 2 ^ j).tmod 2 == 1) = true := by rw [HBT.out]; exact bit_full hn5 hlt
      clear hg hm
      go_wp2
      go_roundw
      case rel =>
        refine ⟨j + 1, _, by omega, by go_num, bl_st HB.out (by simp) _, heap_setCell_same _ _ m _ _ _ HG.out, by simpa using HCS.out, fun h hh => ?_⟩
        rw [cntI_step _ _ _ hlt, HM.out]
        by_cases he : h = m
        · subst he
          rw [if_pos rfl]
          simp [HCS.out, hh]
        · rw [if_neg (by omega), Array.getElem?_setIfInBounds_ne (by omega), HCU.out h hh]
          simp
      case measure => simp [intOf]; omega
    · have hje : j = plan.length := by omega
      have hcu := HCU.out
      rw [hje] at hcu
      have HF := Lib.hid (rowI_row (base := w.heap.size) HG.out HCS.out (by omega) (by omega) hcu)
      have hlen : ¬ ((j : Int) < (plan.length : Int)) := by omega
      clear hg hje hcu
      go_wp2
      go_ret
      exact ⟨_, rfl, HF.out, HB.out⟩
set_option maxRecDepth 100000 in
set_option maxHeartbeats 4000000 in
theorem rbuckets_c (r : Rm) (q : RA) (ns : List Int) (a : Option Addr) (k : Nat) (w : World) (hb1 : 1 ≤ r.buckets) (hb9 : r.buckets ≤ 9) (hn : ns.length ≤ 5) (hx : IntsAt w w.heap.size a ns) (hp : ∀ j, 0 ≤ nth ns j ∧ nth ns j ≤ 100) :
    Calls Tryz.prog 31 #[roomV r q, .slice a ns.length k] w fun e w' => ∃ v, e = .returned v ∧ w'.ownsRow w.heap.size 3 1 v ns.length (ints (rowI (fun h => r.buckets * nth ns h) ns.length)) ∧ Below w.heap.size w w' := by
  have HX := Lib.hid hx
  have HP := Lib.hid hp
  clear hx hp
  obtain ⟨Z, hZ1, hZ2, hZ3⟩ := mk_ints (ns.length : Int) (by omega) (by omega)
  have HZ1 := Lib.hid hZ1
  have HZ2 := Lib.hid hZ2
  clear hZ1 hZ2
  go_enter Tryz.func31, Tryz.ntmps31
  go_wp2
  clear hZ3
  go_loopw [6] (fun i wr => ∃ (j : Nat) (cu : Array Value), j ≤ ns.length ∧ i = .int .i64 j ∧ Below w.heap.size w wr ∧ Box wr w.heap.size (roomCs r q) ∧ wr.heap[w.heap.size + 1]? = some (.cells cu 3 (0, 0)) ∧ cu.size = ns.length ∧ (∀ h, h < j → cu[h]? = some (.int .i64 (r.buckets * nth ns h)))) (fun i _ => ns.length - (intOf i).toNat)
  case atStart =>
    exact ⟨0, Z, Nat.zero_le _, rfl, bl_al (bl_al (Below.refl _ _) _) _, (Box.new _ _ _ _).al (by simp) _, by have := World.alloc_heap_new (w.alloc (.cells (roomCs r q) 31)) (.cells Z 3); rw [World.size_alloc] at this; exact this, by simpa using HZ1.out, fun h hh => by omega⟩
  case round =>
    obtain ⟨j, cu, hj, rfl, hb, hb0, hg, hcs, hcu⟩ := hrel
    have HB := Lib.hid hb
    have HB0 := Lib.hid hb0
    have HG := Lib.hid hg
    have HCS := Lib.hid hcs
    have HCU := Lib.hid hcu
    have hjb : (j : Int) ≤ 5 := by omega
    by_cases hlt : j < ns.length
    · obtain ⟨b, o, rfl⟩ := HX.out.some_ (by omega)
      have hpc := (HX.out.below HB.out).get j hlt
      obtain ⟨p0, p9⟩ := HP.out j
      have hj1 : (j : Int) < (ns.length : Int) := by omega
      have k11 : wr.cell? ⟨w.heap.size, 11, none⟩ = some (.int .i64 r.buckets) := hb0 11
      have hcm : ∃ u, wr.cell? ⟨w.heap.size + 1, j, none⟩ = some u := ⟨_, by simp only [World.cell?, hg]; exact Array.getElem?_eq_getElem (by omega)⟩
      obtain ⟨u, hcm⟩ := hcm
      have hfm : wr.frozen? ⟨w.heap.size + 1, j, none⟩ = false := by simp [World.frozen?, hg]
      have hm1 : 0 ≤ r.buckets * nth ns j := Int.mul_nonneg (by omega) (by omega)
      have hm2 : r.buckets * nth ns j ≤ 9 * 100 := Int.mul_le_mul hb9 p9 p0 (by omega)
      have hwr : IntKind.i64.wrap (r.buckets * nth ns j) = r.buckets * nth ns j := IntWalk.i64_in _ (by omega)
      have hbw : b < w.heap.size := by
        obtain ⟨b', o', e, hb', _⟩ := HX.out.at_ (by omega)
        cases e
        exact hb'
      have K1 : Hid (∀ v, (wr.setCell ⟨w.heap.size + 1, j, none⟩ v).drew.cell? ⟨w.heap.size, 11, none⟩ = some (.int .i64 r.buckets)) := fun v => (((Grown.refl (fun k => k = w.heap.size + 1) wr).setCell (p := ⟨w.heap.size + 1, j, none⟩) (.inl rfl) v).cell (b := w.heap.size) (o := 11) (World.block_lt_of_cell? wr _ k11) (by omega)).trans k11
      have K2 : Hid (∀ v, (wr.setCell ⟨w.heap.size + 1, j, none⟩ v).drew.cell? ⟨b, o + j, none⟩ = some (.int .i64 (nth ns j))) := fun v => (((Grown.refl (fun k => k = w.heap.size + 1) wr).setCell (p := ⟨w.heap.size + 1, j, none⟩) (.inl rfl) v).cell (b := b) (o := o + j) (World.block_lt_of_cell? wr _ hpc) (by omega)).trans hpc
      have kk1 : ∀ v, (wr.setCell ⟨w.heap.size + 1, j, none⟩ v).cell? ⟨w.heap.size, 11, none⟩ = some (.int .i64 r.buckets) := fun v => K1.out v
      have kk2 : ∀ v, (wr.setCell ⟨w.heap.size + 1, j, none⟩ v).cell? ⟨b, o + j, none⟩ = some (.int .i64 (nth ns j)) := fun v => K2.out v
      have kb : Hid (Box (wr.setCell ⟨w.heap.size + 1, j, none⟩ (.int .i64 (r.buckets * nth ns j))).drew w.heap.size (roomCs r q)) := (((Grown.refl (fun k => k = w.heap.size + 1) wr).setCell (p := ⟨w.heap.size + 1, j, none⟩) (.inl rfl) (.int .i64 (r.buckets * nth ns j))).drew).box HB0.out (HB0.out.lt (by simp)) (by omega)
      clear hg hb hb0 hcs hcu hm1 hm2 hbw K1 K2
      go_wp2
      go_region_held3 (fun w' => w'.cell? ⟨w.heap.size, 11, none⟩ = some (.int .i64 r.buckets) ∧ w'.cell? ⟨b, o + j, none⟩ = some (.int .i64 (nth ns j))) (first | assumption | go_keep) (fail)
      go_wp2
      go_roundw
      case rel =>
        refine ⟨j + 1, _, by omega, by go_num, bl_dr (bl_st HB.out (by simp) _), fun o => (kb.out o), heap_setCell_same _ _ j _ _ _ HG.out, by simpa using HCS.out, fun h hh => ?_⟩
        by_cases he : h = j
        · subst he
          simp [HCS.out, hlt]
        · rw [Array.getElem?_setIfInBounds_ne (by omega)]
          exact HCU.out h (by omega)
      case measure => simp [intOf]; omega
    · have hje : j = ns.length := by omega
      rw [hje] at hcu
      have HF := Lib.hid (rowI_row (base := w.heap.size) HG.out HCS.out (by omega) (by omega) hcu)
      have hlen : ¬ ((j : Int) < (ns.length : Int)) := by omega
      clear hg hje hcu hb hb0 hcs
      go_wp2
      go_ret
      exact ⟨_, rfl, HF.out, HB.out⟩
end Go.Proofs.YtpgnplmjfhdncaaGreat
/- Sum. -/
namespace Go.Proofs.YtpgnplmjfhdncaaGreat
open Go.RowKit
set_option linter.unusedVariables false
theorem own_Pl {w : World} {base n size : Nat} {e : TypeId} {A : Option Addr} {k m : Nat} {xs : List Value} (h : w.ownsRow base e size (.slice A m k) n xs) : Pl A m k := by
  rcases h.2 with ⟨e1, h0⟩ | ⟨g, cap, cur, e1, _⟩
  · cases e1; exact .inl ⟨rfl, rfl, rfl⟩
  · cases e1; exact .inr (.inl ⟨_, _, rfl⟩)
set_option maxRecDepth 100000 in
set_option maxHeartbeats 8000000 in
theorem rsum_c (xs ys : List Int) (a a2 : Option Addr) (k k2 : Nat) (w : World) (hn : xs.length ≤ 5) (hl : ys.length = xs.length) (hx : IntsAt w w.heap.size a xs) (hy : IntsAt w w.heap.size a2 ys)
    (hb : ∀ j, 0 ≤ nth xs j ∧ nth xs j ≤ 1000) (hb2 : ∀ j, 0 ≤ nth ys j ∧ nth ys j ≤ 1000) :
    Calls Tryz.prog 78 #[.slice a xs.length k, .slice a2 ys.length k2] w fun e w' => ∃ v, e = .returned v ∧ w'.ownsRow w.heap.size 3 1 v xs.length (ints (sumL xs ys xs.length)) ∧ Below w.heap.size w w' := by
  have HX := Lib.hid hx
  have HY := Lib.hid hy
  have HL := Lib.hid hl
  have HB1 := Lib.hid hb
  have HB2 := Lib.hid hb2
  clear hx hy hb hb2 hl
  go_enter Tryz.func78, Tryz.ntmps78
  go_wp2
  go_loopw [5, 6] (fun v i wr => ∃ (j : Nat) (v' : Value), j ≤ xs.length ∧ i = .int .i64 j ∧ v = v' ∧ Below w.heap.size w wr ∧ wr.ownsRow w.heap.size 3 1 v' j (ints (sumL xs ys j))) (fun _ i _ => xs.length - (intOf i).toNat)
  case atStart => exact ⟨0, _, Nat.zero_le _, rfl, rfl, Below.refl _ _, World.ownsRow_nil _ _ _ _⟩
  case round =>
    obtain ⟨j, v', hj, rfl, rfl, hb, hrow⟩ := hrel
    have HB := Lib.hid hb
    have HROW := Lib.hid hrow
    obtain ⟨A0, k0, rfl⟩ := own_shape6 hrow
    have hjb : (j : Int) ≤ 5 := by omega
    by_cases hlt : j < xs.length
    · obtain ⟨b, o, ha⟩ := HX.out.some_ (by omega)
      obtain ⟨b2, o2, ha2⟩ := HY.out.some_ (by have := HL.out; omega)
      have hX := HX.out
      have hY := HY.out
      subst ha
      subst ha2
      have e1 := (hX.below hb).get j hlt
      have e2 := (hY.below hb).get j (by have := HL.out; omega)
      have hbw : b < w.heap.size := by
        obtain ⟨b', o', e, hb', _⟩ := hX.at_ (by omega)
        cases e
        exact hb'
      have hbw2 : b2 < w.heap.size := by
        obtain ⟨b', o', e, hb', _⟩ := hY.at_ (by have := HL.out; omega)
        cases e
        exact hb'
      have HF1 : Hid (some b ≠ (Value.slice A0 j k0).ownBlock ∧ b < wr.heap.size) := ⟨fun e => by have := (hrow.lt b e.symm).1; omega, by have := hb.size; omega⟩
      have HF2 : Hid (some b2 ≠ (Value.slice A0 j k0).ownBlock ∧ b2 < wr.heap.size) := ⟨fun e => by have := (hrow.lt b2 e.symm).1; omega, by have := hb.size; omega⟩
      obtain ⟨x0, x9⟩ := HB1.out j
      obtain ⟨y0, y9⟩ := HB2.out j
      have hj1 : (j : Int) < (xs.length : Int) := by omega
      have hj2 : (j : Int) < (ys.length : Int) := by have := HL.out; omega
      have hwr : IntKind.i64.wrap (nth xs j + nth ys j) = nth xs j + nth ys j := IntWalk.i64_in _ (by omega)
      have HREL : Hid (∀ k, some k = (Value.slice A0 j k0).ownBlock → w.heap.size ≤ k) := fun k hk => (hrow.lt k hk.symm).1
      have HST : Hid (ints (sumL xs ys (j + 1)) = ints (sumL xs ys j) ++ [.int .i64 (nth xs j + nth ys j)]) := by unfold Hid sumL; rw [rowI_snoc, ints_snoc]
      clear hb hrow hX hY hbw hbw2
      go_wp2
      go_region_held3 (fun w' => w'.cell? ⟨b, o + j, none⟩ = some (.int .i64 (nth xs j)) ∧ w'.cell? ⟨b2, o2 + j, none⟩ = some (.int .i64 (nth ys j))) (first | assumption | go_keep) (first | (rw [if_pos (show Region.wanted _ _ = true from rfl)]; refine wp_append_k w.heap.size _ _ 22 3 _ 1 8 rfl Tryz.underlying22 info3 rfl (by decide) (by decide) (.slice A0 j k0) j _ [.int .i64 (nth xs j + nth ys j)] wr.heap.size rfl rfl (World.alloc_heap_new wr.drew _) rfl (by simp [Value.oneCell']) ((own_below HROW.out (bl_dr (Below.refl _ _))).alloc _) (by have h2 := HB.out.size; simp; omega) (by omega) ?_; intro v1 w8 ho8 hg8 hat8; obtain ⟨A5, k5, rfl⟩ := own_shape6 ho8; have HO8 := Lib.hid ho8; have HG8 : Hid (Grown (fun k => some k = (Value.slice A0 j k0).ownBlock) wr w8) := (((Grown.refl _ wr).drew).alloc _).trans ⟨hg8.os, hg8.tape, hg8.output, hg8.size, fun k hk hn => hg8.block k hk (fun e => hn e)⟩; have hS8 : (fun w' => w'.cell? ⟨b, o + j, none⟩ = some (.int .i64 (nth xs j)) ∧ w'.cell? ⟨b2, o2 + j, none⟩ = some (.int .i64 (nth ys j))) w8 := ⟨(HG8.out.cell HF1.out.2 HF1.out.1).trans e1, (HG8.out.cell HF2.out.2 HF2.out.1).trans e2⟩; dsimp only at hS8; clear ho8 hg8 hat8))
      all_goals (
        clear hS8
        go_wp2
        go_roundw
        case rel =>
          exact ⟨j + 1, _, by omega, by go_num, rfl, HB.out.trans (HG8.out.below HB.out.size (fun k hk => HREL.out k hk)), by rw [HST.out]; exact HO8.out⟩
        case measure => simp [intOf]; omega)
    · obtain rfl : j = xs.length := by omega
      clear hb hrow
      go_wp2
      go_ret
      exact ⟨_, rfl, HROW.out, HB.out⟩
end Go.Proofs.YtpgnplmjfhdncaaGreat
/- Wanted. -/
namespace Go.Proofs.YtpgnplmjfhdncaaGreat
open Go.RowKit
set_option linter.unusedVariables false
/-- The coppers of a room with a greater Want. -/
def wantedC (r : Rm) (n : List Int) : Cop := { r.cop with want := sumL r.cop.want (bucketsL r n) (r.cop.last + 1).toNat }
def wantedQ (q : CA) (A : Option Addr) (K : Nat) : CA := { q with a2 := A, c2 := K }
theorem own_ints' {w : World} {base n m K : Nat} {e : TypeId} {A : Option Addr} {xs : List Int} (h : w.ownsRow base e 1 (.slice A m K) n (ints xs)) : IntsAt w w.heap.size A xs := by
  obtain ⟨B, l, e1, h2, _⟩ := own_ints h
  cases e1
  exact h2
theorem bl_st0 {B : Nat} {w W : World} (h : Below B w W) {p : Addr} (hp : B ≤ p.block) (u : Value) : Below B w (W.setCell p u) := h.setCell hp u
structure J50 (r : Rm) (q : RA) (b0 G B0 : Nat) (n : List Int) (an : Option Addr) (k2 : Nat) (W : World) (A5 : Option Addr) (K5 : Nat) (A6 : Option Addr) (K6 : Nat) (done : Nat → Bool) (s : Nat → Value) (w : World) : Prop where
  gr : Below B0 W w
  box : w.heap[G]? = some (.cells (if done 7 = true then #[.int .i64 r.cop.last, .int .i64 r.cop.start, .int .i64 r.cop.most, .int .i64 r.cop.per, .int .i64 r.cop.shovels, .slice q.q.a1 r.cop.coal.length q.q.c1, .slice A6 (r.cop.last + 1).toNat K6, .int .i64 r.cop.hlo, .int .i64 r.cop.hhi, .slice q.q.a3 r.cop.loss.length q.q.c3, .slice q.q.a4 r.cop.rds.length q.q.c4] else (copCs r.cop q.q)) 28 (0, 0))
  a0 : done 0 = true → s 8 = .pointer (some ⟨G, 6, none⟩)
  a1 : done 1 = true → s 9 = .slice q.q.a2 r.cop.want.length q.q.c2
  a2 : done 2 = true → s 10 = roomV r q
  a3 : done 3 = true → s 11 = .slice an n.length k2
  a4 : done 4 = true → s 12 = .slice A5 (r.cop.last + 1).toNat K5
  a5 : done 5 = true → s 13 = .slice A6 (r.cop.last + 1).toNat K6
  a6 : done 6 = true → s 14 = .pointer (some ⟨G, 6, none⟩)
  f5 : done 4 = true → w.ownsRow W.heap.size 3 1 (.slice A5 (r.cop.last + 1).toNat K5) (r.cop.last + 1).toNat (ints (bucketsL r n))
  f6 : done 5 = true → w.ownsRow W.heap.size 3 1 (.slice A6 (r.cop.last + 1).toNat K6) (r.cop.last + 1).toNat (ints (wantedC r n).want)
def I50 (a0 : Act) (r : Rm) (q : RA) (b0 G B0 : Nat) (n : List Int) (an : Option Addr) (k2 : Nat) (W : World) (done : Nat → Bool) (a : Act) (w : World) : Prop :=
  ∃ (A5 : Option Addr) (K5 : Nat) (A6 : Option Addr) (K6 : Nat), Fr 8 14 a0 a ∧ J50 r q b0 G B0 n an k2 W A5 K5 A6 K6 done (slots a) w
theorem I50.put {a0 : Act} {r : Rm} {q : RA} {b0 G B0 : Nat} {n : List Int} {an : Option Addr} {k2 : Nat} {W : World} {A5 : Option Addr} {K5 : Nat} {A6 : Option Addr} {K6 : Nat} {done : Nat → Bool} {a : Act} {w : World} (i : Nat) (u : Value)
    (hF : Fr 8 14 a0 a) (h0 : 14 < a0.tmps.size) (h1 : 8 ≤ i) (h2 : i ≤ 14) (hJ : J50 r q b0 G B0 n an k2 W A5 K5 A6 K6 done (upd (slots a) i u) w) :
    I50 a0 r q b0 G B0 n an k2 W done { tmps := a.tmps.setIfInBounds i u, defers := a.defers } w :=
  ⟨A5, K5, A6, K6, hF.put i u h1 h2 h0, by rw [slots_put a i u (by rw [hF.sz]; omega)]; exact hJ⟩
set_option maxRecDepth 100000 in
set_option maxHeartbeats 8000000 in
theorem r50 (ops : List Oper) (hops : Tryz.f50.body.bind (regionIn 2) = some ops) {Q : Exit → Act → World → Prop} (a0 : Act) (r : Rm) (q : RA) (b0 G B0 : Nat) (n : List Int) (an : Option Addr) (k2 : Nat) (W : World)
    (hsz : a0.tmps.size = 16) (hbox : W.heap[G]? = some (.cells (copCs r.cop q.q) 28 (0, 0))) (hB0 : B0 ≤ G) (hBW : B0 ≤ W.heap.size) (h1 : slots a0 1 = .slice an n.length k2) (h2 : slots a0 2 = .pointer (some ⟨b0, 0, none⟩)) (h5 : slots a0 5 = .pointer (some ⟨G, 0, none⟩)) (hbx : Box W b0 (roomCs r q)) (hb0 : b0 < B0) (hGW : G < W.heap.size) (hxn : IntsAt W B0 an n) (hxw : IntsAt W B0 q.q.a2 r.cop.want)
    (hc31 : ∀ w, IntsAt w w.heap.size an n → Calls Tryz.prog 31 #[roomV r q, .slice an n.length k2] w fun e w' => ∃ A K, e = .returned (.slice A (r.cop.last + 1).toNat K) ∧ w'.ownsRow w.heap.size 3 1 (.slice A (r.cop.last + 1).toNat K) (r.cop.last + 1).toNat (ints (bucketsL r n)) ∧ Below w.heap.size w w')
    (hc78 : ∀ A K w, IntsAt w w.heap.size q.q.a2 r.cop.want → IntsAt w w.heap.size A (bucketsL r n) → Calls Tryz.prog 78 #[.slice q.q.a2 r.cop.want.length q.q.c2, .slice A (r.cop.last + 1).toNat K] w fun e w' => ∃ A6 K6, e = .returned (.slice A6 (r.cop.last + 1).toNat K6) ∧ w'.ownsRow w.heap.size 3 1 (.slice A6 (r.cop.last + 1).toNat K6) (r.cop.last + 1).toNat (ints (wantedC r n).want) ∧ Below w.heap.size w w')
    (hQ : ∀ a w (A5 : Option Addr) (K5 : Nat) (A6 : Option Addr) (K6 : Nat), Fr 8 14 a0 a → Below B0 W w → w.heap[G]? = some (.cells #[.int .i64 r.cop.last, .int .i64 r.cop.start, .int .i64 r.cop.most, .int .i64 r.cop.per, .int .i64 r.cop.shovels, .slice q.q.a1 r.cop.coal.length q.q.c1, .slice A6 (r.cop.last + 1).toNat K6, .int .i64 r.cop.hlo, .int .i64 r.cop.hhi, .slice q.q.a3 r.cop.loss.length q.q.c3, .slice q.q.a4 r.cop.rds.length q.q.c4] 28 (0, 0)) → w.ownsRow W.heap.size 3 1 (.slice A5 (r.cop.last + 1).toNat K5) (r.cop.last + 1).toNat (ints (bucketsL r n)) → w.ownsRow W.heap.size 3 1 (.slice A6 (r.cop.last + 1).toNat K6) (r.cop.last + 1).toNat (ints (wantedC r n).want) → Q .normal a w) :
    (Code.region 2 ops.toArray true).wp Tryz.prog Q a0 W := by
  simp only [Tryz.f50, regionIn, Option.bind_some] at hops
  simp at hops
  subst hops
  refine wp_region_inv (I50 a0 r q b0 G B0 n an k2 W) tryz_mixed (by kernel_rfl) ⟨none, 0, none, 0, Fr.refl _ _ _, ?_⟩ ?_ ?_
  · exact { gr := ⟨rfl, rfl, rfl, Nat.le_refl _, fun _ _ => rfl⟩, box := hbox, a0 := fun h => (by cases h), a1 := fun h => (by cases h), a2 := fun h => (by cases h), a3 := fun h => (by cases h), a4 := fun h => (by cases h), a5 := fun h => (by cases h), a6 := fun h => (by cases h), f5 := fun h => (by cases h), f6 := fun h => (by cases h) }
  · refine ⟨?_, ?_, ?_, ?_, ?_, ?_, ?_, ?_, trivial⟩
    · rintro done a w hcl hdn hdep ⟨A5, K5, A6, K6, hF, hJ⟩ K hK
      have hsw : W.heap.size ≤ w.heap.size := hJ.gr.size
      have y5 : a.tmps[5]?.getD undef = .pointer (some ⟨G, 0, none⟩) := (hF.same 5 (by omega)).trans h5
      clear hdep hcl
      go_simp
      exact hK _ _ (I50.put 8 _ hF (by omega) (by decide) (by decide) { hJ with a0 := fun _ => rfl })
    · rintro done a w hcl hdn hdep ⟨A5, K5, A6, K6, hF, hJ⟩ K hK
      have hsw : W.heap.size ≤ w.heap.size := hJ.gr.size
      have x0 : a.tmps[8]?.getD undef = .pointer (some ⟨G, 6, none⟩) := hJ.a0 (hdep ⟨0, .data⟩ (by simp) rfl)
      have hst : done 7 = false := by
        cases h : done 7 with
        | false => rfl
        | true => have := hcl 7 _ rfl h ⟨1, .phase⟩ (by simp) rfl; rw [hdn] at this; cases this
      have cG : w.cell? ⟨G, 6, none⟩ = some (.slice q.q.a2 r.cop.want.length q.q.c2) := by
        have := hJ.box
        rw [hst] at this
        simp [World.cell?, this]
      clear hdep hcl
      go_simp
      exact hK _ _ (I50.put 9 _ hF (by omega) (by decide) (by decide) { hJ with a1 := fun _ => rfl })
    · rintro done a w hcl hdn hdep ⟨A5, K5, A6, K6, hF, hJ⟩ K hK
      have hsw : W.heap.size ≤ w.heap.size := hJ.gr.size
      have y2 : a.tmps[2]?.getD undef = .pointer (some ⟨b0, 0, none⟩) := (hF.same 2 (by omega)).trans h2
      have c0 : w.cell? ⟨b0, 0, none⟩ = some (.int .i64 r.cop.last) := (hbx.below hJ.gr hb0) 0
      have c1 : w.cell? ⟨b0, 1, none⟩ = some (.int .i64 r.cop.start) := (hbx.below hJ.gr hb0) 1
      have c2 : w.cell? ⟨b0, 2, none⟩ = some (.int .i64 r.cop.most) := (hbx.below hJ.gr hb0) 2
      have c3 : w.cell? ⟨b0, 3, none⟩ = some (.int .i64 r.cop.per) := (hbx.below hJ.gr hb0) 3
      have c4 : w.cell? ⟨b0, 4, none⟩ = some (.int .i64 r.cop.shovels) := (hbx.below hJ.gr hb0) 4
      have c5 : w.cell? ⟨b0, 5, none⟩ = some (.slice q.q.a1 r.cop.coal.length q.q.c1) := (hbx.below hJ.gr hb0) 5
      have c6 : w.cell? ⟨b0, 6, none⟩ = some (.slice q.q.a2 r.cop.want.length q.q.c2) := (hbx.below hJ.gr hb0) 6
      have c7 : w.cell? ⟨b0, 7, none⟩ = some (.int .i64 r.cop.hlo) := (hbx.below hJ.gr hb0) 7
      have c8 : w.cell? ⟨b0, 8, none⟩ = some (.int .i64 r.cop.hhi) := (hbx.below hJ.gr hb0) 8
      have c9 : w.cell? ⟨b0, 9, none⟩ = some (.slice q.q.a3 r.cop.loss.length q.q.c3) := (hbx.below hJ.gr hb0) 9
      have c10 : w.cell? ⟨b0, 10, none⟩ = some (.slice q.q.a4 r.cop.rds.length q.q.c4) := (hbx.below hJ.gr hb0) 10
      have c11 : w.cell? ⟨b0, 11, none⟩ = some (.int .i64 r.buckets) := (hbx.below hJ.gr hb0) 11
      have c12 : w.cell? ⟨b0, 12, none⟩ = some (.int .i64 r.places) := (hbx.below hJ.gr hb0) 12
      have c13 : w.cell? ⟨b0, 13, none⟩ = some (.slice q.a5 r.baths.length q.c5) := (hbx.below hJ.gr hb0) 13
      clear hdep hcl
      go_simp
      exact hK _ _ (I50.put 10 _ hF (by omega) (by decide) (by decide) { hJ with a2 := fun _ => rfl })
    · rintro done a w hcl hdn hdep ⟨A5, K5, A6, K6, hF, hJ⟩ K hK
      have hsw : W.heap.size ≤ w.heap.size := hJ.gr.size
      have y1 : a.tmps[1]?.getD undef = .slice an n.length k2 := (hF.same 1 (by omega)).trans h1
      clear hdep hcl
      go_simp
      exact hK _ _ (I50.put 11 _ hF (by omega) (by decide) (by decide) { hJ with a3 := fun _ => rfl })
    · rintro done a w hcl hdn hdep ⟨A5, K5, A6, K6, hF, hJ⟩ K hK
      have hsw : W.heap.size ≤ w.heap.size := hJ.gr.size
      have x2 : a.tmps[10]?.getD undef = roomV r q := hJ.a2 (hdep ⟨2, .data⟩ (by simp) rfl)
      have x3 : a.tmps[11]?.getD undef = .slice an n.length k2 := hJ.a3 (hdep ⟨3, .data⟩ (by simp) rfl)
      have h5 : done 5 = false := by
        cases h : done 5 with
        | false => rfl
        | true => have := hcl 5 _ rfl h ⟨4, .data⟩ (by simp) rfl; rw [hdn] at this; cases this
      have h6 : done 6 = false := by
        cases h : done 6 with
        | false => rfl
        | true => have := hcl 6 _ rfl h ⟨4, .phase⟩ (by simp) rfl; rw [hdn] at this; cases this
      have h7 : done 7 = false := by
        cases h : done 7 with
        | false => rfl
        | true => have := hcl 7 _ rfl h ⟨6, .data⟩ (by simp) rfl; rw [h6] at this; cases this
      clear hdep hcl
      go_simp
      refine (hc31 w (hxn.below hJ.gr |>.mono (by omega))).mono ?_
      rintro e w1 ⟨A5', K5', rfl, hr5, hb⟩
      have hsi : done 7 = false := h7
      exact hK _ _ (I50.put (A5 := A5') (K5 := K5') 12 _ hF (by omega) (by decide) (by decide) { hJ with gr := hJ.gr.trans (hb.mono (by omega)), a4 := fun _ => rfl, f5 := fun _ => own_base hr5 (by omega), f6 := fun h => own_below (hJ.f6 h) hb, box := (by have hbb := hJ.box; rw [hsi] at hbb; rw [show also 4 done 7 = false from hsi]; exact (hb.block _ (Array.getElem?_eq_some_iff.1 hbb).1).trans hbb) })
    · rintro done a w hcl hdn hdep ⟨A5, K5, A6, K6, hF, hJ⟩ K hK
      have hsw : W.heap.size ≤ w.heap.size := hJ.gr.size
      have x1 : a.tmps[9]?.getD undef = .slice q.q.a2 r.cop.want.length q.q.c2 := hJ.a1 (hdep ⟨1, .data⟩ (by simp) rfl)
      have x4 : a.tmps[12]?.getD undef = .slice A5 (r.cop.last + 1).toNat K5 := hJ.a4 (hdep ⟨4, .data⟩ (by simp) rfl)
      have hf5 := own_ints' (hJ.f5 (hdep ⟨4, .data⟩ (by simp) rfl))
      have h6 : done 6 = false := by
        cases h : done 6 with
        | false => rfl
        | true => have := hcl 6 _ rfl h ⟨5, .phase⟩ (by simp) rfl; rw [hdn] at this; cases this
      have h7 : done 7 = false := by
        cases h : done 7 with
        | false => rfl
        | true => have := hcl 7 _ rfl h ⟨6, .data⟩ (by simp) rfl; rw [h6] at this; cases this
      clear hdep hcl
      go_simp
      refine (hc78 A5 K5 w (hxw.below hJ.gr |>.mono (by omega)) hf5).mono ?_
      rintro e w1 ⟨A6', K6', rfl, hr6, hb⟩
      have hsi : done 7 = false := h7
      exact hK _ _ (I50.put (A6 := A6') (K6 := K6') 13 _ hF (by omega) (by decide) (by decide) { hJ with gr := hJ.gr.trans (hb.mono (by omega)), a5 := fun _ => rfl, f5 := fun h => own_below (hJ.f5 h) hb, f6 := fun _ => own_base hr6 (by omega), box := (by have hbb := hJ.box; rw [hsi] at hbb; rw [show also 5 done 7 = false from hsi]; exact (hb.block _ (Array.getElem?_eq_some_iff.1 hbb).1).trans hbb) })
    · rintro done a w hcl hdn hdep ⟨A5, K5, A6, K6, hF, hJ⟩ K hK
      have hsw : W.heap.size ≤ w.heap.size := hJ.gr.size
      have y5 : a.tmps[5]?.getD undef = .pointer (some ⟨G, 0, none⟩) := (hF.same 5 (by omega)).trans h5
      clear hdep hcl
      go_simp
      exact hK _ _ (I50.put 14 _ hF (by omega) (by decide) (by decide) { hJ with a6 := fun _ => rfl })
    · rintro done a w hcl hdn hdep ⟨A5, K5, A6, K6, hF, hJ⟩ K hK
      have hsw : W.heap.size ≤ w.heap.size := hJ.gr.size
      have x6 : a.tmps[14]?.getD undef = .pointer (some ⟨G, 6, none⟩) := hJ.a6 (hdep ⟨6, .data⟩ (by simp) rfl)
      have x5 : a.tmps[13]?.getD undef = .slice A6 (r.cop.last + 1).toNat K6 := hJ.a5 (hdep ⟨5, .data⟩ (by simp) rfl)
      have hbb := hJ.box
      rw [hdn] at hbb
      have hcell : ∃ u, w.cell? ⟨G, 6, none⟩ = some u := by simp [World.cell?, hbb]
      obtain ⟨u, hcell⟩ := hcell
      have hfz : w.frozen? ⟨G, 6, none⟩ = false := by simp [World.frozen?, hbb]
      have hgw : Grown (fun k => k = G) w (w.setCell ⟨G, 6, none⟩ (.slice A6 (r.cop.last + 1).toNat K6)) := (Grown.refl (fun k => k = G) w).setCell (p := ⟨G, 6, none⟩) (.inl rfl) _
      have d4 : done 4 = true := hdep ⟨4, .phase⟩ (by simp) rfl
      have d5 : done 5 = true := hdep ⟨5, .phase⟩ (by simp) rfl
      clear hdep hcl
      go_simp
      exact hK _ _ ⟨_, _, _, _, hF, { hJ with gr := bl_st0 hJ.gr hB0 _, box := (by rw [heap_setCell_same w G 6 _ 28 _ hbb]; rfl), f5 := fun _ => own_grownG (hJ.f5 d4) hgw (fun e => by have h1 := ((hJ.f5 d4).lt _ e.symm).1; omega), f6 := fun _ => own_grownG (hJ.f6 d5) hgw (fun e => by have h1 := ((hJ.f6 d5).lt _ e.symm).1; omega) }⟩
  · rintro done a w hd ⟨A5, K5, A6, K6, hF, hJ⟩
    have hbx9 := hJ.box
    rw [hd 7 (by decide)] at hbx9
    exact hQ a w A5 K5 A6 K6 hF hJ.gr hbx9 (hJ.f5 (hd 4 (by decide))) (hJ.f6 (hd 5 (by decide)))
theorem Fr.lit16 {a0 a : Act}  (h : Fr 8 14 a0 a) (hs : a0.tmps.size = 16)  : ∃ f : Nat → Value, a = { tmps := #[slots a0 0, slots a0 1, slots a0 2, slots a0 3, slots a0 4, slots a0 5, slots a0 6, slots a0 7, f 8, f 9, f 10, f 11, f 12, f 13, f 14, slots a0 15], defers := a0.defers } := by
  refine ⟨slots a, ?_⟩
  have := h.lit
  rw [hs] at this
  exact this
set_option maxRecDepth 100000 in
set_option maxHeartbeats 8000000 in
theorem wanted_c (r : Rm) (q : RA) (n : List Int) (a : Option Addr) (k : Nat) (w : World) (hq : RoomAt w w.heap.size r q) (ho : RoomOk r) (hnl : (n.length : Int) = r.cop.last + 1) (hx : IntsAt w w.heap.size a n) (hn : ∀ j, 0 ≤ nth n j ∧ nth n j ≤ 100) :
    Calls Tryz.prog 50 #[roomV r q, .slice a n.length k] w fun e w' => ∃ A K, e = .returned (copV (wantedC r n) (wantedQ q.q A K)) ∧ CopAt w' w'.heap.size (wantedC r n) (wantedQ q.q A K) ∧ Pl A (wantedC r n).want.length K ∧ Below w.heap.size w w' := by
  have hl0 := ho.cop.l0
  have hl4 := ho.cop.l4
  have hwl := ho.cop.wl
  have hnL : n.length = (r.cop.last + 1).toNat := by omega
  have HQ := Lib.hid hq
  have HX := Lib.hid hx
  have HBK : Hid (∀ w, IntsAt w w.heap.size a n → Calls Tryz.prog 31 #[roomV r q, .slice a n.length k] w fun e w' => ∃ A K, e = .returned (.slice A (r.cop.last + 1).toNat K) ∧ w'.ownsRow w.heap.size 3 1 (.slice A (r.cop.last + 1).toNat K) (r.cop.last + 1).toNat (ints (bucketsL r n)) ∧ Below w.heap.size w w') := fun w hx => (rbuckets_c r q n a k w ho.b1 ho.b9 (by omega) hx hn).mono fun e w' ⟨v, he, hr, hb⟩ => by
    rw [hnL] at hr
    obtain ⟨A, K, rfl⟩ := own_shape6 hr
    exact ⟨A, K, he, hr, hb⟩
  have hbl : (bucketsL r n).length = (r.cop.last + 1).toNat := by rw [bucketsL, rowI_len]
  have hbb : ∀ j, 0 ≤ nth (bucketsL r n) j ∧ nth (bucketsL r n) j ≤ 1000 := fun j => by
    by_cases hj : j < (r.cop.last + 1).toNat
    · rw [bucketsL, nth_rowI _ hj]
      have h1 := hn j
      have h2 := ho.b1
      have h3 := ho.b9
      have m1 : 0 ≤ r.buckets * nth n j := Int.mul_nonneg (by omega) h1.1
      have m2 : r.buckets * nth n j ≤ 9 * 100 := Int.mul_le_mul h3 h1.2 h1.1 (by omega)
      omega
    · rw [nth_out _ _ (by omega)]; omega
  have HSM : Hid (∀ A K w, IntsAt w w.heap.size q.q.a2 r.cop.want → IntsAt w w.heap.size A (bucketsL r n) → Calls Tryz.prog 78 #[.slice q.q.a2 r.cop.want.length q.q.c2, .slice A (r.cop.last + 1).toNat K] w fun e w' => ∃ A6 K6, e = .returned (.slice A6 (r.cop.last + 1).toNat K6) ∧ w'.ownsRow w.heap.size 3 1 (.slice A6 (r.cop.last + 1).toNat K6) (r.cop.last + 1).toNat (ints (wantedC r n).want) ∧ Below w.heap.size w w') := fun A K w h1 h2 => by
    have := rsum_c r.cop.want (bucketsL r n) q.q.a2 A q.q.c2 K w (by omega) (by omega) h1 h2 (fun j => by have := ho.cop.wb j; omega) hbb
    rw [hbl] at this
    refine this.mono fun e w' ⟨v, he, hr, hb⟩ => ?_
    have hwn : r.cop.want.length = (r.cop.last + 1).toNat := by omega
    rw [hwn] at hr
    obtain ⟨A6, K6, rfl⟩ := own_shape6 hr
    exact ⟨A6, K6, he, hr, hb⟩
  have hWL : Hid ((wantedC r n).want.length = (r.cop.last + 1).toNat) := by unfold Hid wantedC; simp only [sumL, rowI_len]
  clear hq hx hn hbl hbb ho
  go_enter Tryz.func50, Tryz.ntmps50
  go_wp2
  obtain ⟨W1, hW1⟩ : ∃ W1, ((w.alloc (.cells (roomCs r q) 31)).alloc (.cells #[.int .i64 0, .int .i64 0, .int .i64 0, .int .i64 0, .int .i64 0, .slice none 0 0, .slice none 0 0, .int .i64 0, .int .i64 0, .slice none 0 0, .slice none 0 0] 28)).alloc (.cells (copCs r.cop q.q) 28) = W1 := ⟨_, rfl⟩
  rw [hW1]
  have HB1 : Hid (Below w.heap.size w W1) := by rw [← hW1]; exact bl_al (bl_al (bl_al (Below.refl _ _) _) _) _
  have HBX : Hid (Box W1 w.heap.size (roomCs r q)) := by rw [← hW1]; exact ((Box.new _ _ _ _).al (by simp) _).al (by simp) _
  have HZ4 : Hid (W1.heap[w.heap.size + 1]? = some (.cells #[.int .i64 0, .int .i64 0, .int .i64 0, .int .i64 0, .int .i64 0, .slice none 0 0, .slice none 0 0, .int .i64 0, .int .i64 0, .slice none 0 0, .slice none 0 0] 28 (0, 0))) := by rw [← hW1]; exact heap_al (by have := World.alloc_heap_new (w.alloc (.cells (roomCs r q) 31)) (.cells #[.int .i64 0, .int .i64 0, .int .i64 0, .int .i64 0, .int .i64 0, .slice none 0 0, .slice none 0 0, .int .i64 0, .int .i64 0, .slice none 0 0, .slice none 0 0] 28); rw [World.size_alloc] at this; exact this) _
  have HZ5 : Hid (W1.heap[w.heap.size + 1 + 1]? = some (.cells (copCs r.cop q.q) 28 (0, 0))) := by rw [← hW1]; have := World.alloc_heap_new ((w.alloc (.cells (roomCs r q) 31)).alloc (.cells #[.int .i64 0, .int .i64 0, .int .i64 0, .int .i64 0, .int .i64 0, .slice none 0 0, .slice none 0 0, .int .i64 0, .int .i64 0, .slice none 0 0, .slice none 0 0] 28)) (.cells (copCs r.cop q.q) 28); rw [World.size_alloc, World.size_alloc] at this; exact this
  have HSW : Hid (W1.heap.size = w.heap.size + 3) := by rw [← hW1]; simp [Hid]
  clear hW1
  refine r50 _ rfl _ r q w.heap.size (w.heap.size + 1 + 1) (w.heap.size + 1 + 1) n a k _ rfl HZ5.out (Nat.le_refl _) (by have := HSW.out; omega) rfl rfl rfl HBX.out (by omega) (by have := HSW.out; omega) ((HX.out.below HB1.out).mono (by omega)) ((HQ.out.cop.want.below HB1.out).mono (by omega)) HBK.out HSM.out ?_
  intro a w6 A5 K5 A6 K6 hF hb hbx6 hr5 hr6
  have HB6 := Lib.hid hb
  have HZ6 : Hid (w6.heap[w.heap.size + 1]? = some (.cells #[.int .i64 0, .int .i64 0, .int .i64 0, .int .i64 0, .int .i64 0, .slice none 0 0, .slice none 0 0, .int .i64 0, .int .i64 0, .slice none 0 0, .slice none 0 0] 28 (0, 0))) := (hb.block _ (by omega)).trans HZ4.out
  have hz6 := HZ6.out
  have f4 : ∀ o, w6.frozen? ⟨w.heap.size + 1, o, none⟩ = false := fun o => by simp [World.frozen?, hz6]
  have c4 : ∀ o, w6.cell? ⟨w.heap.size + 1, o, none⟩ = (#[.int .i64 0, .int .i64 0, .int .i64 0, .int .i64 0, .int .i64 0, .slice none 0 0, .slice none 0 0, .int .i64 0, .int .i64 0, .slice none 0 0, .slice none 0 0])[o]? := fun o => by simp [World.cell?, hz6]
  have c5 : ∀ o, w6.cell? ⟨w.heap.size + 1 + 1, o, none⟩ = (#[.int .i64 r.cop.last, .int .i64 r.cop.start, .int .i64 r.cop.most, .int .i64 r.cop.per, .int .i64 r.cop.shovels, .slice q.q.a1 r.cop.coal.length q.q.c1, .slice A6 (r.cop.last + 1).toNat K6, .int .i64 r.cop.hlo, .int .i64 r.cop.hhi, .slice q.q.a3 r.cop.loss.length q.q.c3, .slice q.q.a4 r.cop.rds.length q.q.c4])[o]? := fun o => by simp [World.cell?, hbx6]
  have HR6 := Lib.hid hr6
  obtain ⟨f, rfl⟩ := hF.lit16 rfl
  clear hF hb hbx6 hr5 hr6 hz6
  simp only [slots, List.getElem?_toArray, List.getElem?_cons_succ, List.getElem?_cons_zero, Option.getD_some]
  go_wp2
  have hfin := setAll_full w6 (w.heap.size + 1) [.int .i64 r.cop.last, .int .i64 r.cop.start, .int .i64 r.cop.most, .int .i64 r.cop.per, .int .i64 r.cop.shovels, .slice q.q.a1 r.cop.coal.length q.q.c1, .slice A6 (r.cop.last + 1).toNat K6, .int .i64 r.cop.hlo, .int .i64 r.cop.hhi, .slice q.q.a3 r.cop.loss.length q.q.c3, .slice q.q.a4 r.cop.rds.length q.q.c4] HZ6.out rfl
  have hgw := setAll_grown w6 (w.heap.size + 1) [.int .i64 r.cop.last, .int .i64 r.cop.start, .int .i64 r.cop.most, .int .i64 r.cop.per, .int .i64 r.cop.shovels, .slice q.q.a1 r.cop.coal.length q.q.c1, .slice A6 (r.cop.last + 1).toNat K6, .int .i64 r.cop.hlo, .int .i64 r.cop.hhi, .slice q.q.a3 r.cop.loss.length q.q.c3, .slice q.q.a4 r.cop.rds.length q.q.c4] 0
  have hv : Hid ((.agg #[.int .i64 r.cop.last, .int .i64 r.cop.start, .int .i64 r.cop.most, .int .i64 r.cop.per, .int .i64 r.cop.shovels, .slice q.q.a1 r.cop.coal.length q.q.c1, .slice A6 (r.cop.last + 1).toNat K6, .int .i64 r.cop.hlo, .int .i64 r.cop.hhi, .slice q.q.a3 r.cop.loss.length q.q.c3, .slice q.q.a4 r.cop.rds.length q.q.c4] : Value) = copV (wantedC r n) (wantedQ q.q A6 K6)) := by unfold Hid copV; rw [hWL.out]; rfl
  refine bodyPost_ret (v := .agg #[.int .i64 r.cop.last, .int .i64 r.cop.start, .int .i64 r.cop.most, .int .i64 r.cop.per, .int .i64 r.cop.shovels, .slice q.q.a1 r.cop.coal.length q.q.c1, .slice A6 (r.cop.last + 1).toNat K6, .int .i64 r.cop.hlo, .int .i64 r.cop.hhi, .slice q.q.a3 r.cop.loss.length q.q.c3, .slice q.q.a4 r.cop.rds.length q.q.c4]) (results_cell_row Tryz.results50 _ _ (w.heap.size + 1) 28 _ (0, 0) _ (by rfl) hfin Tryz.underlying28 rfl (by kernel_rfl)) rfl ⟨A6, K6, ?_, ?_, by rw [hWL.out]; exact own_Pl HR6.out, ?_⟩
  · rw [hv.out]
  · have hb : Below w.heap.size w (setAll w6 (w.heap.size + 1) 0 [.int .i64 r.cop.last, .int .i64 r.cop.start, .int .i64 r.cop.most, .int .i64 r.cop.per, .int .i64 r.cop.shovels, .slice q.q.a1 r.cop.coal.length q.q.c1, .slice A6 (r.cop.last + 1).toNat K6, .int .i64 r.cop.hlo, .int .i64 r.cop.hhi, .slice q.q.a3 r.cop.loss.length q.q.c3, .slice q.q.a4 r.cop.rds.length q.q.c4]) := (HB1.out.trans (HB6.out.mono (by omega))).trans (hgw.below (by have := HB6.out.size; have := HSW.out; omega) (fun k hk => by omega))
    have hq := HQ.out.cop.up hb
    exact ⟨hq.coal, own_ints' (own_grownG HR6.out hgw (fun e => by have := (HR6.out.lt _ e.symm).1; have := HSW.out; omega)), hq.loss, hq.rds⟩
  · exact (HB1.out.trans (HB6.out.mono (by omega))).trans (hgw.below (by have := HB6.out.size; have := HSW.out; omega) (fun k hk => by omega))
end Go.Proofs.YtpgnplmjfhdncaaGreat
/- The rooms of one hour. -/
namespace Go.Proofs.YtpgnplmjfhdncaaGreat
open Go.RowKit
set_option linter.unusedVariables false
end Go.Proofs.YtpgnplmjfhdncaaGreat
/- bathed. -/
namespace Go.Proofs.YtpgnplmjfhdncaaGreat
open Go.RowKit
set_option linter.unusedVariables false
@[go_sem] theorem field44 (x0 x1 x2 x3 x4 x5 x6 x7 x8 x9 x10 x11 x12 x13 : Value) (w : World) : (Instr.field 44 (.agg #[x0, x1, x2, x3, x4, x5, x6, x7, x8, x9, x10, x11, x12, x13]) 0).run Tryz.prog w = .ok (.agg #[x0, x1, x2, x3, x4, x5, x6, x7, x8, x9, x10]) w := by
  obtain ⟨i0, hi, hi1⟩ := Option.map_eq_some_iff.1 size41
  unfold Instr.field part
  simp [run_underlying Tryz.underlying44, run_underlying Tryz.underlying41, isAgg, sizeOf, typeInfo, hi, hi1, asAgg]
end Go.Proofs.YtpgnplmjfhdncaaGreat
