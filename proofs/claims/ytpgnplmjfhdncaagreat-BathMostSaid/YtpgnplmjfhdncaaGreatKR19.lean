/- Numbers, Buckets, Sum. -/
import Derived.Test.YtpgnplmjfhdncaaGreatKR14
namespace Go.Proofs.YtpgnplmjfhdncaaGreat
open Go.RowKit
set_option linter.unusedVariables false
theorem rowI_row {w : World} {g : Nat} {cu : Array Value} {f : Nat → Int} {n base : Nat} (hg : w.heap[g]? = some (.cells cu 3 (0, 0))) (hcs : cu.size = n) (hb : base ≤ g) (hn : n ≤ 1000) (hcu : ∀ h, h < n → cu[h]? = some (.int .i64 (f h))) : w.ownsRow base 3 1 (.slice (some ⟨g, 0, none⟩) n n) n (ints (rowI f n)) := by
  refine ⟨by simp [ints_len, rowI_len], .inr ⟨g, n, cu, rfl, hb, hg, Nat.le_refl _, by simp only [maxLen]; omega, by omega, ?_⟩⟩
  apply List.ext_getElem?
  intro k
  by_cases hk : k < n
  · rw [List.getElem?_take, if_pos (by omega), ints_at _ k (by rw [rowI_len]; exact hk), nth_rowI _ hk]
    simpa using hcu k hk
  · rw [List.getElem?_eq_none (by simp; omega), List.getElem?_eq_none (by rw [ints_len, rowI_len]; omega)]
set_option maxRecDepth 100000 in
set_option maxHeartbeats 4000000 in
theorem rbuckets_c (r : Rm) (q : RA) (ns : List Int) (a : Option Addr) (k : Nat) (w : World) (hb1 : 1 ≤ r.buckets) (hb9 : r.buckets ≤ 9) (hn : ns.length ≤ 5) (hx : IntsAt w w.heap.size a ns) (hp : ∀ j, 0 ≤ nth ns j ∧ nth ns j ≤ 100) :
    Calls Tryz.prog 31 #[roomV r q, .slice a ns.length k] w fun e w' => ∃ v, e = .returned v ∧ w'.ownsRow w.heap.size 3 1 v ns.length (ints (rowI (fun h => r.buckets * nth ns h) ns.length)) ∧ Below w.heap.size w w' := by
  have HX := Lib.hid hx
  have HP := Lib.hid hp
  clear hx hp
  obtain ⟨Z, hZ1, hZ2, hZ3⟩ := mk_ints (ns.length : Int) (by omega) (by omega)
  have HZ1 := Lib.hid hZ1
  have HZ2 := Lib.hid hZ2
  clear hZ1 hZ2
  go_enter Tryz.func31, Tryz.ntmps31
  go_wp2
  clear hZ3
  go_loopw [6] (fun i wr => ∃ (j : Nat) (cu : Array Value), j ≤ ns.length ∧ i = .int .i64 j ∧ Below w.heap.size w wr ∧ Box wr w.heap.size (roomCs r q) ∧ wr.heap[w.heap.size + 1]? = some (.cells cu 3 (0, 0)) ∧ cu.size = ns.length ∧ (∀ h, h < j → cu[h]? = some (.int .i64 (r.buckets * nth ns h)))) (fun i _ => ns.length - (intOf i).toNat)
  case atStart =>
    exact ⟨0, Z, Nat.zero_le _, rfl, bl_al (bl_al (Below.refl _ _) _) _, (Box.new _ _ _ _).al (by simp) _, by have := World.alloc_heap_new (w.alloc (.cells (roomCs r q) 31)) (.cells Z 3); rw [World.size_alloc] at this; exact this, by simpa using HZ1.out, fun h hh => by omega⟩
  case round =>
    obtain ⟨j, cu, hj, rfl, hb, hb0, hg, hcs, hcu⟩ := hrel
    have HB := Lib.hid hb
    have HB0 := Lib.hid hb0
    have HG := Lib.hid hg
    have HCS := Lib.hid hcs
    have HCU := Lib.hid hcu
    have hjb : (j : Int) ≤ 5 := by omega
    by_cases hlt : j < ns.length
    · obtain ⟨b, o, rfl⟩ := HX.out.some_ (by omega)
      have hpc := (HX.out.below HB.out).get j hlt
      obtain ⟨p0, p9⟩ := HP.out j
      have hj1 : (j : Int) < (ns.length : Int) := by omega
      have k11 : wr.cell? ⟨w.heap.size, 11, none⟩ = some (.int .i64 r.buckets) := hb0 11
      have hcm : ∃ u, wr.cell? ⟨w.heap.size + 1, j, none⟩ = some u := ⟨_, by simp only [World.cell?, hg]; exact Array.getElem?_eq_getElem (by omega)⟩
      obtain ⟨u, hcm⟩ := hcm
      have hfm : wr.frozen? ⟨w.heap.size + 1, j, none⟩ = false := by simp [World.frozen?, hg]
      have hm1 : 0 ≤ r.buckets * nth ns j := Int.mul_nonneg (by omega) (by omega)
      have hm2 : r.buckets * nth ns j ≤ 9 * 100 := Int.mul_le_mul hb9 p9 p0 (by omega)
      have hwr : IntKind.i64.wrap (r.buckets * nth ns j) = r.buckets * nth ns j := IntWalk.i64_in _ (by omega)
      have hbw : b < w.heap.size := by
        obtain ⟨b', o', e, hb', _⟩ := HX.out.at_ (by omega)
        cases e
        exact hb'
      have K1 : Hid (∀ v, (wr.setCell ⟨w.heap.size + 1, j, none⟩ v).drew.cell? ⟨w.heap.size, 11, none⟩ = some (.int .i64 r.buckets)) := fun v => (((Grown.refl (fun k => k = w.heap.size + 1) wr).setCell (p := ⟨w.heap.size + 1, j, none⟩) (.inl rfl) v).cell (b := w.heap.size) (o := 11) (World.block_lt_of_cell? wr _ k11) (by omega)).trans k11
      have K2 : Hid (∀ v, (wr.setCell ⟨w.heap.size + 1, j, none⟩ v).drew.cell? ⟨b, o + j, none⟩ = some (.int .i64 (nth ns j))) := fun v => (((Grown.refl (fun k => k = w.heap.size + 1) wr).setCell (p := ⟨w.heap.size + 1, j, none⟩) (.inl rfl) v).cell (b := b) (o := o + j) (World.block_lt_of_cell? wr _ hpc) (by omega)).trans hpc
      have kk1 : ∀ v, (wr.setCell ⟨w.heap.size + 1, j, none⟩ v).cell? ⟨w.heap.size, 11, none⟩ = some (.int .i64 r.buckets) := fun v => K1.out v
      have kk2 : ∀ v, (wr.setCell ⟨w.heap.size + 1, j, none⟩ v).cell? ⟨b, o + j, none⟩ = some (.int .i64 (nth ns j)) := fun v => K2.out v
      have kb : Hid (Box (wr.setCell ⟨w.heap.size + 1, j, none⟩ (.int .i64 (r.buckets * nth ns j))).drew w.heap.size (roomCs r q)) := (((Grown.refl (fun k => k = w.heap.size + 1) wr).setCell (p := ⟨w.heap.size + 1, j, none⟩) (.inl rfl) (.int .i64 (r.buckets * nth ns j))).drew).box HB0.out (HB0.out.lt (by simp)) (by omega)
      clear hg hb hb0 hcs hcu hm1 hm2 hbw K1 K2
      go_wp2
      go_region_held3 (fun w' => w'.cell? ⟨w.heap.size, 11, none⟩ = some (.int .i64 r.buckets) ∧ w'.cell? ⟨b, o + j, none⟩ = some (.int .i64 (nth ns j))) (first | assumption | go_keep) (fail)
      go_wp2
      go_roundw
      case rel =>
        refine ⟨j + 1, _, by omega, by go_num, bl_dr (bl_st HB.out (by simp) _), fun o => (kb.out o), heap_setCell_same _ _ j _ _ _ HG.out, by simpa using HCS.out, fun h hh => ?_⟩
        by_cases he : h = j
        · subst he
          simp [HCS.out, hlt]
        · rw [Array.getElem?_setIfInBounds_ne (by omega)]
          exact HCU.out h (by omega)
      case measure => simp [intOf]; omega
    · have hje : j = ns.length := by omega
      rw [hje] at hcu
      have HF := Lib.hid (rowI_row (base := w.heap.size) HG.out HCS.out (by omega) (by omega) hcu)
      have hlen : ¬ ((j : Int) < (ns.length : Int)) := by omega
      clear hg hje hcu hb hb0 hcs
      go_wp2
      go_ret
      exact ⟨_, rfl, HF.out, HB.out⟩
end Go.Proofs.YtpgnplmjfhdncaaGreat
/- Sum. -/
namespace Go.Proofs.YtpgnplmjfhdncaaGreat
open Go.RowKit
set_option linter.unusedVariables false
set_option maxRecDepth 100000 in
set_option maxHeartbeats 8000000 in
theorem rsum_c (xs ys : List Int) (a a2 : Option Addr) (k k2 : Nat) (w : World) (hn : xs.length ≤ 5) (hl : ys.length = xs.length) (hx : IntsAt w w.heap.size a xs) (hy : IntsAt w w.heap.size a2 ys)
    (hb : ∀ j, 0 ≤ nth xs j ∧ nth xs j ≤ 1000) (hb2 : ∀ j, 0 ≤ nth ys j ∧ nth ys j ≤ 1000) :
    Calls Tryz.prog 78 #[.slice a xs.length k, .slice a2 ys.length k2] w fun e w' => ∃ v, e = .returned v ∧ w'.ownsRow w.heap.size 3 1 v xs.length (ints (sumL xs ys xs.length)) ∧ Below w.heap.size w w' := by
  have HX := Lib.hid hx
  have HY := Lib.hid hy
  have HL := Lib.hid hl
  have HB1 := Lib.hid hb
  have HB2 := Lib.hid hb2
  clear hx hy hb hb2 hl
  go_enter Tryz.func78, Tryz.ntmps78
  go_wp2
  go_loopw [5, 6] (fun v i wr => ∃ (j : Nat) (v' : Value), j ≤ xs.length ∧ i = .int .i64 j ∧ v = v' ∧ Below w.heap.size w wr ∧ wr.ownsRow w.heap.size 3 1 v' j (ints (sumL xs ys j))) (fun _ i _ => xs.length - (intOf i).toNat)
  case atStart => exact ⟨0, _, Nat.zero_le _, rfl, rfl, Below.refl _ _, World.ownsRow_nil _ _ _ _⟩
  case round =>
    obtain ⟨j, v', hj, rfl, rfl, hb, hrow⟩ := hrel
    have HB := Lib.hid hb
    have HROW := Lib.hid hrow
    obtain ⟨A0, k0, rfl⟩ := own_shape6 hrow
    have hjb : (j : Int) ≤ 5 := by omega
    by_cases hlt : j < xs.length
    · obtain ⟨b, o, ha⟩ := HX.out.some_ (by omega)
      obtain ⟨b2, o2, ha2⟩ := HY.out.some_ (by have := HL.out; omega)
      have hX := HX.out
      have hY := HY.out
      subst ha
      subst ha2
      have e1 := (hX.below hb).get j hlt
      have e2 := (hY.below hb).get j (by have := HL.out; omega)
      have hbw : b < w.heap.size := by
        obtain ⟨b', o', e, hb', _⟩ := hX.at_ (by omega)
        cases e
        exact hb'
      have hbw2 : b2 < w.heap.size := by
        obtain ⟨b', o', e, hb', _⟩ := hY.at_ (by have := HL.out; omega)
        cases e
        exact hb'
      have HF1 : Hid (some b ≠ (Value.slice A0 j k0).ownBlock ∧ b < wr.heap.size) := ⟨fun e => by have := (hrow.lt b e.symm).1; omega, by have := hb.size; omega⟩
      have HF2 : Hid (some b2 ≠ (Value.slice A0 j k0).ownBlock ∧ b2 < wr.heap.size) := ⟨fun e => by have := (hrow.lt b2 e.symm).1; omega, by have := hb.size; omega⟩
      obtain ⟨x0, x9⟩ := HB1.out j
      obtain ⟨y0, y9⟩ := HB2.out j
      have hj1 : (j : Int) < (xs.length : Int) := by omega
      have hj2 : (j : Int) < (ys.length : Int) := by have := HL.out; omega
      have hwr : IntKind.i64.wrap (nth xs j + nth ys j) = nth xs j + nth ys j := IntWalk.i64_in _ (by omega)
      have HREL : Hid (∀ k, some k = (Value.slice A0 j k0).ownBlock → w.heap.size ≤ k) := fun k hk => (hrow.lt k hk.symm).1
      have HST : Hid (ints (sumL xs ys (j + 1)) = ints (sumL xs ys j) ++ [.int .i64 (nth xs j + nth ys j)]) := by unfold Hid sumL; rw [rowI_snoc, ints_snoc]
      clear hb hrow hX hY hbw hbw2
      go_wp2
      go_region_held3 (fun w' => w'.cell? ⟨b, o + j, none⟩ = some (.int .i64 (nth xs j)) ∧ w'.cell? ⟨b2, o2 + j, none⟩ = some (.int .i64 (nth ys j))) (first | assumption | go_keep) (first | (rw [if_pos (show Region.wanted _ _ = true from rfl)]; refine wp_append_k w.heap.size _ _ 22 3 _ 1 8 rfl Tryz.underlying22 info3 rfl (by decide) (by decide) (.slice A0 j k0) j _ [.int .i64 (nth xs j + nth ys j)] wr.heap.size rfl rfl (World.alloc_heap_new wr.drew _) rfl (by simp [Value.oneCell']) ((own_below HROW.out (bl_dr (Below.refl _ _))).alloc _) (by have h2 := HB.out.size; simp; omega) (by omega) ?_; intro v1 w8 ho8 hg8 hat8; obtain ⟨A5, k5, rfl⟩ := own_shape6 ho8; have HO8 := Lib.hid ho8; have HG8 : Hid (Grown (fun k => some k = (Value.slice A0 j k0).ownBlock) wr w8) := (((Grown.refl _ wr).drew).alloc _).trans ⟨hg8.os, hg8.tape, hg8.output, hg8.size, fun k hk hn => hg8.block k hk (fun e => hn e)⟩; have hS8 : (fun w' => w'.cell? ⟨b, o + j, none⟩ = some (.int .i64 (nth xs j)) ∧ w'.cell? ⟨b2, o2 + j, none⟩ = some (.int .i64 (nth ys j))) w8 := ⟨(HG8.out.cell HF1.out.2 HF1.out.1).trans e1, (HG8.out.cell HF2.out.2 HF2.out.1).trans e2⟩; dsimp only at hS8; clear ho8 hg8 hat8))
      all_goals (
        clear hS8
        go_wp2
        go_roundw
        case rel =>
          exact ⟨j + 1, _, by omega, by go_num, rfl, HB.out.trans (HG8.out.below HB.out.size (fun k hk => HREL.out k hk)), by rw [HST.out]; exact HO8.out⟩
        case measure => simp [intOf]; omega)
    · obtain rfl : j = xs.length := by omega
      clear hb hrow
      go_wp2
      go_ret
      exact ⟨_, rfl, HROW.out, HB.out⟩
end Go.Proofs.YtpgnplmjfhdncaaGreat
/- Wanted. -/
namespace Go.Proofs.YtpgnplmjfhdncaaGreat
open Go.RowKit
set_option linter.unusedVariables false
/-- The coppers of a room with a greater Want. -/
def wantedC (r : Rm) (n : List Int) : Cop := { r.cop with want := sumL r.cop.want (bucketsL r n) (r.cop.last + 1).toNat }
theorem own_ints' {w : World} {base n m K : Nat} {e : TypeId} {A : Option Addr} {xs : List Int} (h : w.ownsRow base e 1 (.slice A m K) n (ints xs)) : IntsAt w w.heap.size A xs := by
  obtain ⟨B, l, e1, h2, _⟩ := own_ints h
  cases e1
  exact h2
structure J50 (r : Rm) (q : RA) (b0 G B0 : Nat) (n : List Int) (an : Option Addr) (k2 : Nat) (W : World) (A5 : Option Addr) (K5 : Nat) (A6 : Option Addr) (K6 : Nat) (done : Nat → Bool) (s : Nat → Value) (w : World) : Prop where
  gr : Below B0 W w
  box : w.heap[G]? = some (.cells (if done 7 = true then #[.int .i64 r.cop.last, .int .i64 r.cop.start, .int .i64 r.cop.most, .int .i64 r.cop.per, .int .i64 r.cop.shovels, .slice q.q.a1 r.cop.coal.length q.q.c1, .slice A6 (r.cop.last + 1).toNat K6, .int .i64 r.cop.hlo, .int .i64 r.cop.hhi, .slice q.q.a3 r.cop.loss.length q.q.c3, .slice q.q.a4 r.cop.rds.length q.q.c4] else (copCs r.cop q.q)) 28 (0, 0))
  a0 : done 0 = true → s 8 = .pointer (some ⟨G, 6, none⟩)
  a1 : done 1 = true → s 9 = .slice q.q.a2 r.cop.want.length q.q.c2
  a2 : done 2 = true → s 10 = roomV r q
  a3 : done 3 = true → s 11 = .slice an n.length k2
  a4 : done 4 = true → s 12 = .slice A5 (r.cop.last + 1).toNat K5
  a5 : done 5 = true → s 13 = .slice A6 (r.cop.last + 1).toNat K6
  a6 : done 6 = true → s 14 = .pointer (some ⟨G, 6, none⟩)
  f5 : done 4 = true → w.ownsRow W.heap.size 3 1 (.slice A5 (r.cop.last + 1).toNat K5) (r.cop.last + 1).toNat (ints (bucketsL r n))
  f6 : done 5 = true → w.ownsRow W.heap.size 3 1 (.slice A6 (r.cop.last + 1).toNat K6) (r.cop.last + 1).toNat (ints (wantedC r n).want)
def I50 (a0 : Act) (r : Rm) (q : RA) (b0 G B0 : Nat) (n : List Int) (an : Option Addr) (k2 : Nat) (W : World) (done : Nat → Bool) (a : Act) (w : World) : Prop :=
  ∃ (A5 : Option Addr) (K5 : Nat) (A6 : Option Addr) (K6 : Nat), Fr 8 14 a0 a ∧ J50 r q b0 G B0 n an k2 W A5 K5 A6 K6 done (slots a) w
theorem I50.put {a0 : Act} {r : Rm} {q : RA} {b0 G B0 : Nat} {n : List Int} {an : Option Addr} {k2 : Nat} {W : World} {A5 : Option Addr} {K5 : Nat} {A6 : Option Addr} {K6 : Nat} {done : Nat → Bool} {a : Act} {w : World} (i : Nat) (u : Value)
    (hF : Fr 8 14 a0 a) (h0 : 14 < a0.tmps.size) (h1 : 8 ≤ i) (h2 : i ≤ 14) (hJ : J50 r q b0 G B0 n an k2 W A5 K5 A6 K6 done (upd (slots a) i u) w) :
    I50 a0 r q b0 G B0 n an k2 W done { tmps := a.tmps.setIfInBounds i u, defers := a.defers } w :=
  ⟨A5, K5, A6, K6, hF.put i u h1 h2 h0, by rw [slots_put a i u (by rw [hF.sz]; omega)]; exact hJ⟩
end Go.Proofs.YtpgnplmjfhdncaaGreat
/- The rooms of one hour. -/
namespace Go.Proofs.YtpgnplmjfhdncaaGreat
open Go.RowKit
set_option linter.unusedVariables false
end Go.Proofs.YtpgnplmjfhdncaaGreat
/- bathed. -/
namespace Go.Proofs.YtpgnplmjfhdncaaGreat
open Go.RowKit
set_option linter.unusedVariables false
@[go_sem] theorem field44 (x0 x1 x2 x3 x4 x5 x6 x7 x8 x9 x10 x11 x12 x13 : Value) (w : World) : (Instr.field 44 (.agg #[x0, x1, x2, x3, x4, x5, x6, x7, x8, x9, x10, x11, x12, x13]) 0).run Tryz.prog w = .ok (.agg #[x0, x1, x2, x3, x4, x5, x6, x7, x8, x9, x10]) w := by
  obtain ⟨i0, hi, hi1⟩ := Option.map_eq_some_iff.1 size41
  unfold Instr.field part
  simp [run_underlying Tryz.underlying44, run_underlying Tryz.underlying41, isAgg, sizeOf, typeInfo, hi, hi1, asAgg]
end Go.Proofs.YtpgnplmjfhdncaaGreat
