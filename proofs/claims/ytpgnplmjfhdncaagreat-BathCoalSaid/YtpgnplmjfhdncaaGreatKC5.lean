/- A part of the proof: C5, C6, C7. -/
import Derived.Test.YtpgnplmjfhdncaaGreatKC3
import Derived.Test.YtpgnplmjfhdncaaGreatKGet
import Derived.Test.YtpgnplmjfhdncaaGreatKC5b
import Derived.Test.YtpgnplmjfhdncaaGreatKRows2
namespace Go.Proofs.YtpgnplmjfhdncaaGreat
open Go.RowKit
set_option linter.unusedVariables false
/-- What coppers are, and coal, promises, a scene, that are played. -/
structure Plays (c : Cop) (coal want : List Int) (s : Int × List Int) : Prop where
  l0 : 0 ≤ c.last
  l4 : c.last ≤ 4
  m0 : 0 ≤ c.most
  m9 : c.most ≤ 999
  s0 : 0 ≤ c.start
  s9 : c.start ≤ c.most
  p1 : 1 ≤ c.per
  p2 : c.per ≤ 20
  cl : (coal.length : Int) = c.last + 1
  wl : (want.length : Int) = c.last + 1
  c0 : ∀ j, 0 ≤ nth coal j
  c3 : ∀ j, nth coal j ≤ 3
  w0 : ∀ j, 0 ≤ nth want j
  w4 : ∀ j, nth want j ≤ 100
  h0 : 0 ≤ s.1
  h9 : s.1 ≤ 99
  x0 : ∀ j, 0 ≤ nth s.2 j
  x9 : ∀ j, nth s.2 j ≤ 99
theorem heatOf_bd {c : Cop} {coal : List Int} {s : Int × List Int} {i : Nat} {x : Int} (hm : 0 ≤ c.most) (h : 0 ≤ nth s.2 i) : 0 ≤ heatOf c coal s i x ∧ heatOf c coal s i x ≤ c.most := by
  unfold heatOf; omega
theorem leftOf_bd {per wt y : Int} (h1 : 1 ≤ per) (h0 : 0 ≤ wt) (hy : 0 ≤ y) : 0 ≤ leftOf per wt y ∧ leftOf per wt y ≤ y := by
  unfold leftOf
  split
  · rename_i h
    have h2 : wt * per ≤ y := by
      have := Int.mul_le_mul_of_nonneg_right h (by omega : (0 : Int) ≤ per)
      have h3 := Int.ediv_mul_le y (by omega : per ≠ 0)
      omega
    have h4 : 0 ≤ wt * per := Int.mul_nonneg h0 (by omega)
    omega
  · omega
theorem before_bd {c : Cop} {coal want : List Int} {s : Int × List Int} (h : Plays c coal want s) : ∀ i, 0 ≤ before c coal want s i ∧ before c coal want s i ≤ c.most := by
  intro i
  induction i with
  | zero => exact ⟨h.s0, h.s9⟩
  | succ i ih =>
    have h1 := heatOf_bd (coal := coal) (x := before c coal want s i) h.m0 (h.x0 i)
    have h2 := leftOf_bd h.p1 (h.w0 i) h1.1
    simp only [before]
    omega
def hotL (c : Cop) (coal want : List Int) (s : Int × List Int) : Nat → List Int := rowI (hotAt c coal want s)
def leftL (c : Cop) (coal want : List Int) (s : Int × List Int) : Nat → List Int := rowI (fun i => before c coal want s (i + 1))
def keptL (c : Cop) (coal want : List Int) (s : Int × List Int) : Nat → List Bool := rowB (keptAt c coal want s)
/-- What play hands back. -/
def PastV (c : Cop) (coal want : List Int) (s : Int × List Int) (v : Value) (w : World) : Prop :=
  ∃ A1 c1 A2 c2 A3 c3, v = .agg #[.slice A1 (hotL c coal want s (c.last + 1).toNat).length c1, .slice A2 (leftL c coal want s (c.last + 1).toNat).length c2, .slice A3 (keptL c coal want s (c.last + 1).toNat).length c3] ∧
    IntsAt w w.heap.size A1 (hotL c coal want s (c.last + 1).toNat) ∧ IntsAt w w.heap.size A2 (leftL c coal want s (c.last + 1).toNat) ∧ BoolsAt w w.heap.size A3 (keptL c coal want s (c.last + 1).toNat)
set_option maxRecDepth 100000 in
set_option maxHeartbeats 4000000 in
theorem play_c (c : Cop) (q : CA) (s : Int × List Int) (coal want : List Int) (a1 : Option Addr) (c1 : Nat) (a2 : Option Addr) (c2 : Nat) (w : World) (hp : Plays c coal want s)
    (hx : IntsAt w w.heap.size a1 coal) (hy : IntsAt w w.heap.size a2 want) :
    Calls Tryz.prog 123 #[copV c q, scV s.1 s.2, .slice a1 coal.length c1, .slice a2 want.length c2] w fun e w' => (∃ v, e = .returned v ∧ PastV c coal want s v w') ∧ Below w.heap.size w w' := by
  have hl0 := hp.l0
  have hl4 := hp.l4
  have hm0 := hp.m0
  have hm9 := hp.m9
  have hp1 := hp.p1
  have hp2 := hp.p2
  obtain ⟨b1, o1, rfl⟩ := hx.some_ (by have := hp.cl; omega)
  obtain ⟨b2, o2, rfl⟩ := hy.some_ (by have := hp.wl; omega)
  have HX := Lib.hid hx
  have HY := Lib.hid hy
  have HP := Lib.hid hp
  clear hx hy hp
  go_enter Tryz.func123, Tryz.ntmps123
  go_wp2
  go_loopw [9, 18] (fun h i wr => ∃ (j : Nat) (v1 v2 v3 : Value), (j : Int) ≤ c.last + 1 ∧ i = .int .i64 j ∧ h = .int .i64 (before c coal want s j) ∧ Below w.heap.size w wr ∧ w.heap.size + 3 ≤ wr.heap.size ∧ Box wr w.heap.size (copCs c q) ∧ Box wr (w.heap.size + 1) #[.int .i64 s.1, .int .i64 (nth s.2 0), .int .i64 (nth s.2 1), .int .i64 (nth s.2 2), .int .i64 (nth s.2 3), .int .i64 (nth s.2 4)] ∧
    wr.heap[w.heap.size + 2]? = some (.cells #[v1, v2, v3] 163 (0, 0)) ∧ wr.ownsRow (w.heap.size + 3) 3 1 v1 j (ints (hotL c coal want s j)) ∧ wr.ownsRow (w.heap.size + 3) 3 1 v2 j (ints (leftL c coal want s j)) ∧ wr.ownsRow (w.heap.size + 3) 4 1 v3 j (bools (keptL c coal want s j)) ∧ (v1.ownBlock = none ∨ v1.ownBlock ≠ v2.ownBlock)) (fun _ i _ => (c.last + 1).toNat - (intOf i).toNat)
  case atStart =>
    refine ⟨0, _, _, _, by simp; omega, rfl, rfl, by repeat (first | exact Below.refl _ _ | refine bl_al ?_ _), by simp, ?_, ?_, ?_, World.ownsRow_nil _ _ _ _, World.ownsRow_nil _ _ _ _, World.ownsRow_nil _ _ _ _, .inl rfl⟩
    · exact ((Box.new _ _ _ _).al (by simp) _).al (by simp) _
    · exact (by simpa using (Box.new (w.alloc (.cells (copCs c q) 41)) _ 158 (0, 0)).al (by simp) _)
    · exact (by simpa using World.alloc_heap_new ((w.alloc (.cells (copCs c q) 41)).alloc _) _)
  case round =>
    obtain ⟨j, v1, v2, v3, hj, rfl, rfl, hb, hsz, hb0, hb1, hbx, hr1, hr2, hr3, hd⟩ := hrel
    have HB := Lib.hid hb
    have HB0 := Lib.hid hb0
    have HB1 := Lib.hid hb1
    have HBX := Lib.hid hbx
    have HR1 := Lib.hid hr1
    have HR2 := Lib.hid hr2
    have HR3 := Lib.hid hr3
    have HD := Lib.hid hd
    clear hb hbx hr1 hr2 hr3 hd
    unfold Box copCs at hb0
    unfold Box at hb1
    by_cases hlt : (j : Int) < c.last + 1
    · obtain ⟨hbd0, hbd9⟩ := before_bd HP.out j
      have hc := (HX.out.below HB.out).get j (by have := HP.out.cl; omega)
      have hwc := (HY.out.below HB.out).get j (by have := HP.out.wl; omega)
      have hc0 := HP.out.c0 j
      have hc3 := HP.out.c3 j
      have hh0 := HP.out.h0
      have hh9 := HP.out.h9
      have hx0 := HP.out.x0 j
      have hx9 := HP.out.x9 j
      have hwt0 := HP.out.w0 j
      have hwt4 := HP.out.w4 j
      have hm1 : 0 ≤ nth coal j * s.1 := Int.mul_nonneg hc0 hh0
      have hm2 : nth coal j * s.1 ≤ 3 * 99 := Int.mul_le_mul hc3 hh9 hh0 (by omega)
      have hloss : wr.cell? ⟨w.heap.size + 1, 1 + j, none⟩ = some (.int .i64 (nth s.2 j)) := by
        rw [hb1]
        match j, hlt with
        | 0, _ => rfl
        | 1, _ => rfl
        | 2, _ => rfl
        | 3, _ => rfl
        | 4, _ => rfl
        | j + 5, h => omega
      have hmost : wr.cell? ⟨w.heap.size, 2, none⟩ = some (.int .i64 c.most) := hb0 2
      have hper : wr.cell? ⟨w.heap.size, 3, none⟩ = some (.int .i64 c.per) := hb0 3
      have hheat : wr.cell? ⟨w.heap.size + 1, 0, none⟩ = some (.int .i64 s.1) := hb1 0
      clear hb0 hb1
      have hj0 : (0 : Int) ≤ (j : Int) := by omega
      have hj1 : (j : Int) < (coal.length : Int) := by have := HP.out.cl; omega
      have hj2 : (j : Int) < (want.length : Int) := by have := HP.out.wl; omega
      have hj5 : (j : Int) < 5 := by omega
      have hw1 : IntKind.i64.wrap (nth coal j * s.1) = nth coal j * s.1 := IntWalk.i64_in _ (by omega)
      have hw2 : IntKind.i64.wrap (before c coal want s j + nth coal j * s.1) = before c coal want s j + nth coal j * s.1 := IntWalk.i64_in _ (by omega)
      have hw3 : IntKind.i64.wrap (min c.most (before c coal want s j + nth coal j * s.1) - nth s.2 j) = min c.most (before c coal want s j + nth coal j * s.1) - nth s.2 j := IntWalk.i64_in _ (by omega)
      have hheq : (if nth s.2 j < min c.most (before c coal want s j + nth coal j * s.1) then min c.most (before c coal want s j + nth coal j * s.1) - nth s.2 j else 0) = heatAt c coal want s j := by
        unfold heatAt heatOf; split <;> omega
      have HEQ := Lib.hid hheq
      clear hheq
      go_wp2
      go_region_held3 (fun w' => w'.cell? ⟨w.heap.size, 2, none⟩ = some (.int .i64 c.most) ∧ w'.cell? ⟨b1, o1 + j, none⟩ = some (.int .i64 (nth coal j)) ∧ w'.cell? ⟨w.heap.size + 1, 0, none⟩ = some (.int .i64 s.1) ∧ w'.cell? ⟨w.heap.size + 1, 1 + j, none⟩ = some (.int .i64 (nth s.2 j))) (first | go_keep) (first | (go_at_call 148; refine (min2_c c.most (before c coal want s j + nth coal j * s.1) _ _ _ _ (by go_simp) (by go_simp)).mono ?_; rintro e w1 ⟨rfl, rfl⟩))
      rw [HEQ.out]
      generalize hW1 : World.drew _ = W1
      have HBl : Hid (Below wr.heap.size wr W1) := by rw [← hW1]; exact bl_dr (bl_al (Below.refl _ _) _)
      clear hW1 hw1 hw2 hw3 hmost hheat hloss hc hm1 hm2 hc0 hc3 hh0 hh9 hx0 hx9 hbd0 hbd9 hj1
      have hper1 := cell_later HBl.out hper
      have hwc1 := cell_later HBl.out hwc
      clear hper hwc
      have hyb : 0 ≤ heatAt c coal want s j ∧ heatAt c coal want s j ≤ c.most := heatOf_bd HP.out.m0 (HP.out.x0 j)
      obtain ⟨hy0, hy9⟩ := hyb
      have hqd : 0 ≤ heatAt c coal want s j / c.per := Int.ediv_nonneg hy0 (by omega)
      have hqm : heatAt c coal want s j / c.per * c.per ≤ heatAt c coal want s j := Int.ediv_mul_le _ (by omega)
      by_cases hk : nth want j ≤ heatAt c coal want s j / c.per
      · have hm3 : nth want j * c.per ≤ heatAt c coal want s j / c.per * c.per := Int.mul_le_mul_of_nonneg_right hk (by omega)
        have hm4 : 0 ≤ nth want j * c.per := Int.mul_nonneg hwt0 (by omega)
        have hw4 : IntKind.i64.wrap (nth want j * c.per) = nth want j * c.per := IntWalk.i64_in _ (by omega)
        have hw5 : IntKind.i64.wrap (heatAt c coal want s j - nth want j * c.per) = heatAt c coal want s j - nth want j * c.per := IntWalk.i64_in _ (by omega)
        have hbef : Hid (before c coal want s (j + 1) = heatAt c coal want s j - nth want j * c.per) := by
          show leftOf _ _ _ = _
          unfold leftOf
          rw [if_pos (show nth want j ≤ heatOf c coal s j (before c coal want s j) / c.per from hk)]
          rfl
        have hkp : Hid (keptAt c coal want s j = true) := decide_eq_true hk
        go_wp2
        refine wp_region_plus (by kernel_rfl) ?_
        repeat (go_big_quiet_step (fail))
        refine wpQuiet_nil ?_
        rintro _ ⟨d, rfl⟩
        clear hw4 hw5
        go_wp2
        have hBL2 : Hid (Below wr.heap.size wr (plus W1 d)) := bl_pl HBl.out d
        refine r11 _ rfl _ _ (w.heap.size + 2) (w.heap.size + 3) j v1 v2 v3 (heatAt c coal want s j / c.per) (heatAt c coal want s j - nth want j * c.per) true (ints (hotL c coal want s j)) (ints (leftL c coal want s j)) (bools (keptL c coal want s j)) rfl rfl rfl rfl rfl (by omega) (by have := hBL2.out.size; omega) (by omega) ((hBL2.out.block _ (by omega)).trans HBX.out) (own_below HR1.out hBL2.out) (own_below HR2.out hBL2.out) (own_below HR3.out hBL2.out) HD.out ?_
        intro a w2 u1 u2 u3 hF hbl hbx hr1 hr2 hr3 hd
        have HBL3 := Lib.hid hbl
        have HBX3 := Lib.hid hbx
        have HR13 := Lib.hid hr1
        have HR23 := Lib.hid hr2
        have HR33 := Lib.hid hr3
        have HD3 := Lib.hid hd
        clear hbl hbx hr1 hr2 hr3 hd
        obtain ⟨f, rfl⟩ := hF.lit80 rfl
        clear hF
        simp only [slots, List.getElem?_toArray, List.getElem?_cons_succ, List.getElem?_cons_zero, Option.getD_some]
        go_wp2
        go_roundw
        case rel =>
          refine ⟨j + 1, u1, u2, u3, by omega, by go_num, by rw [hbef.out], HB.out.trans ((hBL2.out.mono HB.out.size).trans (HBL3.out.mono (by omega))), by have := hBL2.out.size; have := HBL3.out.size; omega, (HB0.out.bl (by simp) hBL2.out).below HBL3.out (by omega), (HB1.out.bl (by simp) hBL2.out).below HBL3.out (by omega), HBX3.out, ?_, ?_, ?_, HD3.out⟩
          · have := HR13.out
            unfold hotL
            rw [rowI_snoc, ints_snoc]
            exact this
          · have := HR23.out
            unfold leftL
            rw [rowI_snoc, ints_snoc, hbef.out]
            exact this
          · have := HR33.out
            unfold keptL
            rw [rowB_snoc, bools_snoc, hkp.out]
            exact this
        case measure => simp [intOf]; omega
      · have hbef : Hid (before c coal want s (j + 1) = 0) := by
          show leftOf _ _ _ = _
          unfold leftOf
          rw [if_neg (show ¬ nth want j ≤ heatOf c coal s j (before c coal want s j) / c.per from hk)]
        have hkp : Hid (keptAt c coal want s j = false) := decide_eq_false hk
        go_wp2
        have hBL2 : Hid (Below wr.heap.size wr W1) := HBl.out
        refine r11 _ rfl _ _ (w.heap.size + 2) (w.heap.size + 3) j v1 v2 v3 (heatAt c coal want s j / c.per) 0 false (ints (hotL c coal want s j)) (ints (leftL c coal want s j)) (bools (keptL c coal want s j)) rfl rfl rfl rfl rfl (by omega) (by have := hBL2.out.size; omega) (by omega) ((hBL2.out.block _ (by omega)).trans HBX.out) (own_below HR1.out hBL2.out) (own_below HR2.out hBL2.out) (own_below HR3.out hBL2.out) HD.out ?_
        intro a w2 u1 u2 u3 hF hbl hbx hr1 hr2 hr3 hd
        have HBL3 := Lib.hid hbl
        have HBX3 := Lib.hid hbx
        have HR13 := Lib.hid hr1
        have HR23 := Lib.hid hr2
        have HR33 := Lib.hid hr3
        have HD3 := Lib.hid hd
        clear hbl hbx hr1 hr2 hr3 hd
        obtain ⟨f, rfl⟩ := hF.lit80 rfl
        clear hF
        simp only [slots, List.getElem?_toArray, List.getElem?_cons_succ, List.getElem?_cons_zero, Option.getD_some]
        go_wp2
        go_roundw
        case rel =>
          refine ⟨j + 1, u1, u2, u3, by omega, by go_num, by rw [hbef.out], HB.out.trans ((hBL2.out.mono HB.out.size).trans (HBL3.out.mono (by omega))), by have := hBL2.out.size; have := HBL3.out.size; omega, (HB0.out.bl (by simp) hBL2.out).below HBL3.out (by omega), (HB1.out.bl (by simp) hBL2.out).below HBL3.out (by omega), HBX3.out, ?_, ?_, ?_, HD3.out⟩
          · have := HR13.out
            unfold hotL
            rw [rowI_snoc, ints_snoc]
            exact this
          · have := HR23.out
            unfold leftL
            rw [rowI_snoc, ints_snoc, hbef.out]
            exact this
          · have := HR33.out
            unfold keptL
            rw [rowB_snoc, bools_snoc, hkp.out]
            exact this
        case measure => simp [intOf]; omega
    · have hjn : (c.last + 1).toNat = j := by omega
      obtain ⟨A1, k1, rfl, hi1, -⟩ := own_ints HR1.out
      obtain ⟨A2, k2, rfl, hi2, -⟩ := own_ints HR2.out
      obtain ⟨A3, k3, rfl, hi3, -⟩ := own_bools HR3.out
      have HI1 := Lib.hid hi1
      have HI2 := Lib.hid hi2
      have HI3 := Lib.hid hi3
      have HJN := Lib.hid hjn
      clear hi1 hi2 hi3 hjn hb0 hb1
      have hbb := HBX.out
      have e0 : wr.cell? ⟨w.heap.size + 1 + 1, 0, none⟩ = some (.slice A1 (hotL c coal want s j).length k1) := by show wr.cell? ⟨w.heap.size + 2, 0, none⟩ = _; simp [World.cell?, hbb]
      have e1 : wr.cell? ⟨w.heap.size + 1 + 1, 1, none⟩ = some (.slice A2 (leftL c coal want s j).length k2) := by show wr.cell? ⟨w.heap.size + 2, 1, none⟩ = _; simp [World.cell?, hbb]
      have e2 : wr.cell? ⟨w.heap.size + 1 + 1, 2, none⟩ = some (.slice A3 (keptL c coal want s j).length k3) := by show wr.cell? ⟨w.heap.size + 2, 2, none⟩ = _; simp [World.cell?, hbb]
      have f0 : ∀ o, wr.frozen? ⟨w.heap.size + 1 + 1, o, none⟩ = false := by intro o; show wr.frozen? ⟨w.heap.size + 2, o, none⟩ = _; simp [World.frozen?, hbb]
      have HRES := Lib.hid (heap_setCell_same _ _ 2 _ _ (.slice A3 (keptL c coal want s j).length k3) (heap_setCell_same _ _ 1 _ _ (.slice A2 (leftL c coal want s j).length k2) (heap_setCell_same _ _ 0 _ _ (.slice A1 (hotL c coal want s j).length k1) hbb)))
      clear hbb
      go_wp2
      refine bodyPost_ret (v := .agg #[.slice A1 (hotL c coal want s j).length k1, .slice A2 (leftL c coal want s j).length k2, .slice A3 (keptL c coal want s j).length k3]) (results_cell_row Tryz.results123 _ _ (w.heap.size + 2) 163 _ (0, 0) _ (by rfl) HRES.out Tryz.underlying163 rfl (by kernel_rfl)) rfl ⟨⟨_, rfl, ?_⟩, ?_⟩
      · obtain ⟨B1, m1, g1, i1, -⟩ := own_ints (ownsRow_setCell_below (ownsRow_setCell_below (ownsRow_setCell_below HR1.out (a := ⟨w.heap.size + 1 + 1, 0, none⟩) (by simp) (.slice A1 (hotL c coal want s j).length k1)) (a := ⟨w.heap.size + 1 + 1, 1, none⟩) (by simp) (.slice A2 (leftL c coal want s j).length k2)) (a := ⟨w.heap.size + 1 + 1, 2, none⟩) (by simp) (.slice A3 (keptL c coal want s j).length k3))
        obtain ⟨B2, m2, g2, i2, -⟩ := own_ints (ownsRow_setCell_below (ownsRow_setCell_below (ownsRow_setCell_below HR2.out (a := ⟨w.heap.size + 1 + 1, 0, none⟩) (by simp) (.slice A1 (hotL c coal want s j).length k1)) (a := ⟨w.heap.size + 1 + 1, 1, none⟩) (by simp) (.slice A2 (leftL c coal want s j).length k2)) (a := ⟨w.heap.size + 1 + 1, 2, none⟩) (by simp) (.slice A3 (keptL c coal want s j).length k3))
        obtain ⟨B3, m3, g3, i3, -⟩ := own_bools (ownsRow_setCell_below (ownsRow_setCell_below (ownsRow_setCell_below HR3.out (a := ⟨w.heap.size + 1 + 1, 0, none⟩) (by simp) (.slice A1 (hotL c coal want s j).length k1)) (a := ⟨w.heap.size + 1 + 1, 1, none⟩) (by simp) (.slice A2 (leftL c coal want s j).length k2)) (a := ⟨w.heap.size + 1 + 1, 2, none⟩) (by simp) (.slice A3 (keptL c coal want s j).length k3))
        cases g1
        cases g2
        cases g3
        unfold PastV
        rw [HJN.out]
        exact ⟨A1, k1, A2, k2, A3, k3, rfl, i1, i2, i3⟩
      · exact bl_st (bl_st (bl_st HB.out (by simp; omega) _) (by simp; omega) _) (by simp; omega) _
end Go.Proofs.YtpgnplmjfhdncaaGreat
namespace Go.Proofs.YtpgnplmjfhdncaaGreat
open Go.RowKit
set_option linter.unusedVariables false
def nb (xs : List Bool) (j : Nat) : Bool := xs.getD j false
theorem BoolsAt.at_ {w : World} {B : Nat} {a : Option Addr} {xs : List Bool} (h : BoolsAt w B a xs) (hp : 0 < xs.length) : ∃ b o, a = some ⟨b, o, none⟩ ∧ b < B ∧ ∀ j, j < xs.length → w.cell? ⟨b, o + j, none⟩ = some (.bool (nb xs j)) := by
  rcases h with rfl | h
  · simp at hp
  · exact h
set_option maxHeartbeats 400000 in
theorem index_c (x : Int) (xs : List Int) (a : Option Addr) (c : Nat) (w : World) (hn : xs.length ≤ 1000000000) (hx : IntsAt w w.heap.size a xs) :
    Calls Tryz.prog 164 #[.slice a xs.length c, .int .i64 x] w fun e w' => e = .returned (.int .i64 (idxN (fun j => x == nth xs j) 0 xs.length)) ∧ Below w.heap.size w w' := by
  have HX := Lib.hid hx
  clear hx
  go_enter Tryz.func164, Tryz.ntmps164
  go_wp2
  go_loopw [8] (fun i wr => ∃ j : Nat, j ≤ xs.length ∧ i = .int .i64 j ∧ idxN (fun j => x == nth xs j) 0 xs.length = idxN (fun j => x == nth xs j) j (xs.length - j) ∧ Below w.heap.size w wr) (fun i _ => xs.length - (intOf i).toNat)
  case atStart => exact ⟨0, Nat.zero_le _, rfl, rfl, Below.refl _ _⟩
  case round =>
    obtain ⟨j, hj, rfl, hi, hb⟩ := hrel
    have HI := Lib.hid hi
    have HB := Lib.hid hb
    clear hi hb
    by_cases hlt : j < xs.length
    · obtain ⟨b, o, rfl, hbl, hcell⟩ := (HX.out.below HB.out).at_ (by omega)
      have hc := hcell j hlt
      clear hcell
      cases hp : (x == nth xs j) with
      | true =>
        have hi := idxN_hit hlt HI.out hp
        have HJ := Lib.hid hi
        clear hi
        go_wp2
        go_ret
        exact ⟨by rw [HJ.out]; rfl, HB.out⟩
      | false =>
        have hi := idxN_step hlt HI.out hp
        have HJ := Lib.hid hi
        clear hi
        go_wp2
        go_roundw
        case rel => exact ⟨j + 1, by omega, by go_num, HJ.out, HB.out⟩
        case measure => simp [intOf]; omega
    · obtain rfl : j = xs.length := by omega
      have hi := idxN_end HI.out
      have HJ := Lib.hid hi
      clear hi
      go_wp2
      go_ret
      exact ⟨by rw [HJ.out]; rfl, HB.out⟩
def hasI (x : Int) (xs : List Int) : Bool := anyN (fun j => x == nth xs j) xs.length
theorem contains_c (x : Int) (xs : List Int) (a : Option Addr) (c : Nat) (w : World) (hn : xs.length ≤ 1000000000) (hx : IntsAt w w.heap.size a xs) :
    Calls Tryz.prog 135 #[.slice a xs.length c, .int .i64 x] w fun e w' => e = .returned (.bool (hasI x xs)) ∧ Below w.heap.size w w' := by
  have HX := Lib.hid hx
  clear hx
  go_enter Tryz.func135, Tryz.ntmps135
  go_wp2_with (go_at_call 164; refine (index_c x xs a c _ hn HX.out).mono ?_; rintro e w1 ⟨rfl, hb⟩; have HB := Lib.hid hb; clear hb)
  go_ret
  exact ⟨rfl, HB.out⟩
set_option maxHeartbeats 400000 in
theorem indexB_c (xs : List Bool) (a : Option Addr) (c : Nat) (w : World) (hn : xs.length ≤ 1000000000) (hx : BoolsAt w w.heap.size a xs) :
    Calls Tryz.prog 180 #[.slice a xs.length c, .bool false] w fun e w' => e = .returned (.int .i64 (idxN (fun j => !nb xs j) 0 xs.length)) ∧ Below w.heap.size w w' := by
  have HX := Lib.hid hx
  clear hx
  go_enter Tryz.func180, Tryz.ntmps180
  go_wp2
  go_loopw [8] (fun i wr => ∃ j : Nat, j ≤ xs.length ∧ i = .int .i64 j ∧ idxN (fun j => !nb xs j) 0 xs.length = idxN (fun j => !nb xs j) j (xs.length - j) ∧ Below w.heap.size w wr) (fun i _ => xs.length - (intOf i).toNat)
  case atStart => exact ⟨0, Nat.zero_le _, rfl, rfl, Below.refl _ _⟩
  case round =>
    obtain ⟨j, hj, rfl, hi, hb⟩ := hrel
    have HI := Lib.hid hi
    have HB := Lib.hid hb
    clear hi hb
    by_cases hlt : j < xs.length
    · obtain ⟨b, o, rfl, hbl, hcell⟩ := (HX.out.below HB.out).at_ (by omega)
      have hc := hcell j hlt
      clear hcell
      cases hp : nb xs j with
      | false =>
        have hi := idxN_hit hlt HI.out (by simp [hp])
        have HJ := Lib.hid hi
        clear hi
        rw [hp] at hc
        clear hp
        go_wp2
        go_ret
        exact ⟨by rw [HJ.out]; rfl, HB.out⟩
      | true =>
        have hi := idxN_step hlt HI.out (by simp [hp])
        have HJ := Lib.hid hi
        clear hi
        rw [hp] at hc
        clear hp
        go_wp2
        go_roundw
        case rel => exact ⟨j + 1, by omega, by go_num, HJ.out, HB.out⟩
        case measure => simp [intOf]; omega
    · obtain rfl : j = xs.length := by omega
      have hi := idxN_end HI.out
      have HJ := Lib.hid hi
      clear hi
      go_wp2
      go_ret
      exact ⟨by rw [HJ.out]; rfl, HB.out⟩
theorem containsB_c (xs : List Bool) (a : Option Addr) (c : Nat) (w : World) (hn : xs.length ≤ 1000000000) (hx : BoolsAt w w.heap.size a xs) :
    Calls Tryz.prog 168 #[.slice a xs.length c, .bool false] w fun e w' => e = .returned (.bool (anyN (fun j => !nb xs j) xs.length)) ∧ Below w.heap.size w w' := by
  have HX := Lib.hid hx
  clear hx
  go_enter Tryz.func168, Tryz.ntmps168
  go_wp2_with (go_at_call 180; refine (indexB_c xs a c _ hn HX.out).mono ?_; rintro e w1 ⟨rfl, hb⟩; have HB := Lib.hid hb; clear hb)
  go_ret
  exact ⟨rfl, HB.out⟩
def PastV0 (hot left : List Int) (kept : List Bool) (v : Value) (w : World) : Prop :=
  ∃ A1 c1 A2 c2 A3 c3, v = .agg #[.slice A1 hot.length c1, .slice A2 left.length c2, .slice A3 kept.length c3] ∧
    IntsAt w w.heap.size A1 hot ∧ IntsAt w w.heap.size A2 left ∧ BoolsAt w w.heap.size A3 kept
theorem PastV0.up {hot left : List Int} {kept : List Bool} {v : Value} {w W : World} (h : PastV0 hot left kept v w) (hb : Below w.heap.size w W) : PastV0 hot left kept v W := by
  obtain ⟨A1, c1, A2, c2, A3, c3, rfl, h1, h2, h3⟩ := h
  exact ⟨A1, c1, A2, c2, A3, c3, rfl, h1.up hb, h2.up hb, h3.up hb⟩
theorem hot_c (hot left : List Int) (kept : List Bool) (v : Value) (h : Nat) (w : World) (hh : h < hot.length) (hn : hot.length ≤ 5) (hx : PastV0 hot left kept v w) :
    Calls Tryz.prog 128 #[v, .int .i64 h] w fun e w' => e = .returned (.int .i64 (nth hot h)) ∧ Below w.heap.size w w' := by
  obtain ⟨A1, c1, A2, c2, A3, c3, rfl, h1, h2, h3⟩ := hx
  obtain ⟨b, o, rfl, hbl, hcell⟩ := h1.at_ (by omega)
  have hc := hcell h hh
  clear hcell h1 h2 h3
  go_enter Tryz.func128, Tryz.ntmps128
  go_wp2
  go_ret
  exact ⟨rfl, bl_al (Below.refl _ _) _⟩
theorem left_c (hot left : List Int) (kept : List Bool) (v : Value) (h : Nat) (w : World) (hh : h < left.length) (hn : left.length ≤ 5) (hx : PastV0 hot left kept v w) :
    Calls Tryz.prog 130 #[v, .int .i64 h] w fun e w' => e = .returned (.int .i64 (nth left h)) ∧ Below w.heap.size w w' := by
  obtain ⟨A1, c1, A2, c2, A3, c3, rfl, h1, h2, h3⟩ := hx
  obtain ⟨b, o, rfl, hbl, hcell⟩ := h2.at_ (by omega)
  have hc := hcell h hh
  clear hcell h1 h2 h3
  go_enter Tryz.func130, Tryz.ntmps130
  go_wp2
  go_ret
  exact ⟨rfl, bl_al (Below.refl _ _) _⟩
theorem whole_c (hot left : List Int) (kept : List Bool) (v : Value) (h : Int) (w : World) (hn : kept.length ≤ 5) (hx : PastV0 hot left kept v w) :
    Calls Tryz.prog 145 #[v, .int .i64 h] w fun e w' => e = .returned (.int .i64 (if anyN (fun j => !nb kept j) kept.length = true then 0 else 1)) ∧ Below w.heap.size w w' := by
  obtain ⟨A1, c1, A2, c2, A3, c3, rfl, h1, h2, h3⟩ := hx
  have H3 := Lib.hid h3
  clear h1 h2 h3
  cases hk : anyN (fun j => !nb kept j) kept.length with
  | true =>
    have HK := Lib.hid hk
    clear hk
    go_enter Tryz.func145, Tryz.ntmps145
    go_wp2_with (go_at_call 168; refine (containsB_c kept A3 c3 _ (by omega) (H3.out.up (bl_al (Below.refl _ _) _))).mono ?_; rintro e w1 ⟨rfl, hb⟩; rw [HK.out]; have HB := Lib.hid hb; clear hb)
    go_ret
    exact ⟨rfl, bl_tr (bl_al (Below.refl _ _) _) HB.out⟩
  | false =>
    have HK := Lib.hid hk
    clear hk
    go_enter Tryz.func145, Tryz.ntmps145
    go_wp2_with (go_at_call 168; refine (containsB_c kept A3 c3 _ (by omega) (H3.out.up (bl_al (Below.refl _ _) _))).mono ?_; rintro e w1 ⟨rfl, hb⟩; rw [HK.out]; have HB := Lib.hid hb; clear hb)
    go_ret
    exact ⟨rfl, bl_tr (bl_al (Below.refl _ _) _) HB.out⟩
end Go.Proofs.YtpgnplmjfhdncaaGreat
namespace Go.Proofs.YtpgnplmjfhdncaaGreat
open Go.RowKit
set_option linter.unusedVariables false
/-- The reading j is right in a scene. -/
def rdB (c : Cop) (s : Int × List Int) (j : Nat) : Bool := within (hotAt c c.coal c.want s (t1 c.rds j).toNat) (t2 c.rds j) (t3 c.rds j)
/-- All readings are right in a scene. -/
def rightB (c : Cop) (s : Int × List Int) : Bool := allN (rdB c s) c.rds.length
theorem idxN_nott {p : Nat → Bool} {n : Nat} (h : idxN p 0 n = -1) : anyN p n = false := by simp [anyN, h]
theorem Box.new' (w : World) (cs : Array Value) (e : TypeId) (f : Nat × Nat) {b : Nat} (h : b = w.heap.size) : Box (w.alloc (.cells cs e f)) b cs := by subst h; exact Box.new w cs e f
theorem containsNil_c (x : Int) (w : World) : Calls Tryz.prog 135 #[.slice none 0 0, .int .i64 x] w fun e w' => e = .returned (.bool false) ∧ Below w.heap.size w w' :=
  contains_c x [] none 0 w (by simp) (.inl rfl)
set_option maxRecDepth 100000 in
set_option maxHeartbeats 4000000 in
theorem right_c (c : Cop) (q : CA) (s : Int × List Int) (w : World) (hp : Plays c c.coal c.want s) (hq : CopAt w w.heap.size c q)
    (hr : ∀ j, j < c.rds.length → 0 ≤ t1 c.rds j ∧ t1 c.rds j ≤ c.last) (hn : c.rds.length ≤ 5) :
    Calls Tryz.prog 143 #[copV c q, scV s.1 s.2, .slice none 0 0] w fun e w' => e = .returned (.bool (rightB c s)) ∧ Below w.heap.size w w' := by
  have hl0 := hp.l0
  have hl4 := hp.l4
  have HP := Lib.hid hp
  have HQ := Lib.hid hq
  have HR := Lib.hid hr
  clear hp hq hr
  obtain ⟨a1, cc1, a2, cc2, a3, cc3, a4, cc4⟩ := q
  dsimp only [copV]
  go_enter Tryz.func143, Tryz.ntmps143
  go_wp2_with (go_at_call 123; refine (play_c c ⟨a1, cc1, a2, cc2, a3, cc3, a4, cc4⟩ s c.coal c.want a1 cc1 a2 cc2 _ HP.out (HQ.out.coal.up (bl_al (bl_al (Below.refl _ _) _) _)) (HQ.out.want.up (bl_al (bl_al (Below.refl _ _) _) _))).mono ?_; rintro e w1 ⟨⟨v, rfl, hpv⟩, hb⟩; obtain ⟨A1, k1, A2, k2, A3, k3, rfl, h1, h2, h3⟩ := hpv; obtain ⟨d, rfl⟩ := below_plus hb; have H1 := Lib.hid h1; clear hb h1 h2 h3)
  go_loopw [20] (fun i wr => ∃ j : Nat, j ≤ c.rds.length ∧ i = .int .i64 j ∧ idxN (fun j => !rdB c s j) 0 c.rds.length = idxN (fun j => !rdB c s j) j (c.rds.length - j) ∧ Below w.heap.size w wr ∧ IntsAt wr wr.heap.size A1 (hotL c c.coal c.want s (c.last + 1).toNat) ∧ Box wr (w.heap.size + 1 + 1 + d.n) #[.slice A1 (hotL c c.coal c.want s (c.last + 1).toNat).length k1, .slice A2 (leftL c c.coal c.want s (c.last + 1).toNat).length k2, .slice A3 (keptL c c.coal c.want s (c.last + 1).toNat).length k3]) (fun i _ => c.rds.length - (intOf i).toNat)
  case atStart =>
    refine ⟨0, Nat.zero_le _, rfl, rfl, by repeat (first | exact Below.refl _ _ | refine bl_al ?_ _ | refine bl_pl ?_ _), H1.out.up (bl_al (Below.refl _ _) _), ?_⟩
    exact Box.new' _ _ _ _ (by simp [plus_size])
  case round =>
    obtain ⟨j, hj, rfl, hi, hb, hh, hbx⟩ := hrel
    have HI := Lib.hid hi
    have HB := Lib.hid hb
    have HH := Lib.hid hh
    have HBX := Lib.hid hbx
    clear hi hb hh
    unfold Box at hbx
    by_cases hlt : j < c.rds.length
    · obtain ⟨b, o, hae, hbl, hcell⟩ := (HQ.out.rds.below HB.out).at_ (by omega)
      obtain ⟨hc1, hc2, hc3⟩ := hcell j hlt
      have hslt := HR.out j hlt
      obtain ⟨b2, o2, hA1, hbl2, hcell2⟩ := HH.out.at_ (by rw [hotL, rowI_len]; omega)
      have hc4 := hcell2 (t1 c.rds j).toNat (by rw [hotL, rowI_len]; omega)
      rw [hotL, nth_rowI _ (by omega)] at hc4
      have hlen : (hotL c c.coal c.want s (c.last + 1).toNat).length = (c.last + 1).toNat := by rw [hotL, rowI_len]
      obtain ⟨m, hm⟩ : ∃ m : Nat, t1 c.rds j = m := ⟨(t1 c.rds j).toNat, by omega⟩
      have hmn : (t1 c.rds j).toNat = m := by omega
      rw [hm] at hc1
      rw [hmn] at hc4
      have hm4 : m < (c.last + 1).toNat := by omega
      have hbx0 := hbx 0
      clear hcell hcell2 hbl hbl2 hbx
      cases hk : rdB c s j with
      | false =>
        have hi := idxN_hit hlt HI.out (by simp [hk])
        have HF : Hid (rightB c s = false) := by unfold Hid; unfold rightB allN anyN; simp [hi]
        have HK : Hid (within (hotAt c c.coal c.want s m) (t2 c.rds j) (t3 c.rds j) = false) := by unfold Hid; rw [← hk, rdB, hmn]
        clear hk hi
        dsimp only at hae
        subst hae
        subst hA1
        have hbx1 : wr.cell? ⟨w.heap.size + 1 + 1 + d.n, 0, none⟩ = some (.slice (some ⟨b2, o2, none⟩) (hotL c c.coal c.want s (c.last + 1).toNat).length k1) := hbx0
        clear hbx0
        have hj1 : (j : Int) < (c.rds.length : Int) := by omega
        have hm1 : (m : Int) < ((hotL c c.coal c.want s (c.last + 1).toNat).length : Int) := by omega
        go_wp2
        refine wp_region_plus (by kernel_rfl) ?_
        repeat (go_big_quiet_step (first | (go_at_call 135; exact Calls.pl (containsNil_c _ _)) | (go_at_call 160; exact Calls.pl (has_c _ _ _ _))))
        refine wpQuiet_nil ?_
        rintro _ ⟨d, rfl⟩
        rw [HK.out]
        go_wp2
        go_ret
        exact ⟨by rw [HF.out]; rfl, by repeat (first | exact HB.out | refine bl_al ?_ _ | refine bl_pl ?_ _ | refine bl_dr ?_)⟩
      | true =>
        have hi := idxN_step hlt HI.out (by simp [hk])
        have HJ := Lib.hid hi
        have HK : Hid (within (hotAt c c.coal c.want s m) (t2 c.rds j) (t3 c.rds j) = true) := by unfold Hid; rw [← hk, rdB, hmn]
        clear hk hi
        dsimp only at hae
        subst hae
        subst hA1
        have hbx1 : wr.cell? ⟨w.heap.size + 1 + 1 + d.n, 0, none⟩ = some (.slice (some ⟨b2, o2, none⟩) (hotL c c.coal c.want s (c.last + 1).toNat).length k1) := hbx0
        clear hbx0
        have hj1 : (j : Int) < (c.rds.length : Int) := by omega
        have hm1 : (m : Int) < ((hotL c c.coal c.want s (c.last + 1).toNat).length : Int) := by omega
        go_wp2
        refine wp_region_plus (by kernel_rfl) ?_
        repeat (go_big_quiet_step (first | (go_at_call 135; exact Calls.pl (containsNil_c _ _)) | (go_at_call 160; exact Calls.pl (has_c _ _ _ _))))
        refine wpQuiet_nil ?_
        rintro _ ⟨d', rfl⟩
        rw [HK.out]
        go_wp2
        go_roundw
        case rel =>
          have hb2 : Hid (Below wr.heap.size wr (plus (wr.alloc (.cells #[.int .i64 m, .int .i64 (t2 c.rds j), .int .i64 (t3 c.rds j)] 149)) d')) := bl_pl (bl_al (Below.refl _ _) _) _
          exact ⟨j + 1, by omega, by go_num, HJ.out, bl_tr HB.out hb2.out, HH.out.up hb2.out, HBX.out.bl (by simp) hb2.out⟩
        case measure => simp [intOf]; omega
    · obtain rfl : j = c.rds.length := by omega
      have hi := idxN_end HI.out
      have HF : Hid (rightB c s = true) := by unfold Hid; unfold rightB allN; rw [idxN_nott hi]; rfl
      clear hi
      go_wp2
      go_ret
      exact ⟨by rw [HF.out]; rfl, HB.out⟩
end Go.Proofs.YtpgnplmjfhdncaaGreat
