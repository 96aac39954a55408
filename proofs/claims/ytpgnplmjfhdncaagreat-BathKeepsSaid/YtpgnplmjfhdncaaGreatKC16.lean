/- A part of the proof: C16, C17. -/
import Derived.Test.YtpgnplmjfhdncaaGreatKC13
import Derived.Test.YtpgnplmjfhdncaaGreatKB2
namespace Go.Proofs.YtpgnplmjfhdncaaGreat
open Go.RowKit
set_option linter.unusedVariables false
def singleL (c : Cop) (h : Nat) (n : Int) : List Int := rowI (fun i => if i = h then n else 0) (c.last + 1).toNat
/-- The spare buckets: 20 less this; none, if it is below 0. -/
def spareI (c : Cop) (h : Nat) : Int := idxN (fun k => moreC c (singleL c h (20 - (k : Int))) == 1) 0 21
def spareV (c : Cop) (h : Nat) : Value := if 0 ≤ spareI c h then .tuple #[.int .i64 (20 - spareI c h), .int .i64 0] else .tuple #[.int .i64 0, .int .i64 10]
theorem nth_single {c : Cop} {h : Nat} {n : Int} (hn : 0 ≤ n ∧ n ≤ 20) : ∀ j, 0 ≤ nth (singleL c h n) j ∧ nth (singleL c h n) j ≤ 20 := fun j => by
  by_cases hj : j < (c.last + 1).toNat
  · rw [singleL, nth_rowI _ hj]; split <;> omega
  · rw [nth_out _ _ (by rw [singleL, rowI_len]; omega)]; omega
set_option maxRecDepth 100000 in
set_option maxHeartbeats 4000000 in
theorem spare_c (c : Cop) (q : CA) (h : Nat) (w : World) (hq : CopAt w w.heap.size c q) (hck : checkCop c = 0) (ht : truthsC c ≠ []) (hh : (h : Int) ≤ c.last) :
    Calls Tryz.prog 54 #[copV c q, .int .i64 h] w fun e w' => e = .returned (spareV c h) ∧ Below w.heap.size w w' := by
  have ho := okc_of hck
  have hl0 := ho.l0
  have hl4 := ho.l4
  have HQ := Lib.hid hq
  have HO := Lib.hid ho
  have HT := Lib.hid ht
  have HCK := Lib.hid hck
  have hwi : within h 0 c.last = true := by simp [within]; omega
  have HPB := Lib.hid hwi
  obtain ⟨Z, hZ1, hZ2, hZ3⟩ := mk_ints (c.last + 1) (by omega) (by omega)
  have HZ1 := Lib.hid hZ1
  have HZ2 := Lib.hid hZ2
  clear hq ho ht hck hwi hZ1 hZ2
  go_enter Tryz.func54, Tryz.ntmps54
  go_wp2
  obtain ⟨W1, hW1⟩ : ∃ W1, w.alloc (.cells (copCs c q) 41) = W1 := ⟨_, rfl⟩
  rw [hW1]
  have hbx : Box W1 w.heap.size (copCs c q) := by rw [← hW1]; exact Box.new _ _ _ _
  have HB1 : Hid (Below w.heap.size w W1) := by rw [← hW1]; exact bl_al (Below.refl _ _) _
  have k0 : W1.cell? ⟨w.heap.size, 0, none⟩ = some (.int .i64 c.last) := hbx 0
  have k1 : W1.cell? ⟨w.heap.size, 1, none⟩ = some (.int .i64 c.start) := hbx 1
  have k2 : W1.cell? ⟨w.heap.size, 2, none⟩ = some (.int .i64 c.most) := hbx 2
  have k3 : W1.cell? ⟨w.heap.size, 3, none⟩ = some (.int .i64 c.per) := hbx 3
  have k4 : W1.cell? ⟨w.heap.size, 4, none⟩ = some (.int .i64 c.shovels) := hbx 4
  have k5 : W1.cell? ⟨w.heap.size, 5, none⟩ = some (.slice q.a1 c.coal.length q.c1) := hbx 5
  have k6 : W1.cell? ⟨w.heap.size, 6, none⟩ = some (.slice q.a2 c.want.length q.c2) := hbx 6
  have k7 : W1.cell? ⟨w.heap.size, 7, none⟩ = some (.int .i64 c.hlo) := hbx 7
  have k8 : W1.cell? ⟨w.heap.size, 8, none⟩ = some (.int .i64 c.hhi) := hbx 8
  have k9 : W1.cell? ⟨w.heap.size, 9, none⟩ = some (.slice q.a3 c.loss.length q.c3) := hbx 9
  have k10 : W1.cell? ⟨w.heap.size, 10, none⟩ = some (.slice q.a4 c.rds.length q.c4) := hbx 10
  have HBX := Lib.hid hbx
  clear hW1 hbx
  go_region_held3 (fun w' => w'.cell? ⟨w.heap.size, 0, none⟩ = some (.int .i64 c.last) ∧ w'.cell? ⟨w.heap.size, 1, none⟩ = some (.int .i64 c.start) ∧ w'.cell? ⟨w.heap.size, 2, none⟩ = some (.int .i64 c.most) ∧ w'.cell? ⟨w.heap.size, 3, none⟩ = some (.int .i64 c.per) ∧ w'.cell? ⟨w.heap.size, 4, none⟩ = some (.int .i64 c.shovels) ∧ w'.cell? ⟨w.heap.size, 5, none⟩ = some (.slice q.a1 c.coal.length q.c1) ∧ w'.cell? ⟨w.heap.size, 6, none⟩ = some (.slice q.a2 c.want.length q.c2) ∧ w'.cell? ⟨w.heap.size, 7, none⟩ = some (.int .i64 c.hlo) ∧ w'.cell? ⟨w.heap.size, 8, none⟩ = some (.int .i64 c.hhi) ∧ w'.cell? ⟨w.heap.size, 9, none⟩ = some (.slice q.a3 c.loss.length q.c3) ∧ w'.cell? ⟨w.heap.size, 10, none⟩ = some (.slice q.a4 c.rds.length q.c4)) (first | assumption | go_keep) (first | (go_at_call 115; refine (hour_c c q h _).mono ?_; rintro e w5 ⟨rfl, hb5⟩; rw [HPB.out]; have HB5 := Lib.hid hb5; have hS5 : (fun w' => w'.cell? ⟨w.heap.size, 0, none⟩ = some (.int .i64 c.last) ∧ w'.cell? ⟨w.heap.size, 1, none⟩ = some (.int .i64 c.start) ∧ w'.cell? ⟨w.heap.size, 2, none⟩ = some (.int .i64 c.most) ∧ w'.cell? ⟨w.heap.size, 3, none⟩ = some (.int .i64 c.per) ∧ w'.cell? ⟨w.heap.size, 4, none⟩ = some (.int .i64 c.shovels) ∧ w'.cell? ⟨w.heap.size, 5, none⟩ = some (.slice q.a1 c.coal.length q.c1) ∧ w'.cell? ⟨w.heap.size, 6, none⟩ = some (.slice q.a2 c.want.length q.c2) ∧ w'.cell? ⟨w.heap.size, 7, none⟩ = some (.int .i64 c.hlo) ∧ w'.cell? ⟨w.heap.size, 8, none⟩ = some (.int .i64 c.hhi) ∧ w'.cell? ⟨w.heap.size, 9, none⟩ = some (.slice q.a3 c.loss.length q.c3) ∧ w'.cell? ⟨w.heap.size, 10, none⟩ = some (.slice q.a4 c.rds.length q.c4)) w5 := ⟨cell_later hb5 (w := W1.drew) k0, cell_later hb5 (w := W1.drew) k1, cell_later hb5 (w := W1.drew) k2, cell_later hb5 (w := W1.drew) k3, cell_later hb5 (w := W1.drew) k4, cell_later hb5 (w := W1.drew) k5, cell_later hb5 (w := W1.drew) k6, cell_later hb5 (w := W1.drew) k7, cell_later hb5 (w := W1.drew) k8, cell_later hb5 (w := W1.drew) k9, cell_later hb5 (w := W1.drew) k10⟩; dsimp only at hS5; clear hb5) | (go_at_call 114; refine (asked_ok c q _ (HQ.out.up (bl_tr (bl_dr HB1.out) HB5.out)) HO.out.small HCK.out HT.out).mono ?_; rintro e w6 ⟨m, v, rfl, hm6, hmp6, hwk6, hb6⟩; have HW6 := Lib.hid hwk6; have HB6 := Lib.hid (bl_tr HB5.out hb6); have HM6 := Lib.hid hm6; have hS6 : (fun w' => w'.cell? ⟨w.heap.size, 0, none⟩ = some (.int .i64 c.last) ∧ w'.cell? ⟨w.heap.size, 1, none⟩ = some (.int .i64 c.start) ∧ w'.cell? ⟨w.heap.size, 2, none⟩ = some (.int .i64 c.most) ∧ w'.cell? ⟨w.heap.size, 3, none⟩ = some (.int .i64 c.per) ∧ w'.cell? ⟨w.heap.size, 4, none⟩ = some (.int .i64 c.shovels) ∧ w'.cell? ⟨w.heap.size, 5, none⟩ = some (.slice q.a1 c.coal.length q.c1) ∧ w'.cell? ⟨w.heap.size, 6, none⟩ = some (.slice q.a2 c.want.length q.c2) ∧ w'.cell? ⟨w.heap.size, 7, none⟩ = some (.int .i64 c.hlo) ∧ w'.cell? ⟨w.heap.size, 8, none⟩ = some (.int .i64 c.hhi) ∧ w'.cell? ⟨w.heap.size, 9, none⟩ = some (.slice q.a3 c.loss.length q.c3) ∧ w'.cell? ⟨w.heap.size, 10, none⟩ = some (.slice q.a4 c.rds.length q.c4)) w6 := ⟨cell_later HB6.out (w := W1.drew) k0, cell_later HB6.out (w := W1.drew) k1, cell_later HB6.out (w := W1.drew) k2, cell_later HB6.out (w := W1.drew) k3, cell_later HB6.out (w := W1.drew) k4, cell_later HB6.out (w := W1.drew) k5, cell_later HB6.out (w := W1.drew) k6, cell_later HB6.out (w := W1.drew) k7, cell_later HB6.out (w := W1.drew) k8, cell_later HB6.out (w := W1.drew) k9, cell_later HB6.out (w := W1.drew) k10⟩; dsimp only at hS6; clear hb6 hm6 hmp6 hwk6))
  have HQ6 := Lib.hid (HQ.out.up (bl_tr (bl_dr HB1.out) HB6.out))
  have HB7 : Hid (Below w.heap.size w w6) := bl_tr (bl_dr HB1.out) HB6.out
  have e0 := hS6.1
  clear hS6 k0 k1 k2 k3 k4 k5 k6 k7 k8 k9 k10
  go_wp2
  clear hZ3 e0
  go_loopw [9] (fun i wr => ∃ (k : Nat) (cu : Array Value), k ≤ 21 ∧ i = .int .i64 (20 - (k : Int)) ∧ Below w6.heap.size w6 wr ∧ wr.heap[w6.heap.size]? = some (.cells cu 3 (0, 0)) ∧ cu.size = (c.last + 1).toNat ∧ (∀ j, j < (c.last + 1).toNat → j ≠ h → cu[j]? = some (.int .i64 0)) ∧ spareI c h = idxN (fun k => moreC c (singleL c h (20 - (k : Int))) == 1) k (21 - k)) (fun i _ => (intOf i + 1).toNat)
  case atStart =>
    exact ⟨0, Z, by omega, rfl, bl_al (Below.refl _ _) _, World.alloc_heap_new w6 _, HZ1.out, fun j hj _ => HZ2.out j hj, rfl⟩
  case round =>
    obtain ⟨k, cu, hk, rfl, hb, hg, hcs, hcu, hi⟩ := hrel
    have HB := Lib.hid hb
    have HG := Lib.hid hg
    have HCU := Lib.hid hcu
    have HCS := Lib.hid hcs
    have HI := Lib.hid hi
    clear hb hcu hcs hi
    by_cases hlt : k < 21
    · have hch : ∃ u, wr.cell? ⟨w6.heap.size, h, none⟩ = some u := ⟨_, by
        simp only [World.cell?, hg]
        exact Array.getElem?_eq_getElem (by have := HCS.out; omega)⟩
      obtain ⟨u, hch⟩ := hch
      have hfh : wr.frozen? ⟨w6.heap.size, h, none⟩ = false := by simp [World.frozen?, hg]
      have hh1 : (h : Int) < ((c.last + 1).toNat : Int) := by omega
      have hge : (0 : Int) ≤ 20 - (k : Int) := by omega
      have HHS : Hid ((wr.setCell ⟨w6.heap.size, h, none⟩ (.int .i64 (20 - (k : Int)))).heap[w6.heap.size]? = some (.cells (cu.setIfInBounds h (.int .i64 (20 - (k : Int)))) 3 (0, 0))) := heap_setCell_same _ _ h _ _ _ HG.out
      have HBW : Hid (Below w6.heap.size w6 (wr.setCell ⟨w6.heap.size, h, none⟩ (.int .i64 (20 - (k : Int))))) := bl_st HB.out (Nat.le_refl _) _
      have HCU2 : Hid (∀ j, j < (c.last + 1).toNat → (cu.setIfInBounds h (.int .i64 (20 - (k : Int))))[j]? = some (.int .i64 (nth (singleL c h (20 - (k : Int))) j))) := fun j hj => by
        rw [singleL, nth_rowI _ hj]
        by_cases he : j = h
        · subst he
          rw [if_pos rfl]
          simp [HCS.out, hj]
        · rw [if_neg he, Array.getElem?_setIfInBounds_ne (by omega)]
          exact HCU.out j hj he
      have HLEN : Hid ((singleL c h (20 - (k : Int))).length = (c.last + 1).toNat) := by unfold Hid; rw [singleL, rowI_len]
      have HIN : Hid (IntsAt (wr.setCell ⟨w6.heap.size, h, none⟩ (.int .i64 (20 - (k : Int)))) (wr.setCell ⟨w6.heap.size, h, none⟩ (.int .i64 (20 - (k : Int)))).heap.size (some ⟨w6.heap.size, 0, none⟩) (singleL c h (20 - (k : Int)))) := .inr ⟨w6.heap.size, 0, rfl, (Array.getElem?_eq_some_iff.1 HHS.out).1, fun j hj => by
        have := HCU2.out j (by have := HLEN.out; omega)
        rw [Nat.zero_add]
        have h2 := HHS.out
        simp only [World.cell?, h2]
        exact this⟩
      have HSC : Hid (∀ (n : Nat), n = (c.last + 1).toNat → Calls Tryz.prog 116 #[.pointer (some ⟨m + 1, 0, none⟩), .slice (some ⟨w6.heap.size, 0, none⟩) n (c.last + 1).toNat] (wr.setCell ⟨w6.heap.size, h, none⟩ (.int .i64 (20 - (k : Int)))) fun e w' => e = .returned (.int .i64 (moreC c (singleL c h (20 - (k : Int))))) ∧ Below (wr.setCell ⟨w6.heap.size, h, none⟩ (.int .i64 (20 - (k : Int)))).heap.size (wr.setCell ⟨w6.heap.size, h, none⟩ (.int .i64 (20 - (k : Int)))) w') := fun n hn => by
        subst hn
        have := with_c c q (truthsC c) (m + 1) m (m + 9) v (singleL c h (20 - (k : Int))) (some ⟨w6.heap.size, 0, none⟩) (c.last + 1).toNat _ (HQ6.out.up HBW.out) (HW6.out.up HBW.out) HO.out (truths_sc hl0) (truths_len HO.out) (by have := HLEN.out; omega) (nth_single (by omega)) HIN.out
        rw [HLEN.out] at this
        exact this
      clear hg HIN
      cases hv : (moreC c (singleL c h (20 - (k : Int))) == 1) with
      | true =>
        have HF : Hid (spareV c h = .tuple #[.int .i64 (20 - (k : Int)), .int .i64 0]) := by
          have := idxN_hit hlt HI.out hv
          unfold Hid spareV spareI
          rw [this, if_pos (by omega)]
        have hv' : moreC c (singleL c h (20 - (k : Int))) = 1 := by simpa using hv
        have HV := Lib.hid hv'
        clear hv hv'
        go_wp2_with (go_at_call 116; refine (HSC.out _ rfl).mono ?_; rw [HV.out]; rintro e w8 ⟨rfl, hb8⟩; have HB8 := Lib.hid hb8; clear hb8)
        all_goals (
          go_ret2
          exact ⟨by rw [HF.out]; rfl, bl_tr (bl_tr HB7.out HBW.out) HB8.out⟩)
      | false =>
        have HJ := Lib.hid (idxN_step hlt HI.out hv)
        go_wp2_with (go_at_call 116; refine (HSC.out _ rfl).mono ?_; rintro e w8 ⟨rfl, hb8⟩; have HB8 := Lib.hid hb8; clear hb8)
        go_roundw
        case rel =>
          refine ⟨k + 1, _, by omega, by go_num, bl_tr HBW.out HB8.out, (HB8.out.block _ (Array.getElem?_eq_some_iff.1 HHS.out).1).trans HHS.out, by simpa using HCS.out, fun j hj hne => ?_, HJ.out⟩
          rw [Array.getElem?_setIfInBounds_ne (by omega)]
          exact HCU.out j hj hne
        case measure => simp [intOf]; omega
    · obtain rfl : k = 21 := by omega
      have HF : Hid (spareV c h = .tuple #[.int .i64 0, .int .i64 10]) := by
        have : spareI c h = -1 := idxN_end HI.out
        unfold Hid spareV
        rw [this, if_neg (by omega)]
      clear hg
      go_wp2
      go_ret2
      exact ⟨by rw [HF.out]; rfl, bl_tr HB7.out HB.out⟩
end Go.Proofs.YtpgnplmjfhdncaaGreat
namespace Go.Proofs.YtpgnplmjfhdncaaGreat
open Go.RowKit
set_option linter.unusedVariables false
/-- 1 if the promise of an hour is kept, else 0. -/
def fulI (c : Cop) (h : Nat) (s : Int × List Int) : Int := if nb (keptL c c.coal c.want s (c.last + 1).toNat) h = true then 1 else 0
/-- Whether the promise of an hour is kept. -/
def keepV (c : Cop) (h : Nat) : Int := verd (bndI (fun j => fulI c h (scN (truthsC c) j)) (truthsC c).length).1 (bndI (fun j => fulI c h (scN (truthsC c) j)) (truthsC c).length).2
def keepsL (c : Cop) (n : Nat) : List Int := rowI (keepV c) n
theorem ful_past (c : Cop) (s : Int × List Int) (h : Nat) (h0 : 0 ≤ c.last) (h4 : c.last ≤ 4) (hh : (h : Int) ≤ c.last) (W : World) (u : Value) (hu : PastV c c.coal c.want s u W) :
    Calls Tryz.prog 141 #[u, .int .i64 h] W fun e W' => e = .returned (.int .i64 (fulI c h s)) ∧ Below W.heap.size W W' :=
  fulfilled_c (hotL c c.coal c.want s (c.last + 1).toNat) (leftL c c.coal c.want s (c.last + 1).toNat) (keptL c c.coal c.want s (c.last + 1).toNat) u h W (by rw [keptL, rowB_len]; omega) (by rw [keptL, rowB_len]; omega) hu
theorem bful_c (c : Cop) (q : CA) (b m base : Nat) (v : Value) (h : Nat) (w : World)
    (hq : CopAt w w.heap.size c q) (hw : WorkAt c q (truthsC c) b m base v w) (ho : Okc c) (hh : (h : Int) ≤ c.last) :
    Calls Tryz.prog 129 #[.agg #[.func (.func 141) #[] #[]], .pointer (some ⟨b, 0, none⟩), .slice q.a2 c.want.length q.c2, .int .i64 h] w fun e w' => e = .returned (.agg #[.int .i64 (bndI (fun j => fulI c h (scN (truthsC c) j)) (truthsC c).length).1, .int .i64 (bndI (fun j => fulI c h (scN (truthsC c) j)) (truthsC c).length).2]) ∧ Below w.heap.size w w' :=
  bounds_c c q (truthsC c) b m base v 141 h (fun j => fulI c h (scN (truthsC c) j)) c.want q.a2 q.c2 w hq hw ho (truths_sc ho.l0) (truths_len ho) ho.wl (fun j => by have := ho.wb j; omega) hq.want (enters_of Tryz.func141 (by kernel_rfl) rfl) (fun j hj W u hu => ful_past c (scN (truthsC c) j) h ho.l0 ho.l4 hh W u hu)
set_option maxRecDepth 100000 in
set_option maxHeartbeats 4000000 in
theorem keeps_c (c : Cop) (q : CA) (w : World) (hq : CopAt w w.heap.size c q) (hck : checkCop c = 0) (ht : truthsC c ≠ []) :
    Calls Tryz.prog 109 #[copV c q] w fun e w' => ∃ A k, e = .returned (.tuple #[.slice A (c.last + 1).toNat k, .int .i64 0]) ∧ IntsAt w' w'.heap.size A (keepsL c (c.last + 1).toNat) ∧ Below w.heap.size w w' := by
  have ho := okc_of hck
  have hl0 := ho.l0
  have hl4 := ho.l4
  have HQ := Lib.hid hq
  have HO := Lib.hid ho
  have HCK := Lib.hid hck
  have HT := Lib.hid ht
  clear hq hck ht ho
  go_enter Tryz.func109, Tryz.ntmps109
  go_wp2_with (go_at_call 114; refine (asked_ok c q _ (HQ.out.up (bl_al (Below.refl _ _) _)) HO.out.small HCK.out HT.out).mono ?_; rintro e w1 ⟨m, v, rfl, hm1, hmp1, hwk1, hb⟩; have HBX : Hid (Box w1 w.heap.size (copCs c q)) := (Box.new w (copCs c q) 41 (0, 0)).bl (by simp) hb; have hbx := HBX.out; unfold Box copCs at hbx; have HB := Lib.hid (bl_tr (bl_al (Below.refl w.heap.size w) _) hb); have HWK := Lib.hid hwk1; clear hb hm1 hmp1 hwk1)
  clear hbx
  go_loopw [6, 19] (fun v6 i wr => ∃ (j : Nat), (j : Int) ≤ c.last + 1 ∧ i = .int .i64 j ∧ Below w1.heap.size w1 wr ∧ wr.ownsRow w1.heap.size 3 1 v6 j (ints (keepsL c j))) (fun _ i _ => (c.last + 1).toNat - (intOf i).toNat)
  case atStart => exact ⟨0, by simp; omega, rfl, Below.refl _ _, World.ownsRow_nil _ _ _ _⟩
  case round =>
    obtain ⟨j, hj, rfl, hb, hx⟩ := hrel
    have HB1 := Lib.hid hb
    have HX := Lib.hid hx
    have hbx : Box wr w.heap.size (copCs c q) := HBX.out.bl (by simp) hb
    unfold Box copCs at hbx
    clear hb hx
    by_cases hlt : (j : Int) < c.last + 1
    · have HJ : Hid ((j : Int) ≤ c.last) := by unfold Hid; omega
      have HJ2 : Hid (j ≤ 1000000) := by unfold Hid; omega
      obtain ⟨A2, k2, rfl⟩ := own_shape6 HX.out
      have hq1 : CopAt wr wr.heap.size c q := HQ.out.up (bl_tr HB.out HB1.out)
      have HQ1 := Lib.hid hq1
      clear hq1
      go_wp2_with (first | (go_at_call 129; refine (bful_c c q (m + 1) m (m + 9) v j _ HQ1.out (HWK.out.up HB1.out) HO.out HJ.out).mono ?_; clear hbx HQ1; rintro e w5 ⟨rfl, hb5⟩; have HB5 := Lib.hid (bl_tr HB1.out hb5); have HX5 := Lib.hid (own_below HX.out hb5); clear hb5) | (go_at_call 140; refine (verdict_c _ _ _).mono ?_; rintro e w6 ⟨rfl, hb6⟩; have HB6 := Lib.hid (bl_tr HB5.out hb6); have HX6 := Lib.hid (own_below HX5.out hb6); clear hb6) | (refine wpList_append_k rfl w1.heap.size _ _ 22 3 _ 1 8 rfl Tryz.underlying22 info3 rfl (by decide) (by decide) (.slice A2 j k2) j _ [.int .i64 (keepV c j)] w6.heap.size rfl rfl (World.alloc_heap_new w6 _) rfl (by simp [Value.oneCell']) (HX6.out.alloc _) (by have h1 := HB6.out.size; simp; omega) HJ2.out ?_; intro v1 w8 ho8 hg8 hat8; obtain ⟨A5, k5, rfl⟩ := own_shape6 ho8; have HY8 := Lib.hid ho8; have HB8 : Hid (Below w1.heap.size w1 w8) := bl_gr (bl_al HB6.out _) hg8 (fun k hk => (HX6.out.lt k hk).1); clear ho8 hg8 hat8))
      go_roundw
      case rel =>
        refine ⟨j + 1, by omega, by go_num, HB8.out, ?_⟩
        have := HY8.out
        unfold keepsL
        rw [rowI_snoc, ints_snoc]
        exact this
      case measure => simp [intOf]; omega
    · have hjn : (c.last + 1).toNat = j := by omega
      obtain ⟨A2, k2, rfl, hi, -⟩ := own_ints HX.out
      have HI := Lib.hid hi
      have HJN := Lib.hid hjn
      clear hi hjn
      go_wp2
      go_ret2
      exact ⟨A2, ⟨k2, by rw [HJN.out, keepsL, rowI_len]; rfl⟩, by rw [HJN.out]; exact HI.out, bl_tr HB.out HB1.out⟩
def lacksI (c : Cop) : Int := idxN (fun j => !(keepV c j == 1)) 0 (c.last + 1).toNat
def lacksV (c : Cop) : Value := if lacksI c < 0 then .tuple #[.int .i64 0, .int .i64 7] else .tuple #[.int .i64 (lacksI c), .int .i64 0]
theorem lacks1_c (x : Int) (w : World) : Calls Tryz.prog 111 #[.int .i64 x] w fun e w' => e = .returned (.bool (!(x == 1))) ∧ Below w.heap.size w w' := by
  go_enter Tryz.func111, Tryz.ntmps111
  go_wp2
  go_ret
  exact ⟨rfl, Below.refl _ _⟩
theorem idxN_lt (p : Nat → Bool) : ∀ (d i : Nat), idxN p i d < i + d := by
  intro d
  induction d with
  | zero => intro i; simp only [idxN]; omega
  | succ d ih => intro i; simp only [idxN]; split; omega; have := ih (i + 1); omega
theorem idxN_cong {p p' : Nat → Bool} : ∀ (d i : Nat), (∀ j, i ≤ j → j < i + d → p j = p' j) → idxN p i d = idxN p' i d := by
  intro d
  induction d with
  | zero => intro i _; rfl
  | succ d ih => intro i h; simp only [idxN]; rw [h i (by omega) (by omega), ih (i + 1) (fun j h1 h2 => h j (by omega) (by omega))]
theorem idxN_ge1 (p : Nat → Bool) : ∀ (d i : Nat), -1 ≤ idxN p i d := by
  intro d
  induction d with
  | zero => intro i; simp only [idxN]; omega
  | succ d ih => intro i; simp only [idxN]; split; omega; exact ih (i + 1)
set_option maxRecDepth 100000 in
set_option maxHeartbeats 4000000 in
theorem lacks_c (c : Cop) (q : CA) (w : World) (hq : CopAt w w.heap.size c q) (hck : checkCop c = 0) (ht : truthsC c ≠ []) :
    Calls Tryz.prog 52 #[copV c q] w fun e w' => e = .returned (lacksV c) ∧ Below w.heap.size w w' := by
  have HQ := Lib.hid hq
  have hl4 := (okc_of hck).l4
  have HE : Hid (∀ (A : Option Addr) (k : Nat) (W : World), IntsAt W W.heap.size A (keepsL c (c.last + 1).toNat) → Calls Tryz.prog 110 #[.slice A (c.last + 1).toNat k, .func (.func 111) #[] #[]] W fun e w' => e = .returned (.int .i64 (lacksI c)) ∧ Below W.heap.size W w') := fun A k W hx => by
    have hlen : (keepsL c (c.last + 1).toNat).length = (c.last + 1).toNat := by rw [keepsL, rowI_len]
    have := idxI_c 111 #[] #[] (enters_of Tryz.func111 (by kernel_rfl) rfl) (fun j => !(keepV c j == 1)) (keepsL c (c.last + 1).toNat) A k W (by rw [hlen]; omega) hx (fun j hj W hW => by
      have hj' : j < (c.last + 1).toNat := by rw [hlen] at hj; exact hj
      have e : nth (keepsL c (c.last + 1).toNat) j = keepV c j := by rw [keepsL, nth_rowI _ hj']
      rw [e]
      exact lacks1_c (keepV c j) W)
    rw [hlen] at this
    exact this
  clear hq
  go_enter Tryz.func52, Tryz.ntmps52
  by_cases hl : lacksI c < 0
  · have HF : Hid (lacksV c = .tuple #[.int .i64 0, .int .i64 7]) := by unfold Hid lacksV; rw [if_pos hl]
    go_wp2_with (first | (go_at_call 109; refine (keeps_c c q _ (HQ.out.up (bl_al (Below.refl _ _) _)) hck ht).mono ?_; rintro e w1 ⟨A, k, rfl, hi, hb⟩; have HI := Lib.hid hi; have HB := Lib.hid (bl_tr (bl_al (Below.refl w.heap.size w) _) hb); clear hi hb) | (go_at_call 110; refine (HE.out A k _ HI.out).mono ?_; rintro e w2 ⟨rfl, hb⟩; have HB2 := Lib.hid (bl_tr HB.out hb); clear hb))
    go_ret2
    exact ⟨by rw [HF.out]; rfl, HB2.out⟩
  · have HF : Hid (lacksV c = .tuple #[.int .i64 (lacksI c), .int .i64 0]) := by unfold Hid lacksV; rw [if_neg hl]
    go_wp2_with (first | (go_at_call 109; refine (keeps_c c q _ (HQ.out.up (bl_al (Below.refl _ _) _)) hck ht).mono ?_; rintro e w1 ⟨A, k, rfl, hi, hb⟩; have HI := Lib.hid hi; have HB := Lib.hid (bl_tr (bl_al (Below.refl w.heap.size w) _) hb); clear hi hb) | (go_at_call 110; refine (HE.out A k _ HI.out).mono ?_; rintro e w2 ⟨rfl, hb⟩; have HB2 := Lib.hid (bl_tr HB.out hb); clear hb))
    go_ret2
    exact ⟨by rw [HF.out]; rfl, HB2.out⟩
end Go.Proofs.YtpgnplmjfhdncaaGreat
