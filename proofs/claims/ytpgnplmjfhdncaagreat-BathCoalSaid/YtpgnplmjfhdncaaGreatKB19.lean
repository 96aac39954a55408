/- A part of the proof: B19. -/
import Derived.Test.YtpgnplmjfhdncaaGreatKB17
namespace Go.Proofs.YtpgnplmjfhdncaaGreat
open Go.RowKit
set_option linter.unusedVariables false
theorem Fr.lit47 {a0 a : Act} {v8 v9 v10 : Value} (h : Fr 8 23 a0 a) (hs : a0.tmps.size = 47) (h8 : slots a 8 = v8) (h9 : slots a 9 = v9) (h10 : slots a 10 = v10) : ∃ f : Nat → Value, a = { tmps := #[slots a0 0, slots a0 1, slots a0 2, slots a0 3, slots a0 4, slots a0 5, slots a0 6, slots a0 7, v8, v9, v10, f 11, f 12, f 13, f 14, f 15, f 16, f 17, f 18, f 19, f 20, f 21, f 22, f 23, slots a0 24, slots a0 25, slots a0 26, slots a0 27, slots a0 28, slots a0 29, slots a0 30, slots a0 31, slots a0 32, slots a0 33, slots a0 34, slots a0 35, slots a0 36, slots a0 37, slots a0 38, slots a0 39, slots a0 40, slots a0 41, slots a0 42, slots a0 43, slots a0 44, slots a0 45, slots a0 46], defers := a0.defers } := by
  refine ⟨slots a, ?_⟩
  have := h.lit
  rw [hs] at this
  subst h8
  subst h9
  subst h10
  exact this
theorem memo_set {F : List Int → Int} {m : Nat} {w : World} (h : MemoAt F m w) {g o : Nat} (hg : g ≠ m) (v : Value) : MemoAt F m (w.setCell ⟨g, o, none⟩ v) := by
  obtain ⟨es, clock, h1, h2⟩ := h
  exact ⟨es, clock, (Below.heap_setCell _ _ _ _ (by simp; omega)).trans h1, h2⟩
theorem BW.setCell {r : Rm} {q : RA} {B m : Nat} {w : World} (h : BW r q B (m + 1) m w) {g : Nat} (hB : B ≤ g) (h1 : g ≠ m) (h2 : g ≠ m + 1) (o : Nat) (v : Value) : BW r q B (m + 1) m (w.setCell ⟨g, o, none⟩ v) :=
  ⟨h.ok, (Below.heap_setCell _ _ _ _ (by simp; omega)).trans h.cells, memo_set h.memo h1 v, h.at_.below ((Below.refl B w).setCell (p := ⟨g, o, none⟩) hB v), h.bm, rfl⟩
theorem BW.lower {r : Rm} {q : RA} {B B' wb m : Nat} {w : World} (h : BW r q B wb m w) (hB : B' ≤ B) (hr : RoomAt w B' r q) : BW r q B' wb m w := ⟨h.ok, h.cells, h.memo, hr, by have := h.bm; omega, h.wbm⟩
theorem nvs_add (n : List Int) (h : Nat) (h5 : h < 5) (k : Int) : (nvs (addAt n h k)).setIfInBounds h (.int .i64 (nth n h + k + 1)) = nvs (addAt n h (k + 1)) := by
  rw [nvs_set _ (by simp [addAt, rowI_len]) h h5]
  have : (addAt n h k).set h (nth n h + k + 1) = addAt n h (k + 1) := by
    refine ext_nth (by simp [addAt, rowI_len]) (fun i hi => ?_)
    have hi5 : i < 5 := by simpa [addAt, rowI_len] using hi
    rw [nth_set _ _ _ _ (by simp [addAt, rowI_len]; exact h5), nth_addAt _ _ _ _ hi5, nth_addAt _ _ _ _ hi5]
    by_cases he : i = h
    · subst he; rw [if_pos rfl, if_pos rfl]; omega
    · rw [if_neg he, if_neg he, if_neg he]
  rw [this]
theorem nvs_add0 (n : List Int) (h : Nat) : nvs (addAt n h 0) = nvs n := by
  have : ∀ i, i < 5 → nth (addAt n h 0) i = nth n i := fun i hi => by rw [nth_addAt _ _ _ _ hi]; split <;> omega
  unfold nvs
  rw [this 0 (by omega), this 1 (by omega), this 2 (by omega), this 3 (by omega), this 4 (by omega)]
theorem cnt_bd {r : Rm} {plan : List Int} (h0 : roomErr r = 0) (h1 : areB r plan = true) : ∀ j, 0 ≤ nth (countL plan plan.length) j ∧ nth (countL plan plan.length) j ≤ 5 := fun j => by
  simp only [areB, Bool.and_eq_true, decide_eq_true_eq] at h1
  have h5 := (room_ok h0).n5
  by_cases hj : j < 5
  · rw [countL, nth_rowI _ hj]
    have := cntI_le plan plan.length j
    omega
  · rw [nth_out _ _ (by rw [countL, rowI_len]; omega)]; omega
set_option maxRecDepth 100000 in
set_option maxHeartbeats 8000000 in
theorem freeY_c (r : Rm) (q : RA) (plan : List Int) (a1 : Option Addr) (c1 : Nat) (h : Nat) (w : World) (hq : RoomAt w w.heap.size r q) (hpl : plan.length ≤ 1000000000) (hx : IntsAt w w.heap.size a1 plan) (he : planErr r plan (within h 0 r.cop.last) = 0) (hsu : sureB r (countL plan plan.length) = true) :
    Calls Tryz.prog 48 #[roomV r q, .slice a1 plan.length c1, .int .i64 h] w fun e w' => e = .returned (.tuple #[.int .i64 (freeC r (countL plan plan.length) h), .int .i64 0]) ∧ Below w.heap.size w w' := by
  have HQ := Lib.hid hq
  have HX := Lib.hid hx
  have HE := Lib.hid he
  obtain ⟨hroom, hare, hw1, _⟩ := planErr_ok he
  have ho := room_ok hroom
  have hl4 := ho.cop.l4
  simp only [within, Bool.and_eq_true, decide_eq_true_eq] at hw1
  have h5 : h < 5 := by omega
  have HN := Lib.hid (cnt_bd hroom hare)
  have HO := Lib.hid ho
  have HHL := Lib.hid hw1.2
  generalize hn : countL plan plan.length = n at *
  have HPY : Hid (∀ w1 : World, RoomAt w1 w1.heap.size r q → IntsAt w1 w1.heap.size a1 plan → Calls Tryz.prog 83 #[roomV r q, .slice a1 plan.length c1, .bool (within h 0 r.cop.last)] w1 fun e w' => ∃ m, e = .returned (.tuple #[.pointer (some ⟨m + 1, 0, none⟩), nv n, .int .i64 0]) ∧ BW r q w1.heap.size (m + 1) m w' ∧ Below w1.heap.size w1 w') := fun w1 hq hx => by
    have := planned_y r q plan a1 c1 (within h 0 r.cop.last) w1 hq hpl hx HE.out
    rw [hn] at this
    exact this
  clear hq hx he hroom hare hw1 ho hn
  go_enter Tryz.func48, Tryz.ntmps48
  go_wp2
  refine r48 _ rfl _ _ r q a1 plan.length c1 h w.heap.size n 0 (fun m => .pointer (some ⟨m + 1, 0, none⟩)) (fun m w' => BW r q w.heap.size (m + 1) m w') (fun g m => g ≠ m ∧ g ≠ m + 1) rfl rfl rfl rfl (Box.new _ _ _ _) (by simp) ?_ (fun m a b hz hb => hz.up hb) (fun m a hz => by have := hz.lt; omega) (fun m a g o v hz hs hg => hz.setCell (by simp at hg; omega) hs.1 hs.2 o v) ?_
  · intro w1 hb
    have hb' : Below w.heap.size w w1 := bl_tr (bl_al (Below.refl _ _) _) hb
    refine (HPY.out w1 (HQ.out.up hb') (HX.out.up hb')).mono ?_
    rintro e w2 ⟨m, rfl, hbw, hb2⟩
    exact ⟨m, rfl, hb2, hbw.lower hb'.size (HQ.out.below (hb'.trans (hb2.mono hb'.size))), fun g hg => by have := hbw.bm; omega⟩
  · intro a w2 m g hF hb h8 h9 hg hgh h10 hz hs
    have HB := Lib.hid (bl_tr (bl_al (Below.refl w.heap.size w) _) hb)
    have HZ := Lib.hid hz
    have HS := Lib.hid hs
    have HG := Lib.hid hg
    have HGH := Lib.hid hgh
    obtain ⟨f, rfl⟩ := hF.lit47 rfl h8 h9 h10
    have hcg : ∀ o, w2.cell? ⟨g, o, none⟩ = (nvs n)[o]? := fun o => by simp [World.cell?, hgh]
    clear hF h8 h9 h10 hb hgh hg hz hs
    simp only [slots, List.getElem?_toArray, List.getElem?_cons_succ, List.getElem?_cons_zero, Option.getD_some]
    go_wp2_with (go_at_call 98; refine (sureR_c r q w.heap.size (m + 1) m n _ HZ.out (fun j => ⟨(HN.out j).1, by have := (HN.out j).2; omega⟩)).mono ?_; rw [hsu]; rintro e w5 ⟨rfl, hbw5, hext5⟩; have hgh5 : w5.heap[g]? = some (.cells (nvs n) 115 (0, 0)) := ((hext5.block g (Array.getElem?_eq_some_iff.1 HGH.out).1 (by simp; exact HS.out.1)).trans HGH.out); have HGH5 := Lib.hid hgh5; have hc5 : w5.cell? ⟨g, h, none⟩ = some (.int .i64 (nth n h)) := (by simp only [World.cell?, hgh5]; exact nvs_at n h h5); have hf5 : w5.frozen? ⟨g, h, none⟩ = false := (by simp [World.frozen?, hgh5]); have HX5 := Lib.hid hext5; have HZ5 := Lib.hid hbw5; clear hbw5 hext5 hcg hgh5; have hnh := HN.out h; have hh51 : (h : Int) < 5 := (by omega))
    have hgm := HS.out
    clear hgm
    have hidx : freeC r n h = idxN (fun k => !sureB r (addAt n h ((k : Int) + 1))) 0 (7 - 0) := rfl
    have HB5 : Hid (Below w.heap.size w w5) := HB.out.trans (HX5.out.below HB.out.size (fun k hk => by simp at hk; subst hk; exact HZ.out.bm))
    clear hc5 hf5 HZ HX5
    go_loopw [11] (fun i wr => ∃ k : Nat, k ≤ 6 ∧ i = .int .i64 k ∧ wr.heap[g]? = some (.cells (nvs (addAt n h ((k : Int) + 1))) 115 (0, 0)) ∧ BW r q w.heap.size (m + 1) m wr ∧ Below w.heap.size w wr ∧ freeC r n h = idxN (fun k => !sureB r (addAt n h ((k : Int) + 1))) k (7 - k)) (fun i _ => 7 - (intOf i).toNat)
    case atStart =>
      refine ⟨0, by omega, rfl, ?_, HZ5.out.setCell (by have := HG.out; simp at this; omega) HS.out.1 HS.out.2 _ _, bl_st HB5.out (by have := HG.out; simp at this; show _ ≤ g; omega) _, rfl⟩
      rw [heap_setCell_same _ g h _ _ _ HGH5.out, ← nvs_add0 n h, show nth n h + 1 = nth n h + 0 + 1 from by omega, nvs_add n h h5]
      rfl
    case round =>
      obtain ⟨k, hk6, rfl, hgk, hbw, hbl, hi⟩ := hrel
      have HI := Lib.hid hi
      have HBW := Lib.hid hbw
      have HBL := Lib.hid hbl
      have HGK := Lib.hid hgk
      have hcg : ∀ o, wr.cell? ⟨g, o, none⟩ = (nvs (addAt n h ((k : Int) + 1)))[o]? := fun o => by simp [World.cell?, hgk]
      have HNK : Hid (∀ j, 0 ≤ nth (addAt n h ((k : Int) + 1)) j ∧ nth (addAt n h ((k : Int) + 1)) j ≤ 100) := fun j => by
        have := HN.out j
        by_cases hj : j < 5
        · rw [nth_addAt _ _ _ _ hj]; split <;> omega
        · rw [nth_out _ _ (by rw [addAt, rowI_len]; omega)]; omega
      have HKD : Hid (nth (addAt n h ((k : Int) + 1)) h = nth n h + ((k : Int) + 1)) := by unfold Hid; rw [nth_addAt _ _ _ _ h5, if_pos rfl]
      clear hgk hbw hbl hi hsu hidx
      cases hsu : sureB r (addAt n h ((k : Int) + 1)) with
      | false =>
        have HF : Hid (freeC r n h = k) := by unfold Hid; exact (idxN_hit (by omega) HI.out (by simp [hsu]))
        have HSU := Lib.hid hsu
        clear hsu
        go_wp2_with (go_at_call 98; refine (sureR_c r q w.heap.size (m + 1) m (addAt n h ((k : Int) + 1)) _ HBW.out HNK.out).mono ?_; rw [HSU.out]; rintro e w6 ⟨rfl, hbw6, hext6⟩; have HX6 := Lib.hid hext6; clear hbw6 hext6 hcg)
        all_goals (
          go_ret2
          exact ⟨by rw [HF.out]; rfl, HBL.out.trans (HX6.out.below HBL.out.size (fun k hk => by simp at hk; subst hk; exact HBW.out.bm))⟩)
      | true =>
        have hk5 : (k : Int) + 1 ≤ 5 := by
          by_cases h6 : 6 ≤ (k : Int) + 1
          · rw [addAt_out HO.out (fun j => (HN.out j).1) h HHL.out _ h6] at hsu; cases hsu
          · omega
        have HJ : Hid (freeC r n h = idxN (fun k => !sureB r (addAt n h ((k : Int) + 1))) (k + 1) (7 - (k + 1))) := by
          unfold Hid
          exact idxN_step (by omega) HI.out (by simp [hsu])
        have HSU := Lib.hid hsu
        clear hsu
        go_wp2_with (go_at_call 98; refine (sureR_c r q w.heap.size (m + 1) m (addAt n h ((k : Int) + 1)) _ HBW.out HNK.out).mono ?_; rw [HSU.out]; rintro e w6 ⟨rfl, hbw6, hext6⟩; have hgh6 : w6.heap[g]? = some (.cells (nvs (addAt n h ((k : Int) + 1))) 115 (0, 0)) := ((hext6.block g (Array.getElem?_eq_some_iff.1 HGK.out).1 (by simp; exact HS.out.1)).trans HGK.out); have HGH6 := Lib.hid hgh6; have hc6 : w6.cell? ⟨g, h, none⟩ = some (.int .i64 (nth n h + ((k : Int) + 1))) := (by simp only [World.cell?, hgh6]; rw [← HKD.out]; exact nvs_at _ h h5); have hf6 : w6.frozen? ⟨g, h, none⟩ = false := (by simp [World.frozen?, hgh6]); have HX6 := Lib.hid hext6; have HZ6 := Lib.hid hbw6; clear hbw6 hext6 hcg hgh6)
        go_roundw
        case rel =>
          refine ⟨k + 1, by omega, by go_num, ?_, HZ6.out.setCell (by have := HG.out; simp at this; omega) HS.out.1 HS.out.2 _ _, bl_st (HBL.out.trans (HX6.out.below HBL.out.size (fun k hk => by simp at hk; subst hk; exact HBW.out.bm))) (by have := HG.out; simp at this; show _ ≤ g; omega) _, HJ.out⟩
          rw [heap_setCell_same _ g h _ _ _ HGH6.out, nvs_add n h h5]
          rfl
        case measure => simp [intOf]; omega
end Go.Proofs.YtpgnplmjfhdncaaGreat
