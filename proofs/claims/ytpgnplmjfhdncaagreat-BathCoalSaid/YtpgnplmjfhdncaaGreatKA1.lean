/- The chapter's room: what comes of it. -/
import Derived.Test.YtpgnplmjfhdncaaGreatKS1
namespace Go.Proofs.YtpgnplmjfhdncaaGreat
open Go.RowKit
set_option linter.unusedVariables false
def threeC (want : Int) : Cop := { last := 2, start := 7, most := 60, per := 4, shovels := 3, coal := [2, 1, 0], want := [want, 1, 1], hlo := 10, hhi := 12, loss := [(2, 3), (4, 4), (0, 2)], rds := [] }
def threeR (baths : Nat) (want : Int) : Rm := { cop := threeC want, buckets := 2, places := 2, baths := [(0, 1), (1, 1), (0, 2)].take baths }
theorem th_ok : roomErr (threeR 3 1) = 0 ∧ roomErr (threeR 2 1) = 0 ∧ roomErr (threeR 1 1) = 0 := by decide +kernel
theorem th_play : planErr (threeR 3 1) [0, 1, 2] true = 0 ∧ bucketsL (threeR 3 1) (countL [0, 1, 2] 3) = [2, 2, 2] := by decide +kernel
theorem th_keeps : keepsF (threeR 3 1) (countL [0, 1, 2] 3) = 3 := by decide +kernel
theorem th_plan : (plansL (threeR 2 1) []).head? = some [0, 1] := by decide +kernel
theorem th_hours : hoursL (threeR 2 1) (plansL (threeR 2 1) []) 0 2 = [0, 1] := by decide +kernel
theorem th_give : sureB (threeR 3 1) [] = true ∧ giveO (threeR 3 1) = some [0] := by decide +kernel
theorem th_most : mostL (threeR 3 1) = [0, 0, 2] := by decide +kernel
theorem th_free : planErr (threeR 1 1) [0] (within 1 0 2) = 0 ∧ sureB (threeR 1 1) (countL [0] 1) = true ∧ freeC (threeR 1 1) (countL [0] 1) 1 = 1 := by decide +kernel
theorem th_coal : planErr (threeR 2 1) [0, 1] true = 0 ∧ leastO (wantW (threeR 2 1) (countL [0, 1] 2)) = some [1, 2, 0] := by decide +kernel
end Go.Proofs.YtpgnplmjfhdncaaGreat
/- The chapter's room. -/
namespace Go.Proofs.YtpgnplmjfhdncaaGreat
open Go.RowKit
set_option linter.unusedVariables false
theorem al_size (l : List Obj) : ∀ w : World, (l.foldl World.alloc w).heap.size = w.heap.size + l.length := by
  induction l with
  | nil => intro w; rfl
  | cons x l ih => intro w; rw [List.foldl_cons, ih, World.size_alloc, List.length_cons]; omega
theorem al_below (l : List Obj) : ∀ w : World, Below w.heap.size w (l.foldl World.alloc w) := by
  induction l with
  | nil => intro w; exact Below.refl _ _
  | cons x l ih => intro w; exact bl_tr (bl_al (Below.refl _ _) x) (ih _)
theorem al_at (l : List Obj) : ∀ (w : World) (i : Nat) (o : Obj), l[i]? = some o → (l.foldl World.alloc w).heap[w.heap.size + i]? = some o := by
  induction l with
  | nil => intro w i o h; cases h
  | cons x l ih =>
    intro w i o h
    cases i with
    | zero =>
      cases h
      rw [List.foldl_cons]
      exact ((al_below l (w.alloc x)).block _ (by simp)).trans (World.alloc_heap_new w x)
    | succ i =>
      have := ih (w.alloc x) i o h
      rw [World.size_alloc] at this
      rw [List.foldl_cons, show w.heap.size + (i + 1) = w.heap.size + 1 + i from by omega]
      exact this
theorem span_c (lo hi : Int) (w : World) : Calls Tryz.prog 124 #[.int .i64 lo, .int .i64 hi] w fun e w' => e = .returned (.agg #[.int .i64 lo, .int .i64 hi]) ∧ w' = w.alloc (.cells #[.int .i64 lo, .int .i64 hi] 37) := by
  go_enter Tryz.func124, Tryz.ntmps124
  go_wp2
  exact bodyPost_ret (results_cell_row Tryz.results124 _ _ w.heap.size 37 _ (0, 0) _ (by rfl) (World.alloc_heap_new _ _) Tryz.underlying37 rfl (by kernel_rfl)) rfl ⟨rfl, rfl⟩
abbrev zero44 : Array Value := #[.int .i64 0, .int .i64 0, .int .i64 0, .int .i64 0, .int .i64 0, .slice none 0 0, .slice none 0 0, .int .i64 0, .int .i64 0, .slice none 0 0, .slice none 0 0, .int .i64 0, .int .i64 0, .slice none 0 0]
set_option maxRecDepth 100000 in
set_option maxHeartbeats 8000000 in
theorem three_c (k : Nat) (want : Int) (w : World) (hk : k ≤ 3) : Calls Tryz.prog 82 #[.int .i64 k, .int .i64 want] w fun e w' => ∃ q, e = .returned (roomV (threeR k want) q) ∧ RoomAt w' w'.heap.size (threeR k want) q ∧ Below w.heap.size w w' := by
  obtain ⟨L, hL⟩ : ∃ L : List Obj, L = [.cells zero44 44, .cells #[.int .i64 2, .int .i64 1, .int .i64 0] 3, .cells #[.int .i64 want, .int .i64 1, .int .i64 1] 3, .cells #[.int .i64 10, .int .i64 12] 37, .cells #[.int .i64 2, .int .i64 3] 37, .cells #[.int .i64 4, .int .i64 4] 37, .cells #[.int .i64 0, .int .i64 2] 37, .cells #[.int .i64 2, .int .i64 3, .int .i64 4, .int .i64 4, .int .i64 0, .int .i64 2] 37, .cells #[.int .i64 2, .int .i64 7, .int .i64 60, .int .i64 4, .int .i64 3, .slice (some ⟨w.heap.size + 1, 0, none⟩) 3 3, .slice (some ⟨w.heap.size + 1 + 1, 0, none⟩) 3 3, .int .i64 10, .int .i64 12, .slice (some ⟨w.heap.size + 1 + 1 + 1 + 1 + 1 + 1 + 1, 0, none⟩) 3 3, .slice none 0 0] 41, .cells #[.int .i64 0, .int .i64 1, .int .i64 1, .int .i64 1, .int .i64 0, .int .i64 2] 119] := ⟨_, rfl⟩
  obtain ⟨W0, hW0⟩ : ∃ W0, L.foldl World.alloc w = W0 := ⟨_, rfl⟩
  have HW0 := Lib.hid hW0
  have HB : Hid (Below w.heap.size w W0) := by rw [← hW0]; exact al_below L w
  have HS : Hid (W0.heap.size = w.heap.size + 10) := by rw [← hW0, hL]; exact al_size _ w
  have h0 : W0.heap[w.heap.size]? = some (.cells zero44 44 (0, 0)) := by rw [← hW0, hL]; exact al_at _ w 0 _ rfl
  have H1 : Hid (W0.heap[w.heap.size + 1]? = some (.cells #[.int .i64 2, .int .i64 1, .int .i64 0] 3 (0, 0))) := by rw [← hW0, hL]; exact al_at _ w 1 _ rfl
  have H2 : Hid (W0.heap[w.heap.size + 1 + 1]? = some (.cells #[.int .i64 want, .int .i64 1, .int .i64 1] 3 (0, 0))) := by rw [← hW0, hL]; exact al_at _ w 2 _ rfl
  have H7 : Hid (W0.heap[w.heap.size + 1 + 1 + 1 + 1 + 1 + 1 + 1]? = some (.cells #[.int .i64 2, .int .i64 3, .int .i64 4, .int .i64 4, .int .i64 0, .int .i64 2] 37 (0, 0))) := by rw [← hW0, hL]; exact al_at _ w 7 _ rfl
  have h8 : W0.heap[w.heap.size + 1 + 1 + 1 + 1 + 1 + 1 + 1 + 1]? = some (.cells #[.int .i64 2, .int .i64 7, .int .i64 60, .int .i64 4, .int .i64 3, .slice (some ⟨w.heap.size + 1, 0, none⟩) 3 3, .slice (some ⟨w.heap.size + 1 + 1, 0, none⟩) 3 3, .int .i64 10, .int .i64 12, .slice (some ⟨w.heap.size + 1 + 1 + 1 + 1 + 1 + 1 + 1, 0, none⟩) 3 3, .slice none 0 0] 41 (0, 0)) := by rw [← hW0, hL]; exact al_at _ w 8 _ rfl
  have H9 : Hid (W0.heap[w.heap.size + 1 + 1 + 1 + 1 + 1 + 1 + 1 + 1 + 1]? = some (.cells #[.int .i64 0, .int .i64 1, .int .i64 1, .int .i64 1, .int .i64 0, .int .i64 2] 119 (0, 0))) := by rw [← hW0, hL]; exact al_at _ w 9 _ rfl
  have HL := Lib.hid hL
  have H0 := Lib.hid h0
  have hc8 : ∀ o, W0.cell? ⟨w.heap.size + 1 + 1 + 1 + 1 + 1 + 1 + 1 + 1, o, none⟩ = (#[.int .i64 2, .int .i64 7, .int .i64 60, .int .i64 4, .int .i64 3, .slice (some ⟨w.heap.size + 1, 0, none⟩) 3 3, .slice (some ⟨w.heap.size + 1 + 1, 0, none⟩) 3 3, .int .i64 10, .int .i64 12, .slice (some ⟨w.heap.size + 1 + 1 + 1 + 1 + 1 + 1 + 1, 0, none⟩) 3 3, .slice none 0 0] : Array Value)[o]? := fun o => by simp [World.cell?, h8]
  have HC8 := Lib.hid hc8
  clear hW0 hL h0 h8 hc8
  go_enter Tryz.func82, Tryz.ntmps82
  go_upto_region 3 with (go_at_call 124; refine (span_c _ _ _).mono ?_; rintro e w1 ⟨rfl, rfl⟩)
  have e := HW0.out
  rw [HL.out] at e
  simp only [List.foldl_cons, List.foldl_nil] at e
  rw [e]
  clear e
  have hc8 := HC8.out
  have hc0 : ∀ o, W0.cell? ⟨w.heap.size, o, none⟩ = zero44[o]? := fun o => by simp [World.cell?, H0.out]
  have hf0 : ∀ o, W0.frozen? ⟨w.heap.size, o, none⟩ = false := fun o => by simp [World.frozen?, H0.out]
  go_region
  obtain ⟨q, hq⟩ : ∃ q : RA, q = ⟨⟨some ⟨w.heap.size + 1, 0, none⟩, 3, some ⟨w.heap.size + 1 + 1, 0, none⟩, 3, some ⟨w.heap.size + 1 + 1 + 1 + 1 + 1 + 1 + 1, 0, none⟩, 3, none, 0⟩, some ⟨w.heap.size + 1 + 1 + 1 + 1 + 1 + 1 + 1 + 1 + 1, 0, none⟩, 3⟩ := ⟨_, rfl⟩
  have hlen : (threeR k want).baths.length = k := by
    show (List.take k [(0, 1), (1, 1), ((0 : Int), (2 : Int))]).length = k
    rw [List.length_take]
    exact Nat.min_eq_left hk
  have hfin := setAll_full W0 w.heap.size [.int .i64 2, .int .i64 7, .int .i64 60, .int .i64 4, .int .i64 3, .slice (some ⟨w.heap.size + 1, 0, none⟩) 3 3, .slice (some ⟨w.heap.size + 1 + 1, 0, none⟩) 3 3, .int .i64 10, .int .i64 12, .slice (some ⟨w.heap.size + 1 + 1 + 1 + 1 + 1 + 1 + 1, 0, none⟩) 3 3, .slice none 0 0, .int .i64 2, .int .i64 2, .slice (some ⟨w.heap.size + 1 + 1 + 1 + 1 + 1 + 1 + 1 + 1 + 1, 0, none⟩) k 3] H0.out rfl
  have hgw := setAll_grown W0 w.heap.size [.int .i64 2, .int .i64 7, .int .i64 60, .int .i64 4, .int .i64 3, .slice (some ⟨w.heap.size + 1, 0, none⟩) 3 3, .slice (some ⟨w.heap.size + 1 + 1, 0, none⟩) 3 3, .int .i64 10, .int .i64 12, .slice (some ⟨w.heap.size + 1 + 1 + 1 + 1 + 1 + 1 + 1, 0, none⟩) 3 3, .slice none 0 0, .int .i64 2, .int .i64 2, .slice (some ⟨w.heap.size + 1 + 1 + 1 + 1 + 1 + 1 + 1 + 1 + 1, 0, none⟩) k 3] 0
  obtain ⟨W5, hW5⟩ : ∃ W5, setAll W0 w.heap.size 0 [.int .i64 2, .int .i64 7, .int .i64 60, .int .i64 4, .int .i64 3, .slice (some ⟨w.heap.size + 1, 0, none⟩) 3 3, .slice (some ⟨w.heap.size + 1 + 1, 0, none⟩) 3 3, .int .i64 10, .int .i64 12, .slice (some ⟨w.heap.size + 1 + 1 + 1 + 1 + 1 + 1 + 1, 0, none⟩) 3 3, .slice none 0 0, .int .i64 2, .int .i64 2, .slice (some ⟨w.heap.size + 1 + 1 + 1 + 1 + 1 + 1 + 1 + 1 + 1, 0, none⟩) k 3] = W5 := ⟨_, rfl⟩
  rw [hW5] at hfin hgw
  show Exit.then _ _ _ _ (World.drew (setAll W0 w.heap.size 0 [.int .i64 2, .int .i64 7, .int .i64 60, .int .i64 4, .int .i64 3, .slice (some ⟨w.heap.size + 1, 0, none⟩) 3 3, .slice (some ⟨w.heap.size + 1 + 1, 0, none⟩) 3 3, .int .i64 10, .int .i64 12, .slice (some ⟨w.heap.size + 1 + 1 + 1 + 1 + 1 + 1 + 1, 0, none⟩) 3 3, .slice none 0 0, .int .i64 2, .int .i64 2, .slice (some ⟨w.heap.size + 1 + 1 + 1 + 1 + 1 + 1 + 1 + 1 + 1, 0, none⟩) k 3]))
  rw [hW5]
  have HFIN := Lib.hid hfin
  have HGW := Lib.hid hgw
  have HLEN := Lib.hid hlen
  have HQ := Lib.hid hq
  clear hW5 hc8 hc0 hf0 hfin hgw hlen hq
  go_wp2
  have e : roomCs (threeR k want) q = #[.int .i64 2, .int .i64 7, .int .i64 60, .int .i64 4, .int .i64 3, .slice (some ⟨w.heap.size + 1, 0, none⟩) 3 3, .slice (some ⟨w.heap.size + 1 + 1, 0, none⟩) 3 3, .int .i64 10, .int .i64 12, .slice (some ⟨w.heap.size + 1 + 1 + 1 + 1 + 1 + 1 + 1, 0, none⟩) 3 3, .slice none 0 0, .int .i64 2, .int .i64 2, .slice (some ⟨w.heap.size + 1 + 1 + 1 + 1 + 1 + 1 + 1 + 1 + 1, 0, none⟩) k 3] := by
    rw [HQ.out]
    show (#[.int .i64 2, .int .i64 7, .int .i64 60, .int .i64 4, .int .i64 3, .slice (some ⟨w.heap.size + 1, 0, none⟩) 3 3, .slice (some ⟨w.heap.size + 1 + 1, 0, none⟩) 3 3, .int .i64 10, .int .i64 12, .slice (some ⟨w.heap.size + 1 + 1 + 1 + 1 + 1 + 1 + 1, 0, none⟩) 3 3, .slice none 0 0, .int .i64 2, .int .i64 2, .slice (some ⟨w.heap.size + 1 + 1 + 1 + 1 + 1 + 1 + 1 + 1 + 1, 0, none⟩) (threeR k want).baths.length 3] : Array Value) = _
    rw [HLEN.out]
  have hs := HS.out
  have hgw := HGW.out
  have hh := hgw.size
  have kk : ∀ b, b < W0.heap.size → b ≠ w.heap.size → W5.drew.heap[b]? = W0.heap[b]? := fun b h1 h2 => hgw.block b h1 h2
  refine bodyPost_ret (v := roomV (threeR k want) q) (results_cell_row Tryz.results82 _ _ w.heap.size 44 (roomCs (threeR k want) q) (0, 0) _ (by rfl) (by rw [e]; exact HFIN.out) Tryz.underlying44 rfl (by kernel_rfl)) rfl ⟨q, rfl, ?_, bl_dr (HB.out.trans (hgw.below HB.out.size (fun k hk => by omega)))⟩
  rw [HQ.out]
  refine ⟨⟨?_, ?_, ?_, .inl rfl⟩, ?_⟩
  · refine .inr ⟨w.heap.size + 1, 0, rfl, by show _ < W5.heap.size; omega, fun j hj => ?_⟩
    simp only [World.cell?, kk _ (by omega : w.heap.size + 1 < W0.heap.size) (by omega), H1.out]
    match j, hj with
    | 0, _ => rfl
    | 1, _ => rfl
    | 2, _ => rfl
    | j + 3, hj => exact absurd hj (by show ¬ j + 3 < 3; omega)
  · refine .inr ⟨w.heap.size + 1 + 1, 0, rfl, by show _ < W5.heap.size; omega, fun j hj => ?_⟩
    simp only [World.cell?, kk _ (by omega : w.heap.size + 1 + 1 < W0.heap.size) (by omega), H2.out]
    match j, hj with
    | 0, _ => rfl
    | 1, _ => rfl
    | 2, _ => rfl
    | j + 3, hj => exact absurd hj (by show ¬ j + 3 < 3; omega)
  · refine .inr ⟨w.heap.size + 1 + 1 + 1 + 1 + 1 + 1 + 1, 0, rfl, by show _ < W5.heap.size; omega, fun j hj => ?_⟩
    simp only [World.cell?, kk _ (by omega : w.heap.size + 1 + 1 + 1 + 1 + 1 + 1 + 1 < W0.heap.size) (by omega), H7.out]
    match j, hj with
    | 0, _ => exact ⟨rfl, rfl⟩
    | 1, _ => exact ⟨rfl, rfl⟩
    | 2, _ => exact ⟨rfl, rfl⟩
    | j + 3, hj => exact absurd hj (by show ¬ j + 3 < 3; omega)
  · refine .inr ⟨w.heap.size + 1 + 1 + 1 + 1 + 1 + 1 + 1 + 1 + 1, 0, rfl, by show _ < W5.heap.size; omega, fun j hj => ?_⟩
    rw [HLEN.out] at hj
    have ht : p1 (threeR k want).baths j = p1 [(0, 1), (1, 1), (0, 2)] j ∧ p2 (threeR k want).baths j = p2 [(0, 1), (1, 1), (0, 2)] j := by
      show p1 (List.take k [(0, 1), (1, 1), (0, 2)]) j = _ ∧ p2 (List.take k [(0, 1), (1, 1), (0, 2)]) j = _
      simp only [p1, p2, List.getD_eq_getElem?_getD, List.getElem?_take, if_pos hj, and_self]
    rw [ht.1, ht.2]
    simp only [World.cell?, kk _ (by omega : w.heap.size + 1 + 1 + 1 + 1 + 1 + 1 + 1 + 1 + 1 < W0.heap.size) (by omega), H9.out]
    match j, hj with
    | 0, _ => exact ⟨rfl, rfl⟩
    | 1, _ => exact ⟨rfl, rfl⟩
    | 2, _ => exact ⟨rfl, rfl⟩
    | j + 3, hj => omega
end Go.Proofs.YtpgnplmjfhdncaaGreat
/- Two lists are the same. -/
namespace Go.Proofs.YtpgnplmjfhdncaaGreat
open Go.RowKit
set_option linter.unusedVariables false
set_option maxRecDepth 100000 in
set_option maxHeartbeats 8000000 in
theorem ints_c (xs ys : List Int) (a : Option Addr) (c : Nat) (b : Option Addr) (d : Nat) (w : World) (hx : IntsAt w w.heap.size a xs) (hy : IntsAt w w.heap.size b ys) (hl : xs.length ≤ 1000000000) (hl2 : ys.length ≤ 1000000000) :
    Calls Tryz.prog 30 #[.slice a xs.length c, .slice b ys.length d] w fun e w' => e = .returned (.bool (decide (xs = ys))) ∧ Below w.heap.size w w' := by
  have HX := Lib.hid hx
  have HY := Lib.hid hy
  clear hx hy
  by_cases hne : xs.length = ys.length
  · have hn1 : ((xs.length : Int) == (ys.length : Int)) = true := by simp; omega
    have hn2 : ((ys.length : Int) == (ys.length : Int)) = true := by simp
    go_enter Tryz.func30, Tryz.ntmps30
    rw [hne]
    go_wp2
    go_loopw [5] (fun i wr => ∃ k : Nat, k ≤ ys.length ∧ i = .int .i64 (k : Int) ∧ Below w.heap.size w wr ∧ ∀ j, j < k → nth xs j = nth ys j) (fun i _ => ys.length - (intOf i).toNat)
    case atStart => exact ⟨0, Nat.zero_le _, rfl, Below.refl _ _, fun j hj => by omega⟩
    case round =>
      obtain ⟨k, hk, rfl, hb, he⟩ := hrel
      have HB := Lib.hid hb
      have HE := Lib.hid he
      by_cases hlt : k < ys.length
      · obtain ⟨b1, o1, rfl, _, c1⟩ := (HX.out.below hb).at_ (by omega)
        obtain ⟨b2, o2, rfl, _, c2⟩ := (HY.out.below hb).at_ (by omega)
        have k1 := c1 k (by omega)
        have k2 := c2 k hlt
        have hlt' : (k : Int) < (ys.length : Int) := by omega
        clear c1 c2 hb he
        cases heq : (nth xs k == nth ys k) with
        | true =>
          have HQ : Hid (nth xs k = nth ys k) := by simpa [Hid] using heq
          have hq2 : (nth xs k != nth ys k) = false := by simp [bne, heq]
          go_wp2
          refine wp_region_plus (by kernel_rfl) ?_
          repeat (go_big_quiet_step (fail))
          refine wpQuiet_nil ?_
          rintro _ ⟨d2, rfl⟩
          clear k1 k2
          go_wp2
          go_roundw
          case rel =>
            refine ⟨k + 1, by omega, by go_num, bl_pl HB.out d2, fun j hj => ?_⟩
            rcases Nat.lt_or_ge j k with h | h
            · exact HE.out j h
            · obtain rfl : j = k := by omega
              exact HQ.out
          case measure => simp [intOf]; omega
        | false =>
          have HQ : Hid (xs ≠ ys) := fun h => by rw [h] at heq; simp at heq
          go_wp2
          refine wp_region_plus (by kernel_rfl) ?_
          repeat (go_big_quiet_step (fail))
          refine wpQuiet_nil ?_
          rintro _ ⟨d2, rfl⟩
          clear k1 k2
          go_wp2
          go_ret
          exact ⟨by rw [decide_eq_false HQ.out]; rfl, bl_pl HB.out d2⟩
      · have HQ : Hid (xs = ys) := ext_nth hne (fun j hj => he j (by omega))
        have hge : ¬ ((k : Int) < (ys.length : Int)) := by omega
        clear hb he
        go_wp2
        go_ret
        exact ⟨by rw [decide_eq_true HQ.out]; rfl, HB.out⟩
  · have hn1 : ((xs.length : Int) == (ys.length : Int)) = false := by simp; omega
    have HQ : Hid (xs ≠ ys) := fun h => hne (by rw [h])
    have hne' : ¬ ((xs.length : Int) = (ys.length : Int)) := by omega
    go_enter Tryz.func30, Tryz.ntmps30
    go_wp2
    go_ret
    exact ⟨by rw [decide_eq_false HQ.out]; rfl, Below.refl _ _⟩
end Go.Proofs.YtpgnplmjfhdncaaGreat
/- awake. -/
namespace Go.Proofs.YtpgnplmjfhdncaaGreat
open Go.RowKit
set_option linter.unusedVariables false
theorem ints_new (w : World) (xs : List Int) : IntsAt (w.alloc (.cells (ints xs).toArray 3)) (w.alloc (.cells (ints xs).toArray 3)).heap.size (some ⟨w.heap.size, 0, none⟩) xs := by
  refine .inr ⟨w.heap.size, 0, rfl, by simp, fun j hj => ?_⟩
  rw [Box.new w (ints xs).toArray 3 (0, 0), Nat.zero_add]
  simpa using ints_at xs j hj
theorem ints_t (xs : List Int) (a : Option Addr) (c : Nat) (b : Option Addr) (d : Nat) (w : World) (hx : IntsAt w w.heap.size a xs) (hy : IntsAt w w.heap.size b xs) (hl : xs.length ≤ 1000000000) :
    Calls Tryz.prog 30 #[.slice a xs.length c, .slice b xs.length d] w fun e w' => e = .returned (.bool true) ∧ Below w.heap.size w w' := by
  have := ints_c xs xs a c b d w hx hy hl hl
  rw [decide_eq_true rfl] at this
  exact this
theorem three1 (w : World) : Calls Tryz.prog 82 #[.int .i64 1, .int .i64 1] w fun e w' => ∃ q, e = .returned (roomV (threeR 1 1) q) ∧ RoomAt w' w'.heap.size (threeR 1 1) q ∧ Below w.heap.size w w' := three_c 1 1 w (by omega)
theorem three2 (w : World) : Calls Tryz.prog 82 #[.int .i64 2, .int .i64 1] w fun e w' => ∃ q, e = .returned (roomV (threeR 2 1) q) ∧ RoomAt w' w'.heap.size (threeR 2 1) q ∧ Below w.heap.size w w' := three_c 2 1 w (by omega)
theorem three3 (w : World) : Calls Tryz.prog 82 #[.int .i64 3, .int .i64 1] w fun e w' => ∃ q, e = .returned (roomV (threeR 3 1) q) ∧ RoomAt w' w'.heap.size (threeR 3 1) q ∧ Below w.heap.size w w' := three_c 3 1 w (by omega)
theorem aw1 (q : RA) (w : World) (hq : RoomAt w w.heap.size (threeR 3 1) q) (a : Option Addr) (c : Nat) (hx : IntsAt w w.heap.size a [0, 1, 2]) : Calls Tryz.prog 24 #[roomV (threeR 3 1) q, .slice a 3 c] w fun e w' => ∃ A K, e = .returned (.tuple #[.slice A 3 K, .int .i64 0]) ∧ IntsAt w' w'.heap.size A [2, 2, 2] ∧ Below w.heap.size w w' := by
  refine (playY_c (threeR 3 1) q [0, 1, 2] a c w hq (by decide) hx th_play.1).mono ?_
  rintro e w' ⟨A, K, rfl, hi, hb⟩
  have h2 : bucketsL (threeR 3 1) (countL [0, 1, 2] ([0, 1, 2] : List Int).length) = [2, 2, 2] := th_play.2
  rw [h2] at hi ⊢
  exact ⟨A, K, rfl, hi, hb⟩
theorem aw2 (q : RA) (w : World) (hq : RoomAt w w.heap.size (threeR 3 1) q) (a : Option Addr) (c : Nat) (hx : IntsAt w w.heap.size a [0, 1, 2]) : Calls Tryz.prog 72 #[roomV (threeR 3 1) q, .slice a 3 c] w fun e w' => e = .returned (.tuple #[.int .i64 3, .int .i64 0]) ∧ Below w.heap.size w w' := by
  refine (keepsY_c (threeR 3 1) q [0, 1, 2] a c w hq (by decide) hx th_play.1).mono ?_
  rintro e w' ⟨rfl, hb⟩
  have h2 : keepsF (threeR 3 1) (countL [0, 1, 2] ([0, 1, 2] : List Int).length) = 3 := th_keeps
  rw [h2]
  exact ⟨rfl, hb⟩
theorem aw3 (q : RA) (w : World) (hq : RoomAt w w.heap.size (threeR 2 1) q) : Calls Tryz.prog 33 #[roomV (threeR 2 1) q] w fun e w' => ∃ A K, e = .returned (.tuple #[.slice A 2 K, .int .i64 0]) ∧ IntsAt w' w'.heap.size A [0, 1] ∧ Below w.heap.size w w' := by
  refine (plan_c (threeR 2 1) q w hq th_ok.2.1).mono ?_
  rintro e w' ⟨hb, (⟨h, rfl⟩ | ⟨x, xs, A, K, h, rfl, hi⟩)⟩
  · have := th_plan
    rw [h] at this
    cases this
  · have := th_plan
    rw [h] at this
    cases this
    exact ⟨A, K, rfl, hi, hb⟩
theorem aw4 (q : RA) (w : World) (hq : RoomAt w w.heap.size (threeR 2 1) q) : Calls Tryz.prog 34 #[roomV (threeR 2 1) q, .int .i64 0] w fun e w' => ∃ A K, e = .returned (.tuple #[.slice A 2 K, .int .i64 0]) ∧ IntsAt w' w'.heap.size A [0, 1] ∧ Below w.heap.size w w' := by
  refine (hours_y (threeR 2 1) q 0 w hq th_ok.2.1 (by decide)).mono ?_
  rintro e w' ⟨A, K, rfl, hi, hb⟩
  have h2 : hoursL (threeR 2 1) (plansL (threeR 2 1) []) 0 (p2 (threeR 2 1).baths 0 - p1 (threeR 2 1).baths 0 + 1).toNat = [0, 1] := th_hours
  rw [h2] at hi ⊢
  exact ⟨A, K, rfl, hi, hb⟩
theorem aw5 (q : RA) (w : World) (hq : RoomAt w w.heap.size (threeR 3 1) q) : Calls Tryz.prog 40 #[roomV (threeR 3 1) q] w fun e w' => ∃ A K, e = .returned (.tuple #[.slice A 1 K, .int .i64 0]) ∧ IntsAt w' w'.heap.size A [0] ∧ Below w.heap.size w w' := by
  refine (giveY_c (threeR 3 1) q w hq th_ok.1 th_give.1).mono ?_
  rintro e w' ⟨A, K, rfl, hi, hb⟩
  have h2 : giveL (threeR 3 1) = [0] := by rw [giveL, th_give.2]; rfl
  rw [h2] at hi ⊢
  exact ⟨A, K, rfl, hi, hb⟩
theorem aw6 (q : RA) (w : World) (hq : RoomAt w w.heap.size (threeR 3 1) q) : Calls Tryz.prog 42 #[roomV (threeR 3 1) q] w fun e w' => ∃ A K, e = .returned (.tuple #[.slice A 3 K, .int .i64 0]) ∧ IntsAt w' w'.heap.size A [0, 0, 2] ∧ Below w.heap.size w w' := by
  refine (mostY_c (threeR 3 1) q w hq th_ok.1 th_give.1).mono ?_
  rintro e w' ⟨A, K, rfl, hi, hb⟩
  rw [th_most] at hi ⊢
  exact ⟨A, K, rfl, hi, hb⟩
theorem aw7 (q : RA) (w : World) (hq : RoomAt w w.heap.size (threeR 1 1) q) (a : Option Addr) (c : Nat) (hx : IntsAt w w.heap.size a [0]) : Calls Tryz.prog 48 #[roomV (threeR 1 1) q, .slice a 1 c, .int .i64 1] w fun e w' => e = .returned (.tuple #[.int .i64 1, .int .i64 0]) ∧ Below w.heap.size w w' := by
  refine (freeY_c (threeR 1 1) q [0] a c 1 w hq (by decide) hx th_free.1 th_free.2.1).mono ?_
  rintro e w' ⟨rfl, hb⟩
  have h2 : freeC (threeR 1 1) (countL [0] ([0] : List Int).length) 1 = 1 := th_free.2.2
  rw [h2]
  exact ⟨rfl, hb⟩
theorem aw8 (q : RA) (w : World) (hq : RoomAt w w.heap.size (threeR 2 1) q) (a : Option Addr) (c : Nat) (hx : IntsAt w w.heap.size a [0, 1]) : Calls Tryz.prog 61 #[roomV (threeR 2 1) q, .slice a 2 c] w fun e w' => ∃ A K, e = .returned (.tuple #[.slice A 3 K, .int .i64 0]) ∧ IntsAt w' w'.heap.size A [1, 2, 0] ∧ Below w.heap.size w w' := by
  refine (bcoal_c (threeR 2 1) q [0, 1] a c w hq (by decide) hx th_coal.1 rfl).mono ?_
  have h2 : leastO (wantW (threeR 2 1) (countL [0, 1] ([0, 1] : List Int).length)) = some [1, 2, 0] := th_coal.2
  rw [h2]
  rintro e w' ⟨hb, (⟨h, rfl⟩ | ⟨x, A, K, h, rfl, hi⟩)⟩
  · cases h
  · cases h
    exact ⟨A, K, rfl, hi, hb⟩
set_option maxRecDepth 100000 in
set_option maxHeartbeats 16000000 in
theorem awake_c (w : World) : Calls Tryz.prog 23 #[] w fun e w' => e = .returned (.bool true) ∧ Below w.heap.size w w' := by
  have HB0 : Hid (Below w.heap.size w w) := Below.refl _ _
  go_enter Tryz.func23, Tryz.ntmps23
  go_upto_region 2 with (first | (go_at_call 24; go_loud (refine (aw1 q1 (wa1.alloc (.cells (ints [0, 1, 2]).toArray 3)) (HR1.out.up (bl_al (Below.refl _ _) (.cells (ints [0, 1, 2]).toArray 3))) _ _ (ints_new wa1 [0, 1, 2])).mono ?_; rintro e wb1 ⟨A1, K1, rfl, hi, hb⟩; have HBB1 : Hid (Below w.heap.size w wb1) := bl_tr HBA1.out (bl_tr (bl_al (Below.refl _ _) (.cells (ints [0, 1, 2]).toArray 3)) hb); have HI1 := Lib.hid hi; clear hi hb)) | (go_at_call 82; go_loud (refine (three3 _).mono ?_; rintro e wa1 ⟨q1, rfl, hr, hb⟩; have HR1 := Lib.hid hr; have HBA1 : Hid (Below w.heap.size w wa1) := bl_tr HB0.out hb; clear hr hb)))
  go_upto_region 3 with (first | (go_at_call 72; go_loud (refine (aw2 q2 (wa2.alloc (.cells (ints [0, 1, 2]).toArray 3)) (HR2.out.up (bl_al (Below.refl _ _) (.cells (ints [0, 1, 2]).toArray 3))) _ _ (ints_new wa2 [0, 1, 2])).mono ?_; rintro e wb2 ⟨rfl, hb⟩; have HBB2 : Hid (Below w.heap.size w wb2) := bl_tr HBA2.out (bl_tr (bl_al (Below.refl _ _) (.cells (ints [0, 1, 2]).toArray 3)) hb); have HI1 : Hid (IntsAt wb2 wb2.heap.size A1 [2, 2, 2]) := HI1.out.up (bl_tr (bl_al (Below.refl _ _) (.cells (ints [0, 1, 2]).toArray 3)) hb); clear hb)) | (go_at_call 82; go_loud (refine (three3 _).mono ?_; rintro e wa2 ⟨q2, rfl, hr, hb⟩; have HR2 := Lib.hid hr; have HBA2 : Hid (Below w.heap.size w wa2) := bl_tr HBB1.out hb; have HI1 : Hid (IntsAt wa2 wa2.heap.size A1 [2, 2, 2]) := HI1.out.up hb; clear hr hb)))
  go_upto_region 4 with (first | (go_at_call 33; go_loud (refine (aw3 q3 wa3 HR3.out).mono ?_; rintro e wb3 ⟨A3, K3, rfl, hi, hb⟩; have HBB3 : Hid (Below w.heap.size w wb3) := bl_tr HBA3.out hb; have HI1 : Hid (IntsAt wb3 wb3.heap.size A1 [2, 2, 2]) := HI1.out.up hb; have HI3 := Lib.hid hi; clear hi hb)) | (go_at_call 82; go_loud (refine (three2 _).mono ?_; rintro e wa3 ⟨q3, rfl, hr, hb⟩; have HR3 := Lib.hid hr; have HBA3 : Hid (Below w.heap.size w wa3) := bl_tr HBB2.out hb; have HI1 : Hid (IntsAt wa3 wa3.heap.size A1 [2, 2, 2]) := HI1.out.up hb; clear hr hb)))
  go_upto_region 5 with (first | (go_at_call 34; go_loud (refine (aw4 q4 wa4 HR4.out).mono ?_; rintro e wb4 ⟨A4, K4, rfl, hi, hb⟩; have HBB4 : Hid (Below w.heap.size w wb4) := bl_tr HBA4.out hb; have HI1 : Hid (IntsAt wb4 wb4.heap.size A1 [2, 2, 2]) := HI1.out.up hb; have HI3 : Hid (IntsAt wb4 wb4.heap.size A3 [0, 1]) := HI3.out.up hb; have HI4 := Lib.hid hi; clear hi hb)) | (go_at_call 82; go_loud (refine (three2 _).mono ?_; rintro e wa4 ⟨q4, rfl, hr, hb⟩; have HR4 := Lib.hid hr; have HBA4 : Hid (Below w.heap.size w wa4) := bl_tr HBB3.out hb; have HI1 : Hid (IntsAt wa4 wa4.heap.size A1 [2, 2, 2]) := HI1.out.up hb; have HI3 : Hid (IntsAt wa4 wa4.heap.size A3 [0, 1]) := HI3.out.up hb; clear hr hb)))
  go_upto_region 6 with (first | (go_at_call 40; go_loud (refine (aw5 q5 wa5 HR5.out).mono ?_; rintro e wb5 ⟨A5, K5, rfl, hi, hb⟩; have HBB5 : Hid (Below w.heap.size w wb5) := bl_tr HBA5.out hb; have HI1 : Hid (IntsAt wb5 wb5.heap.size A1 [2, 2, 2]) := HI1.out.up hb; have HI3 : Hid (IntsAt wb5 wb5.heap.size A3 [0, 1]) := HI3.out.up hb; have HI4 : Hid (IntsAt wb5 wb5.heap.size A4 [0, 1]) := HI4.out.up hb; have HI5 := Lib.hid hi; clear hi hb)) | (go_at_call 82; go_loud (refine (three3 _).mono ?_; rintro e wa5 ⟨q5, rfl, hr, hb⟩; have HR5 := Lib.hid hr; have HBA5 : Hid (Below w.heap.size w wa5) := bl_tr HBB4.out hb; have HI1 : Hid (IntsAt wa5 wa5.heap.size A1 [2, 2, 2]) := HI1.out.up hb; have HI3 : Hid (IntsAt wa5 wa5.heap.size A3 [0, 1]) := HI3.out.up hb; have HI4 : Hid (IntsAt wa5 wa5.heap.size A4 [0, 1]) := HI4.out.up hb; clear hr hb)))
  go_upto_region 7 with (first | (go_at_call 42; go_loud (refine (aw6 q6 wa6 HR6.out).mono ?_; rintro e wb6 ⟨A6, K6, rfl, hi, hb⟩; have HBB6 : Hid (Below w.heap.size w wb6) := bl_tr HBA6.out hb; have HI1 : Hid (IntsAt wb6 wb6.heap.size A1 [2, 2, 2]) := HI1.out.up hb; have HI3 : Hid (IntsAt wb6 wb6.heap.size A3 [0, 1]) := HI3.out.up hb; have HI4 : Hid (IntsAt wb6 wb6.heap.size A4 [0, 1]) := HI4.out.up hb; have HI5 : Hid (IntsAt wb6 wb6.heap.size A5 [0]) := HI5.out.up hb; have HI6 := Lib.hid hi; clear hi hb)) | (go_at_call 82; go_loud (refine (three3 _).mono ?_; rintro e wa6 ⟨q6, rfl, hr, hb⟩; have HR6 := Lib.hid hr; have HBA6 : Hid (Below w.heap.size w wa6) := bl_tr HBB5.out hb; have HI1 : Hid (IntsAt wa6 wa6.heap.size A1 [2, 2, 2]) := HI1.out.up hb; have HI3 : Hid (IntsAt wa6 wa6.heap.size A3 [0, 1]) := HI3.out.up hb; have HI4 : Hid (IntsAt wa6 wa6.heap.size A4 [0, 1]) := HI4.out.up hb; have HI5 : Hid (IntsAt wa6 wa6.heap.size A5 [0]) := HI5.out.up hb; clear hr hb)))
  go_upto_region 8 with (first | (go_at_call 48; go_loud (refine (aw7 q7 (wa7.alloc (.cells (ints [0]).toArray 3)) (HR7.out.up (bl_al (Below.refl _ _) (.cells (ints [0]).toArray 3))) _ _ (ints_new wa7 [0])).mono ?_; rintro e wb7 ⟨rfl, hb⟩; have HBB7 : Hid (Below w.heap.size w wb7) := bl_tr HBA7.out (bl_tr (bl_al (Below.refl _ _) (.cells (ints [0]).toArray 3)) hb); have HI1 : Hid (IntsAt wb7 wb7.heap.size A1 [2, 2, 2]) := HI1.out.up (bl_tr (bl_al (Below.refl _ _) (.cells (ints [0]).toArray 3)) hb); have HI3 : Hid (IntsAt wb7 wb7.heap.size A3 [0, 1]) := HI3.out.up (bl_tr (bl_al (Below.refl _ _) (.cells (ints [0]).toArray 3)) hb); have HI4 : Hid (IntsAt wb7 wb7.heap.size A4 [0, 1]) := HI4.out.up (bl_tr (bl_al (Below.refl _ _) (.cells (ints [0]).toArray 3)) hb); have HI5 : Hid (IntsAt wb7 wb7.heap.size A5 [0]) := HI5.out.up (bl_tr (bl_al (Below.refl _ _) (.cells (ints [0]).toArray 3)) hb); have HI6 : Hid (IntsAt wb7 wb7.heap.size A6 [0, 0, 2]) := HI6.out.up (bl_tr (bl_al (Below.refl _ _) (.cells (ints [0]).toArray 3)) hb); clear hb)) | (go_at_call 82; go_loud (refine (three1 _).mono ?_; rintro e wa7 ⟨q7, rfl, hr, hb⟩; have HR7 := Lib.hid hr; have HBA7 : Hid (Below w.heap.size w wa7) := bl_tr HBB6.out hb; have HI1 : Hid (IntsAt wa7 wa7.heap.size A1 [2, 2, 2]) := HI1.out.up hb; have HI3 : Hid (IntsAt wa7 wa7.heap.size A3 [0, 1]) := HI3.out.up hb; have HI4 : Hid (IntsAt wa7 wa7.heap.size A4 [0, 1]) := HI4.out.up hb; have HI5 : Hid (IntsAt wa7 wa7.heap.size A5 [0]) := HI5.out.up hb; have HI6 : Hid (IntsAt wa7 wa7.heap.size A6 [0, 0, 2]) := HI6.out.up hb; clear hr hb)))
  go_upto_region 9 with (first | (go_at_call 61; go_loud (refine (aw8 q8 (wa8.alloc (.cells (ints [0, 1]).toArray 3)) (HR8.out.up (bl_al (Below.refl _ _) (.cells (ints [0, 1]).toArray 3))) _ _ (ints_new wa8 [0, 1])).mono ?_; rintro e wb8 ⟨A8, K8, rfl, hi, hb⟩; have HBB8 : Hid (Below w.heap.size w wb8) := bl_tr HBA8.out (bl_tr (bl_al (Below.refl _ _) (.cells (ints [0, 1]).toArray 3)) hb); have HI1 : Hid (IntsAt wb8 wb8.heap.size A1 [2, 2, 2]) := HI1.out.up (bl_tr (bl_al (Below.refl _ _) (.cells (ints [0, 1]).toArray 3)) hb); have HI3 : Hid (IntsAt wb8 wb8.heap.size A3 [0, 1]) := HI3.out.up (bl_tr (bl_al (Below.refl _ _) (.cells (ints [0, 1]).toArray 3)) hb); have HI4 : Hid (IntsAt wb8 wb8.heap.size A4 [0, 1]) := HI4.out.up (bl_tr (bl_al (Below.refl _ _) (.cells (ints [0, 1]).toArray 3)) hb); have HI5 : Hid (IntsAt wb8 wb8.heap.size A5 [0]) := HI5.out.up (bl_tr (bl_al (Below.refl _ _) (.cells (ints [0, 1]).toArray 3)) hb); have HI6 : Hid (IntsAt wb8 wb8.heap.size A6 [0, 0, 2]) := HI6.out.up (bl_tr (bl_al (Below.refl _ _) (.cells (ints [0, 1]).toArray 3)) hb); have HI8 := Lib.hid hi; clear hi hb)) | (go_at_call 82; go_loud (refine (three2 _).mono ?_; rintro e wa8 ⟨q8, rfl, hr, hb⟩; have HR8 := Lib.hid hr; have HBA8 : Hid (Below w.heap.size w wa8) := bl_tr HBB7.out hb; have HI1 : Hid (IntsAt wa8 wa8.heap.size A1 [2, 2, 2]) := HI1.out.up hb; have HI3 : Hid (IntsAt wa8 wa8.heap.size A3 [0, 1]) := HI3.out.up hb; have HI4 : Hid (IntsAt wa8 wa8.heap.size A4 [0, 1]) := HI4.out.up hb; have HI5 : Hid (IntsAt wa8 wa8.heap.size A5 [0]) := HI5.out.up hb; have HI6 : Hid (IntsAt wa8 wa8.heap.size A6 [0, 0, 2]) := HI6.out.up hb; clear hr hb)))
  go_wp2_with (first | (have hz := HC4; clear hz; go_at_call 30; go_loud (refine (ints_t [1, 2, 0] A8 K8 _ _ (wc4.alloc (.cells (ints [1, 2, 0]).toArray 3)) (HI8.out.up (bl_al (Below.refl _ _) (.cells (ints [1, 2, 0]).toArray 3))) (ints_new wc4 [1, 2, 0]) (by decide)).mono ?_; rintro e wc5 ⟨rfl, hb⟩; have HC5 : Hid (Below w.heap.size w wc5) := bl_tr HC4.out (bl_tr (bl_al (Below.refl _ _) (.cells (ints [1, 2, 0]).toArray 3)) hb); clear hb)) | (have hz := HC3; clear hz; go_at_call 30; go_loud (refine (ints_t [0, 0, 2] A6 K6 _ _ (wc3.alloc (.cells (ints [0, 0, 2]).toArray 3)) (HI6.out.up (bl_al (Below.refl _ _) (.cells (ints [0, 0, 2]).toArray 3))) (ints_new wc3 [0, 0, 2]) (by decide)).mono ?_; rintro e wc4 ⟨rfl, hb⟩; have HC4 : Hid (Below w.heap.size w wc4) := bl_tr HC3.out (bl_tr (bl_al (Below.refl _ _) (.cells (ints [0, 0, 2]).toArray 3)) hb); have HI8 : Hid (IntsAt wc4 wc4.heap.size A8 [1, 2, 0]) := HI8.out.up (bl_tr (bl_al (Below.refl _ _) (.cells (ints [0, 0, 2]).toArray 3)) hb); clear hb)) | (have hz := HC2; clear hz; go_at_call 30; go_loud (refine (ints_t [0] A5 K5 _ _ (wc2.alloc (.cells (ints [0]).toArray 3)) (HI5.out.up (bl_al (Below.refl _ _) (.cells (ints [0]).toArray 3))) (ints_new wc2 [0]) (by decide)).mono ?_; rintro e wc3 ⟨rfl, hb⟩; have HC3 : Hid (Below w.heap.size w wc3) := bl_tr HC2.out (bl_tr (bl_al (Below.refl _ _) (.cells (ints [0]).toArray 3)) hb); have HI6 : Hid (IntsAt wc3 wc3.heap.size A6 [0, 0, 2]) := HI6.out.up (bl_tr (bl_al (Below.refl _ _) (.cells (ints [0]).toArray 3)) hb); have HI8 : Hid (IntsAt wc3 wc3.heap.size A8 [1, 2, 0]) := HI8.out.up (bl_tr (bl_al (Below.refl _ _) (.cells (ints [0]).toArray 3)) hb); clear hb)) | (have hz := HC1; clear hz; go_at_call 30; go_loud (refine (ints_t [0, 1] A4 K4 _ _ (wc1.alloc (.cells (ints [0, 1]).toArray 3)) (HI4.out.up (bl_al (Below.refl _ _) (.cells (ints [0, 1]).toArray 3))) (ints_new wc1 [0, 1]) (by decide)).mono ?_; rintro e wc2 ⟨rfl, hb⟩; have HC2 : Hid (Below w.heap.size w wc2) := bl_tr HC1.out (bl_tr (bl_al (Below.refl _ _) (.cells (ints [0, 1]).toArray 3)) hb); have HI5 : Hid (IntsAt wc2 wc2.heap.size A5 [0]) := HI5.out.up (bl_tr (bl_al (Below.refl _ _) (.cells (ints [0, 1]).toArray 3)) hb); have HI6 : Hid (IntsAt wc2 wc2.heap.size A6 [0, 0, 2]) := HI6.out.up (bl_tr (bl_al (Below.refl _ _) (.cells (ints [0, 1]).toArray 3)) hb); have HI8 : Hid (IntsAt wc2 wc2.heap.size A8 [1, 2, 0]) := HI8.out.up (bl_tr (bl_al (Below.refl _ _) (.cells (ints [0, 1]).toArray 3)) hb); clear hb)) | (have hz := HC0; clear hz; go_at_call 30; go_loud (refine (ints_t [0, 1] A3 K3 _ _ (wc0.alloc (.cells (ints [0, 1]).toArray 3)) (HI3.out.up (bl_al (Below.refl _ _) (.cells (ints [0, 1]).toArray 3))) (ints_new wc0 [0, 1]) (by decide)).mono ?_; rintro e wc1 ⟨rfl, hb⟩; have HC1 : Hid (Below w.heap.size w wc1) := bl_tr HC0.out (bl_tr (bl_al (Below.refl _ _) (.cells (ints [0, 1]).toArray 3)) hb); have HI4 : Hid (IntsAt wc1 wc1.heap.size A4 [0, 1]) := HI4.out.up (bl_tr (bl_al (Below.refl _ _) (.cells (ints [0, 1]).toArray 3)) hb); have HI5 : Hid (IntsAt wc1 wc1.heap.size A5 [0]) := HI5.out.up (bl_tr (bl_al (Below.refl _ _) (.cells (ints [0, 1]).toArray 3)) hb); have HI6 : Hid (IntsAt wc1 wc1.heap.size A6 [0, 0, 2]) := HI6.out.up (bl_tr (bl_al (Below.refl _ _) (.cells (ints [0, 1]).toArray 3)) hb); have HI8 : Hid (IntsAt wc1 wc1.heap.size A8 [1, 2, 0]) := HI8.out.up (bl_tr (bl_al (Below.refl _ _) (.cells (ints [0, 1]).toArray 3)) hb); clear hb)) | (go_at_call 30; go_loud (refine (ints_t [2, 2, 2] A1 K1 _ _ (wb8.alloc (.cells (ints [2, 2, 2]).toArray 3)) (HI1.out.up (bl_al (Below.refl _ _) (.cells (ints [2, 2, 2]).toArray 3))) (ints_new wb8 [2, 2, 2]) (by decide)).mono ?_; rintro e wc0 ⟨rfl, hb⟩; have HC0 : Hid (Below w.heap.size w wc0) := bl_tr HBB8.out (bl_tr (bl_al (Below.refl _ _) (.cells (ints [2, 2, 2]).toArray 3)) hb); have HI3 : Hid (IntsAt wc0 wc0.heap.size A3 [0, 1]) := HI3.out.up (bl_tr (bl_al (Below.refl _ _) (.cells (ints [2, 2, 2]).toArray 3)) hb); have HI4 : Hid (IntsAt wc0 wc0.heap.size A4 [0, 1]) := HI4.out.up (bl_tr (bl_al (Below.refl _ _) (.cells (ints [2, 2, 2]).toArray 3)) hb); have HI5 : Hid (IntsAt wc0 wc0.heap.size A5 [0]) := HI5.out.up (bl_tr (bl_al (Below.refl _ _) (.cells (ints [2, 2, 2]).toArray 3)) hb); have HI6 : Hid (IntsAt wc0 wc0.heap.size A6 [0, 0, 2]) := HI6.out.up (bl_tr (bl_al (Below.refl _ _) (.cells (ints [2, 2, 2]).toArray 3)) hb); have HI8 : Hid (IntsAt wc0 wc0.heap.size A8 [1, 2, 0]) := HI8.out.up (bl_tr (bl_al (Below.refl _ _) (.cells (ints [2, 2, 2]).toArray 3)) hb); clear hb)))
  go_ret
  exact ⟨rfl, HC5.out⟩
end Go.Proofs.YtpgnplmjfhdncaaGreat
