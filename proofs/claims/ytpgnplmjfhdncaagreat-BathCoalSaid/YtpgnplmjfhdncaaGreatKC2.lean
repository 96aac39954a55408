/- The functions of the library on lists, and the two 'all', at each type: they go through the list with what they are handed. -/
import Derived.Test.YtpgnplmjfhdncaaGreatKBase
namespace Go.Proofs.YtpgnplmjfhdncaaGreat
open Go.RowKit
abbrev Ent (k : Nat) : Prop := ∀ (args : Array Value) (W : World), (callFunc k args).run Tryz.prog W = .ok (.enter k args) W

set_option maxHeartbeats 400000 in
theorem idxI_c (k : Nat) (fst cap : Array Value) (hent : Ent k) (p : Nat → Bool) (xs : List (Int)) (a : Option Addr) (c : Nat) (w : World) (hn : xs.length ≤ 1000000000) (hx : IntsAt w w.heap.size a xs)
    (hcall : ∀ j, j < xs.length → ∀ W, Below w.heap.size w W → Calls Tryz.prog k (fst.push (.int .i64 (nth xs j)) ++ cap) W fun e W' => e = .returned (.bool (p j)) ∧ Below W.heap.size W W') :
    Calls Tryz.prog 110 #[.slice a xs.length c, .func (.func k) fst cap] w fun e w' => e = .returned (.int .i64 (idxN p 0 xs.length)) ∧ Below w.heap.size w w' := by
  have HX := Lib.hid hx
  have HC := Lib.hid hcall
  clear hx hcall
  go_enter Tryz.func110, Tryz.ntmps110
  go_wp2
  go_loopw [8] (fun i wr => ∃ j : Nat, j ≤ xs.length ∧ i = .int .i64 j ∧ idxN p 0 xs.length = idxN p j (xs.length - j) ∧ Below w.heap.size w wr) (fun i _ => xs.length - (intOf i).toNat)
  case atStart => exact ⟨0, Nat.zero_le _, rfl, rfl, Below.refl _ _⟩
  case round =>
    obtain ⟨j, hj, rfl, hi, hb⟩ := hrel
    have HI := Lib.hid hi
    have HB := Lib.hid hb
    clear hi hb
    by_cases hlt : j < xs.length
    · obtain ⟨b, o, rfl, hbl, hcell⟩ := (HX.out.below HB.out).at_ (by omega)
      have hc := hcell j hlt
      clear hcell
      go_wp2_with (fail)
      refine (HC.out j hlt _ HB.out).mono ?_
      rintro e w1 ⟨rfl, hb1⟩
      have HB1 := Lib.hid (bl_tr HB.out hb1)
      clear hb1
      cases hp : p j with
      | true =>
        have hi := idxN_hit hlt HI.out hp
        have HJ := Lib.hid hi
        clear hi
        go_wp2
        go_ret
        exact ⟨by rw [HJ.out]; rfl, HB1.out⟩
      | false =>
        have hi := idxN_step hlt HI.out hp
        have HJ := Lib.hid hi
        clear hi
        go_wp2
        go_roundw
        case rel => exact ⟨j + 1, by omega, by go_num, HJ.out, HB1.out⟩
        case measure => simp [intOf]; omega
    · obtain rfl : j = xs.length := by omega
      have hi := idxN_end HI.out
      have HJ := Lib.hid hi
      clear hi
      go_wp2
      go_ret
      exact ⟨by rw [HJ.out]; rfl, HB.out⟩
set_option maxHeartbeats 400000 in
theorem conI_c (k : Nat) (fst cap : Array Value) (hent : Ent k) (p : Nat → Bool) (xs : List (Int)) (a : Option Addr) (c : Nat) (w : World) (hn : xs.length ≤ 1000000000) (hx : IntsAt w w.heap.size a xs)
    (hcall : ∀ j, j < xs.length → ∀ W, Below w.heap.size w W → Calls Tryz.prog k (fst.push (.int .i64 (nth xs j)) ++ cap) W fun e W' => e = .returned (.bool (p j)) ∧ Below W.heap.size W W') :
    Calls Tryz.prog 172 #[.slice a xs.length c, .func (.func k) fst cap] w fun e w' => e = .returned (.bool (anyN p xs.length)) ∧ Below w.heap.size w w' := by
  have HX := Lib.hid hx
  have HC := Lib.hid hcall
  clear hx hcall
  go_enter Tryz.func172, Tryz.ntmps172
  go_wp2_with (go_at_call 110; refine (idxI_c k fst cap hent p xs a c _ hn HX.out HC.out).mono ?_; rintro e w1 ⟨rfl, hb⟩; have HB := Lib.hid hb; clear hb)
  go_ret
  exact ⟨rfl, HB.out⟩
set_option maxHeartbeats 400000 in
theorem negI_c (k : Nat) (fst cap : Array Value) (hent : Ent k) (xs : List (Int)) (j : Nat) (v : Bool) (bf : Nat) (w : World) (hb : w.cell? ⟨bf, 0, none⟩ = some (.func (.func k) fst cap))
    (hcall : ∀ W, Below w.heap.size w W → Calls Tryz.prog k (fst.push (.int .i64 (nth xs j)) ++ cap) W fun e w' => e = .returned (.bool v) ∧ Below W.heap.size W w') :
    Calls Tryz.prog 173 #[.int .i64 (nth xs j), .pointer (some ⟨bf, 0, none⟩)] w fun e w' => e = .returned (.bool (!v)) ∧ Below w.heap.size w w' := by
  have HC := Lib.hid hcall
  clear hcall
  go_enter Tryz.func173, Tryz.ntmps173
  go_wp2_with (fail)
  refine (HC.out _ (Below.refl _ _)).mono ?_
  rintro e w1 ⟨rfl, hb⟩
  have HB := Lib.hid hb
  clear hb
  go_wp2
  go_ret
  exact ⟨rfl, HB.out⟩
set_option maxHeartbeats 400000 in
theorem allI_c (k : Nat) (fst cap : Array Value) (hent : Ent k) (p : Nat → Bool) (xs : List (Int)) (a : Option Addr) (c : Nat) (w : World) (hn : xs.length ≤ 1000000000) (hx : IntsAt w w.heap.size a xs)
    (hcall : ∀ j, j < xs.length → ∀ W, Below w.heap.size w W → Calls Tryz.prog k (fst.push (.int .i64 (nth xs j)) ++ cap) W fun e W' => e = .returned (.bool (p j)) ∧ Below W.heap.size W W') :
    Calls Tryz.prog 151 #[.slice a xs.length c, .func (.func k) fst cap] w fun e w' => e = .returned (.bool (allN p xs.length)) ∧ Below w.heap.size w w' := by
  have HX := Lib.hid hx
  have HC := Lib.hid hcall
  clear hx hcall
  go_enter Tryz.func151, Tryz.ntmps151
  go_wp2_with (go_at_call 172; refine (conI_c 173 #[] #[.pointer (some ⟨w.heap.size, 0, none⟩)] (enters_of Tryz.func173 (by kernel_rfl) rfl) (fun j => !p j) xs a c _ hn ((HX.out.below ((Below.refl _ _).alloc (Nat.le_refl _) _)).mono (by simp)) (fun j hj W hW => negI_c k fst cap hent xs j (p j) w.heap.size W (cell_later hW (by simp)) (fun W' hW' => HC.out j hj W' ((bl_tr (bl_al (Below.refl _ _) _) hW).trans (hW'.mono (bl_tr (bl_al (Below.refl _ _) _) hW).size))))).mono ?_; rintro e w1 ⟨rfl, hb⟩; have HB := Lib.hid hb; clear hb)
  go_ret
  exact ⟨rfl, bl_tr (bl_al (Below.refl _ _) _) HB.out⟩

set_option maxHeartbeats 400000 in
theorem idxR_c (k : Nat) (fst cap : Array Value) (hent : Ent k) (p : Nat → Bool) (xs : List (Int × Int)) (a : Option Addr) (c : Nat) (w : World) (hn : xs.length ≤ 1000000000) (hx : PairsAt w w.heap.size a xs)
    (hcall : ∀ j, j < xs.length → ∀ W, Below w.heap.size w W → Calls Tryz.prog k (fst.push (.agg #[.int .i64 (p1 xs j), .int .i64 (p2 xs j)]) ++ cap) W fun e W' => e = .returned (.bool (p j)) ∧ Below W.heap.size W W') :
    Calls Tryz.prog 183 #[.slice a xs.length c, .func (.func k) fst cap] w fun e w' => e = .returned (.int .i64 (idxN p 0 xs.length)) ∧ Below w.heap.size w w' := by
  have HX := Lib.hid hx
  have HC := Lib.hid hcall
  clear hx hcall
  go_enter Tryz.func183, Tryz.ntmps183
  go_wp2
  go_loopw [8] (fun i wr => ∃ j : Nat, j ≤ xs.length ∧ i = .int .i64 j ∧ idxN p 0 xs.length = idxN p j (xs.length - j) ∧ Below w.heap.size w wr) (fun i _ => xs.length - (intOf i).toNat)
  case atStart => exact ⟨0, Nat.zero_le _, rfl, rfl, Below.refl _ _⟩
  case round =>
    obtain ⟨j, hj, rfl, hi, hb⟩ := hrel
    have HI := Lib.hid hi
    have HB := Lib.hid hb
    clear hi hb
    by_cases hlt : j < xs.length
    · obtain ⟨b, o, rfl, hbl, hcell⟩ := (HX.out.below HB.out).at_ (by omega)
      have hc := hcell j hlt
      clear hcell
      go_wp2_with (fail)
      refine (HC.out j hlt _ HB.out).mono ?_
      rintro e w1 ⟨rfl, hb1⟩
      have HB1 := Lib.hid (bl_tr HB.out hb1)
      clear hb1
      cases hp : p j with
      | true =>
        have hi := idxN_hit hlt HI.out hp
        have HJ := Lib.hid hi
        clear hi
        go_wp2
        go_ret
        exact ⟨by rw [HJ.out]; rfl, HB1.out⟩
      | false =>
        have hi := idxN_step hlt HI.out hp
        have HJ := Lib.hid hi
        clear hi
        go_wp2
        go_roundw
        case rel => exact ⟨j + 1, by omega, by go_num, HJ.out, HB1.out⟩
        case measure => simp [intOf]; omega
    · obtain rfl : j = xs.length := by omega
      have hi := idxN_end HI.out
      have HJ := Lib.hid hi
      clear hi
      go_wp2
      go_ret
      exact ⟨by rw [HJ.out]; rfl, HB.out⟩
set_option maxHeartbeats 400000 in
theorem conR_c (k : Nat) (fst cap : Array Value) (hent : Ent k) (p : Nat → Bool) (xs : List (Int × Int)) (a : Option Addr) (c : Nat) (w : World) (hn : xs.length ≤ 1000000000) (hx : PairsAt w w.heap.size a xs)
    (hcall : ∀ j, j < xs.length → ∀ W, Below w.heap.size w W → Calls Tryz.prog k (fst.push (.agg #[.int .i64 (p1 xs j), .int .i64 (p2 xs j)]) ++ cap) W fun e W' => e = .returned (.bool (p j)) ∧ Below W.heap.size W W') :
    Calls Tryz.prog 175 #[.slice a xs.length c, .func (.func k) fst cap] w fun e w' => e = .returned (.bool (anyN p xs.length)) ∧ Below w.heap.size w w' := by
  have HX := Lib.hid hx
  have HC := Lib.hid hcall
  clear hx hcall
  go_enter Tryz.func175, Tryz.ntmps175
  go_wp2_with (go_at_call 183; refine (idxR_c k fst cap hent p xs a c _ hn HX.out HC.out).mono ?_; rintro e w1 ⟨rfl, hb⟩; have HB := Lib.hid hb; clear hb)
  go_ret
  exact ⟨rfl, HB.out⟩
set_option maxHeartbeats 400000 in
theorem negR_c (k : Nat) (fst cap : Array Value) (hent : Ent k) (xs : List (Int × Int)) (j : Nat) (v : Bool) (bf : Nat) (w : World) (hb : w.cell? ⟨bf, 0, none⟩ = some (.func (.func k) fst cap))
    (hcall : ∀ W, Below w.heap.size w W → Calls Tryz.prog k (fst.push (.agg #[.int .i64 (p1 xs j), .int .i64 (p2 xs j)]) ++ cap) W fun e w' => e = .returned (.bool v) ∧ Below W.heap.size W w') :
    Calls Tryz.prog 176 #[.agg #[.int .i64 (p1 xs j), .int .i64 (p2 xs j)], .pointer (some ⟨bf, 0, none⟩)] w fun e w' => e = .returned (.bool (!v)) ∧ Below w.heap.size w w' := by
  have HC := Lib.hid hcall
  clear hcall
  go_enter Tryz.func176, Tryz.ntmps176
  go_wp2_with (fail)
  refine (HC.out _ (bl_al (Below.refl _ _) _)).mono ?_
  rintro e w1 ⟨rfl, hb⟩
  have HB := Lib.hid hb
  clear hb
  go_wp2
  go_ret
  exact ⟨rfl, bl_tr (bl_al (Below.refl _ _) _) HB.out⟩
set_option maxHeartbeats 400000 in
theorem allR_c (k : Nat) (fst cap : Array Value) (hent : Ent k) (p : Nat → Bool) (xs : List (Int × Int)) (a : Option Addr) (c : Nat) (w : World) (hn : xs.length ≤ 1000000000) (hx : PairsAt w w.heap.size a xs)
    (hcall : ∀ j, j < xs.length → ∀ W, Below w.heap.size w W → Calls Tryz.prog k (fst.push (.agg #[.int .i64 (p1 xs j), .int .i64 (p2 xs j)]) ++ cap) W fun e W' => e = .returned (.bool (p j)) ∧ Below W.heap.size W W') :
    Calls Tryz.prog 156 #[.slice a xs.length c, .func (.func k) fst cap] w fun e w' => e = .returned (.bool (allN p xs.length)) ∧ Below w.heap.size w w' := by
  have HX := Lib.hid hx
  have HC := Lib.hid hcall
  clear hx hcall
  go_enter Tryz.func156, Tryz.ntmps156
  go_wp2_with (go_at_call 175; refine (conR_c 176 #[] #[.pointer (some ⟨w.heap.size, 0, none⟩)] (enters_of Tryz.func176 (by kernel_rfl) rfl) (fun j => !p j) xs a c _ hn ((HX.out.below ((Below.refl _ _).alloc (Nat.le_refl _) _)).mono (by simp)) (fun j hj W hW => negR_c k fst cap hent xs j (p j) w.heap.size W (cell_later hW (by simp)) (fun W' hW' => HC.out j hj W' ((bl_tr (bl_al (Below.refl _ _) _) hW).trans (hW'.mono (bl_tr (bl_al (Below.refl _ _) _) hW).size))))).mono ?_; rintro e w1 ⟨rfl, hb⟩; have HB := Lib.hid hb; clear hb)
  go_ret
  exact ⟨rfl, bl_tr (bl_al (Below.refl _ _) _) HB.out⟩

set_option maxHeartbeats 400000 in
theorem idxD_c (k : Nat) (fst cap : Array Value) (hent : Ent k) (p : Nat → Bool) (xs : List (Int × Int × Int)) (a : Option Addr) (c : Nat) (w : World) (hn : xs.length ≤ 1000000000) (hx : TripsAt w w.heap.size a xs)
    (hcall : ∀ j, j < xs.length → ∀ W, Below w.heap.size w W → Calls Tryz.prog k (fst.push (.agg #[.int .i64 (t1 xs j), .int .i64 (t2 xs j), .int .i64 (t3 xs j)]) ++ cap) W fun e W' => e = .returned (.bool (p j)) ∧ Below W.heap.size W W') :
    Calls Tryz.prog 184 #[.slice a xs.length c, .func (.func k) fst cap] w fun e w' => e = .returned (.int .i64 (idxN p 0 xs.length)) ∧ Below w.heap.size w w' := by
  have HX := Lib.hid hx
  have HC := Lib.hid hcall
  clear hx hcall
  go_enter Tryz.func184, Tryz.ntmps184
  go_wp2
  go_loopw [8] (fun i wr => ∃ j : Nat, j ≤ xs.length ∧ i = .int .i64 j ∧ idxN p 0 xs.length = idxN p j (xs.length - j) ∧ Below w.heap.size w wr) (fun i _ => xs.length - (intOf i).toNat)
  case atStart => exact ⟨0, Nat.zero_le _, rfl, rfl, Below.refl _ _⟩
  case round =>
    obtain ⟨j, hj, rfl, hi, hb⟩ := hrel
    have HI := Lib.hid hi
    have HB := Lib.hid hb
    clear hi hb
    by_cases hlt : j < xs.length
    · obtain ⟨b, o, rfl, hbl, hcell⟩ := (HX.out.below HB.out).at_ (by omega)
      have hc := hcell j hlt
      clear hcell
      go_wp2_with (fail)
      refine (HC.out j hlt _ HB.out).mono ?_
      rintro e w1 ⟨rfl, hb1⟩
      have HB1 := Lib.hid (bl_tr HB.out hb1)
      clear hb1
      cases hp : p j with
      | true =>
        have hi := idxN_hit hlt HI.out hp
        have HJ := Lib.hid hi
        clear hi
        go_wp2
        go_ret
        exact ⟨by rw [HJ.out]; rfl, HB1.out⟩
      | false =>
        have hi := idxN_step hlt HI.out hp
        have HJ := Lib.hid hi
        clear hi
        go_wp2
        go_roundw
        case rel => exact ⟨j + 1, by omega, by go_num, HJ.out, HB1.out⟩
        case measure => simp [intOf]; omega
    · obtain rfl : j = xs.length := by omega
      have hi := idxN_end HI.out
      have HJ := Lib.hid hi
      clear hi
      go_wp2
      go_ret
      exact ⟨by rw [HJ.out]; rfl, HB.out⟩
set_option maxHeartbeats 400000 in
theorem conD_c (k : Nat) (fst cap : Array Value) (hent : Ent k) (p : Nat → Bool) (xs : List (Int × Int × Int)) (a : Option Addr) (c : Nat) (w : World) (hn : xs.length ≤ 1000000000) (hx : TripsAt w w.heap.size a xs)
    (hcall : ∀ j, j < xs.length → ∀ W, Below w.heap.size w W → Calls Tryz.prog k (fst.push (.agg #[.int .i64 (t1 xs j), .int .i64 (t2 xs j), .int .i64 (t3 xs j)]) ++ cap) W fun e W' => e = .returned (.bool (p j)) ∧ Below W.heap.size W W') :
    Calls Tryz.prog 177 #[.slice a xs.length c, .func (.func k) fst cap] w fun e w' => e = .returned (.bool (anyN p xs.length)) ∧ Below w.heap.size w w' := by
  have HX := Lib.hid hx
  have HC := Lib.hid hcall
  clear hx hcall
  go_enter Tryz.func177, Tryz.ntmps177
  go_wp2_with (go_at_call 184; refine (idxD_c k fst cap hent p xs a c _ hn HX.out HC.out).mono ?_; rintro e w1 ⟨rfl, hb⟩; have HB := Lib.hid hb; clear hb)
  go_ret
  exact ⟨rfl, HB.out⟩
set_option maxHeartbeats 400000 in
theorem negD_c (k : Nat) (fst cap : Array Value) (hent : Ent k) (xs : List (Int × Int × Int)) (j : Nat) (v : Bool) (bf : Nat) (w : World) (hb : w.cell? ⟨bf, 0, none⟩ = some (.func (.func k) fst cap))
    (hcall : ∀ W, Below w.heap.size w W → Calls Tryz.prog k (fst.push (.agg #[.int .i64 (t1 xs j), .int .i64 (t2 xs j), .int .i64 (t3 xs j)]) ++ cap) W fun e w' => e = .returned (.bool v) ∧ Below W.heap.size W w') :
    Calls Tryz.prog 178 #[.agg #[.int .i64 (t1 xs j), .int .i64 (t2 xs j), .int .i64 (t3 xs j)], .pointer (some ⟨bf, 0, none⟩)] w fun e w' => e = .returned (.bool (!v)) ∧ Below w.heap.size w w' := by
  have HC := Lib.hid hcall
  clear hcall
  go_enter Tryz.func178, Tryz.ntmps178
  go_wp2_with (fail)
  refine (HC.out _ (bl_al (Below.refl _ _) _)).mono ?_
  rintro e w1 ⟨rfl, hb⟩
  have HB := Lib.hid hb
  clear hb
  go_wp2
  go_ret
  exact ⟨rfl, bl_tr (bl_al (Below.refl _ _) _) HB.out⟩
set_option maxHeartbeats 400000 in
theorem allD_c (k : Nat) (fst cap : Array Value) (hent : Ent k) (p : Nat → Bool) (xs : List (Int × Int × Int)) (a : Option Addr) (c : Nat) (w : World) (hn : xs.length ≤ 1000000000) (hx : TripsAt w w.heap.size a xs)
    (hcall : ∀ j, j < xs.length → ∀ W, Below w.heap.size w W → Calls Tryz.prog k (fst.push (.agg #[.int .i64 (t1 xs j), .int .i64 (t2 xs j), .int .i64 (t3 xs j)]) ++ cap) W fun e W' => e = .returned (.bool (p j)) ∧ Below W.heap.size W W') :
    Calls Tryz.prog 158 #[.slice a xs.length c, .func (.func k) fst cap] w fun e w' => e = .returned (.bool (allN p xs.length)) ∧ Below w.heap.size w w' := by
  have HX := Lib.hid hx
  have HC := Lib.hid hcall
  clear hx hcall
  go_enter Tryz.func158, Tryz.ntmps158
  go_wp2_with (go_at_call 177; refine (conD_c 178 #[] #[.pointer (some ⟨w.heap.size, 0, none⟩)] (enters_of Tryz.func178 (by kernel_rfl) rfl) (fun j => !p j) xs a c _ hn ((HX.out.below ((Below.refl _ _).alloc (Nat.le_refl _) _)).mono (by simp)) (fun j hj W hW => negD_c k fst cap hent xs j (p j) w.heap.size W (cell_later hW (by simp)) (fun W' hW' => HC.out j hj W' ((bl_tr (bl_al (Below.refl _ _) _) hW).trans (hW'.mono (bl_tr (bl_al (Below.refl _ _) _) hW).size))))).mono ?_; rintro e w1 ⟨rfl, hb⟩; have HB := Lib.hid hb; clear hb)
  go_ret
  exact ⟨rfl, bl_tr (bl_al (Below.refl _ _) _) HB.out⟩

set_option maxHeartbeats 400000 in
theorem idxS_c (k : Nat) (fst cap : Array Value) (hent : Ent k) (p : Nat → Bool) (xs : List (Int × List Int)) (a : Option Addr) (c : Nat) (w : World) (hn : xs.length ≤ 1000000000) (hx : ScenesAt w w.heap.size a xs)
    (hcall : ∀ j, j < xs.length → ∀ W, Below w.heap.size w W → Calls Tryz.prog k (fst.push (scV (sh xs j) (sl xs j)) ++ cap) W fun e W' => e = .returned (.bool (p j)) ∧ Below W.heap.size W W') :
    Calls Tryz.prog 185 #[.slice a xs.length c, .func (.func k) fst cap] w fun e w' => e = .returned (.int .i64 (idxN p 0 xs.length)) ∧ Below w.heap.size w w' := by
  have HX := Lib.hid hx
  have HC := Lib.hid hcall
  clear hx hcall
  go_enter Tryz.func185, Tryz.ntmps185
  go_wp2
  go_loopw [8] (fun i wr => ∃ j : Nat, j ≤ xs.length ∧ i = .int .i64 j ∧ idxN p 0 xs.length = idxN p j (xs.length - j) ∧ Below w.heap.size w wr) (fun i _ => xs.length - (intOf i).toNat)
  case atStart => exact ⟨0, Nat.zero_le _, rfl, rfl, Below.refl _ _⟩
  case round =>
    obtain ⟨j, hj, rfl, hi, hb⟩ := hrel
    have HI := Lib.hid hi
    have HB := Lib.hid hb
    clear hi hb
    by_cases hlt : j < xs.length
    · obtain ⟨b, o, rfl, hbl, hcell⟩ := (HX.out.below HB.out).at_ (by omega)
      have hc := hcell j hlt
      clear hcell
      go_wp2_with (fail)
      refine (HC.out j hlt _ HB.out).mono ?_
      rintro e w1 ⟨rfl, hb1⟩
      have HB1 := Lib.hid (bl_tr HB.out hb1)
      clear hb1
      cases hp : p j with
      | true =>
        have hi := idxN_hit hlt HI.out hp
        have HJ := Lib.hid hi
        clear hi
        go_wp2
        go_ret
        exact ⟨by rw [HJ.out]; rfl, HB1.out⟩
      | false =>
        have hi := idxN_step hlt HI.out hp
        have HJ := Lib.hid hi
        clear hi
        go_wp2
        go_roundw
        case rel => exact ⟨j + 1, by omega, by go_num, HJ.out, HB1.out⟩
        case measure => simp [intOf]; omega
    · obtain rfl : j = xs.length := by omega
      have hi := idxN_end HI.out
      have HJ := Lib.hid hi
      clear hi
      go_wp2
      go_ret
      exact ⟨by rw [HJ.out]; rfl, HB.out⟩
set_option maxHeartbeats 400000 in
theorem conS_c (k : Nat) (fst cap : Array Value) (hent : Ent k) (p : Nat → Bool) (xs : List (Int × List Int)) (a : Option Addr) (c : Nat) (w : World) (hn : xs.length ≤ 1000000000) (hx : ScenesAt w w.heap.size a xs)
    (hcall : ∀ j, j < xs.length → ∀ W, Below w.heap.size w W → Calls Tryz.prog k (fst.push (scV (sh xs j) (sl xs j)) ++ cap) W fun e W' => e = .returned (.bool (p j)) ∧ Below W.heap.size W W') :
    Calls Tryz.prog 181 #[.slice a xs.length c, .func (.func k) fst cap] w fun e w' => e = .returned (.bool (anyN p xs.length)) ∧ Below w.heap.size w w' := by
  have HX := Lib.hid hx
  have HC := Lib.hid hcall
  clear hx hcall
  go_enter Tryz.func181, Tryz.ntmps181
  go_wp2_with (go_at_call 185; refine (idxS_c k fst cap hent p xs a c _ hn HX.out HC.out).mono ?_; rintro e w1 ⟨rfl, hb⟩; have HB := Lib.hid hb; clear hb)
  go_ret
  exact ⟨rfl, HB.out⟩
set_option maxHeartbeats 400000 in
theorem negS_c (k : Nat) (fst cap : Array Value) (hent : Ent k) (xs : List (Int × List Int)) (j : Nat) (v : Bool) (bf : Nat) (w : World) (hb : w.cell? ⟨bf, 0, none⟩ = some (.func (.func k) fst cap))
    (hcall : ∀ W, Below w.heap.size w W → Calls Tryz.prog k (fst.push (scV (sh xs j) (sl xs j)) ++ cap) W fun e w' => e = .returned (.bool v) ∧ Below W.heap.size W w') :
    Calls Tryz.prog 182 #[scV (sh xs j) (sl xs j), .pointer (some ⟨bf, 0, none⟩)] w fun e w' => e = .returned (.bool (!v)) ∧ Below w.heap.size w w' := by
  have HC := Lib.hid hcall
  clear hcall
  go_enter Tryz.func182, Tryz.ntmps182
  go_wp2_with (fail)
  refine (HC.out _ (bl_al (Below.refl _ _) _)).mono ?_
  rintro e w1 ⟨rfl, hb⟩
  have HB := Lib.hid hb
  clear hb
  go_wp2
  go_ret
  exact ⟨rfl, bl_tr (bl_al (Below.refl _ _) _) HB.out⟩
set_option maxHeartbeats 400000 in
theorem allS_c (k : Nat) (fst cap : Array Value) (hent : Ent k) (p : Nat → Bool) (xs : List (Int × List Int)) (a : Option Addr) (c : Nat) (w : World) (hn : xs.length ≤ 1000000000) (hx : ScenesAt w w.heap.size a xs)
    (hcall : ∀ j, j < xs.length → ∀ W, Below w.heap.size w W → Calls Tryz.prog k (fst.push (scV (sh xs j) (sl xs j)) ++ cap) W fun e W' => e = .returned (.bool (p j)) ∧ Below W.heap.size W W') :
    Calls Tryz.prog 169 #[.slice a xs.length c, .func (.func k) fst cap] w fun e w' => e = .returned (.bool (allN p xs.length)) ∧ Below w.heap.size w w' := by
  have HX := Lib.hid hx
  have HC := Lib.hid hcall
  clear hx hcall
  go_enter Tryz.func169, Tryz.ntmps169
  go_wp2_with (go_at_call 181; refine (conS_c 182 #[] #[.pointer (some ⟨w.heap.size, 0, none⟩)] (enters_of Tryz.func182 (by kernel_rfl) rfl) (fun j => !p j) xs a c _ hn ((HX.out.below ((Below.refl _ _).alloc (Nat.le_refl _) _)).mono (by simp)) (fun j hj W hW => negS_c k fst cap hent xs j (p j) w.heap.size W (cell_later hW (by simp)) (fun W' hW' => HC.out j hj W' ((bl_tr (bl_al (Below.refl _ _) _) hW).trans (hW'.mono (bl_tr (bl_al (Below.refl _ _) _) hW).size))))).mono ?_; rintro e w1 ⟨rfl, hb⟩; have HB := Lib.hid hb; clear hb)
  go_ret
  exact ⟨rfl, bl_tr (bl_al (Below.refl _ _) _) HB.out⟩

set_option maxHeartbeats 400000 in
theorem idxB_c (k : Nat) (fst cap : Array Value) (hent : Ent k) (p : Nat → Bool) (xs : List (Int × Int)) (a : Option Addr) (c : Nat) (w : World) (hn : xs.length ≤ 1000000000) (hx : PairsAt w w.heap.size a xs)
    (hcall : ∀ j, j < xs.length → ∀ W, Below w.heap.size w W → Calls Tryz.prog k (fst.push (.agg #[.int .i64 (p1 xs j), .int .i64 (p2 xs j)]) ++ cap) W fun e W' => e = .returned (.bool (p j)) ∧ Below W.heap.size W W') :
    Calls Tryz.prog 163 #[.slice a xs.length c, .func (.func k) fst cap] w fun e w' => e = .returned (.int .i64 (idxN p 0 xs.length)) ∧ Below w.heap.size w w' := by
  have HX := Lib.hid hx
  have HC := Lib.hid hcall
  clear hx hcall
  go_enter Tryz.func163, Tryz.ntmps163
  go_wp2
  go_loopw [8] (fun i wr => ∃ j : Nat, j ≤ xs.length ∧ i = .int .i64 j ∧ idxN p 0 xs.length = idxN p j (xs.length - j) ∧ Below w.heap.size w wr) (fun i _ => xs.length - (intOf i).toNat)
  case atStart => exact ⟨0, Nat.zero_le _, rfl, rfl, Below.refl _ _⟩
  case round =>
    obtain ⟨j, hj, rfl, hi, hb⟩ := hrel
    have HI := Lib.hid hi
    have HB := Lib.hid hb
    clear hi hb
    by_cases hlt : j < xs.length
    · obtain ⟨b, o, rfl, hbl, hcell⟩ := (HX.out.below HB.out).at_ (by omega)
      have hc := hcell j hlt
      clear hcell
      go_wp2_with (fail)
      refine (HC.out j hlt _ HB.out).mono ?_
      rintro e w1 ⟨rfl, hb1⟩
      have HB1 := Lib.hid (bl_tr HB.out hb1)
      clear hb1
      cases hp : p j with
      | true =>
        have hi := idxN_hit hlt HI.out hp
        have HJ := Lib.hid hi
        clear hi
        go_wp2
        go_ret
        exact ⟨by rw [HJ.out]; rfl, HB1.out⟩
      | false =>
        have hi := idxN_step hlt HI.out hp
        have HJ := Lib.hid hi
        clear hi
        go_wp2
        go_roundw
        case rel => exact ⟨j + 1, by omega, by go_num, HJ.out, HB1.out⟩
        case measure => simp [intOf]; omega
    · obtain rfl : j = xs.length := by omega
      have hi := idxN_end HI.out
      have HJ := Lib.hid hi
      clear hi
      go_wp2
      go_ret
      exact ⟨by rw [HJ.out]; rfl, HB.out⟩
set_option maxHeartbeats 400000 in
theorem conB_c (k : Nat) (fst cap : Array Value) (hent : Ent k) (p : Nat → Bool) (xs : List (Int × Int)) (a : Option Addr) (c : Nat) (w : World) (hn : xs.length ≤ 1000000000) (hx : PairsAt w w.heap.size a xs)
    (hcall : ∀ j, j < xs.length → ∀ W, Below w.heap.size w W → Calls Tryz.prog k (fst.push (.agg #[.int .i64 (p1 xs j), .int .i64 (p2 xs j)]) ++ cap) W fun e W' => e = .returned (.bool (p j)) ∧ Below W.heap.size W W') :
    Calls Tryz.prog 131 #[.slice a xs.length c, .func (.func k) fst cap] w fun e w' => e = .returned (.bool (anyN p xs.length)) ∧ Below w.heap.size w w' := by
  have HX := Lib.hid hx
  have HC := Lib.hid hcall
  clear hx hcall
  go_enter Tryz.func131, Tryz.ntmps131
  go_wp2_with (go_at_call 163; refine (idxB_c k fst cap hent p xs a c _ hn HX.out HC.out).mono ?_; rintro e w1 ⟨rfl, hb⟩; have HB := Lib.hid hb; clear hb)
  go_ret
  exact ⟨rfl, HB.out⟩
set_option maxHeartbeats 400000 in
theorem negB_c (k : Nat) (fst cap : Array Value) (hent : Ent k) (xs : List (Int × Int)) (j : Nat) (v : Bool) (bf : Nat) (w : World) (hb : w.cell? ⟨bf, 0, none⟩ = some (.func (.func k) fst cap))
    (hcall : ∀ W, Below w.heap.size w W → Calls Tryz.prog k (fst.push (.agg #[.int .i64 (p1 xs j), .int .i64 (p2 xs j)]) ++ cap) W fun e w' => e = .returned (.bool v) ∧ Below W.heap.size W w') :
    Calls Tryz.prog 132 #[.agg #[.int .i64 (p1 xs j), .int .i64 (p2 xs j)], .pointer (some ⟨bf, 0, none⟩)] w fun e w' => e = .returned (.bool (!v)) ∧ Below w.heap.size w w' := by
  have HC := Lib.hid hcall
  clear hcall
  go_enter Tryz.func132, Tryz.ntmps132
  go_wp2_with (fail)
  refine (HC.out _ (bl_al (Below.refl _ _) _)).mono ?_
  rintro e w1 ⟨rfl, hb⟩
  have HB := Lib.hid hb
  clear hb
  go_wp2
  go_ret
  exact ⟨rfl, bl_tr (bl_al (Below.refl _ _) _) HB.out⟩
set_option maxHeartbeats 400000 in
theorem allB_c (k : Nat) (fst cap : Array Value) (hent : Ent k) (p : Nat → Bool) (xs : List (Int × Int)) (a : Option Addr) (c : Nat) (w : World) (hn : xs.length ≤ 1000000000) (hx : PairsAt w w.heap.size a xs)
    (hcall : ∀ j, j < xs.length → ∀ W, Below w.heap.size w W → Calls Tryz.prog k (fst.push (.agg #[.int .i64 (p1 xs j), .int .i64 (p2 xs j)]) ++ cap) W fun e W' => e = .returned (.bool (p j)) ∧ Below W.heap.size W W') :
    Calls Tryz.prog 88 #[.slice a xs.length c, .func (.func k) fst cap] w fun e w' => e = .returned (.bool (allN p xs.length)) ∧ Below w.heap.size w w' := by
  have HX := Lib.hid hx
  have HC := Lib.hid hcall
  clear hx hcall
  go_enter Tryz.func88, Tryz.ntmps88
  go_wp2_with (go_at_call 131; refine (conB_c 132 #[] #[.pointer (some ⟨w.heap.size, 0, none⟩)] (enters_of Tryz.func132 (by kernel_rfl) rfl) (fun j => !p j) xs a c _ hn ((HX.out.below ((Below.refl _ _).alloc (Nat.le_refl _) _)).mono (by simp)) (fun j hj W hW => negB_c k fst cap hent xs j (p j) w.heap.size W (cell_later hW (by simp)) (fun W' hW' => HC.out j hj W' ((bl_tr (bl_al (Below.refl _ _) _) hW).trans (hW'.mono (bl_tr (bl_al (Below.refl _ _) _) hW).size))))).mono ?_; rintro e w1 ⟨rfl, hb⟩; have HB := Lib.hid hb; clear hb)
  go_ret
  exact ⟨rfl, bl_tr (bl_al (Below.refl _ _) _) HB.out⟩
end Go.Proofs.YtpgnplmjfhdncaaGreat
