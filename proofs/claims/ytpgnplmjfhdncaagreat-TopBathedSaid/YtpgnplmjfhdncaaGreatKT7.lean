/- TopBathed: its walk, the contracts of what it calls given. -/
import Derived.Test.YtpgnplmjfhdncaaGreatKOpen
import Derived.Test.YtpgnplmjfhdncaaGreatKL2
namespace Go.Proofs.YtpgnplmjfhdncaaGreat
open Go.RowKit
set_option linter.unusedVariables false
@[go_sem high] theorem run_min3 {P : Program} (w : World) (ts : Array TypeId) (t : TypeId) (k k' k'' : IntKind) (x y z : Int) :
    (Builtin.min_ ts t #[.int k x, .int k' y, .int k'' z]).run P w = .ok (.int k (min (min x y) z)) w := by
  have e : (if y < x then y else x) = min x y := by
    rw [Int.min_def]
    split <;> split <;> omega
  have e2 : (if z < min x y then z else min x y) = min (min x y) z := by
    rw [Int.min_def (min x y) z]
    split <;> split <;> omega
  simp [Builtin.min_, Builtin.min2, e, e2]
/-- nil, or a block of its own. -/
def PA (A : Option Addr) (n c : Nat) : Prop := (A = none ∧ n = 0 ∧ c = 0) ∨ ∃ b o, A = some ⟨b, o, none⟩
theorem own_PA {w : World} {base n K m : Nat} {e : TypeId} {A : Option Addr} {xs : List Value} (h : w.ownsRow base e 1 (.slice A m K) n xs) : PA A m K := by
  rcases h.2 with ⟨e1, rfl⟩ | ⟨g, cap, cur, e1, _⟩
  · cases e1; exact .inl ⟨rfl, rfl, rfl⟩
  · cases e1; exact .inr ⟨_, _, rfl⟩
theorem wpList_clone {ops : Array Oper} {rest : List Oper} {o : Oper} {a : Act} {w : World} {Q : Exit → Act → World → Prop} (hgd : o.guard = none) (W0 : World) (s x : Operand) 
    (ho : o.op = .call { callee := .builtin .append, args := #[s, x], argTypes := #[22, 22] })
    (ys : List Int) (A : Option Addr) (cap B : Nat) (hw : w = W0.alloc (.cells #[] 3)) (hs : a.eval s = .slice (some ⟨W0.heap.size, 0, none⟩) 0 0) (hx : a.eval x = .slice A ys.length cap) (hy : IntsAt w B A ys) (hA : PA A ys.length cap) (hl : ys.length ≤ 1000000)
    (h : ∀ A7 K7 w1, IntsAt w1 w1.heap.size A7 ys → Below W0.heap.size W0 w1 → wpList Tryz.prog ops Q rest (a.put o.dst (.slice A7 ys.length K7)) w1) :
    wpList Tryz.prog ops Q (o :: rest) a w := by
  subst hw
  have ho' := own_empty W0 W0.heap.size 3 (Nat.le_refl _)
  rcases hA with ⟨rfl, h0, rfl⟩ | ⟨b, off, rfl⟩
  · obtain ⟨i0, hi, _⟩ := Option.map_eq_some_iff.1 info3
    refine wpList_append_own_none hgd s x 22 ho W0.heap.size 3 i0 1 Tryz.underlying22 hi _ 0 [] hs ho' (by rw [hx, h0]) ?_
    have := h (some ⟨W0.heap.size, 0, none⟩) 0 (W0.alloc (.cells #[] 3)) (.inl (List.eq_nil_of_length_eq_zero h0)) (bl_al (Below.refl _ _) _)
    rw [h0] at this
    exact this
  · refine wpList_append_ints hgd W0.heap.size s x 22 3 ho Tryz.underlying22 info3 _ 0 [] ys b off cap B hs hx hy ho' (by simp) (by omega) ?_
    intro v1 w1 hr hg
    rw [Nat.zero_add, List.nil_append] at hr
    obtain ⟨A7, K7, rfl⟩ := own_shape6 hr
    exact h A7 K7 w1 (own_ints' hr) (bl_gr (bl_al (Below.refl _ _) _) hg (fun k hk => by
      have hk' : some k = some W0.heap.size := hk.symm
      cases hk'
      exact Nat.le_refl _))
set_option maxRecDepth 100000 in
set_option maxHeartbeats 8000000 in
theorem tb_thick (r R : Rm) (q Q : RA) (a : Option Addr) (ws : List Int) (k : Nat) (hour : Int) (w : World) (hq : RoomAt w w.heap.size r q) (hqR : RoomAt w w.heap.size R Q)
    (hc44 : ∀ w, Calls Tryz.prog 44 #[roomV r q] w fun e w' => e = .returned (roomV R Q) ∧ Below w.heap.size w w')
    (hc32 : ∀ w, RoomAt w w.heap.size r q → Calls Tryz.prog 32 #[roomV r q] w fun e w' => e = .returned (.bool false) ∧ Below w.heap.size w w') : Calls Tryz.prog 7 #[roomV r q, .slice a ws.length k, .int .u8 hour] w fun e w' => e = .returned (.bool true) ∧ Below w.heap.size w w' := by
  have HQ := Lib.hid hq
  have HC44 := Lib.hid hc44
  have HC32 := Lib.hid hc32
  clear hq hqR hc44 hc32
  go_enter Tryz.func7, Tryz.ntmps7
  go_wp2_with (first | (go_at_call 44; go_loud (refine (HC44.out _).mono ?_; rintro e w1 ⟨rfl, hb⟩; have HB1 : Hid (Below w.heap.size w w1) := bl_tr (bl_al (Below.refl w.heap.size w) _) hb; have HX1 : Hid (Box w1 w.heap.size (roomCs r q)) := (Box.new w (roomCs r q) 31 (0, 0)).bl (by simp) hb; have hbx1 := HX1.out; unfold Box roomCs at hbx1; have HY1 : Hid (∀ o, (w1.alloc o).heap[w1.heap.size]? = some o) := fun o => World.alloc_heap_new w1 o; clear hb)) | (go_at_call 32; refine (HC32.out _ (HQ.out.up (bl_al HB1.out _))).mono ?_; clear hbx1; rintro e w2 ⟨rfl, hb⟩; have HB2 : Hid (Below w.heap.size w w2) := bl_tr (bl_al HB1.out _) hb; clear hb) | (have hz := HB2; clear hz; go_at_call 46; refine (bathed_c _).mono ?_; rintro e w9 ⟨rfl, hb⟩; have HB9 := Lib.hid (bl_tr HB2.out hb); clear hb))
  go_ret
  exact ⟨rfl, HB9.out⟩
set_option maxRecDepth 100000 in
set_option maxHeartbeats 8000000 in
theorem tb_fault (r R : Rm) (q Q : RA) (a : Option Addr) (ws : List Int) (k : Nat) (hour : Int) (w : World) (hq : RoomAt w w.heap.size r q) (hqR : RoomAt w w.heap.size R Q)
    (hc44 : ∀ w, Calls Tryz.prog 44 #[roomV r q] w fun e w' => e = .returned (roomV R Q) ∧ Below w.heap.size w w')
    (E : Int) (hE : ¬ (E = 0)) (hE2 : (E != 0) = true) (hc32 : ∀ w, RoomAt w w.heap.size r q → Calls Tryz.prog 32 #[roomV r q] w fun e w' => e = .returned (.bool true) ∧ Below w.heap.size w w') (hc45 : ∀ w, RoomAt w w.heap.size r q → Calls Tryz.prog 45 #[roomV r q] w fun e w' => e = .returned (.int .i64 E) ∧ Below w.heap.size w w') : Calls Tryz.prog 7 #[roomV r q, .slice a ws.length k, .int .u8 hour] w fun e w' => e = .returned (.bool true) ∧ Below w.heap.size w w' := by
  have HQ := Lib.hid hq
  have HC44 := Lib.hid hc44
  have HC32 := Lib.hid hc32
  have HC45 := Lib.hid hc45
  clear hq hqR hc44 hc32 hc45
  go_enter Tryz.func7, Tryz.ntmps7
  go_wp2_with (first | (go_at_call 44; go_loud (refine (HC44.out _).mono ?_; rintro e w1 ⟨rfl, hb⟩; have HB1 : Hid (Below w.heap.size w w1) := bl_tr (bl_al (Below.refl w.heap.size w) _) hb; have HX1 : Hid (Box w1 w.heap.size (roomCs r q)) := (Box.new w (roomCs r q) 31 (0, 0)).bl (by simp) hb; have hbx1 := HX1.out; unfold Box roomCs at hbx1; have HY1 : Hid (∀ o, (w1.alloc o).heap[w1.heap.size]? = some o) := fun o => World.alloc_heap_new w1 o; clear hb)) | (go_at_call 32; go_loud (refine (HC32.out _ (HQ.out.up (bl_al HB1.out _))).mono ?_; rintro e w2 ⟨rfl, hb⟩; have HB2 : Hid (Below w.heap.size w w2) := bl_tr (bl_al HB1.out _) hb; have HX2 : Hid (Box w2 w.heap.size (roomCs r q)) := (HX1.out.al (by simp) _).bl (by simp) hb; have HY2 : Hid (w2.heap[w1.heap.size]? = some (.cells (roomCs R Q) 31 (0, 0))) := (hb.block _ (Array.getElem?_eq_some_iff.1 (HY1.out _)).1).trans (HY1.out _); clear hbx1; have hbx2 := HX2.out; unfold Box roomCs at hbx2; clear hb)) | (have hz := HB2; clear hz; go_at_call 45; go_loud (refine (HC45.out _ (HQ.out.up HB2.out)).mono ?_; rintro e w3 ⟨rfl, hb⟩; have HB3 : Hid (Below w.heap.size w w3) := bl_tr HB2.out hb; clear hbx2; clear hb)) | (have hz := HB3; clear hz; go_at_call 46; refine (bathed_c _).mono ?_; rintro e w9 ⟨rfl, hb⟩; have HB9 := Lib.hid (bl_tr HB3.out hb); clear hb))
  go_ret
  exact ⟨rfl, HB9.out⟩
set_option maxRecDepth 100000 in
set_option maxHeartbeats 8000000 in
theorem tb_fault2 (r R : Rm) (q Q : RA) (a : Option Addr) (ws : List Int) (k : Nat) (hour : Int) (w : World) (hq : RoomAt w w.heap.size r q) (hqR : RoomAt w w.heap.size R Q)
    (hc44 : ∀ w, Calls Tryz.prog 44 #[roomV r q] w fun e w' => e = .returned (roomV R Q) ∧ Below w.heap.size w w')
    (E : Int) (hE : ¬ (E = 0)) (hE2 : (E != 0) = true) (hc32 : ∀ w, RoomAt w w.heap.size r q → Calls Tryz.prog 32 #[roomV r q] w fun e w' => e = .returned (.bool true) ∧ Below w.heap.size w w') (hc45 : ∀ w, RoomAt w w.heap.size r q → Calls Tryz.prog 45 #[roomV r q] w fun e w' => e = .returned (.int .i64 0) ∧ Below w.heap.size w w') (hc45R : ∀ w, RoomAt w w.heap.size R Q → Calls Tryz.prog 45 #[roomV R Q] w fun e w' => e = .returned (.int .i64 E) ∧ Below w.heap.size w w') : Calls Tryz.prog 7 #[roomV r q, .slice a ws.length k, .int .u8 hour] w fun e w' => e = .returned (.bool true) ∧ Below w.heap.size w w' := by
  have HQ := Lib.hid hq
  have HQR := Lib.hid hqR
  have HC44 := Lib.hid hc44
  have HC32 := Lib.hid hc32
  have HC45 := Lib.hid hc45
  have HC45R := Lib.hid hc45R
  clear hq hqR hc44 hc32 hc45 hc45R
  go_enter Tryz.func7, Tryz.ntmps7
  go_wp2_with (first | (go_at_call 44; go_loud (refine (HC44.out _).mono ?_; rintro e w1 ⟨rfl, hb⟩; have HB1 : Hid (Below w.heap.size w w1) := bl_tr (bl_al (Below.refl w.heap.size w) _) hb; have HX1 : Hid (Box w1 w.heap.size (roomCs r q)) := (Box.new w (roomCs r q) 31 (0, 0)).bl (by simp) hb; have hbx1 := HX1.out; unfold Box roomCs at hbx1; have HY1 : Hid (∀ o, (w1.alloc o).heap[w1.heap.size]? = some o) := fun o => World.alloc_heap_new w1 o; clear hb)) | (go_at_call 32; go_loud (refine (HC32.out _ (HQ.out.up (bl_al HB1.out _))).mono ?_; rintro e w2 ⟨rfl, hb⟩; have HB2 : Hid (Below w.heap.size w w2) := bl_tr (bl_al HB1.out _) hb; have HX2 : Hid (Box w2 w.heap.size (roomCs r q)) := (HX1.out.al (by simp) _).bl (by simp) hb; have HY2 : Hid (w2.heap[w1.heap.size]? = some (.cells (roomCs R Q) 31 (0, 0))) := (hb.block _ (Array.getElem?_eq_some_iff.1 (HY1.out _)).1).trans (HY1.out _); clear hbx1; have hbx2 := HX2.out; unfold Box roomCs at hbx2; clear hb)) | (have hz := HB3; clear hz; go_at_call 45; go_loud (refine (HC45R.out _ (HQR.out.up HB3.out)).mono ?_; rintro e w4 ⟨rfl, hb⟩; have HB4 : Hid (Below w.heap.size w w4) := bl_tr HB3.out hb; clear hbx3; clear hb)) | (have hz := HB2; clear hz; go_at_call 45; go_loud (refine (HC45.out _ (HQ.out.up HB2.out)).mono ?_; rintro e w3 ⟨rfl, hb⟩; have HB3 : Hid (Below w.heap.size w w3) := bl_tr HB2.out hb; have HY3 : Hid (w3.heap[w1.heap.size]? = some (.cells (roomCs R Q) 31 (0, 0))) := (hb.block _ (Array.getElem?_eq_some_iff.1 HY2.out).1).trans HY2.out; clear hbx2; have hbx3 : ∀ o, w3.cell? ⟨w1.heap.size, o, none⟩ = (roomCs R Q)[o]? := fun o => (by simp [World.cell?, HY3.out]); unfold roomCs at hbx3; clear hb)) | (have hz := HB4; clear hz; go_at_call 46; refine (bathed_c _).mono ?_; rintro e w9 ⟨rfl, hb⟩; have HB9 := Lib.hid (bl_tr HB4.out hb); clear hb))
  go_ret
  exact ⟨rfl, HB9.out⟩
set_option maxRecDepth 100000 in
set_option maxHeartbeats 8000000 in
theorem tb_nine (r R : Rm) (q Q : RA) (a : Option Addr) (ws : List Int) (k : Nat) (hour : Int) (w : World) (hq : RoomAt w w.heap.size r q) (hqR : RoomAt w w.heap.size R Q)
    (hc44 : ∀ w, Calls Tryz.prog 44 #[roomV r q] w fun e w' => e = .returned (roomV R Q) ∧ Below w.heap.size w w')
    (hx : U16At w w.heap.size a ws) (hh0 : 0 ≤ hour) (hh9 : hour ≤ 255) (P : List Int) (hPL : P.length ≤ 1000000) (h : Nat) (hl0 : 0 ≤ R.cop.last) (hl4 : R.cop.last ≤ 4) (hhl : (h : Int) ≤ R.cop.last) (htm : hour.tmod (R.cop.last + 1) = (h : Int))
    (hc32 : ∀ w, RoomAt w w.heap.size r q → Calls Tryz.prog 32 #[roomV r q] w fun e w' => e = .returned (.bool true) ∧ Below w.heap.size w w') (hc45 : ∀ w, RoomAt w w.heap.size r q → Calls Tryz.prog 45 #[roomV r q] w fun e w' => e = .returned (.int .i64 0) ∧ Below w.heap.size w w') (hc45R : ∀ w, RoomAt w w.heap.size R Q → Calls Tryz.prog 45 #[roomV R Q] w fun e w' => e = .returned (.int .i64 0) ∧ Below w.heap.size w w')
    (hc47 : ∀ w, RoomAt w w.heap.size R Q → U16At w w.heap.size a ws → Calls Tryz.prog 47 #[roomV R Q, .slice a ws.length k] w fun e w' => ∃ A K, e = .returned (.slice A P.length K) ∧ IntsAt w' w'.heap.size A P ∧ PA A P.length K ∧ Below w.heap.size w w')
    (hc25 : ∀ w, RoomAt w w.heap.size R Q → Calls Tryz.prog 25 #[roomV R Q] w fun e w' => ∃ q', e = .returned (roomV R q') ∧ RoomAt w' w'.heap.size R q' ∧ Below w.heap.size w w')
    (fx fe : Int) (hc48 : ∀ q' A K w, RoomAt w w.heap.size R q' → IntsAt w w.heap.size A P → Calls Tryz.prog 48 #[roomV R q', .slice A P.length K, .int .i64 h] w fun e w' => e = .returned (.tuple #[.int .i64 fx, .int .i64 fe]) ∧ Below w.heap.size w w')
    (hfe : fe = 9) : Calls Tryz.prog 7 #[roomV r q, .slice a ws.length k, .int .u8 hour] w fun e w' => e = .returned (.bool true) ∧ Below w.heap.size w w' := by
  subst hfe
  have HQ := Lib.hid hq
  have HQR := Lib.hid hqR
  have HX := Lib.hid hx
  have HPL := Lib.hid hPL
  have HC44 := Lib.hid hc44
  have HC32 := Lib.hid hc32
  have HC45 := Lib.hid hc45
  have HC45R := Lib.hid hc45R
  have HC47 := Lib.hid hc47
  have HC25 := Lib.hid hc25
  have HC48 := Lib.hid hc48
  have hd1 : ¬ (R.cop.last + 1 = 0) := by omega
  have hd2 : (R.cop.last + 1 == 0) = false := by simpa using hd1
  have hd3 : IntKind.i64.wrap (R.cop.last + 1) = R.cop.last + 1 := IntWalk.i64_in _ (by omega)
  have hd4 : IntKind.i64.wrap hour = hour := IntWalk.i64_in _ (by omega)
  clear hq hqR hx hPL hc44 hc32 hc45 hc45R hc47 hc25 hc48
  go_enter Tryz.func7, Tryz.ntmps7
  go_wp2_with (first | (go_at_call 44; go_loud (refine (HC44.out _).mono ?_; rintro e w1 ⟨rfl, hb⟩; have HB1 : Hid (Below w.heap.size w w1) := bl_tr (bl_al (Below.refl w.heap.size w) _) hb; have HX1 : Hid (Box w1 w.heap.size (roomCs r q)) := (Box.new w (roomCs r q) 31 (0, 0)).bl (by simp) hb; have hbx1 := HX1.out; unfold Box roomCs at hbx1; have HY1 : Hid (∀ o, (w1.alloc o).heap[w1.heap.size]? = some o) := fun o => World.alloc_heap_new w1 o; clear hb)) | (go_at_call 32; go_loud (refine (HC32.out _ (HQ.out.up (bl_al HB1.out _))).mono ?_; rintro e w2 ⟨rfl, hb⟩; have HB2 : Hid (Below w.heap.size w w2) := bl_tr (bl_al HB1.out _) hb; have HX2 : Hid (Box w2 w.heap.size (roomCs r q)) := (HX1.out.al (by simp) _).bl (by simp) hb; have HY2 : Hid (w2.heap[w1.heap.size]? = some (.cells (roomCs R Q) 31 (0, 0))) := (hb.block _ (Array.getElem?_eq_some_iff.1 (HY1.out _)).1).trans (HY1.out _); clear hbx1; have hbx2 := HX2.out; unfold Box roomCs at hbx2; clear hb)) | (have hz := HB3; clear hz; go_at_call 45; go_loud (refine (HC45R.out _ (HQR.out.up HB3.out)).mono ?_; rintro e w4 ⟨rfl, hb⟩; have HB4 : Hid (Below w.heap.size w w4) := bl_tr HB3.out hb; have HY4 : Hid (w4.heap[w1.heap.size]? = some (.cells (roomCs R Q) 31 (0, 0))) := (hb.block _ (Array.getElem?_eq_some_iff.1 HY3.out).1).trans HY3.out; clear hbx3; have hbx4 : ∀ o, w4.cell? ⟨w1.heap.size, o, none⟩ = (roomCs R Q)[o]? := fun o => (by simp [World.cell?, HY4.out]); unfold roomCs at hbx4; clear hb)) | (have hz := HB2; clear hz; go_at_call 45; go_loud (refine (HC45.out _ (HQ.out.up HB2.out)).mono ?_; rintro e w3 ⟨rfl, hb⟩; have HB3 : Hid (Below w.heap.size w w3) := bl_tr HB2.out hb; have HY3 : Hid (w3.heap[w1.heap.size]? = some (.cells (roomCs R Q) 31 (0, 0))) := (hb.block _ (Array.getElem?_eq_some_iff.1 HY2.out).1).trans HY2.out; clear hbx2; have hbx3 : ∀ o, w3.cell? ⟨w1.heap.size, o, none⟩ = (roomCs R Q)[o]? := fun o => (by simp [World.cell?, HY3.out]); unfold roomCs at hbx3; clear hb)) | (have hz := HB4; clear hz; go_at_call 47; go_loud (refine (HC47.out _ (HQR.out.up HB4.out) (HX.out.up HB4.out)).mono ?_; rintro e w5 ⟨A5, K5, rfl, hi5, hp5, hb⟩; have HI5 := Lib.hid hi5; have HP5 := Lib.hid hp5; have HB5 : Hid (Below w.heap.size w w5) := bl_tr HB4.out hb; have HY5 : Hid (w5.heap[w1.heap.size]? = some (.cells (roomCs R Q) 31 (0, 0))) := (hb.block _ (Array.getElem?_eq_some_iff.1 HY4.out).1).trans HY4.out; clear hbx4; have hbx5 : ∀ o, w5.cell? ⟨w1.heap.size, o, none⟩ = (roomCs R Q)[o]? := fun o => (by simp [World.cell?, HY5.out]); unfold roomCs at hbx5; clear hb hi5 hp5)) | (have hz := HB5; clear hz; go_at_call 25; go_loud (refine (HC25.out _ (HQR.out.up HB5.out)).mono ?_; rintro e w6 ⟨q6, rfl, hq6, hb⟩; have HI6 : Hid (IntsAt w6 w6.heap.size A5 P) := HI5.out.up hb; have HQ6 := Lib.hid hq6; have HB6 : Hid (Below w.heap.size w w6) := bl_tr HB5.out hb; have HY6 : Hid (w6.heap[w1.heap.size]? = some (.cells (roomCs R Q) 31 (0, 0))) := (hb.block _ (Array.getElem?_eq_some_iff.1 HY5.out).1).trans HY5.out; clear hbx5; have hbx6 : ∀ o, w6.cell? ⟨w1.heap.size, o, none⟩ = (roomCs R Q)[o]? := fun o => (by simp [World.cell?, HY6.out]); unfold roomCs at hbx6; clear hb hq6)) | (have hz := HI6; clear hz; refine wpList_clone rfl w6 _ _ rfl P A5 K5 _ rfl rfl rfl (HI6.out.below (bl_al (Below.refl _ _) _)) HP5.out HPL.out ?_; go_loud (intro A7 K7 w7 hi7 hb; have HI7 := Lib.hid hi7; have HQ7 := Lib.hid (HQ6.out.up hb); have HB7 : Hid (Below w.heap.size w w7) := bl_tr HB6.out hb; have HY7 : Hid (w7.heap[w1.heap.size]? = some (.cells (roomCs R Q) 31 (0, 0))) := (hb.block _ (Array.getElem?_eq_some_iff.1 HY6.out).1).trans HY6.out; clear hbx6; have hbx7 : ∀ o, w7.cell? ⟨w1.heap.size, o, none⟩ = (roomCs R Q)[o]? := fun o => (by simp [World.cell?, HY7.out]); unfold roomCs at hbx7; clear hb hi7)) | (have hz := HB7; clear hz; go_at_call 48; go_loud (refine (HC48.out q6 A7 K7 _ HQ7.out HI7.out).mono ?_; rintro e w8 ⟨rfl, hb⟩; have HB8 : Hid (Below w.heap.size w w8) := bl_tr HB7.out hb; have HY8 : Hid (w8.heap[w1.heap.size]? = some (.cells (roomCs R Q) 31 (0, 0))) := (hb.block _ (Array.getElem?_eq_some_iff.1 HY7.out).1).trans HY7.out; clear hbx7; have hbx8 : ∀ o, w8.cell? ⟨w1.heap.size, o, none⟩ = (roomCs R Q)[o]? := fun o => (by simp [World.cell?, HY8.out]); unfold roomCs at hbx8; clear hb)) | (have hz := HB8; clear hz; go_at_call 46; refine (bathed_c _).mono ?_; rintro e w9 ⟨rfl, hb⟩; have HB9 := Lib.hid (bl_tr HB8.out hb); clear hb))
  go_ret
  exact ⟨rfl, HB9.out⟩
set_option maxRecDepth 100000 in
set_option maxHeartbeats 8000000 in
theorem tb_ten (r R : Rm) (q Q : RA) (a : Option Addr) (ws : List Int) (k : Nat) (hour : Int) (w : World) (hq : RoomAt w w.heap.size r q) (hqR : RoomAt w w.heap.size R Q)
    (hc44 : ∀ w, Calls Tryz.prog 44 #[roomV r q] w fun e w' => e = .returned (roomV R Q) ∧ Below w.heap.size w w')
    (hx : U16At w w.heap.size a ws) (hh0 : 0 ≤ hour) (hh9 : hour ≤ 255) (P : List Int) (hPL : P.length ≤ 1000000) (h : Nat) (hl0 : 0 ≤ R.cop.last) (hl4 : R.cop.last ≤ 4) (hhl : (h : Int) ≤ R.cop.last) (htm : hour.tmod (R.cop.last + 1) = (h : Int))
    (hc32 : ∀ w, RoomAt w w.heap.size r q → Calls Tryz.prog 32 #[roomV r q] w fun e w' => e = .returned (.bool true) ∧ Below w.heap.size w w') (hc45 : ∀ w, RoomAt w w.heap.size r q → Calls Tryz.prog 45 #[roomV r q] w fun e w' => e = .returned (.int .i64 0) ∧ Below w.heap.size w w') (hc45R : ∀ w, RoomAt w w.heap.size R Q → Calls Tryz.prog 45 #[roomV R Q] w fun e w' => e = .returned (.int .i64 0) ∧ Below w.heap.size w w')
    (hc47 : ∀ w, RoomAt w w.heap.size R Q → U16At w w.heap.size a ws → Calls Tryz.prog 47 #[roomV R Q, .slice a ws.length k] w fun e w' => ∃ A K, e = .returned (.slice A P.length K) ∧ IntsAt w' w'.heap.size A P ∧ PA A P.length K ∧ Below w.heap.size w w')
    (hc25 : ∀ w, RoomAt w w.heap.size R Q → Calls Tryz.prog 25 #[roomV R Q] w fun e w' => ∃ q', e = .returned (roomV R q') ∧ RoomAt w' w'.heap.size R q' ∧ Below w.heap.size w w')
    (fx fe : Int) (hc48 : ∀ q' A K w, RoomAt w w.heap.size R q' → IntsAt w w.heap.size A P → Calls Tryz.prog 48 #[roomV R q', .slice A P.length K, .int .i64 h] w fun e w' => e = .returned (.tuple #[.int .i64 fx, .int .i64 fe]) ∧ Below w.heap.size w w')
    (full : Int) (hc37 : ∀ w, Calls Tryz.prog 37 #[roomV R Q] w fun e w' => e = .returned (.int .i64 full) ∧ Below w.heap.size w w')
    (ns : List Int) (hc49 : ∀ A K w, IntsAt w w.heap.size A P → Calls Tryz.prog 49 #[roomV R Q, .slice A P.length K, .int .i64 full] w fun e w' => ∃ A9 K9, e = .returned (.slice A9 ns.length K9) ∧ IntsAt w' w'.heap.size A9 ns ∧ Below w.heap.size w w')
    (C : Cop) (hc50 : ∀ A K w, RoomAt w w.heap.size R Q → IntsAt w w.heap.size A ns → Calls Tryz.prog 50 #[roomV R Q, .slice A ns.length K] w fun e w' => ∃ q', e = .returned (copV C q') ∧ CopAt w' w'.heap.size C q' ∧ CPl C q' ∧ Below w.heap.size w w')
    (hc51 : ∀ q' w, CopAt w w.heap.size C q' → Calls Tryz.prog 51 #[copV C q'] w fun e w' => e = .returned (.int .i64 0) ∧ Below w.heap.size w w')
    (hc53 : ∀ q' w, CopAt w w.heap.size C q' → CPl C q' → Calls Tryz.prog 53 #[copV C q'] w fun e w' => ∃ q2, e = .returned (copV C q2) ∧ CopAt w' w'.heap.size C q2 ∧ Below w.heap.size w w')
    (lx le : Int) (hc52 : ∀ q' w, CopAt w w.heap.size C q' → Calls Tryz.prog 52 #[copV C q'] w fun e w' => e = .returned (.tuple #[.int .i64 lx, .int .i64 le]) ∧ Below w.heap.size w w')
    (sx se : Int) (hc54 : ∀ q' w, CopAt w w.heap.size C q' → Calls Tryz.prog 54 #[copV C q', .int .i64 h] w fun e w' => e = .returned (.tuple #[.int .i64 sx, .int .i64 se]) ∧ Below w.heap.size w w')
    (hfe : fe = 10) (hle : le = 0) (hse : se = 10) : Calls Tryz.prog 7 #[roomV r q, .slice a ws.length k, .int .u8 hour] w fun e w' => e = .returned (.bool true) ∧ Below w.heap.size w w' := by
  subst hfe hle hse
  have HQ := Lib.hid hq
  have HQR := Lib.hid hqR
  have HX := Lib.hid hx
  have HPL := Lib.hid hPL
  have HC44 := Lib.hid hc44
  have HC32 := Lib.hid hc32
  have HC45 := Lib.hid hc45
  have HC45R := Lib.hid hc45R
  have HC47 := Lib.hid hc47
  have HC25 := Lib.hid hc25
  have HC48 := Lib.hid hc48
  have hd1 : ¬ (R.cop.last + 1 = 0) := by omega
  have hd2 : (R.cop.last + 1 == 0) = false := by simpa using hd1
  have hd3 : IntKind.i64.wrap (R.cop.last + 1) = R.cop.last + 1 := IntWalk.i64_in _ (by omega)
  have hd4 : IntKind.i64.wrap hour = hour := IntWalk.i64_in _ (by omega)
  clear hq hqR hx hPL hc44 hc32 hc45 hc45R hc47 hc25 hc48
  have HC37 := Lib.hid hc37
  have HC49 := Lib.hid hc49
  have HC50 := Lib.hid hc50
  have HC51 := Lib.hid hc51
  have HC53 := Lib.hid hc53
  have HC52 := Lib.hid hc52
  have HC54 := Lib.hid hc54
  clear hc37 hc49 hc50 hc51 hc53 hc52 hc54
  go_enter Tryz.func7, Tryz.ntmps7
  go_wp2_with (first | (go_at_call 44; go_loud (refine (HC44.out _).mono ?_; rintro e w1 ⟨rfl, hb⟩; have HB1 : Hid (Below w.heap.size w w1) := bl_tr (bl_al (Below.refl w.heap.size w) _) hb; have HX1 : Hid (Box w1 w.heap.size (roomCs r q)) := (Box.new w (roomCs r q) 31 (0, 0)).bl (by simp) hb; have hbx1 := HX1.out; unfold Box roomCs at hbx1; have HY1 : Hid (∀ o, (w1.alloc o).heap[w1.heap.size]? = some o) := fun o => World.alloc_heap_new w1 o; clear hb)) | (go_at_call 32; go_loud (refine (HC32.out _ (HQ.out.up (bl_al HB1.out _))).mono ?_; rintro e w2 ⟨rfl, hb⟩; have HB2 : Hid (Below w.heap.size w w2) := bl_tr (bl_al HB1.out _) hb; have HX2 : Hid (Box w2 w.heap.size (roomCs r q)) := (HX1.out.al (by simp) _).bl (by simp) hb; have HY2 : Hid (w2.heap[w1.heap.size]? = some (.cells (roomCs R Q) 31 (0, 0))) := (hb.block _ (Array.getElem?_eq_some_iff.1 (HY1.out _)).1).trans (HY1.out _); clear hbx1; have hbx2 := HX2.out; unfold Box roomCs at hbx2; clear hb)) | (have hz := HB3; clear hz; go_at_call 45; go_loud (refine (HC45R.out _ (HQR.out.up HB3.out)).mono ?_; rintro e w4 ⟨rfl, hb⟩; have HB4 : Hid (Below w.heap.size w w4) := bl_tr HB3.out hb; have HY4 : Hid (w4.heap[w1.heap.size]? = some (.cells (roomCs R Q) 31 (0, 0))) := (hb.block _ (Array.getElem?_eq_some_iff.1 HY3.out).1).trans HY3.out; clear hbx3; have hbx4 : ∀ o, w4.cell? ⟨w1.heap.size, o, none⟩ = (roomCs R Q)[o]? := fun o => (by simp [World.cell?, HY4.out]); unfold roomCs at hbx4; clear hb)) | (have hz := HB2; clear hz; go_at_call 45; go_loud (refine (HC45.out _ (HQ.out.up HB2.out)).mono ?_; rintro e w3 ⟨rfl, hb⟩; have HB3 : Hid (Below w.heap.size w w3) := bl_tr HB2.out hb; have HY3 : Hid (w3.heap[w1.heap.size]? = some (.cells (roomCs R Q) 31 (0, 0))) := (hb.block _ (Array.getElem?_eq_some_iff.1 HY2.out).1).trans HY2.out; clear hbx2; have hbx3 : ∀ o, w3.cell? ⟨w1.heap.size, o, none⟩ = (roomCs R Q)[o]? := fun o => (by simp [World.cell?, HY3.out]); unfold roomCs at hbx3; clear hb)) | (have hz := HB4; clear hz; go_at_call 47; go_loud (refine (HC47.out _ (HQR.out.up HB4.out) (HX.out.up HB4.out)).mono ?_; rintro e w5 ⟨A5, K5, rfl, hi5, hp5, hb⟩; have HI5 := Lib.hid hi5; have HP5 := Lib.hid hp5; have HB5 : Hid (Below w.heap.size w w5) := bl_tr HB4.out hb; have HY5 : Hid (w5.heap[w1.heap.size]? = some (.cells (roomCs R Q) 31 (0, 0))) := (hb.block _ (Array.getElem?_eq_some_iff.1 HY4.out).1).trans HY4.out; clear hbx4; have hbx5 : ∀ o, w5.cell? ⟨w1.heap.size, o, none⟩ = (roomCs R Q)[o]? := fun o => (by simp [World.cell?, HY5.out]); unfold roomCs at hbx5; clear hb hi5 hp5)) | (have hz := HB5; clear hz; go_at_call 25; go_loud (refine (HC25.out _ (HQR.out.up HB5.out)).mono ?_; rintro e w6 ⟨q6, rfl, hq6, hb⟩; have HI6 : Hid (IntsAt w6 w6.heap.size A5 P) := HI5.out.up hb; have HQ6 := Lib.hid hq6; have HB6 : Hid (Below w.heap.size w w6) := bl_tr HB5.out hb; have HY6 : Hid (w6.heap[w1.heap.size]? = some (.cells (roomCs R Q) 31 (0, 0))) := (hb.block _ (Array.getElem?_eq_some_iff.1 HY5.out).1).trans HY5.out; clear hbx5; have hbx6 : ∀ o, w6.cell? ⟨w1.heap.size, o, none⟩ = (roomCs R Q)[o]? := fun o => (by simp [World.cell?, HY6.out]); unfold roomCs at hbx6; clear hb hq6)) | (have hz := HI6; clear hz; refine wpList_clone rfl w6 _ _ rfl P A5 K5 _ rfl rfl rfl (HI6.out.below (bl_al (Below.refl _ _) _)) HP5.out HPL.out ?_; go_loud (intro A7 K7 w7 hi7 hb; have HI7 := Lib.hid hi7; have HJ7 : Hid (IntsAt w7 w7.heap.size A5 P) := HI6.out.up hb; have HQ7 := Lib.hid (HQ6.out.up hb); have HB7 : Hid (Below w.heap.size w w7) := bl_tr HB6.out hb; have HY7 : Hid (w7.heap[w1.heap.size]? = some (.cells (roomCs R Q) 31 (0, 0))) := (hb.block _ (Array.getElem?_eq_some_iff.1 HY6.out).1).trans HY6.out; clear hbx6; have hbx7 : ∀ o, w7.cell? ⟨w1.heap.size, o, none⟩ = (roomCs R Q)[o]? := fun o => (by simp [World.cell?, HY7.out]); unfold roomCs at hbx7; clear hb hi7)) | (have hz := HB7; clear hz; go_at_call 48; go_loud (refine (HC48.out q6 A7 K7 _ HQ7.out HI7.out).mono ?_; rintro e w8 ⟨rfl, hb⟩; have HJ8 : Hid (IntsAt w8 w8.heap.size A5 P) := HJ7.out.up hb; have HB8 : Hid (Below w.heap.size w w8) := bl_tr HB7.out hb; have HY8 : Hid (w8.heap[w1.heap.size]? = some (.cells (roomCs R Q) 31 (0, 0))) := (hb.block _ (Array.getElem?_eq_some_iff.1 HY7.out).1).trans HY7.out; clear hbx7; have hbx8 : ∀ o, w8.cell? ⟨w1.heap.size, o, none⟩ = (roomCs R Q)[o]? := fun o => (by simp [World.cell?, HY8.out]); unfold roomCs at hbx8; clear hb)))
  have k0 : w8.cell? ⟨w1.heap.size, 0, none⟩ = some (.int .i64 R.cop.last) := hbx8 0
  have k1 : w8.cell? ⟨w1.heap.size, 1, none⟩ = some (.int .i64 R.cop.start) := hbx8 1
  have k2 : w8.cell? ⟨w1.heap.size, 2, none⟩ = some (.int .i64 R.cop.most) := hbx8 2
  have k3 : w8.cell? ⟨w1.heap.size, 3, none⟩ = some (.int .i64 R.cop.per) := hbx8 3
  have k4 : w8.cell? ⟨w1.heap.size, 4, none⟩ = some (.int .i64 R.cop.shovels) := hbx8 4
  have k5 : w8.cell? ⟨w1.heap.size, 5, none⟩ = some (.slice Q.q.a1 R.cop.coal.length Q.q.c1) := hbx8 5
  have k6 : w8.cell? ⟨w1.heap.size, 6, none⟩ = some (.slice Q.q.a2 R.cop.want.length Q.q.c2) := hbx8 6
  have k7 : w8.cell? ⟨w1.heap.size, 7, none⟩ = some (.int .i64 R.cop.hlo) := hbx8 7
  have k8 : w8.cell? ⟨w1.heap.size, 8, none⟩ = some (.int .i64 R.cop.hhi) := hbx8 8
  have k9 : w8.cell? ⟨w1.heap.size, 9, none⟩ = some (.slice Q.q.a3 R.cop.loss.length Q.q.c3) := hbx8 9
  have k10 : w8.cell? ⟨w1.heap.size, 10, none⟩ = some (.slice Q.q.a4 R.cop.rds.length Q.q.c4) := hbx8 10
  have k11 : w8.cell? ⟨w1.heap.size, 11, none⟩ = some (.int .i64 R.buckets) := hbx8 11
  have k12 : w8.cell? ⟨w1.heap.size, 12, none⟩ = some (.int .i64 R.places) := hbx8 12
  have k13 : w8.cell? ⟨w1.heap.size, 13, none⟩ = some (.slice Q.a5 R.baths.length Q.c5) := hbx8 13
  clear hbx8
  go_region_held3 (fun w' => w'.cell? ⟨w1.heap.size, 0, none⟩ = some (.int .i64 R.cop.last) ∧ w'.cell? ⟨w1.heap.size, 1, none⟩ = some (.int .i64 R.cop.start) ∧ w'.cell? ⟨w1.heap.size, 2, none⟩ = some (.int .i64 R.cop.most) ∧ w'.cell? ⟨w1.heap.size, 3, none⟩ = some (.int .i64 R.cop.per) ∧ w'.cell? ⟨w1.heap.size, 4, none⟩ = some (.int .i64 R.cop.shovels) ∧ w'.cell? ⟨w1.heap.size, 5, none⟩ = some (.slice Q.q.a1 R.cop.coal.length Q.q.c1) ∧ w'.cell? ⟨w1.heap.size, 6, none⟩ = some (.slice Q.q.a2 R.cop.want.length Q.q.c2) ∧ w'.cell? ⟨w1.heap.size, 7, none⟩ = some (.int .i64 R.cop.hlo) ∧ w'.cell? ⟨w1.heap.size, 8, none⟩ = some (.int .i64 R.cop.hhi) ∧ w'.cell? ⟨w1.heap.size, 9, none⟩ = some (.slice Q.q.a3 R.cop.loss.length Q.q.c3) ∧ w'.cell? ⟨w1.heap.size, 10, none⟩ = some (.slice Q.q.a4 R.cop.rds.length Q.q.c4) ∧ w'.cell? ⟨w1.heap.size, 11, none⟩ = some (.int .i64 R.buckets) ∧ w'.cell? ⟨w1.heap.size, 12, none⟩ = some (.int .i64 R.places) ∧ w'.cell? ⟨w1.heap.size, 13, none⟩ = some (.slice Q.a5 R.baths.length Q.c5)) (first | assumption | go_keep) (first | (have hz := HD9; clear hz; go_at_call 49; go_loud (refine (HC49.out A5 K5 _ HJ9.out).mono ?_; rintro e w10 ⟨A9, K9, rfl, hi, hb⟩; have HD10 := Lib.hid (bl_tr HD9.out hb); have HI10 := Lib.hid hi; have hS10 : (fun w' => w'.cell? ⟨w1.heap.size, 0, none⟩ = some (.int .i64 R.cop.last) ∧ w'.cell? ⟨w1.heap.size, 1, none⟩ = some (.int .i64 R.cop.start) ∧ w'.cell? ⟨w1.heap.size, 2, none⟩ = some (.int .i64 R.cop.most) ∧ w'.cell? ⟨w1.heap.size, 3, none⟩ = some (.int .i64 R.cop.per) ∧ w'.cell? ⟨w1.heap.size, 4, none⟩ = some (.int .i64 R.cop.shovels) ∧ w'.cell? ⟨w1.heap.size, 5, none⟩ = some (.slice Q.q.a1 R.cop.coal.length Q.q.c1) ∧ w'.cell? ⟨w1.heap.size, 6, none⟩ = some (.slice Q.q.a2 R.cop.want.length Q.q.c2) ∧ w'.cell? ⟨w1.heap.size, 7, none⟩ = some (.int .i64 R.cop.hlo) ∧ w'.cell? ⟨w1.heap.size, 8, none⟩ = some (.int .i64 R.cop.hhi) ∧ w'.cell? ⟨w1.heap.size, 9, none⟩ = some (.slice Q.q.a3 R.cop.loss.length Q.q.c3) ∧ w'.cell? ⟨w1.heap.size, 10, none⟩ = some (.slice Q.q.a4 R.cop.rds.length Q.q.c4) ∧ w'.cell? ⟨w1.heap.size, 11, none⟩ = some (.int .i64 R.buckets) ∧ w'.cell? ⟨w1.heap.size, 12, none⟩ = some (.int .i64 R.places) ∧ w'.cell? ⟨w1.heap.size, 13, none⟩ = some (.slice Q.a5 R.baths.length Q.c5)) w10 := ⟨cell_later HD10.out (w := w8.drew) k0, cell_later HD10.out (w := w8.drew) k1, cell_later HD10.out (w := w8.drew) k2, cell_later HD10.out (w := w8.drew) k3, cell_later HD10.out (w := w8.drew) k4, cell_later HD10.out (w := w8.drew) k5, cell_later HD10.out (w := w8.drew) k6, cell_later HD10.out (w := w8.drew) k7, cell_later HD10.out (w := w8.drew) k8, cell_later HD10.out (w := w8.drew) k9, cell_later HD10.out (w := w8.drew) k10, cell_later HD10.out (w := w8.drew) k11, cell_later HD10.out (w := w8.drew) k12, cell_later HD10.out (w := w8.drew) k13⟩; dsimp only at hS10; clear hb hi)) | (go_at_call 37; go_loud (refine (HC37.out _).mono ?_; rintro e w9 ⟨rfl, hb⟩; have HD9 := Lib.hid hb; have HJ9 : Hid (IntsAt w9 w9.heap.size A5 P) := HJ8.out.up (bl_tr (bl_dr (Below.refl _ _)) hb); have hS9 : (fun w' => w'.cell? ⟨w1.heap.size, 0, none⟩ = some (.int .i64 R.cop.last) ∧ w'.cell? ⟨w1.heap.size, 1, none⟩ = some (.int .i64 R.cop.start) ∧ w'.cell? ⟨w1.heap.size, 2, none⟩ = some (.int .i64 R.cop.most) ∧ w'.cell? ⟨w1.heap.size, 3, none⟩ = some (.int .i64 R.cop.per) ∧ w'.cell? ⟨w1.heap.size, 4, none⟩ = some (.int .i64 R.cop.shovels) ∧ w'.cell? ⟨w1.heap.size, 5, none⟩ = some (.slice Q.q.a1 R.cop.coal.length Q.q.c1) ∧ w'.cell? ⟨w1.heap.size, 6, none⟩ = some (.slice Q.q.a2 R.cop.want.length Q.q.c2) ∧ w'.cell? ⟨w1.heap.size, 7, none⟩ = some (.int .i64 R.cop.hlo) ∧ w'.cell? ⟨w1.heap.size, 8, none⟩ = some (.int .i64 R.cop.hhi) ∧ w'.cell? ⟨w1.heap.size, 9, none⟩ = some (.slice Q.q.a3 R.cop.loss.length Q.q.c3) ∧ w'.cell? ⟨w1.heap.size, 10, none⟩ = some (.slice Q.q.a4 R.cop.rds.length Q.q.c4) ∧ w'.cell? ⟨w1.heap.size, 11, none⟩ = some (.int .i64 R.buckets) ∧ w'.cell? ⟨w1.heap.size, 12, none⟩ = some (.int .i64 R.places) ∧ w'.cell? ⟨w1.heap.size, 13, none⟩ = some (.slice Q.a5 R.baths.length Q.c5)) w9 := ⟨cell_later hb (w := w8.drew) k0, cell_later hb (w := w8.drew) k1, cell_later hb (w := w8.drew) k2, cell_later hb (w := w8.drew) k3, cell_later hb (w := w8.drew) k4, cell_later hb (w := w8.drew) k5, cell_later hb (w := w8.drew) k6, cell_later hb (w := w8.drew) k7, cell_later hb (w := w8.drew) k8, cell_later hb (w := w8.drew) k9, cell_later hb (w := w8.drew) k10, cell_later hb (w := w8.drew) k11, cell_later hb (w := w8.drew) k12, cell_later hb (w := w8.drew) k13⟩; dsimp only at hS9; clear hb)))
  clear hS9 hS10
  have HB10 : Hid (Below w.heap.size w w10) := bl_tr (bl_dr HB8.out) HD10.out
  have HY10 : Hid (w10.heap[w1.heap.size]? = some (.cells (roomCs R Q) 31 (0, 0))) := (HD10.out.block _ (Array.getElem?_eq_some_iff.1 HY8.out).1).trans HY8.out
  have hbx10 : ∀ o, w10.cell? ⟨w1.heap.size, o, none⟩ = (roomCs R Q)[o]? := fun o => (by simp [World.cell?, HY10.out])
  unfold roomCs at hbx10
  go_wp2_with (first | (have hz := HB10; clear hz; go_at_call 50; go_loud (refine (HC50.out A9 K9 _ (HQR.out.up HB10.out) HI10.out).mono ?_; clear hbx10; rintro e w11 ⟨q11, rfl, hc, hp, hb⟩; have HQC11 := Lib.hid hc; have HPC := Lib.hid hp; have HI11 : Hid (IntsAt w11 w11.heap.size A9 ns) := HI10.out.up hb; have HY11 : Hid (w11.heap[w1.heap.size]? = some (.cells (roomCs R Q) 31 (0, 0))) := (hb.block _ (Array.getElem?_eq_some_iff.1 HY10.out).1).trans HY10.out; have HB11 : Hid (Below w.heap.size w w11) := bl_tr HB10.out hb; have HZ11 : Hid (∀ o, (w11.alloc o).heap[w11.heap.size]? = some o) := fun o => World.alloc_heap_new w11 o; clear hb hc hp)) | (have hz := HB11; clear hz; go_at_call 51; go_loud (refine (HC51.out q11 _ (HQC11.out.up (bl_al (Below.refl _ _) _))).mono ?_; rintro e w12 ⟨rfl, hb2⟩; have hb := bl_tr (bl_al (Below.refl w11.heap.size w11) _) hb2; have HI12 : Hid (IntsAt w12 w12.heap.size A9 ns) := HI11.out.up hb; have HY12 : Hid (w12.heap[w1.heap.size]? = some (.cells (roomCs R Q) 31 (0, 0))) := (hb.block _ (Array.getElem?_eq_some_iff.1 HY11.out).1).trans HY11.out; have HB12 : Hid (Below w.heap.size w w12) := bl_tr HB11.out hb; have HZ12 : Hid (w12.heap[w11.heap.size]? = some (.cells (copCs C q11) 28 (0, 0))) := (hb2.block _ (Array.getElem?_eq_some_iff.1 (HZ11.out _)).1).trans (HZ11.out _); have hbz12 : ∀ o, w12.cell? ⟨w11.heap.size, o, none⟩ = (copCs C q11)[o]? := fun o => (by simp [World.cell?, HZ12.out]); unfold copCs at hbz12; have HQC12 : Hid (CopAt w12 w12.heap.size C q11) := HQC11.out.up hb; clear hb hb2)) | (have hz := HB14; clear hz; go_at_call 53; go_loud (refine (HC53.out q11 _ HQC14.out HPC.out).mono ?_; rintro e w15 ⟨q15, rfl, hc, hb⟩; have HQ15 := Lib.hid hc; have HI15 : Hid (IntsAt w15 w15.heap.size A9 ns) := HI14.out.up hb; have HY15 : Hid (w15.heap[w1.heap.size]? = some (.cells (roomCs R Q) 31 (0, 0))) := (hb.block _ (Array.getElem?_eq_some_iff.1 HY14.out).1).trans HY14.out; have HB15 : Hid (Below w.heap.size w w15) := bl_tr HB14.out hb; have HZ15 : Hid (w15.heap[w11.heap.size]? = some (.cells (copCs C q11) 28 (0, 0))) := (hb.block _ (Array.getElem?_eq_some_iff.1 HZ14.out).1).trans HZ14.out; clear hbz14; have hbz15 : ∀ o, w15.cell? ⟨w11.heap.size, o, none⟩ = (copCs C q11)[o]? := fun o => (by simp [World.cell?, HZ15.out]); unfold copCs at hbz15; have HQC15 : Hid (CopAt w15 w15.heap.size C q11) := HQC14.out.up hb; clear hb hc)) | (have hz := HB12; clear hz; go_at_call 53; go_loud (refine (HC53.out q11 _ HQC12.out HPC.out).mono ?_; rintro e w13 ⟨q13, rfl, hc, hb⟩; have HQ13 := Lib.hid hc; have HI13 : Hid (IntsAt w13 w13.heap.size A9 ns) := HI12.out.up hb; have HY13 : Hid (w13.heap[w1.heap.size]? = some (.cells (roomCs R Q) 31 (0, 0))) := (hb.block _ (Array.getElem?_eq_some_iff.1 HY12.out).1).trans HY12.out; have HB13 : Hid (Below w.heap.size w w13) := bl_tr HB12.out hb; have HZ13 : Hid (w13.heap[w11.heap.size]? = some (.cells (copCs C q11) 28 (0, 0))) := (hb.block _ (Array.getElem?_eq_some_iff.1 HZ12.out).1).trans HZ12.out; clear hbz12; have hbz13 : ∀ o, w13.cell? ⟨w11.heap.size, o, none⟩ = (copCs C q11)[o]? := fun o => (by simp [World.cell?, HZ13.out]); unfold copCs at hbz13; have HQC13 : Hid (CopAt w13 w13.heap.size C q11) := HQC12.out.up hb; clear hb hc)) | (have hz := HB13; clear hz; go_at_call 52; go_loud (refine (HC52.out q13 _ HQ13.out).mono ?_; rintro e w14 ⟨rfl, hb⟩; have HI14 : Hid (IntsAt w14 w14.heap.size A9 ns) := HI13.out.up hb; have HY14 : Hid (w14.heap[w1.heap.size]? = some (.cells (roomCs R Q) 31 (0, 0))) := (hb.block _ (Array.getElem?_eq_some_iff.1 HY13.out).1).trans HY13.out; have HB14 : Hid (Below w.heap.size w w14) := bl_tr HB13.out hb; have HZ14 : Hid (w14.heap[w11.heap.size]? = some (.cells (copCs C q11) 28 (0, 0))) := (hb.block _ (Array.getElem?_eq_some_iff.1 HZ13.out).1).trans HZ13.out; clear hbz13; have hbz14 : ∀ o, w14.cell? ⟨w11.heap.size, o, none⟩ = (copCs C q11)[o]? := fun o => (by simp [World.cell?, HZ14.out]); unfold copCs at hbz14; have HQC14 : Hid (CopAt w14 w14.heap.size C q11) := HQC13.out.up hb; clear hb)) | (have hz := HB15; clear hz; go_at_call 54; go_loud (refine (HC54.out q15 _ HQ15.out).mono ?_; rintro e w16 ⟨rfl, hb⟩; have HI16 : Hid (IntsAt w16 w16.heap.size A9 ns) := HI15.out.up hb; have HY16 : Hid (w16.heap[w1.heap.size]? = some (.cells (roomCs R Q) 31 (0, 0))) := (hb.block _ (Array.getElem?_eq_some_iff.1 HY15.out).1).trans HY15.out; have HB16 : Hid (Below w.heap.size w w16) := bl_tr HB15.out hb; have HZ16 : Hid (w16.heap[w11.heap.size]? = some (.cells (copCs C q11) 28 (0, 0))) := (hb.block _ (Array.getElem?_eq_some_iff.1 HZ15.out).1).trans HZ15.out; clear hbz15; have hbz16 : ∀ o, w16.cell? ⟨w11.heap.size, o, none⟩ = (copCs C q11)[o]? := fun o => (by simp [World.cell?, HZ16.out]); unfold copCs at hbz16; have HQC16 : Hid (CopAt w16 w16.heap.size C q11) := HQC15.out.up hb; clear hb)) | (have hz := HB16; clear hz; go_at_call 46; refine (bathed_c _).mono ?_; rintro e w17 ⟨rfl, hb⟩; have HB17 := Lib.hid (bl_tr HB16.out hb); clear hb))
  go_ret
  exact ⟨rfl, HB17.out⟩
set_option maxRecDepth 100000 in
set_option maxHeartbeats 8000000 in
theorem tb_sure (r R : Rm) (q Q : RA) (a : Option Addr) (ws : List Int) (k : Nat) (hour : Int) (w : World) (hq : RoomAt w w.heap.size r q) (hqR : RoomAt w w.heap.size R Q)
    (hc44 : ∀ w, Calls Tryz.prog 44 #[roomV r q] w fun e w' => e = .returned (roomV R Q) ∧ Below w.heap.size w w')
    (hx : U16At w w.heap.size a ws) (hh0 : 0 ≤ hour) (hh9 : hour ≤ 255) (P : List Int) (hPL : P.length ≤ 1000000) (h : Nat) (hl0 : 0 ≤ R.cop.last) (hl4 : R.cop.last ≤ 4) (hhl : (h : Int) ≤ R.cop.last) (htm : hour.tmod (R.cop.last + 1) = (h : Int))
    (hc32 : ∀ w, RoomAt w w.heap.size r q → Calls Tryz.prog 32 #[roomV r q] w fun e w' => e = .returned (.bool true) ∧ Below w.heap.size w w') (hc45 : ∀ w, RoomAt w w.heap.size r q → Calls Tryz.prog 45 #[roomV r q] w fun e w' => e = .returned (.int .i64 0) ∧ Below w.heap.size w w') (hc45R : ∀ w, RoomAt w w.heap.size R Q → Calls Tryz.prog 45 #[roomV R Q] w fun e w' => e = .returned (.int .i64 0) ∧ Below w.heap.size w w')
    (hc47 : ∀ w, RoomAt w w.heap.size R Q → U16At w w.heap.size a ws → Calls Tryz.prog 47 #[roomV R Q, .slice a ws.length k] w fun e w' => ∃ A K, e = .returned (.slice A P.length K) ∧ IntsAt w' w'.heap.size A P ∧ PA A P.length K ∧ Below w.heap.size w w')
    (hc25 : ∀ w, RoomAt w w.heap.size R Q → Calls Tryz.prog 25 #[roomV R Q] w fun e w' => ∃ q', e = .returned (roomV R q') ∧ RoomAt w' w'.heap.size R q' ∧ Below w.heap.size w w')
    (fx fe : Int) (hc48 : ∀ q' A K w, RoomAt w w.heap.size R q' → IntsAt w w.heap.size A P → Calls Tryz.prog 48 #[roomV R q', .slice A P.length K, .int .i64 h] w fun e w' => e = .returned (.tuple #[.int .i64 fx, .int .i64 fe]) ∧ Below w.heap.size w w')
    (full : Int) (hc37 : ∀ w, Calls Tryz.prog 37 #[roomV R Q] w fun e w' => e = .returned (.int .i64 full) ∧ Below w.heap.size w w')
    (ns : List Int) (hc49 : ∀ A K w, IntsAt w w.heap.size A P → Calls Tryz.prog 49 #[roomV R Q, .slice A P.length K, .int .i64 full] w fun e w' => ∃ A9 K9, e = .returned (.slice A9 ns.length K9) ∧ IntsAt w' w'.heap.size A9 ns ∧ Below w.heap.size w w')
    (C : Cop) (hc50 : ∀ A K w, RoomAt w w.heap.size R Q → IntsAt w w.heap.size A ns → Calls Tryz.prog 50 #[roomV R Q, .slice A ns.length K] w fun e w' => ∃ q', e = .returned (copV C q') ∧ CopAt w' w'.heap.size C q' ∧ CPl C q' ∧ Below w.heap.size w w')
    (hc51 : ∀ q' w, CopAt w w.heap.size C q' → Calls Tryz.prog 51 #[copV C q'] w fun e w' => e = .returned (.int .i64 0) ∧ Below w.heap.size w w')
    (hc53 : ∀ q' w, CopAt w w.heap.size C q' → CPl C q' → Calls Tryz.prog 53 #[copV C q'] w fun e w' => ∃ q2, e = .returned (copV C q2) ∧ CopAt w' w'.heap.size C q2 ∧ Below w.heap.size w w')
    (lx le : Int) (hc52 : ∀ q' w, CopAt w w.heap.size C q' → Calls Tryz.prog 52 #[copV C q'] w fun e w' => e = .returned (.tuple #[.int .i64 lx, .int .i64 le]) ∧ Below w.heap.size w w')
    (sx se : Int) (hc54 : ∀ q' w, CopAt w w.heap.size C q' → Calls Tryz.prog 54 #[copV C q', .int .i64 h] w fun e w' => e = .returned (.tuple #[.int .i64 sx, .int .i64 se]) ∧ Below w.heap.size w w')
    (hfe : fe = 0) (hle : le = 7) (hse : se = 0) (hhn : h < ns.length) (hhw : h < C.want.length) (hnb : 0 ≤ nth ns h ∧ nth ns h ≤ 100) (hwb : 0 ≤ nth C.want h ∧ nth C.want h ≤ 20) (hp5 : 0 ≤ R.places ∧ R.places ≤ 5) (hb9 : 1 ≤ R.buckets ∧ R.buckets ≤ 9) (hsx : 0 ≤ sx ∧ sx ≤ 20) (hfx : fx = min (min (R.places - nth ns h) (sx / R.buckets)) ((20 - nth C.want h) / R.buckets)) (hnl5 : ns.length ≤ 100) (hwl5 : C.want.length ≤ 100) : Calls Tryz.prog 7 #[roomV r q, .slice a ws.length k, .int .u8 hour] w fun e w' => e = .returned (.bool true) ∧ Below w.heap.size w w' := by
  subst hfe hle hse
  have HFX := Lib.hid hfx
  clear hfx
  have HQ := Lib.hid hq
  have HQR := Lib.hid hqR
  have HX := Lib.hid hx
  have HPL := Lib.hid hPL
  have HC44 := Lib.hid hc44
  have HC32 := Lib.hid hc32
  have HC45 := Lib.hid hc45
  have HC45R := Lib.hid hc45R
  have HC47 := Lib.hid hc47
  have HC25 := Lib.hid hc25
  have HC48 := Lib.hid hc48
  have hd1 : ¬ (R.cop.last + 1 = 0) := by omega
  have hd2 : (R.cop.last + 1 == 0) = false := by simpa using hd1
  have hd3 : IntKind.i64.wrap (R.cop.last + 1) = R.cop.last + 1 := IntWalk.i64_in _ (by omega)
  have hd4 : IntKind.i64.wrap hour = hour := IntWalk.i64_in _ (by omega)
  clear hq hqR hx hPL hc44 hc32 hc45 hc45R hc47 hc25 hc48
  have HC37 := Lib.hid hc37
  have HC49 := Lib.hid hc49
  have HC50 := Lib.hid hc50
  have HC51 := Lib.hid hc51
  have HC53 := Lib.hid hc53
  have HC52 := Lib.hid hc52
  have HC54 := Lib.hid hc54
  clear hc37 hc49 hc50 hc51 hc53 hc52 hc54
  go_enter Tryz.func7, Tryz.ntmps7
  go_wp2_with (first | (go_at_call 44; go_loud (refine (HC44.out _).mono ?_; rintro e w1 ⟨rfl, hb⟩; have HB1 : Hid (Below w.heap.size w w1) := bl_tr (bl_al (Below.refl w.heap.size w) _) hb; have HX1 : Hid (Box w1 w.heap.size (roomCs r q)) := (Box.new w (roomCs r q) 31 (0, 0)).bl (by simp) hb; have hbx1 := HX1.out; unfold Box roomCs at hbx1; have HY1 : Hid (∀ o, (w1.alloc o).heap[w1.heap.size]? = some o) := fun o => World.alloc_heap_new w1 o; clear hb)) | (go_at_call 32; go_loud (refine (HC32.out _ (HQ.out.up (bl_al HB1.out _))).mono ?_; rintro e w2 ⟨rfl, hb⟩; have HB2 : Hid (Below w.heap.size w w2) := bl_tr (bl_al HB1.out _) hb; have HX2 : Hid (Box w2 w.heap.size (roomCs r q)) := (HX1.out.al (by simp) _).bl (by simp) hb; have HY2 : Hid (w2.heap[w1.heap.size]? = some (.cells (roomCs R Q) 31 (0, 0))) := (hb.block _ (Array.getElem?_eq_some_iff.1 (HY1.out _)).1).trans (HY1.out _); clear hbx1; have hbx2 := HX2.out; unfold Box roomCs at hbx2; clear hb)) | (have hz := HB3; clear hz; go_at_call 45; go_loud (refine (HC45R.out _ (HQR.out.up HB3.out)).mono ?_; rintro e w4 ⟨rfl, hb⟩; have HB4 : Hid (Below w.heap.size w w4) := bl_tr HB3.out hb; have HY4 : Hid (w4.heap[w1.heap.size]? = some (.cells (roomCs R Q) 31 (0, 0))) := (hb.block _ (Array.getElem?_eq_some_iff.1 HY3.out).1).trans HY3.out; clear hbx3; have hbx4 : ∀ o, w4.cell? ⟨w1.heap.size, o, none⟩ = (roomCs R Q)[o]? := fun o => (by simp [World.cell?, HY4.out]); unfold roomCs at hbx4; clear hb)) | (have hz := HB2; clear hz; go_at_call 45; go_loud (refine (HC45.out _ (HQ.out.up HB2.out)).mono ?_; rintro e w3 ⟨rfl, hb⟩; have HB3 : Hid (Below w.heap.size w w3) := bl_tr HB2.out hb; have HY3 : Hid (w3.heap[w1.heap.size]? = some (.cells (roomCs R Q) 31 (0, 0))) := (hb.block _ (Array.getElem?_eq_some_iff.1 HY2.out).1).trans HY2.out; clear hbx2; have hbx3 : ∀ o, w3.cell? ⟨w1.heap.size, o, none⟩ = (roomCs R Q)[o]? := fun o => (by simp [World.cell?, HY3.out]); unfold roomCs at hbx3; clear hb)) | (have hz := HB4; clear hz; go_at_call 47; go_loud (refine (HC47.out _ (HQR.out.up HB4.out) (HX.out.up HB4.out)).mono ?_; rintro e w5 ⟨A5, K5, rfl, hi5, hp5, hb⟩; have HI5 := Lib.hid hi5; have HP5 := Lib.hid hp5; have HB5 : Hid (Below w.heap.size w w5) := bl_tr HB4.out hb; have HY5 : Hid (w5.heap[w1.heap.size]? = some (.cells (roomCs R Q) 31 (0, 0))) := (hb.block _ (Array.getElem?_eq_some_iff.1 HY4.out).1).trans HY4.out; clear hbx4; have hbx5 : ∀ o, w5.cell? ⟨w1.heap.size, o, none⟩ = (roomCs R Q)[o]? := fun o => (by simp [World.cell?, HY5.out]); unfold roomCs at hbx5; clear hb hi5 hp5)) | (have hz := HB5; clear hz; go_at_call 25; go_loud (refine (HC25.out _ (HQR.out.up HB5.out)).mono ?_; rintro e w6 ⟨q6, rfl, hq6, hb⟩; have HI6 : Hid (IntsAt w6 w6.heap.size A5 P) := HI5.out.up hb; have HQ6 := Lib.hid hq6; have HB6 : Hid (Below w.heap.size w w6) := bl_tr HB5.out hb; have HY6 : Hid (w6.heap[w1.heap.size]? = some (.cells (roomCs R Q) 31 (0, 0))) := (hb.block _ (Array.getElem?_eq_some_iff.1 HY5.out).1).trans HY5.out; clear hbx5; have hbx6 : ∀ o, w6.cell? ⟨w1.heap.size, o, none⟩ = (roomCs R Q)[o]? := fun o => (by simp [World.cell?, HY6.out]); unfold roomCs at hbx6; clear hb hq6)) | (have hz := HI6; clear hz; refine wpList_clone rfl w6 _ _ rfl P A5 K5 _ rfl rfl rfl (HI6.out.below (bl_al (Below.refl _ _) _)) HP5.out HPL.out ?_; go_loud (intro A7 K7 w7 hi7 hb; have HI7 := Lib.hid hi7; have HJ7 : Hid (IntsAt w7 w7.heap.size A5 P) := HI6.out.up hb; have HQ7 := Lib.hid (HQ6.out.up hb); have HB7 : Hid (Below w.heap.size w w7) := bl_tr HB6.out hb; have HY7 : Hid (w7.heap[w1.heap.size]? = some (.cells (roomCs R Q) 31 (0, 0))) := (hb.block _ (Array.getElem?_eq_some_iff.1 HY6.out).1).trans HY6.out; clear hbx6; have hbx7 : ∀ o, w7.cell? ⟨w1.heap.size, o, none⟩ = (roomCs R Q)[o]? := fun o => (by simp [World.cell?, HY7.out]); unfold roomCs at hbx7; clear hb hi7)) | (have hz := HB7; clear hz; go_at_call 48; go_loud (refine (HC48.out q6 A7 K7 _ HQ7.out HI7.out).mono ?_; rintro e w8 ⟨rfl, hb⟩; have HJ8 : Hid (IntsAt w8 w8.heap.size A5 P) := HJ7.out.up hb; have HB8 : Hid (Below w.heap.size w w8) := bl_tr HB7.out hb; have HY8 : Hid (w8.heap[w1.heap.size]? = some (.cells (roomCs R Q) 31 (0, 0))) := (hb.block _ (Array.getElem?_eq_some_iff.1 HY7.out).1).trans HY7.out; clear hbx7; have hbx8 : ∀ o, w8.cell? ⟨w1.heap.size, o, none⟩ = (roomCs R Q)[o]? := fun o => (by simp [World.cell?, HY8.out]); unfold roomCs at hbx8; clear hb)))
  have k0 : w8.cell? ⟨w1.heap.size, 0, none⟩ = some (.int .i64 R.cop.last) := hbx8 0
  have k1 : w8.cell? ⟨w1.heap.size, 1, none⟩ = some (.int .i64 R.cop.start) := hbx8 1
  have k2 : w8.cell? ⟨w1.heap.size, 2, none⟩ = some (.int .i64 R.cop.most) := hbx8 2
  have k3 : w8.cell? ⟨w1.heap.size, 3, none⟩ = some (.int .i64 R.cop.per) := hbx8 3
  have k4 : w8.cell? ⟨w1.heap.size, 4, none⟩ = some (.int .i64 R.cop.shovels) := hbx8 4
  have k5 : w8.cell? ⟨w1.heap.size, 5, none⟩ = some (.slice Q.q.a1 R.cop.coal.length Q.q.c1) := hbx8 5
  have k6 : w8.cell? ⟨w1.heap.size, 6, none⟩ = some (.slice Q.q.a2 R.cop.want.length Q.q.c2) := hbx8 6
  have k7 : w8.cell? ⟨w1.heap.size, 7, none⟩ = some (.int .i64 R.cop.hlo) := hbx8 7
  have k8 : w8.cell? ⟨w1.heap.size, 8, none⟩ = some (.int .i64 R.cop.hhi) := hbx8 8
  have k9 : w8.cell? ⟨w1.heap.size, 9, none⟩ = some (.slice Q.q.a3 R.cop.loss.length Q.q.c3) := hbx8 9
  have k10 : w8.cell? ⟨w1.heap.size, 10, none⟩ = some (.slice Q.q.a4 R.cop.rds.length Q.q.c4) := hbx8 10
  have k11 : w8.cell? ⟨w1.heap.size, 11, none⟩ = some (.int .i64 R.buckets) := hbx8 11
  have k12 : w8.cell? ⟨w1.heap.size, 12, none⟩ = some (.int .i64 R.places) := hbx8 12
  have k13 : w8.cell? ⟨w1.heap.size, 13, none⟩ = some (.slice Q.a5 R.baths.length Q.c5) := hbx8 13
  clear hbx8
  go_region_held3 (fun w' => w'.cell? ⟨w1.heap.size, 0, none⟩ = some (.int .i64 R.cop.last) ∧ w'.cell? ⟨w1.heap.size, 1, none⟩ = some (.int .i64 R.cop.start) ∧ w'.cell? ⟨w1.heap.size, 2, none⟩ = some (.int .i64 R.cop.most) ∧ w'.cell? ⟨w1.heap.size, 3, none⟩ = some (.int .i64 R.cop.per) ∧ w'.cell? ⟨w1.heap.size, 4, none⟩ = some (.int .i64 R.cop.shovels) ∧ w'.cell? ⟨w1.heap.size, 5, none⟩ = some (.slice Q.q.a1 R.cop.coal.length Q.q.c1) ∧ w'.cell? ⟨w1.heap.size, 6, none⟩ = some (.slice Q.q.a2 R.cop.want.length Q.q.c2) ∧ w'.cell? ⟨w1.heap.size, 7, none⟩ = some (.int .i64 R.cop.hlo) ∧ w'.cell? ⟨w1.heap.size, 8, none⟩ = some (.int .i64 R.cop.hhi) ∧ w'.cell? ⟨w1.heap.size, 9, none⟩ = some (.slice Q.q.a3 R.cop.loss.length Q.q.c3) ∧ w'.cell? ⟨w1.heap.size, 10, none⟩ = some (.slice Q.q.a4 R.cop.rds.length Q.q.c4) ∧ w'.cell? ⟨w1.heap.size, 11, none⟩ = some (.int .i64 R.buckets) ∧ w'.cell? ⟨w1.heap.size, 12, none⟩ = some (.int .i64 R.places) ∧ w'.cell? ⟨w1.heap.size, 13, none⟩ = some (.slice Q.a5 R.baths.length Q.c5)) (first | assumption | go_keep) (first | (have hz := HD9; clear hz; go_at_call 49; go_loud (refine (HC49.out A5 K5 _ HJ9.out).mono ?_; rintro e w10 ⟨A9, K9, rfl, hi, hb⟩; have HD10 := Lib.hid (bl_tr HD9.out hb); have HI10 := Lib.hid hi; have hS10 : (fun w' => w'.cell? ⟨w1.heap.size, 0, none⟩ = some (.int .i64 R.cop.last) ∧ w'.cell? ⟨w1.heap.size, 1, none⟩ = some (.int .i64 R.cop.start) ∧ w'.cell? ⟨w1.heap.size, 2, none⟩ = some (.int .i64 R.cop.most) ∧ w'.cell? ⟨w1.heap.size, 3, none⟩ = some (.int .i64 R.cop.per) ∧ w'.cell? ⟨w1.heap.size, 4, none⟩ = some (.int .i64 R.cop.shovels) ∧ w'.cell? ⟨w1.heap.size, 5, none⟩ = some (.slice Q.q.a1 R.cop.coal.length Q.q.c1) ∧ w'.cell? ⟨w1.heap.size, 6, none⟩ = some (.slice Q.q.a2 R.cop.want.length Q.q.c2) ∧ w'.cell? ⟨w1.heap.size, 7, none⟩ = some (.int .i64 R.cop.hlo) ∧ w'.cell? ⟨w1.heap.size, 8, none⟩ = some (.int .i64 R.cop.hhi) ∧ w'.cell? ⟨w1.heap.size, 9, none⟩ = some (.slice Q.q.a3 R.cop.loss.length Q.q.c3) ∧ w'.cell? ⟨w1.heap.size, 10, none⟩ = some (.slice Q.q.a4 R.cop.rds.length Q.q.c4) ∧ w'.cell? ⟨w1.heap.size, 11, none⟩ = some (.int .i64 R.buckets) ∧ w'.cell? ⟨w1.heap.size, 12, none⟩ = some (.int .i64 R.places) ∧ w'.cell? ⟨w1.heap.size, 13, none⟩ = some (.slice Q.a5 R.baths.length Q.c5)) w10 := ⟨cell_later HD10.out (w := w8.drew) k0, cell_later HD10.out (w := w8.drew) k1, cell_later HD10.out (w := w8.drew) k2, cell_later HD10.out (w := w8.drew) k3, cell_later HD10.out (w := w8.drew) k4, cell_later HD10.out (w := w8.drew) k5, cell_later HD10.out (w := w8.drew) k6, cell_later HD10.out (w := w8.drew) k7, cell_later HD10.out (w := w8.drew) k8, cell_later HD10.out (w := w8.drew) k9, cell_later HD10.out (w := w8.drew) k10, cell_later HD10.out (w := w8.drew) k11, cell_later HD10.out (w := w8.drew) k12, cell_later HD10.out (w := w8.drew) k13⟩; dsimp only at hS10; clear hb hi)) | (go_at_call 37; go_loud (refine (HC37.out _).mono ?_; rintro e w9 ⟨rfl, hb⟩; have HD9 := Lib.hid hb; have HJ9 : Hid (IntsAt w9 w9.heap.size A5 P) := HJ8.out.up (bl_tr (bl_dr (Below.refl _ _)) hb); have hS9 : (fun w' => w'.cell? ⟨w1.heap.size, 0, none⟩ = some (.int .i64 R.cop.last) ∧ w'.cell? ⟨w1.heap.size, 1, none⟩ = some (.int .i64 R.cop.start) ∧ w'.cell? ⟨w1.heap.size, 2, none⟩ = some (.int .i64 R.cop.most) ∧ w'.cell? ⟨w1.heap.size, 3, none⟩ = some (.int .i64 R.cop.per) ∧ w'.cell? ⟨w1.heap.size, 4, none⟩ = some (.int .i64 R.cop.shovels) ∧ w'.cell? ⟨w1.heap.size, 5, none⟩ = some (.slice Q.q.a1 R.cop.coal.length Q.q.c1) ∧ w'.cell? ⟨w1.heap.size, 6, none⟩ = some (.slice Q.q.a2 R.cop.want.length Q.q.c2) ∧ w'.cell? ⟨w1.heap.size, 7, none⟩ = some (.int .i64 R.cop.hlo) ∧ w'.cell? ⟨w1.heap.size, 8, none⟩ = some (.int .i64 R.cop.hhi) ∧ w'.cell? ⟨w1.heap.size, 9, none⟩ = some (.slice Q.q.a3 R.cop.loss.length Q.q.c3) ∧ w'.cell? ⟨w1.heap.size, 10, none⟩ = some (.slice Q.q.a4 R.cop.rds.length Q.q.c4) ∧ w'.cell? ⟨w1.heap.size, 11, none⟩ = some (.int .i64 R.buckets) ∧ w'.cell? ⟨w1.heap.size, 12, none⟩ = some (.int .i64 R.places) ∧ w'.cell? ⟨w1.heap.size, 13, none⟩ = some (.slice Q.a5 R.baths.length Q.c5)) w9 := ⟨cell_later hb (w := w8.drew) k0, cell_later hb (w := w8.drew) k1, cell_later hb (w := w8.drew) k2, cell_later hb (w := w8.drew) k3, cell_later hb (w := w8.drew) k4, cell_later hb (w := w8.drew) k5, cell_later hb (w := w8.drew) k6, cell_later hb (w := w8.drew) k7, cell_later hb (w := w8.drew) k8, cell_later hb (w := w8.drew) k9, cell_later hb (w := w8.drew) k10, cell_later hb (w := w8.drew) k11, cell_later hb (w := w8.drew) k12, cell_later hb (w := w8.drew) k13⟩; dsimp only at hS9; clear hb)))
  clear hS9 hS10
  have HB10 : Hid (Below w.heap.size w w10) := bl_tr (bl_dr HB8.out) HD10.out
  have HY10 : Hid (w10.heap[w1.heap.size]? = some (.cells (roomCs R Q) 31 (0, 0))) := (HD10.out.block _ (Array.getElem?_eq_some_iff.1 HY8.out).1).trans HY8.out
  have hbx10 : ∀ o, w10.cell? ⟨w1.heap.size, o, none⟩ = (roomCs R Q)[o]? := fun o => (by simp [World.cell?, HY10.out])
  unfold roomCs at hbx10
  go_wp2_with (first | (have hz := HB10; clear hz; go_at_call 50; go_loud (refine (HC50.out A9 K9 _ (HQR.out.up HB10.out) HI10.out).mono ?_; clear hbx10; rintro e w11 ⟨q11, rfl, hc, hp, hb⟩; have HQC11 := Lib.hid hc; have HPC := Lib.hid hp; have HI11 : Hid (IntsAt w11 w11.heap.size A9 ns) := HI10.out.up hb; have HY11 : Hid (w11.heap[w1.heap.size]? = some (.cells (roomCs R Q) 31 (0, 0))) := (hb.block _ (Array.getElem?_eq_some_iff.1 HY10.out).1).trans HY10.out; have HB11 : Hid (Below w.heap.size w w11) := bl_tr HB10.out hb; have HZ11 : Hid (∀ o, (w11.alloc o).heap[w11.heap.size]? = some o) := fun o => World.alloc_heap_new w11 o; clear hb hc hp)) | (have hz := HB11; clear hz; go_at_call 51; go_loud (refine (HC51.out q11 _ (HQC11.out.up (bl_al (Below.refl _ _) _))).mono ?_; rintro e w12 ⟨rfl, hb2⟩; have hb := bl_tr (bl_al (Below.refl w11.heap.size w11) _) hb2; have HI12 : Hid (IntsAt w12 w12.heap.size A9 ns) := HI11.out.up hb; have HY12 : Hid (w12.heap[w1.heap.size]? = some (.cells (roomCs R Q) 31 (0, 0))) := (hb.block _ (Array.getElem?_eq_some_iff.1 HY11.out).1).trans HY11.out; have HB12 : Hid (Below w.heap.size w w12) := bl_tr HB11.out hb; have HZ12 : Hid (w12.heap[w11.heap.size]? = some (.cells (copCs C q11) 28 (0, 0))) := (hb2.block _ (Array.getElem?_eq_some_iff.1 (HZ11.out _)).1).trans (HZ11.out _); have hbz12 : ∀ o, w12.cell? ⟨w11.heap.size, o, none⟩ = (copCs C q11)[o]? := fun o => (by simp [World.cell?, HZ12.out]); unfold copCs at hbz12; have HQC12 : Hid (CopAt w12 w12.heap.size C q11) := HQC11.out.up hb; clear hb hb2)) | (have hz := HB14; clear hz; go_at_call 53; go_loud (refine (HC53.out q11 _ HQC14.out HPC.out).mono ?_; rintro e w15 ⟨q15, rfl, hc, hb⟩; have HQ15 := Lib.hid hc; have HI15 : Hid (IntsAt w15 w15.heap.size A9 ns) := HI14.out.up hb; have HY15 : Hid (w15.heap[w1.heap.size]? = some (.cells (roomCs R Q) 31 (0, 0))) := (hb.block _ (Array.getElem?_eq_some_iff.1 HY14.out).1).trans HY14.out; have HB15 : Hid (Below w.heap.size w w15) := bl_tr HB14.out hb; have HZ15 : Hid (w15.heap[w11.heap.size]? = some (.cells (copCs C q11) 28 (0, 0))) := (hb.block _ (Array.getElem?_eq_some_iff.1 HZ14.out).1).trans HZ14.out; clear hbz14; have hbz15 : ∀ o, w15.cell? ⟨w11.heap.size, o, none⟩ = (copCs C q11)[o]? := fun o => (by simp [World.cell?, HZ15.out]); unfold copCs at hbz15; have HQC15 : Hid (CopAt w15 w15.heap.size C q11) := HQC14.out.up hb; clear hb hc)) | (have hz := HB12; clear hz; go_at_call 53; go_loud (refine (HC53.out q11 _ HQC12.out HPC.out).mono ?_; rintro e w13 ⟨q13, rfl, hc, hb⟩; have HQ13 := Lib.hid hc; have HI13 : Hid (IntsAt w13 w13.heap.size A9 ns) := HI12.out.up hb; have HY13 : Hid (w13.heap[w1.heap.size]? = some (.cells (roomCs R Q) 31 (0, 0))) := (hb.block _ (Array.getElem?_eq_some_iff.1 HY12.out).1).trans HY12.out; have HB13 : Hid (Below w.heap.size w w13) := bl_tr HB12.out hb; have HZ13 : Hid (w13.heap[w11.heap.size]? = some (.cells (copCs C q11) 28 (0, 0))) := (hb.block _ (Array.getElem?_eq_some_iff.1 HZ12.out).1).trans HZ12.out; clear hbz12; have hbz13 : ∀ o, w13.cell? ⟨w11.heap.size, o, none⟩ = (copCs C q11)[o]? := fun o => (by simp [World.cell?, HZ13.out]); unfold copCs at hbz13; have HQC13 : Hid (CopAt w13 w13.heap.size C q11) := HQC12.out.up hb; clear hb hc)) | (have hz := HB13; clear hz; go_at_call 52; go_loud (refine (HC52.out q13 _ HQ13.out).mono ?_; rintro e w14 ⟨rfl, hb⟩; have HI14 : Hid (IntsAt w14 w14.heap.size A9 ns) := HI13.out.up hb; have HY14 : Hid (w14.heap[w1.heap.size]? = some (.cells (roomCs R Q) 31 (0, 0))) := (hb.block _ (Array.getElem?_eq_some_iff.1 HY13.out).1).trans HY13.out; have HB14 : Hid (Below w.heap.size w w14) := bl_tr HB13.out hb; have HZ14 : Hid (w14.heap[w11.heap.size]? = some (.cells (copCs C q11) 28 (0, 0))) := (hb.block _ (Array.getElem?_eq_some_iff.1 HZ13.out).1).trans HZ13.out; clear hbz13; have hbz14 : ∀ o, w14.cell? ⟨w11.heap.size, o, none⟩ = (copCs C q11)[o]? := fun o => (by simp [World.cell?, HZ14.out]); unfold copCs at hbz14; have HQC14 : Hid (CopAt w14 w14.heap.size C q11) := HQC13.out.up hb; clear hb)) | (have hz := HB15; clear hz; go_at_call 54; go_loud (refine (HC54.out q15 _ HQ15.out).mono ?_; rintro e w16 ⟨rfl, hb⟩; have HI16 : Hid (IntsAt w16 w16.heap.size A9 ns) := HI15.out.up hb; have HY16 : Hid (w16.heap[w1.heap.size]? = some (.cells (roomCs R Q) 31 (0, 0))) := (hb.block _ (Array.getElem?_eq_some_iff.1 HY15.out).1).trans HY15.out; have HB16 : Hid (Below w.heap.size w w16) := bl_tr HB15.out hb; have HZ16 : Hid (w16.heap[w11.heap.size]? = some (.cells (copCs C q11) 28 (0, 0))) := (hb.block _ (Array.getElem?_eq_some_iff.1 HZ15.out).1).trans HZ15.out; clear hbz15; have hbz16 : ∀ o, w16.cell? ⟨w11.heap.size, o, none⟩ = (copCs C q11)[o]? := fun o => (by simp [World.cell?, HZ16.out]); unfold copCs at hbz16; have HQC16 : Hid (CopAt w16 w16.heap.size C q11) := HQC15.out.up hb; clear hb)))
  obtain ⟨b9, o9, rfl⟩ := HI16.out.some_ (by omega)
  obtain ⟨b2, o2, ha2⟩ := HQC16.out.want.some_ (by omega)
  have e9 := HI16.out.get h hhn
  have e2 : w16.cell? ⟨b2, o2 + h, none⟩ = some (.int .i64 (nth C.want h)) := IntsAt.get (ha2 ▸ HQC16.out.want) h hhw
  have z6 : w16.cell? ⟨w11.heap.size, 6, none⟩ = some (.slice (some ⟨b2, o2, none⟩) C.want.length q11.c2) := ha2 ▸ hbz16 6
  have c11 : w16.cell? ⟨w1.heap.size, 11, none⟩ = some (.int .i64 R.buckets) := by simp [World.cell?, HY16.out, roomCs]
  have c12 : w16.cell? ⟨w1.heap.size, 12, none⟩ = some (.int .i64 R.places) := by simp [World.cell?, HY16.out, roomCs]
  have hbz1 : ¬ (R.buckets = 0) := by omega
  have hbz2 : (R.buckets == 0) = false := by simpa using hbz1
  have hw1 : IntKind.i64.wrap (R.places - nth ns h) = R.places - nth ns h := IntWalk.i64_in _ (by omega)
  have hw2 : IntKind.i64.wrap (20 - nth C.want h) = 20 - nth C.want h := IntWalk.i64_in _ (by omega)
  have hhn' : (h : Int) < (ns.length : Int) := by omega
  have hhw' : (h : Int) < (C.want.length : Int) := by omega
  obtain ⟨d1, hd1'⟩ : ∃ d, sx / R.buckets = d := ⟨_, rfl⟩
  obtain ⟨d2, hd2'⟩ : ∃ d, (20 - nth C.want h) / R.buckets = d := ⟨_, rfl⟩
  have ht1 : sx.tdiv R.buckets = d1 := by rw [Int.tdiv_eq_ediv_of_nonneg (by omega)]; exact hd1'
  have ht2 : (20 - nth C.want h).tdiv R.buckets = d2 := by rw [Int.tdiv_eq_ediv_of_nonneg (by omega)]; exact hd2'
  have hdb1 : 0 ≤ d1 ∧ d1 ≤ 20 := by
    have h1 : 0 ≤ sx / R.buckets := Int.ediv_nonneg (by omega) (by omega)
    have h2 : sx / R.buckets ≤ sx := Int.ediv_le_self _ (by omega)
    omega
  have hdb2 : 0 ≤ d2 ∧ d2 ≤ 20 := by
    have h1 : 0 ≤ (20 - nth C.want h) / R.buckets := Int.ediv_nonneg (by omega) (by omega)
    have h2 : (20 - nth C.want h) / R.buckets ≤ 20 - nth C.want h := Int.ediv_le_self _ (by omega)
    omega
  have hdw1 : IntKind.i64.wrap d1 = d1 := IntWalk.i64_in _ (by omega)
  have hdw2 : IntKind.i64.wrap d2 = d2 := IntWalk.i64_in _ (by omega)
  have hfx' : (fx == min (R.places - nth ns h) (min d1 d2)) = true := by rw [HFX.out, hd1', hd2', Int.min_assoc]; simp
  clear hbz16 ha2
  go_region_held3 (fun w' => w'.cell? ⟨w1.heap.size, 11, none⟩ = some (.int .i64 R.buckets) ∧ w'.cell? ⟨w1.heap.size, 12, none⟩ = some (.int .i64 R.places) ∧ w'.cell? ⟨w11.heap.size, 6, none⟩ = some (.slice (some ⟨b2, o2, none⟩) C.want.length q11.c2) ∧ w'.cell? ⟨b9, o9 + h, none⟩ = some (.int .i64 (nth ns h)) ∧ w'.cell? ⟨b2, o2 + h, none⟩ = some (.int .i64 (nth C.want h))) (first | assumption | go_keep) (first | (go_at_call 46; go_loud (refine (bathed_c _).mono ?_; rintro e w17 ⟨rfl, hb⟩; have HB17 : Hid (Below w.heap.size w w17) := bl_tr (bl_dr HB16.out) hb; have hS17 : (fun w' => w'.cell? ⟨w1.heap.size, 11, none⟩ = some (.int .i64 R.buckets) ∧ w'.cell? ⟨w1.heap.size, 12, none⟩ = some (.int .i64 R.places) ∧ w'.cell? ⟨w11.heap.size, 6, none⟩ = some (.slice (some ⟨b2, o2, none⟩) C.want.length q11.c2) ∧ w'.cell? ⟨b9, o9 + h, none⟩ = some (.int .i64 (nth ns h)) ∧ w'.cell? ⟨b2, o2 + h, none⟩ = some (.int .i64 (nth C.want h))) w17 := ⟨cell_later hb (w := w16.drew) c11, cell_later hb (w := w16.drew) c12, cell_later hb (w := w16.drew) z6, cell_later hb (w := w16.drew) e9, cell_later hb (w := w16.drew) e2⟩; dsimp only at hS17; clear hb)))
  clear hS17
  go_wp2
  go_ret
  exact ⟨rfl, HB17.out⟩
end Go.Proofs.YtpgnplmjfhdncaaGreat
/- TopBathed, called with what it may be: always true. -/
namespace Go.Proofs.YtpgnplmjfhdncaaGreat
open Go.RowKit
set_option linter.unusedVariables false
theorem idxN_under (p : Nat → Bool) : ∀ (d i : Nat), idxN p i d < (i : Int) + d := by
  intro d
  induction d with
  | zero => intro i; simp only [idxN]; omega
  | succ d ih =>
    intro i
    simp only [idxN]
    by_cases hp : p i = true
    · rw [if_pos hp]; omega
    · rw [if_neg hp]
      have := ih (i + 1)
      omega
theorem chosen_len (R : Rm) (ws : List Int) (n : Nat) : (chosenL R ws n).length = n := by rw [chosenL, rowI_len]
theorem chosen_in {R : Rm} (ho : RoomOk R) (ws : List Int) {j : Nat} (hj : j < R.baths.length) : p1 R.baths j ≤ nth (chosenL R ws R.baths.length) j ∧ nth (chosenL R ws R.baths.length) j ≤ p2 R.baths j := by
  rw [chosenL, nth_rowI _ hj]
  obtain ⟨h1, h2, h3⟩ := ho.bs j hj
  obtain ⟨m1, m2⟩ := mod_bd (a := wordI ws j) (b := p2 R.baths j - p1 R.baths j + 1) (by omega)
  unfold choI
  omega
theorem chosen_are {R : Rm} (ho : RoomOk R) (ws : List Int) : areB R (chosenL R ws R.baths.length) = true := by
  simp only [areB, Bool.and_eq_true, decide_eq_true_eq]
  refine ⟨chosen_len _ _ _, (allN_iff _ _).2 fun j hj => ?_⟩
  exact within_iff.2 (chosen_in ho ws hj)
/-- The numbers of a plan, of the hours alone. -/
def nsL (R : Rm) (P : List Int) : List Int := rowI (cntI P P.length) (R.cop.last + 1).toNat
theorem ns_at {R : Rm} {P : List Int} {i : Nat} (h4 : R.cop.last ≤ 4) (hi : i < (R.cop.last + 1).toNat) : nth (nsL R P) i = nth (countL P P.length) i := by
  rw [nsL, nth_rowI _ hi, countL, nth_rowI _ (by omega)]
theorem ns_buckets {R : Rm} {P : List Int} (h4 : R.cop.last ≤ 4) : bucketsL R (nsL R P) = bucketsL R (countL P P.length) := by
  refine ext_nth (by simp [bucketsL, rowI_len]) (fun i hi => ?_)
  have hi' : i < (R.cop.last + 1).toNat := by simpa [bucketsL, rowI_len] using hi
  rw [bucketsL_at _ _ hi', bucketsL_at _ _ hi', ns_at h4 hi']
theorem ns_want {R : Rm} {P : List Int} (h4 : R.cop.last ≤ 4) : wantedC R (nsL R P) = wantW R (countL P P.length) := by
  unfold wantedC wantW withWant wantN
  rw [ns_buckets h4]
theorem ns_bd (R : Rm) (P : List Int) (h5 : P.length ≤ 5) (j : Nat) : 0 ≤ nth (nsL R P) j ∧ nth (nsL R P) j ≤ 100 := by
  by_cases hj : j < (R.cop.last + 1).toNat
  · rw [nsL, nth_rowI _ hj]
    have := cntI_le P P.length j
    omega
  · rw [nth_out _ _ (by rw [nsL, rowI_len]; omega)]; omega
theorem count_nn (P : List Int) (j : Nat) : 0 ≤ nth (countL P P.length) j := by
  by_cases hj : j < 5
  · rw [countL, nth_rowI _ hj]
    exact (cntI_le P P.length j).1
  · rw [nth_out _ _ (by rw [countL, rowI_len]; omega)]; omega
theorem room_dry {w : World} {B : Nat} {r : Rm} {q : RA} (h : RoomAt w B r q) : RoomAt w B (dryR r) (dryQ q) := ⟨⟨h.cop.coal, h.cop.want, h.cop.loss, .inl rfl⟩, h.baths⟩
theorem topBathed_c (r : Rm) (q : RA) (a : Option Addr) (ws : List Int) (k : Nat) (hour : Int) (w : World) (hq : RoomAt w w.heap.size r q) (hp : CPl r.cop q.q) (hx : U16At w w.heap.size a ws) (hw : ∀ j, j < ws.length → 0 ≤ nth ws j ∧ nth ws j ≤ 65535) (hh0 : 0 ≤ hour) (hh9 : hour ≤ 255) :
    Calls Tryz.prog 7 #[roomV r q, .slice a ws.length k, .int .u8 hour] w fun e w' => e = .returned (.bool true) ∧ Below w.heap.size w w' := by
  have hqR := room_dry hq
  have hc44 := fun w => dry_c r q w
  cases hT : ThinB r with
  | false => exact tb_thick r (dryR r) q (dryQ q) a ws k hour w hq hqR hc44 (fun w hq => hT ▸ thin_c r q w hq)
  | true =>
    have hs : shortB r = true := by simp only [ThinB, Bool.and_eq_true] at hT; exact hT.1
    obtain ⟨hsr, hti, hsm, l1, l2, l3, l4, l5⟩ := short_small hs
    have hc32 : ∀ w, RoomAt w w.heap.size r q → Calls Tryz.prog 32 #[roomV r q] w fun e w' => e = .returned (.bool true) ∧ Below w.heap.size w w' := fun w hq => hT ▸ thin_c r q w hq
    by_cases he : roomErr r = 0
    · have hc45 : ∀ w, RoomAt w w.heap.size r q → Calls Tryz.prog 45 #[roomV r q] w fun e w' => e = .returned (.int .i64 0) ∧ Below w.heap.size w w' := fun w hq => he ▸ rfault_c r q w hq hsr
      obtain ⟨R, hR⟩ : ∃ R, dryR r = R := ⟨_, rfl⟩
      obtain ⟨Q, hQ⟩ : ∃ Q, dryQ q = Q := ⟨_, rfl⟩
      have hrd : R.cop.rds = [] := by rw [← hR]; rfl
      have hpR : CPl R.cop Q.q := by rw [← hR, ← hQ]; exact ⟨hp.p1, hp.p2⟩
      have hsR : SmallR R.cop := by rw [← hR]; exact ⟨hsr.n1, hsr.n2, hsr.n3, Nat.zero_le _⟩
      have htR : Tiny R.cop := by rw [← hR]; exact ⟨hti.n1, hti.n2, hti.n3, Nat.zero_le _⟩
      have hmR : Small R.cop := by rw [← hR]; exact ⟨hsm.n1, hsm.n2, hsm.n3, Nat.zero_le _⟩
      rw [hR, hQ] at hqR
      rw [hR, hQ] at hc44
      by_cases heR : roomErr R = 0
      · have hc45R : ∀ w, RoomAt w w.heap.size R Q → Calls Tryz.prog 45 #[roomV R Q] w fun e w' => e = .returned (.int .i64 0) ∧ Below w.heap.size w w' := fun w hq => heR ▸ rfault_c R Q w hq hsR
        have ho := room_ok heR
        have hl0 := ho.cop.l0
        have hl4 := ho.cop.l4
        have hn5 := ho.n5
        obtain ⟨P, hP⟩ : ∃ P, chosenL R ws R.baths.length = P := ⟨_, rfl⟩
        have hPl : P.length = R.baths.length := by rw [← hP, chosen_len]
        have hare : areB R P = true := by rw [← hP]; exact chosen_are ho ws
        have hPb : ∀ j, j < P.length → 0 ≤ nth P j ∧ nth P j ≤ R.cop.last := fun j hj => by
          have h1 := chosen_in ho ws (j := j) (by omega)
          have h2 := ho.bs j (by omega)
          rw [hP] at h1
          omega
        obtain ⟨m1, m2⟩ := mod_bd (a := hour) (b := R.cop.last + 1) (by omega)
        obtain ⟨h, hh⟩ : ∃ h : Nat, (h : Int) = hour % (R.cop.last + 1) := ⟨(hour % (R.cop.last + 1)).toNat, by omega⟩
        have hhl : (h : Int) ≤ R.cop.last := by omega
        have htm : hour.tmod (R.cop.last + 1) = (h : Int) := by rw [Int.tmod_eq_emod_of_nonneg hh0, hh]
        have hc47 : ∀ w, RoomAt w w.heap.size R Q → U16At w w.heap.size a ws → Calls Tryz.prog 47 #[roomV R Q, .slice a ws.length k] w fun e w' => ∃ A K, e = .returned (.slice A P.length K) ∧ IntsAt w' w'.heap.size A P ∧ PA A P.length K ∧ Below w.heap.size w w' := fun w h1 h2 =>
          (chosen_c R Q ws a k w h1 ho hw h2).mono fun e w' ⟨v, e1, e2, e3⟩ => by
            rw [hP, ← hPl] at e2
            obtain ⟨A, K, rfl⟩ := own_shape6 e2
            exact ⟨A, K, e1, own_ints' e2, own_PA e2, e3⟩
        have hc25 := fun w h1 => room25_c R Q w h1 hpR htR (by omega)
        have hwi : within (h : Int) 0 R.cop.last = true := within_iff.2 ⟨by omega, hhl⟩
        have hpe : planErr R P (within (h : Int) 0 R.cop.last) = if canB R (countL P P.length) = false then 9 else 0 := by
          unfold planErr
          rw [heR, hwi, hare]
          simp
        have hnn := count_nn P
        cases hcan : canB R (countL P P.length) with
        | false =>
          rw [hcan, if_pos rfl] at hpe
          exact tb_nine r R q Q a ws k hour w hq hqR hc44 hx hh0 hh9 P (by omega) h hl0 hl4 hhl htm hc32 hc45 hc45R hc47 hc25 0 9 (fun q' A K w h1 h2 => by
            have := freeE_c R q' P A K h w h1 hmR (by omega) h2 (by rw [hpe]; decide)
            rw [hpe] at this
            exact this) rfl
        | true =>
          rw [hcan] at hpe
          replace hpe : planErr R P (within (h : Int) 0 R.cop.last) = 0 := hpe
          have hc37 := fun w => full37_c R Q w hn5
          have hnsl : (nsL R P).length = (R.cop.last + 1).toNat := by rw [nsL, rowI_len]
          have hc49 : ∀ A K w, IntsAt w w.heap.size A P → Calls Tryz.prog 49 #[roomV R Q, .slice A P.length K, .int .i64 (fullN R.baths.length)] w fun e w' => ∃ A9 K9, e = .returned (.slice A9 (nsL R P).length K9) ∧ IntsAt w' w'.heap.size A9 (nsL R P) ∧ Below w.heap.size w w' := fun A K w h1 =>
            (numbers_c R Q P A K (fullN R.baths.length) w hl0 hl4 (by omega) h1 (by rw [hPl]) hPb).mono fun e w' ⟨v, e1, e2, e3⟩ => by
              obtain ⟨A9, K9, rfl⟩ := own_shape6 e2
              exact ⟨A9, K9, by rw [hnsl]; exact e1, own_ints' e2, e3⟩
          have hCW := ns_want (R := R) (P := P) hl4
          have hwok := wantW_ok ho hnn hcan
          have hwne := wantW_ne ho hrd hnn hcan
          obtain ⟨C, hC⟩ : ∃ C, wantW R (countL P P.length) = C := ⟨_, rfl⟩
          have hCl : C.last = R.cop.last := by rw [← hC]; rfl
          have hCw : C.want = wantN R (countL P P.length) := by rw [← hC]; rfl
          have hCwl : C.want.length = (R.cop.last + 1).toNat := by rw [hCw, wantN_len]
          have hC1 : C.coal.length ≤ 30 := by rw [← hC, ← hR]; exact l2
          have hC3 : C.loss.length ≤ 30 := by rw [← hC, ← hR]; exact l4
          have hC4 : C.rds.length = 0 := by rw [← hC]; show R.cop.rds.length = 0; rw [hrd]; rfl
          have hc50 : ∀ A K w, RoomAt w w.heap.size R Q → IntsAt w w.heap.size A (nsL R P) → Calls Tryz.prog 50 #[roomV R Q, .slice A (nsL R P).length K] w fun e w' => ∃ q', e = .returned (copV C q') ∧ CopAt w' w'.heap.size C q' ∧ CPl C q' ∧ Below w.heap.size w w' := fun A K w h1 h2 =>
            (wanted_c R Q (nsL R P) A K w h1 ho (by rw [hnsl]; omega) h2 (ns_bd R P (by omega))).mono fun e w' ⟨A', K', e1, e2, e3, e4⟩ => by
              rw [hCW, hC] at e1 e2 e3
              exact ⟨_, e1, e2, ⟨by rw [← hC]; exact hpR.p1, e3⟩, e4⟩
          rw [hC] at hwok hwne
          have hck := check_of hwok
          have htC : Tiny C := ⟨by omega, by omega, by omega, by omega⟩
          have hc51 : ∀ q' w, CopAt w w.heap.size C q' → Calls Tryz.prog 51 #[copV C q'] w fun e w' => e = .returned (.int .i64 0) ∧ Below w.heap.size w w' := fun q' w h1 => by
            have := fault_c C q' w h1 (by omega) (by omega) (by omega) (by omega)
            rw [hck] at this
            exact this
          have hc53 : ∀ q' w, CopAt w w.heap.size C q' → CPl C q' → Calls Tryz.prog 53 #[copV C q'] w fun e w' => ∃ q2, e = .returned (copV C q2) ∧ CopAt w' w'.heap.size C q2 ∧ Below w.heap.size w w' := fun q' w h1 h2 =>
            (copper_c C q' w h1 h2 htC).mono fun e w' ⟨q2, e1, e2, _, e3⟩ => ⟨q2, e1, e2, e3⟩
          have hc52 := fun q' w h1 => lacks_c C q' w h1 hck hwne
          have hc54 := fun q' w h1 => spare_c C q' h w h1 hck hwne (by rw [hCl]; exact hhl)
          cases hsu : sureB R (countL P P.length) with
          | false =>
            obtain ⟨b1, b2⟩ := bathed_no ho hrd hnn hcan h hsu
            rw [hC] at b1 b2
            have e52 : lacksV C = .tuple #[.int .i64 (lacksI C), .int .i64 0] := by rw [lacksV, if_neg (by omega)]
            have e54 : spareV C h = .tuple #[.int .i64 0, .int .i64 10] := by rw [spareV, if_neg (by omega)]
            rw [e52] at hc52
            rw [e54] at hc54
            exact tb_ten r R q Q a ws k hour w hq hqR hc44 hx hh0 hh9 P (by omega) h hl0 hl4 hhl htm hc32 hc45 hc45R hc47 hc25 0 10 (fun q' A K w h1 h2 => freeS_c R q' P A K h w h1 (by omega) h2 hpe hsu)
              _ hc37 _ hc49 C hc50 hc51 hc53 _ 0 hc52 0 10 hc54 rfl rfl rfl
          | true =>
            obtain ⟨b1, b2, b3⟩ := bathed_yes ho hrd hnn h hhl hsu
            rw [hC] at b1 b2 b3
            have e52 : lacksV C = .tuple #[.int .i64 0, .int .i64 7] := by rw [lacksV, if_pos b1]
            have e54 : spareV C h = .tuple #[.int .i64 (20 - spareI C h), .int .i64 0] := by rw [spareV, if_pos b2]
            rw [e52] at hc52
            rw [e54] at hc54
            have hlt := idxN_under (fun k => moreC C (singleL C h (20 - (k : Int))) == 1) 21 0
            have hsp : spareI C h < 21 := by simpa [spareI] using hlt
            have hhN : h < (R.cop.last + 1).toNat := by omega
            exact tb_sure r R q Q a ws k hour w hq hqR hc44 hx hh0 hh9 P (by omega) h hl0 hl4 hhl htm hc32 hc45 hc45R hc47 hc25 (freeC R (countL P P.length) h) 0 (fun q' A K w h1 h2 => freeY_c R q' P A K h w h1 (by omega) h2 hpe hsu)
              _ hc37 _ hc49 C hc50 hc51 hc53 0 7 hc52 (20 - spareI C h) 0 hc54 rfl rfl rfl (by rw [hnsl]; exact hhN) (by rw [hCwl]; exact hhN) (ns_bd R P (by omega) h) (hwok.wb h) ⟨ho.p0, ho.p5⟩ ⟨ho.b1, ho.b9⟩ ⟨by omega, by omega⟩
              (by rw [b3, ns_at hl4 hhN, hCw]) (by omega) (by omega)
      · refine tb_fault2 r R q Q a ws k hour w hq hqR hc44 (roomErr R) heR (by simpa using heR) hc32 hc45 (fun w hq => rfault_c R Q w hq hsR)
    · exact tb_fault r (dryR r) q (dryQ q) a ws k hour w hq hqR hc44 (roomErr r) he (by simpa using he) hc32 (fun w hq => rfault_c r q w hq hsr)
end Go.Proofs.YtpgnplmjfhdncaaGreat
