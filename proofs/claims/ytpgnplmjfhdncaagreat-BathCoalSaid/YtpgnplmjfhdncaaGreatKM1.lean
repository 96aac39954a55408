/- Most: its inner function. -/
import Derived.Test.YtpgnplmjfhdncaaGreatKB19
import Derived.Test.YtpgnplmjfhdncaaGreatKR11
import Derived.Test.YtpgnplmjfhdncaaGreatKR19
namespace Go.Proofs.YtpgnplmjfhdncaaGreat
open Go.RowKit
set_option linter.unusedVariables false
/-- Two numbers of baths are the same. -/
def eq5 (a b : List Int) : Bool := nth a 0 == nth b 0 && nth a 1 == nth b 1 && nth a 2 == nth b 2 && nth a 3 == nth b 3 && nth a 4 == nth b 4
theorem eq115 (n : Nat) (a b : List Int) (W : World) : (Op.equalIn (n + 2) 115 (nv a) (nv b)).run Tryz.prog W = .ok (eq5 a b) W := by
  obtain ⟨i, hi⟩ := Option.isSome_iff_exists.1 info3'
  rw [show n + 2 = (n + 1) + 1 from rfl, run_equalIn_array W (n + 1) _ _ Tryz.underlying115 hi, cells3]
  show (Op.eqItems (n + 1) 3 1 _ _ [0, 1, 2, 3, 4]).run Tryz.prog W = _
  rw [item3 n _ _ 0 _ (nth a 0) (nth b 0) W rfl rfl, item3 n _ _ 1 _ (nth a 1) (nth b 1) W rfl rfl, item3 n _ _ 2 _ (nth a 2) (nth b 2) W rfl rfl, item3 n _ _ 3 _ (nth a 3) (nth b 3) W rfl rfl, item3 n _ _ 4 _ (nth a 4) (nth b 4) W rfl rfl]
  unfold eq5
  cases nth a 0 == nth b 0 <;> cases nth a 1 == nth b 1 <;> cases nth a 2 == nth b 2 <;> cases nth a 3 == nth b 3 <;> cases nth a 4 == nth b 4 <;> rfl
@[go_sem ↓] theorem eq115_in (a b : List Int) (W : World) : (Op.equalIn 10000 115 (.agg #[.int .i64 (nth a 0), .int .i64 (nth a 1), .int .i64 (nth a 2), .int .i64 (nth a 3), .int .i64 (nth a 4)]) (.agg #[.int .i64 (nth b 0), .int .i64 (nth b 1), .int .i64 (nth b 2), .int .i64 (nth b 3), .int .i64 (nth b 4)])).run Tryz.prog W = .ok (eq5 a b) W := eq115 9998 a b W
theorem sum5 (n : List Int) : sumN n 5 = nth n 0 + nth n 1 + nth n 2 + nth n 3 + nth n 4 := by simp only [sumN]; omega
theorem eq5_sum {a b : List Int} (h : eq5 a b = true) : sumN a 5 = sumN b 5 := by
  simp only [eq5, Bool.and_eq_true, beq_iff_eq] at h
  rw [sum5, sum5]
  omega
/-- Another number of baths in an hour. -/
def putAt (n : List Int) (h : Nat) (k : Int) : List Int := rowI (fun i => if i = h then k else nth n i) 5
theorem nth_putAt (n : List Int) (h : Nat) (k : Int) (i : Nat) (hi : i < 5) : nth (putAt n h k) i = if i = h then k else nth n i := by rw [putAt, nth_rowI _ hi]
theorem putAt_bd {n : List Int} (hn : ∀ j, 0 ≤ nth n j ∧ nth n j ≤ 100) (h : Nat) {k : Int} (h0 : 0 ≤ k) (h9 : k ≤ 100) (j : Nat) : 0 ≤ nth (putAt n h k) j ∧ nth (putAt n h k) j ≤ 100 := by
  by_cases hj : j < 5
  · rw [nth_putAt _ _ _ _ hj]; have := hn j; split <;> omega
  · rw [nth_out _ _ (by rw [putAt, rowI_len]; omega)]; omega
theorem nvs_put (n' n : List Int) (h : Nat) (h5 : h < 5) (k : Int) (hn : ∀ j, j < 5 → j ≠ h → nth n' j = nth n j) : (nvs n').setIfInBounds h (.int .i64 k) = nvs (putAt n h k) := by
  have e : ∀ j, j < 5 → nth (putAt n h k) j = if j = h then k else nth n' j := fun j hj => by
    rw [nth_putAt _ _ _ _ hj]
    split
    · rfl
    · rename_i hne; rw [hn j hj hne]
  simp only [nvs, e 0 (by omega), e 1 (by omega), e 2 (by omega), e 3 (by omega), e 4 (by omega)]
  match h, h5 with
  | 0, _ => rfl
  | 1, _ => rfl
  | 2, _ => rfl
  | 3, _ => rfl
  | 4, _ => rfl
/-- A loop that ends where p is no more. -/
def loopF (p : Nat → Bool) (f : Nat → List Int → List Int) : Nat → Nat → List Int → List Int
  | 0, _, b => b
  | c + 1, k, b => if p k = true then loopF p f c (k + 1) (f k b) else b
/-- The better of two numbers of baths. -/
def bestF (n b : List Int) : List Int := if sumN b 5 < sumN n 5 then n else b
/-- The best numbers, from an hour on. -/
def mostF (r : Rm) (K : Nat) : Nat → Nat → List Int → List Int → List Int
  | 0, _, n, b => bestF n b
  | d + 1, h, n, b => loopF (fun k => sureB r (putAt n h k)) (fun k b => mostF r K d (h + 1) (putAt n h k) b) K 0 b
theorem BW.grown {T : Nat → Prop} {r : Rm} {q : RA} {B wb m : Nat} {w W : World} (h : BW r q B wb m w) (hg : Grown T w W) (h1 : ¬ T m) (h2 : ¬ T wb) (hB : ∀ k, T k → B ≤ k) : BW r q B wb m W := by
  obtain ⟨es, cl, a, b⟩ := h.memo
  exact ⟨h.ok, (hg.block _ h.lt h2).trans h.cells, ⟨es, cl, (hg.block _ (Array.getElem?_eq_some_iff.1 a).1 h1).trans a, b⟩, h.at_.below (hg.below (by have := h.lt; have := h.bm; have := h.wbm; omega) hB), h.bm, h.wbm⟩
/-- Most at work: the room in b0, the best in g, the work's address in gw, the function in gc. -/
structure MostAt (r : Rm) (q : RA) (B wb m b0 g gw gc : Nat) (b : List Int) (w : World) : Prop where
  bw : BW r q B wb m w
  rm : Box w b0 (roomCs r q)
  bst : w.heap[g]? = some (.cells (nvs b) 115 (0, 0))
  pw : Box w gw #[.pointer (some ⟨wb, 0, none⟩)]
  pc : Box w gc #[.func (.func 102) #[] #[.pointer (some ⟨b0, 0, none⟩), .pointer (some ⟨g, 0, none⟩), .pointer (some ⟨gw, 0, none⟩), .pointer (some ⟨gc, 0, none⟩)]]
/-- The blocks are apart. -/
structure MostSep (B wb m b0 g gw gc : Nat) : Prop where
  s1 : m ≠ b0
  s2 : m ≠ g
  s3 : m ≠ gw
  s4 : m ≠ gc
  s5 : g ≠ wb
  s6 : g ≠ b0
  s7 : g ≠ gw
  s8 : g ≠ gc
  s9 : B ≤ g
theorem MostAt.lt {r : Rm} {q : RA} {B wb m b0 g gw gc : Nat} {b : List Int} {w : World} (h : MostAt r q B wb m b0 g gw gc b w) : g < w.heap.size := (Array.getElem?_eq_some_iff.1 h.bst).1
theorem MostAt.up {r : Rm} {q : RA} {B wb m b0 g gw gc : Nat} {b : List Int} {w W : World} (h : MostAt r q B wb m b0 g gw gc b w) (hb : Below w.heap.size w W) : MostAt r q B wb m b0 g gw gc b W :=
  ⟨h.bw.up hb, h.rm.bl (by simp [roomCs]) hb, (hb.block _ h.lt).trans h.bst, h.pw.bl (by simp) hb, h.pc.bl (by simp) hb⟩
theorem MostAt.sure {r : Rm} {q : RA} {B wb m b0 g gw gc : Nat} {b : List Int} {w W : World} (h : MostAt r q B wb m b0 g gw gc b w) (hs : MostSep B wb m b0 g gw gc) (hw : BW r q B wb m W) (he : Ext [m] w W) : MostAt r q B wb m b0 g gw gc b W :=
  ⟨hw, h.rm.ext he (h.rm.lt (by simp [roomCs])) (by have := hs.s1; simp; omega), (he.block _ h.lt (by have := hs.s2; simp; omega)).trans h.bst, h.pw.ext he (h.pw.lt (by simp)) (by have := hs.s3; simp; omega), h.pc.ext he (h.pc.lt (by simp)) (by have := hs.s4; simp; omega)⟩
theorem MostAt.put {r : Rm} {q : RA} {B wb m b0 g gw gc x : Nat} {b : List Int} {w : World} (h : MostAt r q B wb m b0 g gw gc b w) (hB : B ≤ x) (h1 : x ≠ m) (h2 : x ≠ wb) (h3 : x ≠ b0) (h4 : x ≠ g) (h5 : x ≠ gw) (h6 : x ≠ gc) (o : Nat) (v : Value) : MostAt r q B wb m b0 g gw gc b (w.setCell ⟨x, o, none⟩ v) := by
  have hg : Grown (fun k => k = x) w (w.setCell ⟨x, o, none⟩ v) := (Grown.refl (fun k => k = x) w).setCell (p := ⟨x, o, none⟩) (.inl rfl) v
  exact ⟨h.bw.grown hg (by omega) (by omega) (fun k hk => by omega), hg.box h.rm (h.rm.lt (by simp [roomCs])) (by omega), (hg.block _ h.lt (by omega)).trans h.bst, hg.box h.pw (h.pw.lt (by simp)) (by omega), hg.box h.pc (h.pc.lt (by simp)) (by omega)⟩
theorem MostAt.best {r : Rm} {q : RA} {B wb m b0 g gw gc : Nat} {b n : List Int} {w W : World} (h : MostAt r q B wb m b0 g gw gc b w) (hs : MostSep B wb m b0 g gw gc) (hg : Grown (fun k => k = g) w W) (hn : W.heap[g]? = some (.cells (nvs n) 115 (0, 0))) : MostAt r q B wb m b0 g gw gc n W := by
  have := hs.s1; have := hs.s2; have := hs.s3; have := hs.s4; have := hs.s5; have := hs.s6; have := hs.s7; have := hs.s8; have := hs.s9
  exact ⟨h.bw.grown hg (by omega) (by omega) (fun k hk => by omega), hg.box h.rm (h.rm.lt (by simp [roomCs])) (by omega), hn, hg.box h.pw (h.pw.lt (by simp)) (by omega), hg.box h.pc (h.pc.lt (by simp)) (by omega)⟩
end Go.Proofs.YtpgnplmjfhdncaaGreat
/- Most: its inner function, by rounds. -/
namespace Go.Proofs.YtpgnplmjfhdncaaGreat
open Go.RowKit
set_option linter.unusedVariables false
theorem MostAt.bx {r : Rm} {q : RA} {B wb m b0 g gw gc : Nat} {b : List Int} {w : World} (h : MostAt r q B wb m b0 g gw gc b w) : ∀ o, w.cell? ⟨g, o, none⟩ = (nvs b)[o]? := fun o => by simp [World.cell?, h.bst]
set_option maxRecDepth 100000 in
set_option maxHeartbeats 8000000 in
theorem most_leaf (r : Rm) (q : RA) (B wb m b0 g gw gc : Nat) (hs : MostSep B wb m b0 g gw gc) (hour : Int) (n b : List Int) (w : World) (hh : hour = r.cop.last + 1) (hn : ∀ j, 0 ≤ nth n j ∧ nth n j ≤ 100) (hb : ∀ j, 0 ≤ nth b j ∧ nth b j ≤ 100) (h : MostAt r q B wb m b0 g gw gc b w) :
    Calls Tryz.prog 102 #[nv n, .int .i64 hour, .pointer (some ⟨b0, 0, none⟩), .pointer (some ⟨g, 0, none⟩), .pointer (some ⟨gw, 0, none⟩), .pointer (some ⟨gc, 0, none⟩)] w fun e w' => e = .returned (.tuple #[]) ∧ MostAt r q B wb m b0 g gw gc (bestF n b) w' ∧ Ext [m, g] w w' := by
  have HL0 := Lib.hid h.bw.ok.cop.l0
  have HL4 := Lib.hid h.bw.ok.cop.l4
  have HH := Lib.hid h
  have HN := Lib.hid hn
  have HBN := Lib.hid hb
  have HS := Lib.hid hs
  have hlt := h.lt
  have h0 := HL0.out
  have h4 := HL4.out
  have hrm := h.rm
  unfold Box roomCs at hrm
  clear h hn hb hs
  go_enter Tryz.func102, Tryz.ntmps102
  go_wp2_with (first | (go_at_call 103; (refine (hours_c r q _ HL0.out HL4.out).mono ?_; rintro e w1 ⟨rfl, hb⟩; have HB1 := Lib.hid hb; clear hb)))
  have HNX : Hid (Box w1 w.heap.size (nvs n)) := (Box.new w (nvs n) 115 (0, 0)).bl (by simp) HB1.out
  have HB : Hid (Below w.heap.size w w1) := bl_tr (bl_al (Below.refl _ _) _) HB1.out
  have HH1 : Hid (MostAt r q B wb m b0 g gw gc b w1) := HH.out.up HB.out
  have n0 : w1.cell? ⟨w.heap.size, 0, none⟩ = some (.int .i64 (nth n 0)) := HNX.out 0
  have n1 : w1.cell? ⟨w.heap.size, 1, none⟩ = some (.int .i64 (nth n 1)) := HNX.out 1
  have n2 : w1.cell? ⟨w.heap.size, 2, none⟩ = some (.int .i64 (nth n 2)) := HNX.out 2
  have n3 : w1.cell? ⟨w.heap.size, 3, none⟩ = some (.int .i64 (nth n 3)) := HNX.out 3
  have n4 : w1.cell? ⟨w.heap.size, 4, none⟩ = some (.int .i64 (nth n 4)) := HNX.out 4
  have k0 : w1.cell? ⟨g, 0, none⟩ = some (.int .i64 (nth b 0)) := by simp [World.cell?, HH1.out.bst]
  have k1 : w1.cell? ⟨g, 1, none⟩ = some (.int .i64 (nth b 1)) := by simp [World.cell?, HH1.out.bst]
  have k2 : w1.cell? ⟨g, 2, none⟩ = some (.int .i64 (nth b 2)) := by simp [World.cell?, HH1.out.bst]
  have k3 : w1.cell? ⟨g, 3, none⟩ = some (.int .i64 (nth b 3)) := by simp [World.cell?, HH1.out.bst]
  have k4 : w1.cell? ⟨g, 4, none⟩ = some (.int .i64 (nth b 4)) := by simp [World.cell?, HH1.out.bst]
  clear hrm
  cases he : eq5 n b with
  | true =>
    have HE := Lib.hid (eq5_sum he)
    refine wp_region_plus (by kernel_rfl) ?_
    repeat (go_big_quiet_step (fail))
    refine wpQuiet_nil ?_
    rintro _ ⟨d, rfl⟩
    go_wp2
    refine bodyPost_ret (results_none rfl _ _ _) rfl ⟨rfl, ?_, Ext.of_below (bl_pl HB.out d)⟩
    rw [bestF, if_neg (by rw [HE.out]; omega)]
    exact HH.out.up (bl_pl HB.out d)
  | false =>
    by_cases hlt2 : sumN b 5 < sumN n 5
    · have HLT := Lib.hid hlt2
      go_region_held3 (fun w' => w'.cell? ⟨w.heap.size, 0, none⟩ = some (.int .i64 (nth n 0)) ∧ w'.cell? ⟨w.heap.size, 1, none⟩ = some (.int .i64 (nth n 1)) ∧ w'.cell? ⟨w.heap.size, 2, none⟩ = some (.int .i64 (nth n 2)) ∧ w'.cell? ⟨w.heap.size, 3, none⟩ = some (.int .i64 (nth n 3)) ∧ w'.cell? ⟨w.heap.size, 4, none⟩ = some (.int .i64 (nth n 4)) ∧ w'.cell? ⟨g, 0, none⟩ = some (.int .i64 (nth b 0)) ∧ w'.cell? ⟨g, 1, none⟩ = some (.int .i64 (nth b 1)) ∧ w'.cell? ⟨g, 2, none⟩ = some (.int .i64 (nth b 2)) ∧ w'.cell? ⟨g, 3, none⟩ = some (.int .i64 (nth b 3)) ∧ w'.cell? ⟨g, 4, none⟩ = some (.int .i64 (nth b 4))) (first | assumption | go_keep) (first | (have hz := HD2; clear hz; go_at_call 104; (refine (sum_c b _ HBN.out).mono ?_; rintro e w3 ⟨rfl, hb⟩; have HD3 := Lib.hid (bl_tr HD2.out hb); have hS3 : (fun w' => w'.cell? ⟨w.heap.size, 0, none⟩ = some (.int .i64 (nth n 0)) ∧ w'.cell? ⟨w.heap.size, 1, none⟩ = some (.int .i64 (nth n 1)) ∧ w'.cell? ⟨w.heap.size, 2, none⟩ = some (.int .i64 (nth n 2)) ∧ w'.cell? ⟨w.heap.size, 3, none⟩ = some (.int .i64 (nth n 3)) ∧ w'.cell? ⟨w.heap.size, 4, none⟩ = some (.int .i64 (nth n 4)) ∧ w'.cell? ⟨g, 0, none⟩ = some (.int .i64 (nth b 0)) ∧ w'.cell? ⟨g, 1, none⟩ = some (.int .i64 (nth b 1)) ∧ w'.cell? ⟨g, 2, none⟩ = some (.int .i64 (nth b 2)) ∧ w'.cell? ⟨g, 3, none⟩ = some (.int .i64 (nth b 3)) ∧ w'.cell? ⟨g, 4, none⟩ = some (.int .i64 (nth b 4))) w3 := ⟨cell_later HD3.out (w := w1.drew) n0, cell_later HD3.out (w := w1.drew) n1, cell_later HD3.out (w := w1.drew) n2, cell_later HD3.out (w := w1.drew) n3, cell_later HD3.out (w := w1.drew) n4, cell_later HD3.out (w := w1.drew) k0, cell_later HD3.out (w := w1.drew) k1, cell_later HD3.out (w := w1.drew) k2, cell_later HD3.out (w := w1.drew) k3, cell_later HD3.out (w := w1.drew) k4⟩; dsimp only at hS3; clear hb)) | (go_at_call 104; (refine (sum_c n _ HN.out).mono ?_; rintro e w2 ⟨rfl, hb⟩; have HD2 := Lib.hid hb; have hS2 : (fun w' => w'.cell? ⟨w.heap.size, 0, none⟩ = some (.int .i64 (nth n 0)) ∧ w'.cell? ⟨w.heap.size, 1, none⟩ = some (.int .i64 (nth n 1)) ∧ w'.cell? ⟨w.heap.size, 2, none⟩ = some (.int .i64 (nth n 2)) ∧ w'.cell? ⟨w.heap.size, 3, none⟩ = some (.int .i64 (nth n 3)) ∧ w'.cell? ⟨w.heap.size, 4, none⟩ = some (.int .i64 (nth n 4)) ∧ w'.cell? ⟨g, 0, none⟩ = some (.int .i64 (nth b 0)) ∧ w'.cell? ⟨g, 1, none⟩ = some (.int .i64 (nth b 1)) ∧ w'.cell? ⟨g, 2, none⟩ = some (.int .i64 (nth b 2)) ∧ w'.cell? ⟨g, 3, none⟩ = some (.int .i64 (nth b 3)) ∧ w'.cell? ⟨g, 4, none⟩ = some (.int .i64 (nth b 4))) w2 := ⟨cell_later hb (w := w1.drew) n0, cell_later hb (w := w1.drew) n1, cell_later hb (w := w1.drew) n2, cell_later hb (w := w1.drew) n3, cell_later hb (w := w1.drew) n4, cell_later hb (w := w1.drew) k0, cell_later hb (w := w1.drew) k1, cell_later hb (w := w1.drew) k2, cell_later hb (w := w1.drew) k3, cell_later hb (w := w1.drew) k4⟩; dsimp only at hS2; clear hb)))
      clear hS2 hS3
      have HB3 : Hid (Below w.heap.size w w3) := bl_tr (bl_dr HB.out) HD3.out
      have HH3 : Hid (MostAt r q B wb m b0 g gw gc b w3) := HH1.out.up (bl_tr (bl_dr (Below.refl _ _)) HD3.out)
      have HNX3 : Hid (Box w3 w.heap.size (nvs n)) := HNX.out.bl (by simp) (bl_tr (bl_dr (Below.refl _ _)) HD3.out)
      have hn3 := HNX3.out
      have hb3 := HH3.out.bx
      have hf3 : ∀ o, w3.frozen? ⟨g, o, none⟩ = false := fun o => by simp [World.frozen?, HH3.out.bst]
      unfold Box at hn3
      go_wp2
      have hfin := setAll_full w3 g [.int .i64 (nth n 0), .int .i64 (nth n 1), .int .i64 (nth n 2), .int .i64 (nth n 3), .int .i64 (nth n 4)] HH3.out.bst rfl
      have hgw := setAll_grown w3 g [.int .i64 (nth n 0), .int .i64 (nth n 1), .int .i64 (nth n 2), .int .i64 (nth n 3), .int .i64 (nth n 4)] 0
      refine bodyPost_ret (results_none rfl _ _ _) rfl ⟨rfl, ?_, ?_⟩
      · rw [bestF, if_pos HLT.out]
        exact HH3.out.best HS.out hgw hfin
      · exact (Ext.of_below HB3.out).trans ⟨hgw.os, hgw.tape, hgw.output, hgw.size, fun k hk hn => hgw.block k hk (fun e => hn (by simp [e]))⟩
    · have HLT := Lib.hid hlt2
      go_region_held3 (fun w' => w'.cell? ⟨w.heap.size, 0, none⟩ = some (.int .i64 (nth n 0)) ∧ w'.cell? ⟨w.heap.size, 1, none⟩ = some (.int .i64 (nth n 1)) ∧ w'.cell? ⟨w.heap.size, 2, none⟩ = some (.int .i64 (nth n 2)) ∧ w'.cell? ⟨w.heap.size, 3, none⟩ = some (.int .i64 (nth n 3)) ∧ w'.cell? ⟨w.heap.size, 4, none⟩ = some (.int .i64 (nth n 4)) ∧ w'.cell? ⟨g, 0, none⟩ = some (.int .i64 (nth b 0)) ∧ w'.cell? ⟨g, 1, none⟩ = some (.int .i64 (nth b 1)) ∧ w'.cell? ⟨g, 2, none⟩ = some (.int .i64 (nth b 2)) ∧ w'.cell? ⟨g, 3, none⟩ = some (.int .i64 (nth b 3)) ∧ w'.cell? ⟨g, 4, none⟩ = some (.int .i64 (nth b 4))) (first | assumption | go_keep) (first | (have hz := HD2; clear hz; go_at_call 104; (refine (sum_c b _ HBN.out).mono ?_; rintro e w3 ⟨rfl, hb⟩; have HD3 := Lib.hid (bl_tr HD2.out hb); have hS3 : (fun w' => w'.cell? ⟨w.heap.size, 0, none⟩ = some (.int .i64 (nth n 0)) ∧ w'.cell? ⟨w.heap.size, 1, none⟩ = some (.int .i64 (nth n 1)) ∧ w'.cell? ⟨w.heap.size, 2, none⟩ = some (.int .i64 (nth n 2)) ∧ w'.cell? ⟨w.heap.size, 3, none⟩ = some (.int .i64 (nth n 3)) ∧ w'.cell? ⟨w.heap.size, 4, none⟩ = some (.int .i64 (nth n 4)) ∧ w'.cell? ⟨g, 0, none⟩ = some (.int .i64 (nth b 0)) ∧ w'.cell? ⟨g, 1, none⟩ = some (.int .i64 (nth b 1)) ∧ w'.cell? ⟨g, 2, none⟩ = some (.int .i64 (nth b 2)) ∧ w'.cell? ⟨g, 3, none⟩ = some (.int .i64 (nth b 3)) ∧ w'.cell? ⟨g, 4, none⟩ = some (.int .i64 (nth b 4))) w3 := ⟨cell_later HD3.out (w := w1.drew) n0, cell_later HD3.out (w := w1.drew) n1, cell_later HD3.out (w := w1.drew) n2, cell_later HD3.out (w := w1.drew) n3, cell_later HD3.out (w := w1.drew) n4, cell_later HD3.out (w := w1.drew) k0, cell_later HD3.out (w := w1.drew) k1, cell_later HD3.out (w := w1.drew) k2, cell_later HD3.out (w := w1.drew) k3, cell_later HD3.out (w := w1.drew) k4⟩; dsimp only at hS3; clear hb)) | (go_at_call 104; (refine (sum_c n _ HN.out).mono ?_; rintro e w2 ⟨rfl, hb⟩; have HD2 := Lib.hid hb; have hS2 : (fun w' => w'.cell? ⟨w.heap.size, 0, none⟩ = some (.int .i64 (nth n 0)) ∧ w'.cell? ⟨w.heap.size, 1, none⟩ = some (.int .i64 (nth n 1)) ∧ w'.cell? ⟨w.heap.size, 2, none⟩ = some (.int .i64 (nth n 2)) ∧ w'.cell? ⟨w.heap.size, 3, none⟩ = some (.int .i64 (nth n 3)) ∧ w'.cell? ⟨w.heap.size, 4, none⟩ = some (.int .i64 (nth n 4)) ∧ w'.cell? ⟨g, 0, none⟩ = some (.int .i64 (nth b 0)) ∧ w'.cell? ⟨g, 1, none⟩ = some (.int .i64 (nth b 1)) ∧ w'.cell? ⟨g, 2, none⟩ = some (.int .i64 (nth b 2)) ∧ w'.cell? ⟨g, 3, none⟩ = some (.int .i64 (nth b 3)) ∧ w'.cell? ⟨g, 4, none⟩ = some (.int .i64 (nth b 4))) w2 := ⟨cell_later hb (w := w1.drew) n0, cell_later hb (w := w1.drew) n1, cell_later hb (w := w1.drew) n2, cell_later hb (w := w1.drew) n3, cell_later hb (w := w1.drew) n4, cell_later hb (w := w1.drew) k0, cell_later hb (w := w1.drew) k1, cell_later hb (w := w1.drew) k2, cell_later hb (w := w1.drew) k3, cell_later hb (w := w1.drew) k4⟩; dsimp only at hS2; clear hb)))
      clear hS2 hS3
      have HB3 : Hid (Below w.heap.size w w3) := bl_tr (bl_dr HB.out) HD3.out
      have HH3 : Hid (MostAt r q B wb m b0 g gw gc b w3) := HH1.out.up (bl_tr (bl_dr (Below.refl _ _)) HD3.out)
      go_wp2
      refine bodyPost_ret (results_none rfl _ _ _) rfl ⟨rfl, ?_, Ext.of_below HB3.out⟩
      rw [bestF, if_neg (by have := HLT.out; omega)]
      exact HH3.out
end Go.Proofs.YtpgnplmjfhdncaaGreat
/- Most: its inner function, all of it. -/
namespace Go.Proofs.YtpgnplmjfhdncaaGreat
open Go.RowKit
set_option linter.unusedVariables false
theorem best_bd {n b : List Int} (hn : ∀ j, 0 ≤ nth n j ∧ nth n j ≤ 100) (hb : ∀ j, 0 ≤ nth b j ∧ nth b j ≤ 100) : ∀ j, 0 ≤ nth (bestF n b) j ∧ nth (bestF n b) j ≤ 100 := fun j => by
  unfold bestF; split
  · exact hn j
  · exact hb j
theorem loop_bd {p : Nat → Bool} {f : Nat → List Int → List Int} (hf : ∀ k b, (∀ j, 0 ≤ nth b j ∧ nth b j ≤ 100) → k ≤ 100 → ∀ j, 0 ≤ nth (f k b) j ∧ nth (f k b) j ≤ 100) : ∀ c k b, c + k ≤ 100 → (∀ j, 0 ≤ nth b j ∧ nth b j ≤ 100) → ∀ j, 0 ≤ nth (loopF p f c k b) j ∧ nth (loopF p f c k b) j ≤ 100 := by
  intro c
  induction c with
  | zero => intro k b _ hb; exact hb
  | succ c ih =>
    intro k b hk hb
    simp only [loopF]
    split
    · exact ih _ _ (by omega) (hf _ _ hb (by omega))
    · exact hb
theorem most_bd (r : Rm) (K : Nat) (hK : K ≤ 100) : ∀ d h n b, (∀ j, 0 ≤ nth n j ∧ nth n j ≤ 100) → (∀ j, 0 ≤ nth b j ∧ nth b j ≤ 100) → ∀ j, 0 ≤ nth (mostF r K d h n b) j ∧ nth (mostF r K d h n b) j ≤ 100 := by
  intro d
  induction d with
  | zero => intro h n b hn hb; exact best_bd hn hb
  | succ d ih =>
    intro h n b hn hb
    simp only [mostF]
    exact loop_bd (fun k b' hb' hk => ih _ _ _ (fun j => putAt_bd hn h (by omega) (by omega) j) hb') K 0 b (by omega) hb
set_option maxRecDepth 100000 in
set_option maxHeartbeats 8000000 in
theorem most_rec (r : Rm) (q : RA) (B wb m b0 g gw gc K : Nat) (hK : (K : Int) = min r.places 5 + 1) (hs : MostSep B wb m b0 g gw gc) : ∀ (d hour : Nat) (n b : List Int) (w : World), (hour : Int) + d = r.cop.last + 1 → (∀ j, 0 ≤ nth n j ∧ nth n j ≤ 100) → (∀ j, 0 ≤ nth b j ∧ nth b j ≤ 100) → MostAt r q B wb m b0 g gw gc b w → 
    Calls Tryz.prog 102 #[nv n, .int .i64 hour, .pointer (some ⟨b0, 0, none⟩), .pointer (some ⟨g, 0, none⟩), .pointer (some ⟨gw, 0, none⟩), .pointer (some ⟨gc, 0, none⟩)] w fun e w' => e = .returned (.tuple #[]) ∧ MostAt r q B wb m b0 g gw gc (mostF r K d hour n b) w' ∧ Ext [m, g] w w' := by
  intro d
  induction d with
  | zero => intro hour n b w hh hn hb h; exact most_leaf r q B wb m b0 g gw gc hs hour n b w (by omega) hn hb h
  | succ d ih =>
    intro hour n b w hh hn hb h
    have h0 := h.bw.ok.cop.l0
    have h4 := h.bw.ok.cop.l4
    have hp0 := h.bw.ok.p0
    have hp5 := h.bw.ok.p5
    have HL0 := Lib.hid h0
    have HL4 := Lib.hid h4
    have HH := Lib.hid h
    have HN := Lib.hid hn
    have HBN := Lib.hid hb
    have HS := Lib.hid hs
    have HIH := Lib.hid ih
    have hmn : min r.places 5 = (K : Int) - 1 := by omega
    have hne : ¬ ((hour : Int) = r.cop.last + 1) := by omega
    have hne2 : ((hour : Int) == r.cop.last + 1) = false := by simpa using hne
    have hlt := h.lt
    have hrm := h.rm
    unfold Box roomCs at hrm
    have hK6 : K ≤ 6 := by omega
    clear h hn hb hs ih hK
    go_enter Tryz.func102, Tryz.ntmps102
    go_wp2_with (first | (have hz := HB1; clear hz; go_at_call 105; go_loud (refine (min9_c r.places 5 w1.heap.size 0 _ _ (by go_simp) (by go_simp)).mono ?_; rintro e w2 ⟨rfl, rfl⟩)) | (go_at_call 103; go_loud (refine (hours_c r q _ HL0.out HL4.out).mono ?_; rintro e w1 ⟨rfl, hb⟩; have HB1 := Lib.hid hb; have HH1 : Hid (MostAt r q B wb m b0 g gw gc b w1) := HH.out.up (bl_tr (bl_al (Below.refl _ _) _) hb); have hrm1 := HH1.out.rm; unfold Box roomCs at hrm1; have HNX1 : Hid (Box w1 w.heap.size (nvs n)) := (Box.new w (nvs n) 115 (0, 0)).bl (by simp) hb; have HNH1 : Hid (w1.heap[w.heap.size]? = some (.cells (nvs n) 115 (0, 0))) := (hb.block _ (by simp)).trans (World.alloc_heap_new w _); clear hb hrm)))
    obtain ⟨W1, hW1⟩ : ∃ W1, w1.alloc (.cells #[.int .i64 r.places, .int .i64 5] 3) = W1 := ⟨_, rfl⟩
    rw [hW1]
    have HB2 : Hid (Below w.heap.size w W1) := by rw [← hW1]; exact bl_al (bl_tr (bl_al (Below.refl _ _) _) HB1.out) _
    have HH2 : Hid (MostAt r q B wb m b0 g gw gc b W1) := HH.out.up HB2.out
    have HNH2 : Hid (W1.heap[w.heap.size]? = some (.cells (nvs n) 115 (0, 0))) := by rw [← hW1]; exact heap_al HNH1.out _
    have hxm : m < w.heap.size := by have := HH.out.bw.lt; have := HH.out.bw.wbm; omega
    have hxw : wb < w.heap.size := HH.out.bw.lt
    have hxb : b0 < w.heap.size := HH.out.rm.lt (by simp [roomCs])
    have hxg : gw < w.heap.size := HH.out.pw.lt (by simp)
    have hxc : gc < w.heap.size := HH.out.pc.lt (by simp)
    have hBm := HH.out.bw.bm
    clear hW1 hrm1
    go_loopw [8, 29] (fun _ i wr => ∃ (k : Nat) (b' n' : List Int), k ≤ K ∧ i = .int .i64 k ∧ MostAt r q B wb m b0 g gw gc b' wr ∧ wr.heap[w.heap.size]? = some (.cells (nvs n') 115 (0, 0)) ∧ (∀ j, j < 5 → j ≠ hour → nth n' j = nth n j) ∧ (∀ j, 0 ≤ nth b' j ∧ nth b' j ≤ 100) ∧ Ext [m, g] w wr ∧ mostF r K (d + 1) hour n b = loopF (fun k => sureB r (putAt n hour (k : Int))) (fun k b => mostF r K d (hour + 1) (putAt n hour (k : Int)) b) (K - k) k b') (fun _ i _ => K - (intOf i).toNat)
    case atStart => exact ⟨0, b, n, Nat.zero_le _, rfl, HH2.out, HNH2.out, fun _ _ _ => rfl, HBN.out, Ext.of_below HB2.out, rfl⟩
    case round =>
      obtain ⟨k, b', n', hk, rfl, hm, hnh, hn', hb', hext, hF⟩ := hrel
      have HM0 := Lib.hid hm
      have HNH := Lib.hid hnh
      have HN' := Lib.hid hn'
      have HBP := Lib.hid hb'
      have HEX := Lib.hid hext
      have HF := Lib.hid hF
      clear hm hnh hn' hb' hext hF
      have hws : w.heap.size < wr.heap.size := (Array.getElem?_eq_some_iff.1 HNH.out).1
      by_cases hkK : k < K
      · have hkK' : (k : Int) < (K : Int) := by omega
        have hh5 : hour < 5 := by omega
        have hh51 : (hour : Int) < 5 := by omega
        have HNK : Hid (∀ j, 0 ≤ nth (putAt n hour (k : Int)) j ∧ nth (putAt n hour (k : Int)) j ≤ 100) := putAt_bd HN.out hour (by omega) (by omega)
        have cx : wr.cell? ⟨w.heap.size, hour, none⟩ = some (.int .i64 (nth n' hour)) := by simp only [World.cell?, HNH.out]; exact nvs_at n' hour hh5
        have fx : wr.frozen? ⟨w.heap.size, hour, none⟩ = false := by simp [World.frozen?, HNH.out]
        have HM : Hid (MostAt r q B wb m b0 g gw gc b' (wr.setCell ⟨w.heap.size, hour, none⟩ (.int .i64 (k : Int)))) := HM0.out.put (by omega) (by omega) (by omega) (by omega) (by omega) (by omega) (by omega) _ _
        have HNX : Hid ((wr.setCell ⟨w.heap.size, hour, none⟩ (.int .i64 (k : Int))).heap[w.heap.size]? = some (.cells (nvs (putAt n hour (k : Int))) 115 (0, 0))) := by
          rw [heap_setCell_same wr w.heap.size hour _ 115 _ HNH.out, nvs_put n' n hour hh5 _ HN'.out]; rfl
        have HEX2 : Hid (Ext [m, g] w (wr.setCell ⟨w.heap.size, hour, none⟩ (.int .i64 (k : Int)))) := HEX.out.setCell (.inr (Nat.le_refl _)) _
        have hcs : ∀ o, (wr.setCell ⟨w.heap.size, hour, none⟩ (.int .i64 (k : Int))).cell? ⟨w.heap.size, o, none⟩ = (nvs (putAt n hour (k : Int)))[o]? := fun o => by simp [World.cell?, HNX.out]
        have hcw : (wr.setCell ⟨w.heap.size, hour, none⟩ (.int .i64 (k : Int))).cell? ⟨gw, 0, none⟩ = some (.pointer (some ⟨wb, 0, none⟩)) := HM.out.pw 0
        have HKS : Hid (K - k = (K - (k + 1)) + 1) := by unfold Hid; omega
        cases hsu : sureB r (putAt n hour (k : Int)) with
        | false =>
          have HSU := Lib.hid hsu
          clear hsu
          go_wp2_with (first | (go_at_call 98; go_loud (refine (sureR_c r q B wb m (putAt n hour (k : Int)) _ HM.out.bw HNK.out).mono ?_; rw [HSU.out]; rintro e w6 ⟨rfl, hbw6, hext6⟩; have HW6 := Lib.hid hbw6; have HX6 := Lib.hid hext6; clear hbw6 hext6)))
          refine bodyPost_ret (results_none rfl _ _ _) rfl ⟨rfl, ?_, HEX2.out.trans (HX6.out.mono (fun x _ hx => by simp at hx; simp [hx]))⟩
          rw [HF.out, HKS.out]
          simp only [loopF]
          rw [if_neg (by rw [HSU.out]; simp)]
          exact HM.out.sure HS.out HW6.out HX6.out
        | true =>
          have HSU := Lib.hid hsu
          clear hsu
          go_wp2_with (first | (have hz := HM6; clear hz; go_at_call 102; go_loud (refine (HIH.out (hour + 1) (putAt n hour (k : Int)) b' _ (by omega) HNK.out HBP.out HM6.out).mono ?_; rintro e w7 ⟨rfl, hm7, hx7⟩; have HM7 := Lib.hid hm7; have HX7 := Lib.hid hx7; clear hm7 hx7)) | (go_at_call 98; go_loud (refine (sureR_c r q B wb m (putAt n hour (k : Int)) _ HM.out.bw HNK.out).mono ?_; rw [HSU.out]; rintro e w6 ⟨rfl, hbw6, hext6⟩; have HW6 := Lib.hid hbw6; have HX6 := Lib.hid hext6; have HM6 : Hid (MostAt r q B wb m b0 g gw gc b' w6) := HM.out.sure HS.out hbw6 hext6; have HNX6 : Hid (w6.heap[w.heap.size]? = some (.cells (nvs (putAt n hour (k : Int))) 115 (0, 0))) := (hext6.block _ (Array.getElem?_eq_some_iff.1 HNX.out).1 (by simp; omega)).trans HNX.out; clear hcs hcw cx fx; have hcs6 : ∀ o, w6.cell? ⟨w.heap.size, o, none⟩ = (nvs (putAt n hour (k : Int)))[o]? := fun o => (by simp [World.cell?, HNX6.out]); have hcc6 : w6.cell? ⟨gc, 0, none⟩ = some (.func (.func 102) #[] #[.pointer (some ⟨b0, 0, none⟩), .pointer (some ⟨g, 0, none⟩), .pointer (some ⟨gw, 0, none⟩), .pointer (some ⟨gc, 0, none⟩)]) := HM6.out.pc 0; clear hbw6 hext6)))
          go_roundw
          case rel =>
            refine ⟨k + 1, _, putAt n hour (k : Int), by omega, by go_num, HM7.out, ?_, fun j hj5 hj => ?_, ?_, ?_, ?_⟩
            · exact (HX7.out.block _ (Array.getElem?_eq_some_iff.1 HNX6.out).1 (by simp; omega)).trans HNX6.out
            · rw [nth_putAt _ _ _ _ hj5, if_neg hj]
            · exact most_bd r K (by omega) d (hour + 1) _ _ HNK.out HBP.out
            · exact (HEX2.out.trans (HX6.out.mono (fun x _ hx => by simp at hx; simp [hx]))).trans HX7.out
            · rw [HF.out, HKS.out]
              simp only [loopF]
              rw [if_pos HSU.out]
          case measure => simp [intOf]; omega
      · obtain rfl : k = K := by omega
        go_wp2
        go_end0
        refine ⟨rfl, ?_, HEX.out⟩
        rw [HF.out, Nat.sub_self]
        exact HM0.out
end Go.Proofs.YtpgnplmjfhdncaaGreat
/- Most. -/
namespace Go.Proofs.YtpgnplmjfhdncaaGreat
open Go.RowKit
set_option linter.unusedVariables false
theorem BW.new {r : Rm} {q : RA} {B m : Nat} {w : World} (ho : RoomOk r) (h1 : w.heap[m]? = some (.map #[] 0)) (h2 : w.heap[m + 1]? = some (.cells (bwCs r q m) 174 (0, 0))) (hq : RoomAt w B r q) (hB : B ≤ m) : BW r q B (m + 1) m w :=
  ⟨ho, h2, ⟨#[], 0, h1, by intro e he; simp at he⟩, hq, hB, rfl⟩
theorem slice115 (b : Nat) (x : Int) (w : World) (h0 : 0 ≤ x) (h5 : x ≤ 5) : (Instr.sliceAt 115 (.pointer (some ⟨b, 0, none⟩)) none (some (.int .i64 x)) none).run Tryz.prog w = .ok (.slice (some ⟨b, 0, none⟩) x.toNat 5) w := by
  have ha : Tryz.prog.arrayLen 115 = 5 := by simp [Program.arrayLen, Tryz.underlying115]
  have he : Tryz.prog.elem 115 = 3 := by simp [Program.elem, Tryz.underlying115]
  have hu : Tryz.prog.underlying 115 = some (.array (Tryz.prog.arrayLen 115) (Tryz.prog.elem 115)) := by rw [ha, he]; exact Tryz.underlying115
  obtain ⟨i, hi, _⟩ := Option.map_eq_some_iff.1 info3
  rw [run_sliceAt_array_h w 115 ⟨b, 0, none⟩ hu .i64 x h0 (by rw [ha]; exact h5)]
  rw [ha, he]
  simp [slicedAt, sizeOf, typeInfo, hi, Addr.add]
/-- The most baths. -/
def mostL (r : Rm) : List Int := rowI (nth (mostF r (min r.places 5 + 1).toNat (r.cop.last + 1).toNat 0 [] [])) (r.cop.last + 1).toNat
set_option maxRecDepth 100000 in
set_option maxHeartbeats 4000000 in
theorem mostY_c (r : Rm) (q : RA) (w : World) (hq : RoomAt w w.heap.size r q) (he : roomErr r = 0) (hsu : sureB r [] = true) :
    Calls Tryz.prog 42 #[roomV r q] w fun e w' => ∃ A K, e = .returned (.tuple #[.slice A (mostL r).length K, .int .i64 0]) ∧ IntsAt w' w'.heap.size A (mostL r) ∧ Below w.heap.size w w' := by
  have HQ := Lib.hid hq
  have HE := Lib.hid he
  have HO := Lib.hid (room_ok he)
  have HSU := Lib.hid hsu
  have HZ : Hid (∀ j, 0 ≤ nth [] j ∧ nth [] j ≤ 100) := fun j => by simp [nth]
  clear hq he hsu
  have HK : Hid ((((min r.places 5 + 1).toNat : Nat) : Int) = min r.places 5 + 1) := by unfold Hid; have := HO.out.p0; omega
  have HLN : Hid (((0 : Nat) : Int) + ((r.cop.last + 1).toNat : Nat) = r.cop.last + 1) := by unfold Hid; have := HO.out.cop.l0; omega
  have hl0 := HO.out.cop.l0
  have hl4 := HO.out.cop.l4
  have HLEN : Hid ((mostL r).length = (r.cop.last + 1).toNat) := by unfold Hid; rw [mostL, rowI_len]
  have HCLN : Hid (∀ (b c : Nat) (w : World), w.heap[b]? = some (.cells (nvs (mostF r (min r.places 5 + 1).toNat (r.cop.last + 1).toNat 0 [] [])) 115 (0, 0)) → Calls Tryz.prog 101 #[.slice (some ⟨b, 0, none⟩) (r.cop.last + 1).toNat c] w fun e w' => ∃ A K, e = .returned (.slice A (r.cop.last + 1).toNat K) ∧ IntsAt w' w'.heap.size A (mostL r) ∧ Below w.heap.size w w') := fun b c w hb => by
    have := clone_c (mostL r) b 0 c w (by rw [HLEN.out]; omega) (.inr ⟨b, 0, rfl, (Array.getElem?_eq_some_iff.1 hb).1, fun j hj => by
      rw [HLEN.out] at hj
      rw [mostL, nth_rowI _ hj, Nat.zero_add]
      simp only [World.cell?, hb]
      exact nvs_at _ j (by omega)⟩)
    rw [HLEN.out] at this
    exact this.mono fun e w' ⟨v, h1, h2, h3⟩ => by
      obtain ⟨A, K, rfl⟩ := own_shape6 h2
      exact ⟨A, K, h1, own_ints' h2, h3⟩
  go_enter Tryz.func42, Tryz.ntmps42
  have hsl := fun b w => slice115 b (r.cop.last + 1) w (by omega) (by omega)
  go_wp2_with (first | (have hz := HB8; clear hz; go_at_call 101; go_loud (refine (HCLN.out (w1.heap.size + 1) _ _ HM8.out.bst).mono ?_; rintro e w9 ⟨A, K, rfl, hi, hb⟩; have HI9 := Lib.hid hi; have HB9 : Hid (Below w.heap.size w w9) := bl_tr HB8.out hb; clear hb hi)) | (have hz := HB7; clear hz; go_at_call 103; go_loud (refine (hours_c r q _ HO.out.cop.l0 HO.out.cop.l4).mono ?_; clear hbx7; rintro e w8 ⟨rfl, hb⟩; have HM8 : Hid (MostAt r q w.heap.size (m + 1) m w.heap.size (w1.heap.size + 1) w1.heap.size w2.heap.size (mostF r (min r.places 5 + 1).toNat (r.cop.last + 1).toNat 0 [] []) w8) := HM7.out.up hb; have HB8 : Hid (Below w.heap.size w w8) := bl_tr HB7.out hb; have hc8 := HM8.out.bx; clear hb)) | (have hz := HMA; clear hz; go_at_call 102; go_loud (refine (most_rec r q w.heap.size (m + 1) m w.heap.size (w1.heap.size + 1) w1.heap.size w2.heap.size (min r.places 5 + 1).toNat HK.out HSEP.out (r.cop.last + 1).toNat 0 [] [] _ HLN.out HZ.out HZ.out HMA.out).mono ?_; clear hz2; rintro e w7 ⟨rfl, hm7, hx7⟩; have HM7 := Lib.hid hm7; have HB7 : Hid (Below w.heap.size w w7) := (bl_al HB2.out _).trans (hx7.below (by have := HB2.out.size; simp <;> omega) (fun k hk => by simp at hk; have := HM.out; have := HB1.out.size; omega)); have hbx7 := hm7.rm; unfold Box roomCs at hbx7; clear hm7 hx7)) | (go_at_call 89; go_loud (refine (askedR_ok r q _ (HQ.out.up (bl_al (Below.refl _ _) _)) HO.out.cop.small HE.out).mono ?_; rintro e w1 ⟨m, rfl, hm, hmp, hcl, hb⟩; have HX1 : Hid (Box w1 w.heap.size (roomCs r q)) := (Box.new w (roomCs r q) 44 (0, 0)).bl (by simp) hb; have hbx := HX1.out; unfold Box roomCs at hbx; have HB1 : Hid (Below w.heap.size w w1) := bl_tr (bl_al (Below.refl w.heap.size w) _) hb; have HMP := Lib.hid hmp; have HCL := Lib.hid hcl; have HM : Hid (w.heap.size < m) := (by simp at hm; unfold Hid; omega); have HBW : Hid (BW r q w.heap.size (m + 1) m w1) := BW.new HO.out hmp hcl (HQ.out.below HB1.out) (by have := HM.out; omega); clear hb hm hmp hcl)) | (have hz := HB1; clear hz; go_at_call 98; go_loud (refine (sureR_c r q w.heap.size (m + 1) m [] _ (((HBW.out.up (bl_al (Below.refl _ _) _)).up (bl_al (Below.refl _ _) _)).up (bl_al (Below.refl _ _) _)) HZ.out).mono ?_; rw [HSU.out]; rintro e w2 ⟨rfl, hbw2, hext2⟩; have HW2 := Lib.hid hbw2; have HB2 : Hid (Below w.heap.size w w2) := (bl_al (bl_al (bl_al HB1.out _) _) _).trans (hext2.below (by have := HB1.out.size; simp; omega) (fun k hk => by simp at hk; have := HM.out; omega)); have hm1 := HB1.out.size; have hmm := (Array.getElem?_eq_some_iff.1 HMP.out).1; have hnm : ∀ j, w1.heap.size + j ∉ [m] := (fun j hj => by simp at hj; omega); have HB0 : Hid (Box w2 w.heap.size (roomCs r q)) := ((((HX1.out.al (by simp) _).al (by simp) _).al (by simp) _).ext hext2 (by simp <;> omega) (by have := HM.out; simp <;> omega)); have HPW : Hid (Box w2 w1.heap.size #[.pointer (some ⟨m + 1, 0, none⟩)]) := ((((Box.new w1 #[.pointer (some ⟨m + 1, 0, none⟩)] 113 (0, 0)).al (by simp) _).al (by simp) _).ext hext2 (by simp <;> omega) (hnm 0)); have HBS : Hid (w2.heap[w1.heap.size + 1]? = some (.cells (nvs []) 115 (0, 0))) := (hext2.block _ (by simp <;> omega) (hnm 1)).trans (heap_al (by have := World.alloc_heap_new (w1.alloc (.cells #[.pointer (some ⟨m + 1, 0, none⟩)] 113)) (.cells (nvs []) 115); rw [World.size_alloc] at this; exact this) _); have hz2 : Box w2 (w1.heap.size + 1 + 1) #[.int .i64 0, .int .i64 0, .int .i64 0, .int .i64 0, .int .i64 0] := (Box.ext (w := (((w1.alloc (.cells #[.pointer (some ⟨m + 1, 0, none⟩)] 113)).alloc (.cells (nvs []) 115)).alloc (.cells (nvs []) 115))) (Box.new' _ _ 115 (0, 0) (by simp)) hext2 (by simp) (hnm 2)); unfold Box at hz2; clear hnm hbx; have HMA : Hid (MostAt r q w.heap.size (m + 1) m w.heap.size (w1.heap.size + 1) w1.heap.size w2.heap.size [] (w2.alloc (.cells #[.func (.func 102) #[] #[.pointer (some ⟨w.heap.size, 0, none⟩), .pointer (some ⟨w1.heap.size + 1, 0, none⟩), .pointer (some ⟨w1.heap.size, 0, none⟩), .pointer (some ⟨w2.heap.size, 0, none⟩)]] 139))) := ⟨hbw2.up (bl_al (Below.refl _ _) _), HB0.out.al (by simp [roomCs]) _, heap_al HBS.out _, HPW.out.al (by simp) _, Box.new _ _ _ _⟩; have HSEP : Hid (MostSep w.heap.size (m + 1) m w.heap.size (w1.heap.size + 1) w1.heap.size w2.heap.size) := (have g1 := HM.out; have g2 := (Array.getElem?_eq_some_iff.1 HCL.out).1; have g3 := hext2.size; by simp at g3; exact ⟨by omega, by omega, by omega, by omega, by omega, by omega, by omega, by omega, by omega⟩); clear hbw2 hext2)))
  go_ret2
  exact ⟨A, K, by rw [HLEN.out]; rfl, HI9.out, HB9.out⟩
end Go.Proofs.YtpgnplmjfhdncaaGreat
