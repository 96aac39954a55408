/- A part of the proof: C8, C9, Ck, Sc. -/
import Derived.Test.YtpgnplmjfhdncaaGreatKC5
import Derived.Test.YtpgnplmjfhdncaaGreatKRng
import Derived.Laws.EntriesVeiled
namespace Go.Proofs.YtpgnplmjfhdncaaGreat
open Go.RowKit
attribute [local go_sem] Oper.semAt_some
set_option linter.unusedVariables false
/-- The losses from an hour on, d hours, behind pre. -/
def lossFrom (c : Cop) : Nat → List Int → List (List Int)
  | 0, pre => [pre]
  | d + 1, pre => (List.range (p2 c.loss pre.length - p1 c.loss pre.length + 1).toNat).flatMap fun (k : Nat) => lossFrom c d (pre ++ [p1 c.loss pre.length + (k : Int)])
def losses (c : Cop) : List (List Int) := lossFrom c (c.last + 1).toNat []
/-- All scenes, in their order. -/
def scenesC (c : Cop) : List (Int × List Int) := (List.range (c.hhi - c.hlo + 1).toNat).flatMap fun (k : Nat) => (losses c).map fun l => (c.hlo + (k : Int), l)
structure Kept (B : Nat) (L : List Nat) (w w' : World) : Prop where
  os : w'.os = w.os
  tape : w'.tape = w.tape
  output : w'.output = w.output
  size : w.heap.size ≤ w'.heap.size
  block : ∀ k, k < B → k < w.heap.size → k ∉ L → w'.heap[k]? = w.heap[k]?
theorem Kept.trans {B : Nat} {L : List Nat} {a b c : World} (h : Kept B L a b) (k : Kept B L b c) : Kept B L a c :=
  ⟨k.os.trans h.os, k.tape.trans h.tape, k.output.trans h.output, Nat.le_trans h.size k.size, fun i hb hi hn => (k.block i hb (Nat.lt_of_lt_of_le hi h.size) hn).trans (h.block i hb hi hn)⟩
theorem Kept.refl (B : Nat) (L : List Nat) (w : World) : Kept B L w w := ⟨rfl, rfl, rfl, Nat.le_refl _, fun _ _ _ _ => rfl⟩
theorem Kept.bl {B B' : Nat} {L : List Nat} {w w' : World} (h : Below B' w w') (hs : w.heap.size ≤ w'.heap.size) (hB : B ≤ B') : Kept B L w w' := ⟨h.os, h.tape, h.output, hs, fun k hk _ _ => h.block k (by omega)⟩
theorem Kept.setCell {B : Nat} {L : List Nat} {a w : World} (h : Kept B L a w) {p : Addr} (hp : p.block ∈ L ∨ B ≤ p.block ∨ a.heap.size ≤ p.block) (u : Value) : Kept B L a (w.setCell p u) :=
  ⟨h.os, h.tape, h.output, by simpa [World.setCell] using h.size, fun k hb hk hn => (Below.heap_setCell _ _ _ _ (fun e => by rcases hp with hp | hp | hp; exact hn (e ▸ hp); omega; omega)).trans (h.block k hb hk hn)⟩
theorem Kept.putObj {B : Nat} {L : List Nat} {a w : World} (h : Kept B L a w) {l : Nat} (hp : l ∈ L) (o : Obj) : Kept B L a (w.putObj l o) := by
  have hg := grownBy_putObj' w l o
  exact ⟨hg.os.trans h.os, hg.tape.trans h.tape, hg.output.trans h.output, Nat.le_trans h.size hg.size, fun k hb hk hn => (hg.block k (Nat.lt_of_lt_of_le hk h.size) (fun e => by cases e; exact hn hp)).trans (h.block k hb hk hn)⟩
theorem Kept.cell {B : Nat} {L : List Nat} {w w' : World} (h : Kept B L w w') {b o : Nat} (hb : b < B) (hw : b < w.heap.size) (hn : b ∉ L) : w'.cell? ⟨b, o, none⟩ = w.cell? ⟨b, o, none⟩ := World.cell?_of_block (w := w) (h.block b hb hw hn)
theorem Kept.box {B : Nat} {L : List Nat} {w w' : World} {b : Nat} {cs : Array Value} (h : Kept B L w w') (hx : Box w b cs) (hp : 0 < cs.size) (hb : b < B) (hn : b ∉ L) : Box w' b cs := fun o => (h.cell hb (hx.lt hp) hn).trans (hx o)

abbrev scCs (h : Int) (l : List Int) : Array Value := #[.int .i64 h, .int .i64 (nth l 0), .int .i64 (nth l 1), .int .i64 (nth l 2), .int .i64 (nth l 3), .int .i64 (nth l 4)]
theorem scCs_set (h : Int) (xs : List Int) (hl : xs.length = 5) (j : Nat) (hj : j < 5) (v : Int) : (scCs h xs).setIfInBounds (1 + j) (.int .i64 v) = scCs h (xs.set j v) := by
  match xs, hl with
  | [a, b, c, d, e], _ =>
    match j, hj with
    | 0, _ => rfl
    | 1, _ => rfl
    | 2, _ => rfl
    | 3, _ => rfl
    | 4, _ => rfl
theorem scCs_at (h : Int) (xs : List Int) (j : Nat) (hj : j < 5) : (scCs h xs)[1 + j]? = some (.int .i64 (nth xs j)) := by
  match j, hj with
  | 0, _ => rfl
  | 1, _ => rfl
  | 2, _ => rfl
  | 3, _ => rfl
  | 4, _ => rfl
theorem nth_set (xs : List Int) (j : Nat) (v : Int) (i : Nat) (hj : j < xs.length) : nth (xs.set j v) i = if i = j then v else nth xs i := by
  simp only [nth, List.getD_eq_getElem?_getD, List.getElem?_set]
  split
  · rename_i h; subst h; simp
  · rename_i h; rw [if_neg (fun e => h e.symm)]
/-- The iterator's cells. -/
structure ScLay (c : Cop) (q : CA) (l n0 cb : Nat) (heat : Int) (pre : List Int) (W : World) : Prop where
  cop : Box W cb (copCs c q)
  yl : Box W n0 #[.func (.yield l) #[] #[]]
  s : ∃ xs : List Int, xs.length = 5 ∧ W.heap[n0 + 1]? = some (.cells (scCs heat xs) 158 (0, 0)) ∧ (∀ j, j < pre.length → nth xs j = nth pre j) ∧ ∀ j : Nat, c.last < j → nth xs j = 0
  ch : Box W (n0 + 2) #[.func (.func 167) #[] #[.pointer (some ⟨cb, 0, none⟩), .pointer (some ⟨n0, 0, none⟩), .pointer (some ⟨n0 + 1, 0, none⟩), .pointer (some ⟨n0 + 2, 0, none⟩)]]
  loss : PairsAt W n0 q.a3 c.loss
theorem nth_out (xs : List Int) (j : Nat) (h : xs.length ≤ j) : nth xs j = 0 := by simp [nth, h]
theorem ScLay.full {c : Cop} {q : CA} {l n0 cb : Nat} {heat : Int} {pre : List Int} {W : World} (h : ScLay c q l n0 cb heat pre W) (hp : (pre.length : Int) = c.last + 1) : W.heap[n0 + 1]? = some (.cells (scCs heat pre) 158 (0, 0)) := by
  obtain ⟨xs, hl, hb, h1, h2⟩ := h.s
  have : ∀ j, nth xs j = nth pre j := fun j => by
    by_cases hj : j < pre.length
    · exact h1 j hj
    · rw [h2 j (by omega), nth_out pre j (by omega)]
  rw [hb]
  simp only [scCs, this]
theorem ScLay.kept {c : Cop} {q : CA} {l n0 cb : Nat} {heat : Int} {pre : List Int} {L : List Nat} {W W' : World} (h : ScLay c q l n0 cb heat pre W) (hk : Kept (n0 + 3) L W W') (hcb : cb < n0) (hc : cb ∉ L) (hL : ∀ k ∈ L, k < n0) (hq : ∀ b o, q.a3 = some ⟨b, o, none⟩ → b ∉ L) (hs : n0 + 3 ≤ W.heap.size) : ScLay c q l n0 cb heat pre W' := by
  have hn : ∀ k, n0 ≤ k → k ∉ L := fun k hk hm => by have := hL k hm; omega
  obtain ⟨xs, hl, hb, h1, h2⟩ := h.s
  refine ⟨hk.box h.cop (by simp) (by omega) hc, hk.box h.yl (by simp) (by omega) (hn _ (by omega)), ⟨xs, hl, (hk.block _ (by omega) (by omega) (hn _ (by omega))).trans hb, h1, h2⟩, hk.box h.ch (by simp) (by omega) (hn _ (by omega)), ?_⟩
  rcases h.loss with h' | ⟨b, o, ha, hlt, hc⟩
  · exact .inl h'
  · refine .inr ⟨b, o, ha, hlt, fun j hj => ?_⟩
    rw [hk.cell (by omega) (by omega) (hq b o ha), hk.cell (by omega) (by omega) (hq b o ha)]
    exact hc j hj
theorem nth_app_lt {xs ys : List Int} {j : Nat} (h : j < xs.length) : nth (xs ++ ys) j = nth xs j := by simp [nth, List.getElem?_append_left h]
theorem nth_app_eq {xs : List Int} {y : Int} : nth (xs ++ [y]) xs.length = y := by simp [nth]
theorem ScLay.back {c : Cop} {q : CA} {l n0 cb : Nat} {heat : Int} {pre : List Int} {x : Int} {W : World} (h : ScLay c q l n0 cb heat (pre ++ [x]) W) : ScLay c q l n0 cb heat pre W := by
  obtain ⟨xs, hl, hb, h1, h2⟩ := h.s
  exact ⟨h.cop, h.yl, ⟨xs, hl, hb, fun j hj => (h1 j (by simp; omega)).trans (nth_app_lt hj), h2⟩, h.ch, h.loss⟩
theorem ScLay.step {c : Cop} {q : CA} {l n0 cb : Nat} {heat : Int} {pre : List Int} {x : Int} {W : World} (h : ScLay c q l n0 cb heat pre W) (hcb : cb < n0) (h5 : pre.length < 5) (hl : (pre.length : Int) ≤ c.last) : ScLay c q l n0 cb heat (pre ++ [x]) (W.setCell ⟨n0 + 1, 1 + pre.length, none⟩ (.int .i64 x)) := by
  obtain ⟨xs, hxl, hb, h1, h2⟩ := h.s
  have hk : Grown (fun k => k = n0 + 1) W (W.setCell ⟨n0 + 1, 1 + pre.length, none⟩ (.int .i64 x)) := (Grown.refl (fun k => k = n0 + 1) W).setCell (.inl rfl) _
  refine ⟨hk.box h.cop (h.cop.lt (by simp)) (by omega), hk.box h.yl (h.yl.lt (by simp)) (by omega), ⟨xs.set pre.length x, by simpa using hxl, ?_, ?_, ?_⟩, hk.box h.ch (h.ch.lt (by simp)) (by omega), ?_⟩
  · rw [heap_setCell_same W (n0 + 1) (1 + pre.length) _ _ _ hb, scCs_set _ _ hxl _ h5]
  · intro j hj
    rw [nth_set _ _ _ _ (by omega)]
    split
    · rename_i e; subst e; exact nth_app_eq.symm
    · have : j < pre.length := by simp at hj; omega
      rw [h1 j this, nth_app_lt this]
  · intro j hj
    rw [nth_set _ _ _ _ (by omega), if_neg (by omega)]
    exact h2 j hj
  · rcases h.loss with h' | ⟨b, o, ha, hlt, hc⟩
    · exact .inl h'
    · refine .inr ⟨b, o, ha, hlt, fun j hj => ?_⟩
      have hbw : b < W.heap.size := World.block_lt_of_cell? W _ (hc j hj).1
      rw [hk.cell hbw (by omega), hk.cell hbw (by omega)]
      exact hc j hj
theorem range_split {α : Type} (f : Nat → List α) (k : Nat) : (List.range (k + 1)).flatMap f = (List.range k).flatMap f ++ f k := by
  rw [List.range_succ, List.flatMap_append]; simp
theorem prefix_flat {α : Type} {f : Nat → List α} {k n : Nat} (h : k < n) {q : List α} (hq : q <+: f k) : (List.range k).flatMap f ++ q <+: (List.range n).flatMap f := by
  obtain ⟨t, ht⟩ := hq
  obtain ⟨m, rfl⟩ : ∃ m, n = k + 1 + m := ⟨n - (k + 1), by omega⟩
  rw [List.range_add, List.flatMap_append, range_split, ← ht]
  exact ⟨t ++ (List.map (fun x => k + 1 + x) (List.range m)).flatMap f, by simp [List.append_assoc]⟩
set_option maxRecDepth 100000 in
set_option maxHeartbeats 4000000 in
theorem choose_c (c : Cop) (q : CA) (l n0 cb : Nat) (heat : Int) (L : List Nat) (tot : List (Int × List Int)) (J Jx : List (Int × List Int) → World → Prop)
    (hcb : cb < n0) (hc : cb ∉ L) (hL : ∀ k ∈ L, k < n0) (hq : ∀ b o, q.a3 = some ⟨b, o, none⟩ → b ∉ L) (h0 : 0 ≤ c.last) (h4 : c.last ≤ 4) (hll : (c.loss.length : Int) = c.last + 1)
    (hok : ∀ j, j < c.loss.length → okR 99 (p1 c.loss j) (p2 c.loss j) = true)
    (hJ : ∀ pre A B, J pre A → n0 ≤ A.heap.size → Grown (fun k => n0 ≤ k ∧ k < n0 + 3) A B → J pre B)
    (hY : ∀ pre (x : Int × List Int) W1, pre ++ [x] <+: tot → J pre W1 → n0 + 3 ≤ W1.heap.size → YieldAt Fence.wide 0 Tryz.prog l #[scV x.1 x.2] W1 fun e W' =>
      (e = .returned (.bool true) ∧ J (pre ++ [x]) W' ∧ Kept (n0 + 3) L W1 W') ∨ (e = .returned (.bool false) ∧ Jx (pre ++ [x]) W')) :
    ∀ (d hour : Nat) (pre : List Int) (done : List (Int × List Int)) (W : World), (hour : Int) + d = c.last + 1 → pre.length = hour → n0 + 3 ≤ W.heap.size → ScLay c q l n0 cb heat pre W → J done W → done ++ (lossFrom c d pre).map (fun l => (heat, l)) <+: tot →
      CallsIn Fence.wide 0 Tryz.prog 167 #[.int .i64 hour, .pointer (some ⟨cb, 0, none⟩), .pointer (some ⟨n0, 0, none⟩), .pointer (some ⟨n0 + 1, 0, none⟩), .pointer (some ⟨n0 + 2, 0, none⟩)] W fun e W' =>
        (e = .returned (.bool true) ∧ n0 + 3 ≤ W'.heap.size ∧ ScLay c q l n0 cb heat pre W' ∧ J (done ++ (lossFrom c d pre).map fun l => (heat, l)) W') ∨
        (e = .returned (.bool false) ∧ ∃ r, r <+: (lossFrom c d pre).map (fun l => (heat, l)) ∧ Jx (done ++ r) W') := by
  intro d
  induction d with
  | zero =>
    intro hour pre done W hd hp hs hlay hj htot
    obtain ⟨fn, tmps, assign, body, hy, hR⟩ := hY done (heat, pre) W htot hj hs
    have hfull := hlay.full (by omega)
    have hlast : W.cell? ⟨cb, 0, none⟩ = some (.int .i64 c.last) := hlay.cop 0
    have hyl : W.cell? ⟨n0, 0, none⟩ = some (.func (.yield l) #[] #[]) := hlay.yl 0
    have e0 : W.cell? ⟨n0 + 1, 0, none⟩ = some (.int .i64 heat) := by simp [World.cell?, hfull]
    have e1 : W.cell? ⟨n0 + 1, 1, none⟩ = some (.int .i64 (nth pre 0)) := by simp [World.cell?, hfull]
    have e2 : W.cell? ⟨n0 + 1, 2, none⟩ = some (.int .i64 (nth pre 1)) := by simp [World.cell?, hfull]
    have e3 : W.cell? ⟨n0 + 1, 3, none⟩ = some (.int .i64 (nth pre 2)) := by simp [World.cell?, hfull]
    have e4 : W.cell? ⟨n0 + 1, 4, none⟩ = some (.int .i64 (nth pre 3)) := by simp [World.cell?, hfull]
    have e5 : W.cell? ⟨n0 + 1, 5, none⟩ = some (.int .i64 (nth pre 4)) := by simp [World.cell?, hfull]
    have HLAY := Lib.hid hlay
    have hgt : c.last < (hour : Int) := by omega
    dsimp only at hy
    clear hfull hlay hY hJ hj
    refine callsIn_of_wp Tryz.func167 rfl trivial ?_ rfl
    simp only [Tryz.ntmps167, List.size_toArray, List.length_cons, List.length_nil, Nat.reduceAdd, Nat.reduceSub, Array.replicate_succ, Array.replicate_zero, List.push_toArray, List.append_toArray, List.nil_append, List.cons_append]
    gi_wp2
    refine ⟨rfl, hR.mono ?_⟩
    rintro e W3 (⟨rfl, hJ3, hk3⟩ | ⟨rfl, hJx3⟩)
    · have HJ3 := Lib.hid hJ3
      have HK3 := Lib.hid hk3
      clear hJ3 hk3
      gi_wp2
      go_ret
      exact .inl ⟨rfl, Nat.le_trans hs HK3.out.size, HLAY.out.kept HK3.out hcb hc hL hq hs, HJ3.out⟩
    · have HJ3 := Lib.hid hJx3
      clear hJx3
      gi_wp2
      go_ret
      exact .inr ⟨rfl, _, List.prefix_refl _, HJ3.out⟩
  | succ d ih =>
    intro hour pre done W hd hp hs hlay hj htot
    have HTOT := Lib.hid htot
    clear htot
    subst hp
    have hok' := okR_spec (hok pre.length (by omega))
    have HY := Lib.hid hY
    have HIH := Lib.hid ih
    have HJ0 := Lib.hid hJ
    have HQ := Lib.hid hq
    have HL := Lib.hid hL
    have HLAY0 := Lib.hid hlay
    have HJJ := Lib.hid hj
    clear hY ih hJ hq hL hj hok
    obtain ⟨b, o, ha3, hb, hcells⟩ := hlay.loss.at_ (by omega)
    obtain ⟨hc1, hc2⟩ := hcells pre.length (by omega)
    have hlast : W.cell? ⟨cb, 0, none⟩ = some (.int .i64 c.last) := hlay.cop 0
    have hls : W.cell? ⟨cb, 9, none⟩ = some (.slice q.a3 c.loss.length q.c3) := hlay.cop 9
    clear hlay hcells
    have hgt : ((pre.length : Nat) : Int) ≤ c.last := by omega
    have hj1 : ((pre.length : Nat) : Int) < (c.loss.length : Int) := by omega
    obtain ⟨a1, cc1, a2, cc2, a3, cc3, a4, cc4⟩ := q
    dsimp only at ha3 hls
    subst ha3
    refine callsIn_of_wp Tryz.func167 rfl trivial ?_ rfl
    simp only [Tryz.ntmps167, List.size_toArray, List.length_cons, List.length_nil, Nat.reduceAdd, Nat.reduceSub, Array.replicate_succ, Array.replicate_zero, List.push_toArray, List.append_toArray, List.nil_append, List.cons_append]
    gi_wp2
    gi_loopw [7] (fun i wr => ∃ k : Nat, (k : Int) ≤ p2 c.loss pre.length - p1 c.loss pre.length + 1 ∧ i = .int .i64 (p1 c.loss pre.length + k) ∧ n0 + 3 ≤ wr.heap.size ∧ ScLay c ⟨a1, cc1, a2, cc2, some ⟨b, o, none⟩, cc3, a4, cc4⟩ l n0 cb heat pre wr ∧ J (done ++ ((List.range k).flatMap fun (k : Nat) => lossFrom c d (pre ++ [p1 c.loss pre.length + (k : Int)])).map fun l => (heat, l)) wr) (fun i _ => (p2 c.loss pre.length + 1 - intOf i).toNat)
    case atStart => exact ⟨0, by omega, by simp, hs, HLAY0.out, by simpa using HJJ.out⟩
    case round =>
      obtain ⟨k, hk, rfl, hsz, hlay, hj⟩ := hrel
      have HJ1 := Lib.hid hj
      have HLAY1 := Lib.hid hlay
      clear hj
      have hls : wr.cell? ⟨cb, 9, none⟩ = some (.slice (some ⟨b, o, none⟩) c.loss.length cc3) := hlay.cop 9
      have hc2 := (hlay.loss.get pre.length (by omega)).2
      have hch : wr.cell? ⟨n0 + 2, 0, none⟩ = some (.func (.func 167) #[] #[.pointer (some ⟨cb, 0, none⟩), .pointer (some ⟨n0, 0, none⟩), .pointer (some ⟨n0 + 1, 0, none⟩), .pointer (some ⟨n0 + 2, 0, none⟩)]) := hlay.ch 0
      obtain ⟨xs, hxl, hbx, hx1, hx2⟩ := hlay.s
      have hcs : wr.cell? ⟨n0 + 1, 1 + pre.length, none⟩ = some (.int .i64 (nth xs pre.length)) := by
        have : (scCs heat xs)[1 + pre.length]? = some (.int .i64 (nth xs pre.length)) := by
          exact scCs_at heat xs pre.length (by omega)
        simp only [World.cell?, hbx]
        exact this
      have hfz : wr.frozen? ⟨n0 + 1, 1 + pre.length, none⟩ = false := by simp [World.frozen?, hbx]
      have HBX := Lib.hid hbx
      have HX1 := Lib.hid hx1
      have HX2 := Lib.hid hx2
      clear hlay hbx hx1 hx2
      by_cases hlt : (k : Int) < p2 c.loss pre.length - p1 c.loss pre.length + 1
      · have hj5 : ((pre.length : Nat) : Int) < 5 := by omega
        have hle : p1 c.loss pre.length + (k : Int) ≤ p2 c.loss pre.length := by omega
        have hj0 : (0 : Int) ≤ ((pre.length : Nat) : Int) := by omega
        have hstep : Hid (ScLay c ⟨a1, cc1, a2, cc2, some ⟨b, o, none⟩, cc3, a4, cc4⟩ l n0 cb heat (pre ++ [p1 c.loss pre.length + (k : Int)]) (wr.setCell ⟨n0 + 1, 1 + pre.length, none⟩ (.int .i64 (p1 c.loss pre.length + (k : Int))))) := HLAY1.out.step hcb (by omega) hgt
        have hgr : Hid (Grown (fun k => n0 ≤ k ∧ k < n0 + 3) wr (wr.setCell ⟨n0 + 1, 1 + pre.length, none⟩ (.int .i64 (p1 c.loss pre.length + (k : Int))))) := (Grown.refl (fun k => n0 ≤ k ∧ k < n0 + 3) wr).setCell (.inl (by simp)) _
        have hpre : ((List.range k).flatMap fun (k : Nat) => lossFrom c d (pre ++ [p1 c.loss pre.length + (k : Int)])) ++ lossFrom c d (pre ++ [p1 c.loss pre.length + (k : Int)]) <+: lossFrom c (d + 1) pre := by
          exact prefix_flat (f := fun (k : Nat) => lossFrom c d (pre ++ [p1 c.loss pre.length + (k : Int)])) (by omega) (List.prefix_refl _)
        have HPRE : Hid ((done ++ ((List.range k).flatMap fun (k : Nat) => lossFrom c d (pre ++ [p1 c.loss pre.length + (k : Int)])).map fun l => (heat, l)) ++ (lossFrom c d (pre ++ [p1 c.loss pre.length + (k : Int)])).map (fun l => (heat, l)) <+: tot) := by
          obtain ⟨u, hu⟩ := hpre
          refine List.IsPrefix.trans ?_ HTOT.out
          rw [← hu]
          exact ⟨u.map fun l => (heat, l), by simp only [List.map_append, List.append_assoc]⟩
        have HPR := Lib.hid hpre
        clear hpre
        gi_wp2_with (fail)
        refine ⟨trivial, rfl, (HIH.out (pre.length + 1) (pre ++ [p1 c.loss pre.length + (k : Int)]) _ _ (by omega) (by simp) (Nat.le_trans hsz hgr.out.size) hstep.out (HJ0.out _ _ _ HJ1.out (by omega) hgr.out) HPRE.out).mono ?_⟩
        clear hstep hgr
        rintro e W3 (⟨rfl, hsz3, hlay3, hJ3⟩ | ⟨rfl, r, hr, hJx3⟩)
        · have HJ3 := Lib.hid hJ3
          have HLAY3 := Lib.hid hlay3
          clear hJ3 hlay3
          gi_wp2
          go_roundw
          case rel =>
            refine ⟨k + 1, by omega, by congr 1; omega, hsz3, HLAY3.out.back, ?_⟩
            rw [range_split, List.map_append, ← List.append_assoc]
            exact HJ3.out
          case measure => simp [intOf]; omega
        · have HJ3 := Lib.hid hJx3
          have HR := Lib.hid hr
          clear hJx3 hr
          gi_wp2
          go_ret
          refine .inr ⟨rfl, ((List.range k).flatMap fun (k : Nat) => lossFrom c d (pre ++ [p1 c.loss pre.length + (k : Int)])).map (fun l => (heat, l)) ++ r, ?_, by rw [← List.append_assoc]; exact HJ3.out⟩
          obtain ⟨t, ht⟩ := HR.out
          obtain ⟨u, hu⟩ := HPR.out
          rw [← hu]
          exact ⟨t ++ u.map fun l => (heat, l), by simp only [List.map_append, List.append_assoc, ← ht]⟩
      · have hkn : k = (p2 c.loss pre.length - p1 c.loss pre.length + 1).toNat := by omega
        have hgt2 : p2 c.loss pre.length < p1 c.loss pre.length + (k : Int) := by omega
        gi_wp2
        go_ret
        refine .inl ⟨rfl, hsz, HLAY1.out, ?_⟩
        have := HJ1.out
        rw [hkn] at this
        exact this
end Go.Proofs.YtpgnplmjfhdncaaGreat
namespace Go.Proofs.YtpgnplmjfhdncaaGreat
open Go.RowKit
attribute [local go_sem] Oper.semAt_some
set_option linter.unusedVariables false
theorem ScLay.heat {c : Cop} {q : CA} {l n0 cb : Nat} {heat h' : Int} {pre : List Int} {W : World} (h : ScLay c q l n0 cb heat pre W) (hcb : cb < n0) : ScLay c q l n0 cb h' pre (W.setCell ⟨n0 + 1, 0, none⟩ (.int .i64 h')) := by
  obtain ⟨xs, hxl, hb, h1, h2⟩ := h.s
  have hk : Grown (fun k => k = n0 + 1) W (W.setCell ⟨n0 + 1, 0, none⟩ (.int .i64 h')) := (Grown.refl (fun k => k = n0 + 1) W).setCell (.inl rfl) _
  refine ⟨hk.box h.cop (h.cop.lt (by simp)) (by omega), hk.box h.yl (h.yl.lt (by simp)) (by omega), ⟨xs, hxl, ?_, h1, h2⟩, hk.box h.ch (h.ch.lt (by simp)) (by omega), ?_⟩
  · rw [heap_setCell_same W (n0 + 1) 0 _ _ _ hb]; rfl
  · rcases h.loss with h' | ⟨b, o, ha, hlt, hc⟩
    · exact .inl h'
    · refine .inr ⟨b, o, ha, hlt, fun j hj => ?_⟩
      have hbw : b < W.heap.size := World.block_lt_of_cell? W _ (hc j hj).1
      rw [hk.cell hbw (by omega), hk.cell hbw (by omega)]
      exact hc j hj
set_option maxRecDepth 100000 in
set_option maxHeartbeats 4000000 in
theorem scenes_it (c : Cop) (q : CA) (cb : Nat) (L : List Nat) (W : World)
    (hcb : cb < W.heap.size) (hc : cb ∉ L) (hL : ∀ k ∈ L, k < W.heap.size) (hq : ∀ b o, q.a3 = some ⟨b, o, none⟩ → b ∉ L) (h0 : 0 ≤ c.last) (h4 : c.last ≤ 4) (hll : (c.loss.length : Int) = c.last + 1)
    (hok : ∀ j, j < c.loss.length → okR 99 (p1 c.loss j) (p2 c.loss j) = true) (hh : okR 99 c.hlo c.hhi = true)
    (hbx : Box W cb (copCs c q)) (hls : PairsAt W W.heap.size q.a3 c.loss) :
    SeqT (W.heap.size + 3) (fun k => W.heap.size ≤ k ∧ k < W.heap.size + 3) (Kept (W.heap.size + 3) L) Tryz.prog 166 #[.pointer (some ⟨cb, 0, none⟩)] (fun x : Int × List Int => #[scV x.1 x.2]) (scenesC c) W := by
  intro l J Jx hJ hY hj0
  have hh' := okR_spec hh
  have hcall := fun heat => choose_c c q l W.heap.size cb heat L (scenesC c) J Jx hcb hc hL hq h0 h4 hll hok hJ hY
  have HCALL := Lib.hid hcall
  have HJ := Lib.hid hJ
  have HJ0 := Lib.hid hj0
  have HBX := Lib.hid hbx
  have HLS := Lib.hid hls
  have hlo0 : W.cell? ⟨cb, 7, none⟩ = some (.int .i64 c.hlo) := hbx 7
  have HCB := Lib.hid hcb
  have hlo3 : ∀ A B C : Obj, (((W.alloc A).alloc B).alloc C).cell? ⟨cb, 7, none⟩ = some (.int .i64 c.hlo) := fun A B C => cell_later (bl_al (bl_al (bl_al (Below.refl _ _) _) _) _) hlo0
  clear hcall hJ hY hj0 hbx hls hL hq hok hcb hc hh
  show CallsIn Fence.wide 0 Tryz.prog 166 #[.func (.yield l) #[] #[], .pointer (some ⟨cb, 0, none⟩)] W _
  refine callsIn_of_wp Tryz.func166 rfl trivial ?_ rfl
  simp only [Tryz.ntmps166, List.size_toArray, List.length_cons, List.length_nil, Nat.reduceAdd, Nat.reduceSub, Array.replicate_succ, Array.replicate_zero, List.push_toArray, List.append_toArray, List.nil_append, List.cons_append]
  gi_wp2
  gi_loopw [10] (fun p wr => ∃ k : Nat, (k : Int) ≤ c.hhi - c.hlo + 1 ∧ W.heap.size + 3 ≤ wr.heap.size ∧ ScLay c q l W.heap.size cb (c.hlo + k) [] wr ∧ J ((List.range k).flatMap fun (k : Nat) => (losses c).map fun l => (c.hlo + (k : Int), l)) wr)
    (fun _ wr => (c.hhi + 1 - intOf ((wr.cell? ⟨W.heap.size + 1, 0, none⟩).getD undef)).toNat)
  case atStart =>
    refine ⟨0, by omega, by simp, ?_, ?_⟩
    · refine ⟨?_, ?_, ⟨[0, 0, 0, 0, 0], rfl, ?_, ?_, ?_⟩, ?_, ?_⟩
      · exact ((HBX.out.al (by simp) _).al (by simp) _).al (by simp) _
      · exact (((Box.new _ _ _ _).al (by simp) _).al (by simp) _)
      · have := World.alloc_heap_new (W.alloc (.cells #[.func (.yield l) #[] #[]] 203)) (.cells (scCs c.hlo [0, 0, 0, 0, 0]) 158)
        rw [World.size_alloc] at this
        rw [show c.hlo + ((0 : Nat) : Int) = c.hlo by simp]
        exact (Below.heap_alloc _ _ _ (by simp)).trans this
      · intro j hj; simp at hj
      · intro j hj
        simp [nth]
        match j with
        | 0 => rfl
        | 1 => rfl
        | 2 => rfl
        | 3 => rfl
        | 4 => rfl
        | j + 5 => rfl
      · exact Box.new' _ _ _ _ (by simp)
      · exact (HLS.out.below (bl_al (bl_al (bl_al (Below.refl _ _) _) _) _))
    · exact HJ.out _ _ _ HJ0.out (Nat.le_refl _) (Grown.bl (bl_al (bl_al (bl_al (Below.refl _ _) _) _) _))
  case round =>
    obtain ⟨k, hk, hsz, hlay, hj⟩ := hrel
    have HLAY := Lib.hid hlay
    have HJJ := Lib.hid hj
    clear hj
    obtain ⟨xs, hxl, hbx, hx1, hx2⟩ := hlay.s
    have e0 : wr.cell? ⟨W.heap.size + 1, 0, none⟩ = some (.int .i64 (c.hlo + k)) := by simp [World.cell?, hbx]
    have ehi : wr.cell? ⟨cb, 8, none⟩ = some (.int .i64 c.hhi) := hlay.cop 8
    have ech : wr.cell? ⟨W.heap.size + 1 + 1, 0, none⟩ = some (.func (.func 167) #[] #[.pointer (some ⟨cb, 0, none⟩), .pointer (some ⟨W.heap.size, 0, none⟩), .pointer (some ⟨W.heap.size + 1, 0, none⟩), .pointer (some ⟨W.heap.size + 2, 0, none⟩)]) := hlay.ch 0
    clear hlay hbx hx1 hx2
    by_cases hlt : (k : Int) < c.hhi - c.hlo + 1
    · have hle : c.hlo + (k : Int) ≤ c.hhi := by omega
      gi_wp2_with (fail)
      have HPRE : Hid (((List.range k).flatMap fun (k : Nat) => (losses c).map fun l => (c.hlo + (k : Int), l)) ++ (losses c).map (fun l => (c.hlo + (k : Int), l)) <+: scenesC c) :=
        prefix_flat (f := fun (k : Nat) => (losses c).map fun l => (c.hlo + (k : Int), l)) (by omega) (List.prefix_refl _)
      refine ⟨trivial, rfl, (HCALL.out (c.hlo + k) (c.last + 1).toNat 0 [] _ wr (by omega) rfl hsz HLAY.out HJJ.out HPRE.out).mono ?_⟩
      rintro e W3 (⟨rfl, hsz3, hlay3, hJ3⟩ | ⟨rfl, r, hr, hJx3⟩)
      · obtain ⟨ys, hyl, hby, hy1, hy2⟩ := hlay3.s
        have e03 : W3.cell? ⟨W.heap.size + 1, 0, none⟩ = some (.int .i64 (c.hlo + k)) := by simp [World.cell?, hby]
        have f03 : W3.frozen? ⟨W.heap.size + 1, 0, none⟩ = false := by simp [World.frozen?, hby]
        have HL3 : Hid (ScLay c q l W.heap.size cb (c.hlo + k + 1) [] (W3.setCell ⟨W.heap.size + 1, 0, none⟩ (.int .i64 (c.hlo + k + 1)))) := hlay3.heat HCB.out
        have HG3 : Hid (Grown (fun k => W.heap.size ≤ k ∧ k < W.heap.size + 3) W3 (W3.setCell ⟨W.heap.size + 1, 0, none⟩ (.int .i64 (c.hlo + k + 1)))) := (Grown.refl (fun k => W.heap.size ≤ k ∧ k < W.heap.size + 3) W3).setCell (.inl (by simp)) _
        have HJ3 := Lib.hid hJ3
        have HCE : Hid ((W3.setCell ⟨W.heap.size + 1, 0, none⟩ (.int .i64 (c.hlo + k + 1))).cell? ⟨W.heap.size + 1, 0, none⟩ = some (.int .i64 (c.hlo + k + 1))) := World.cell?_setCell_same' _ _ _ (by rw [e03]; rfl)
        have HE0 := Lib.hid e0
        clear hlay3 hby hy1 hy2 hJ3 e0
        gi_wp2
        go_roundw
        case rel =>
          refine ⟨k + 1, by omega, Nat.le_trans hsz3 HG3.out.size, (by have := HL3.out; rw [show c.hlo + ((k + 1 : Nat) : Int) = c.hlo + k + 1 by omega]; exact this), ?_⟩
          rw [range_split]
          exact HJ.out _ _ _ HJ3.out (by omega) HG3.out
        case measure =>
          rw [HCE.out, HE0.out]
          simp [intOf]
          omega
      · have HJ3 := Lib.hid hJx3
        have HR3 := Lib.hid hr
        clear hJx3 hr
        gi_wp2
        refine bodyPost_ret (results_none rfl _ _ _) rfl ?_
        exact ⟨⟨_, rfl⟩, .inr ⟨_, List.IsPrefix.trans (by obtain ⟨t, ht⟩ := HR3.out; exact ⟨t, by rw [List.append_assoc, ht]; rfl⟩) HPRE.out, HJ3.out⟩⟩
    · have hgt : c.hhi < c.hlo + (k : Int) := by omega
      have hkn : k = (c.hhi - c.hlo + 1).toNat := by omega
      gi_wp2
      go_end0
      refine ⟨⟨_, rfl⟩, .inl ?_⟩
      have := HJJ.out
      rw [hkn] at this
      exact this
end Go.Proofs.YtpgnplmjfhdncaaGreat
/- What checked coppers are; what their scenes are. -/
namespace Go.Proofs.YtpgnplmjfhdncaaGreat
set_option linter.unusedVariables false
structure Okc (c : Cop) : Prop where
  l0 : 0 ≤ c.last
  l4 : c.last ≤ 4
  m0 : 0 ≤ c.most
  m9 : c.most ≤ 999
  s0 : 0 ≤ c.start
  s9 : c.start ≤ c.most
  p1 : 1 ≤ c.per
  p20 : c.per ≤ 20
  h0 : 0 ≤ c.shovels
  h3 : c.shovels ≤ 3
  cl : (c.coal.length : Int) = c.last + 1
  wl : (c.want.length : Int) = c.last + 1
  ll : (c.loss.length : Int) = c.last + 1
  rl : c.rds.length ≤ 5
  cb : ∀ j, 0 ≤ nth c.coal j ∧ nth c.coal j ≤ c.shovels
  wb : ∀ j, 0 ≤ nth c.want j ∧ nth c.want j ≤ 20
  hh : okR 99 c.hlo c.hhi = true
  lb : ∀ j, j < c.loss.length → okR 99 (Go.Proofs.YtpgnplmjfhdncaaGreat.p1 c.loss j) (p2 c.loss j) = true
  rb : ∀ j, j < c.rds.length → 0 ≤ t1 c.rds j ∧ t1 c.rds j ≤ c.last ∧ okR 999 (t2 c.rds j) (t3 c.rds j) = true
  many : manyC c c.loss.length ≤ 2000
theorem within_iff {n a b : Int} : within n a b = true ↔ a ≤ n ∧ n ≤ b := by simp [within]
theorem okc_of {c : Cop} (h : checkCop c = 0) : Okc c := by
  unfold checkCop at h
  cases h1 : bad1 c with
  | true => rw [h1] at h; simp at h
  | false =>
    cases h2 : bad2 c with
    | true => rw [h1, h2] at h; simp at h
    | false =>
      cases h3 : bad3 c with
      | true => rw [h1, h2, h3] at h; simp at h
      | false =>
        rw [h1, h2, h3] at h
        simp only [Bool.false_eq_true, if_false] at h
        have hm : ¬ 2000 < manyC c c.loss.length := fun hm => by rw [if_pos hm] at h; cases h
        simp only [bad1, Bool.or_eq_false_iff, decide_eq_false_iff_not] at h1
        simp only [bad2, Bool.or_eq_false_iff, decide_eq_false_iff_not, Bool.not_eq_false', within_iff] at h2
        simp only [bad3, coalB, promB, Bool.or_eq_false_iff, Bool.not_eq_false', Bool.and_eq_true, decide_eq_true_eq, allN_iff, within_iff] at h3
        obtain ⟨⟨⟨⟨⟨⟨c1, c2⟩, w1, w2⟩, hh⟩, ll⟩, lb⟩, rb⟩ := h3
        refine { l0 := by omega, l4 := by omega, m0 := by omega, m9 := by omega, s0 := by omega, s9 := by omega, p1 := by omega, p20 := by omega, h0 := by omega, h3 := by omega, cl := c1, wl := w1, ll := ll, rl := by omega, cb := ?_, wb := ?_, hh := hh, lb := lb, rb := ?_, many := by omega }
        · intro j
          by_cases hj : j < c.coal.length
          · exact c2 j hj
          · rw [nth_out _ _ (by omega)]; omega
        · intro j
          by_cases hj : j < c.want.length
          · exact w2 j hj
          · rw [nth_out _ _ (by omega)]; omega
        · intro j hj
          have := rb j hj
          simp only [okRd, Bool.and_eq_true, within_iff] at this
          exact ⟨this.1.1, this.1.2, this.2⟩
/-- A scene of coppers. -/
structure IsSc (c : Cop) (s : Int × List Int) : Prop where
  h1 : c.hlo ≤ s.1
  h2 : s.1 ≤ c.hhi
  len : (s.2.length : Int) = c.last + 1
  l : ∀ j, j < s.2.length → p1 c.loss j ≤ nth s.2 j ∧ nth s.2 j ≤ p2 c.loss j
theorem mem_lossFrom (c : Cop) : ∀ (d : Nat) (pre l : List Int), l ∈ lossFrom c d pre ↔ l.length = pre.length + d ∧ (∀ j, j < pre.length → nth l j = nth pre j) ∧ ∀ j, pre.length ≤ j → j < pre.length + d → p1 c.loss j ≤ nth l j ∧ nth l j ≤ p2 c.loss j
  | 0, pre, l => by
    simp only [lossFrom, List.mem_singleton, Nat.add_zero]
    constructor
    · rintro rfl; exact ⟨rfl, fun _ _ => rfl, fun j h1 h2 => by omega⟩
    · rintro ⟨h1, h2, _⟩
      apply List.ext_getElem h1
      intro j h3 h4
      have := h2 j h4
      simpa [nth, h3, h4] using this
  | d + 1, pre, l => by
    simp only [lossFrom, List.mem_flatMap, List.mem_range]
    constructor
    · rintro ⟨k, hk, hl⟩
      obtain ⟨h1, h2, h3⟩ := (mem_lossFrom c d _ l).1 hl
      simp only [List.length_append, List.length_cons, List.length_nil, Nat.zero_add] at h1 h2 h3
      refine ⟨by omega, fun j hj => (h2 j (by omega)).trans (nth_app_lt hj), fun j hj1 hj2 => ?_⟩
      by_cases he : j = pre.length
      · subst he
        rw [h2 _ (by omega), nth_app_eq]
        omega
      · exact h3 j (by omega) (by omega)
    · rintro ⟨h1, h2, h3⟩
      have h4 := h3 pre.length (Nat.le_refl _) (by omega)
      refine ⟨(nth l pre.length - p1 c.loss pre.length).toNat, by omega, (mem_lossFrom c d _ l).2 ?_⟩
      simp only [List.length_append, List.length_cons, List.length_nil, Nat.zero_add]
      refine ⟨by omega, fun j hj => ?_, fun j hj1 hj2 => h3 j (by omega) (by omega)⟩
      by_cases he : j = pre.length
      · subst he
        rw [nth_app_eq]
        omega
      · rw [nth_app_lt (by omega)]
        exact h2 j (by omega)
theorem mem_scenes {c : Cop} (h0 : 0 ≤ c.last) (s : Int × List Int) : s ∈ scenesC c ↔ IsSc c s := by
  simp only [scenesC, List.mem_flatMap, List.mem_range, List.mem_map, losses, mem_lossFrom]
  constructor
  · rintro ⟨k, hk, l, ⟨h1, _, h3⟩, rfl⟩
    simp only [List.length_nil, Nat.zero_add] at h1 h3
    exact ⟨by simp; omega, by simp; omega, by simp only; omega, fun j hj => h3 j (by omega) (by simp only at hj; omega)⟩
  · rintro ⟨h1, h2, h3, h4⟩
    refine ⟨(s.1 - c.hlo).toNat, by omega, s.2, ⟨by simp; omega, fun j hj => by simp at hj, fun j hj1 hj2 => h4 j (by simp at hj2; omega)⟩, ?_⟩
    obtain ⟨s1, s2⟩ := s
    simp only [Prod.mk.injEq, and_true]
    simp only at h1 h2
    omega
theorem plays_of {c : Cop} (h : Okc c) {s : Int × List Int} (hs : IsSc c s) {coal want : List Int} (cl : (coal.length : Int) = c.last + 1) (wl : (want.length : Int) = c.last + 1)
    (hc : ∀ j, 0 ≤ nth coal j ∧ nth coal j ≤ 3) (hw : ∀ j, 0 ≤ nth want j ∧ nth want j ≤ 100) : Plays c coal want s := by
  have hh := okR_spec h.hh
  have hx : ∀ j, 0 ≤ nth s.2 j ∧ nth s.2 j ≤ 99 := fun j => by
    by_cases hj : j < s.2.length
    · have h1 := hs.l j hj
      have h2 := okR_spec (h.lb j (by have := h.ll; have := hs.len; omega))
      omega
    · rw [nth_out _ _ (by omega)]; omega
  exact { l0 := h.l0, l4 := h.l4, m0 := h.m0, m9 := h.m9, s0 := h.s0, s9 := h.s9, p1 := h.p1, p2 := h.p20, cl := cl, wl := wl, c0 := fun j => (hc j).1, c3 := fun j => (hc j).2, w0 := fun j => (hw j).1, w4 := fun j => (hw j).2, h0 := by have := hs.h1; omega, h9 := by have := hs.h2; omega, x0 := fun j => (hx j).1, x9 := fun j => (hx j).2 }
theorem plays0 {c : Cop} (h : Okc c) {s : Int × List Int} (hs : IsSc c s) : Plays c c.coal c.want s :=
  plays_of h hs h.cl h.wl (fun j => by have := h.cb j; have := h.h3; omega) (fun j => by have := h.wb j; omega)
end Go.Proofs.YtpgnplmjfhdncaaGreat
/- A row of scenes. -/
namespace Go.Proofs.YtpgnplmjfhdncaaGreat
open Go.RowKit
set_option linter.unusedVariables false
def sc6 (s : Int × List Int) : List Value := [.int .i64 s.1, .int .i64 (nth s.2 0), .int .i64 (nth s.2 1), .int .i64 (nth s.2 2), .int .i64 (nth s.2 3), .int .i64 (nth s.2 4)]
theorem flat6_len (xs : List (Int × List Int)) : (xs.flatMap sc6).length = xs.length * 6 := by
  induction xs with
  | nil => rfl
  | cons x xs ih => simp only [List.flatMap_cons, List.length_append, ih, sc6, List.length_cons, List.length_nil]; omega
theorem flat6_at (xs : List (Int × List Int)) : ∀ (j i : Nat), j < xs.length → i < 6 → (xs.flatMap sc6)[j * 6 + i]? = (sc6 (xs.getD j (0, [])))[i]? := by
  induction xs with
  | nil => intro j i h; simp at h
  | cons x xs ih =>
    intro j i hj hi
    cases j with
    | zero =>
      rw [List.flatMap_cons, Nat.zero_mul, Nat.zero_add, List.getElem?_append_left (by simp [sc6]; exact hi)]
      rfl
    | succ j =>
      rw [List.flatMap_cons, List.getElem?_append_right (by simp [sc6]; omega)]
      have : (j + 1) * 6 + i - (sc6 x).length = j * 6 + i := by simp [sc6]; omega
      rw [this, ih j i (by simp at hj; omega) hi]
      rfl
theorem own_scenes {w : World} {base n : Nat} {e : TypeId} {v : Value} {xs : List (Int × List Int)} (h : w.ownsRow base e 6 v n (xs.flatMap sc6)) : ∃ A c, v = .slice A xs.length c ∧ ScenesAt w w.heap.size A xs ∧ xs.length = n := by
  have hl : xs.length = n := by have := h.1; rw [flat6_len] at this; omega
  rcases h.2 with ⟨rfl, h0⟩ | ⟨g, cap, cur, rfl, hb, hh, h1, h2, h3, h4⟩
  · exact ⟨none, 0, by rw [hl, h0], .inl (List.eq_nil_of_length_eq_zero (by omega)), hl⟩
  · have hc : ∀ j i, j < xs.length → i < 6 → w.cell? ⟨g, 0 + j * 6 + i, none⟩ = (sc6 (xs.getD j (0, [])))[i]? := by
      intro j i hj hi
      have h5 : (cur.toList.take (n * 6))[j * 6 + i]? = (sc6 (xs.getD j (0, [])))[i]? := by rw [h4]; exact flat6_at xs j i hj hi
      rw [List.getElem?_take, if_pos (by omega)] at h5
      simp only [World.cell?, hh, Nat.zero_add]
      rw [← h5]
      simp
    exact ⟨_, cap, by rw [hl], .inr ⟨g, 0, rfl, (Array.getElem?_eq_some_iff.1 hh).1, fun j hj => ⟨hc j 0 hj (by omega), hc j 1 hj (by omega), hc j 2 hj (by omega), hc j 3 hj (by omega), hc j 4 hj (by omega), hc j 5 hj (by omega)⟩⟩, hl⟩
theorem own_grown {T : Nat → Prop} {A B : World} {base n size : Nat} {e : TypeId} {v : Value} {xs : List Value} (h : A.ownsRow base e size v n xs) (hG : Grown T A B) (hT : ∀ k, base ≤ k → ¬ T k) : B.ownsRow base e size v n xs := by
  refine ⟨h.1, h.2.imp id ?_⟩
  rintro ⟨g, cap, cur, e1, hb, hh, r⟩
  exact ⟨g, cap, cur, e1, hb, (hG.block g (Array.getElem?_eq_some_iff.1 hh).1 (hT g hb)).trans hh, r⟩
theorem heap_grown {T : Nat → Prop} {A B : World} {b : Nat} {o : Obj} (h : A.heap[b]? = some o) (hG : Grown T A B) (hT : ¬ T b) : B.heap[b]? = some o := (hG.block b (Array.getElem?_eq_some_iff.1 h).1 hT).trans h
theorem heap_al {w : World} {k : Nat} {o : Obj} (h : w.heap[k]? = some o) (o' : Obj) : (w.alloc o').heap[k]? = some o := (Below.heap_alloc _ _ _ (Array.getElem?_eq_some_iff.1 h).1).trans h
end Go.Proofs.YtpgnplmjfhdncaaGreat
