/- Region 1 of the reference's Nth. -/
import Derived.Test.YtpgnplmjfhdncaaGreatKR1
import Derived.Test.YtpgnplmjfhdncaaGreatKB17
import Derived.Test.YtpgnplmjfhdncaaGreatKCn
namespace Go.Proofs.YtpgnplmjfhdncaaGreat
open Go.RowKit
set_option linter.unusedVariables false
structure J95 (c : Cop) (q : CA) (b0 n : Nat) (W : World) (G : Nat) (done : Nat → Bool) (s : Nat → Value) (w : World) : Prop where
  gr : Below W.heap.size W w
  a0 : done 0 = true → s 8 = .pointer (some ⟨b0, 7, none⟩)
  a1 : done 1 = true → s 9 = .pointer (some ⟨b0, 7, none⟩)
  a2 : done 2 = true → s 10 = .int .i64 c.hlo
  a3 : done 3 = true → s 11 = .int .i64 n
  a4 : done 4 = true → s 12 = .pointer (some ⟨b0, 7, none⟩)
  a5 : done 5 = true → s 13 = .agg #[.int .i64 c.hlo, .int .i64 c.hhi]
  a6 : done 6 = true → s 14 = .int .i64 (c.hhi - c.hlo + 1)
  a7 : done 7 = true → s 15 = .int .i64 ((n : Int) % (c.hhi - c.hlo + 1))
  a8 : done 8 = true → s 16 = .int .i64 (c.hlo + (n : Int) % (c.hhi - c.hlo + 1))
  a9 : done 9 = true → s 17 = .agg #[.int .i64 (c.hlo + (n : Int) % (c.hhi - c.hlo + 1)), .slice none 0 0]
  a10 : done 10 = true → s 5 = .pointer (some ⟨G, 0, none⟩) ∧ W.heap.size ≤ G ∧ w.heap[G]? = some (.cells (if done 11 = true then #[.int .i64 (c.hlo + (n : Int) % (c.hhi - c.hlo + 1)), .slice none 0 0] else #[.int .i64 0, .slice none 0 0]) 105 (0, 0))
def I95 (a0 : Act) (c : Cop) (q : CA) (b0 n : Nat) (W : World) (done : Nat → Bool) (a : Act) (w : World) : Prop :=
  ∃ (G : Nat), Fr 5 17 a0 a ∧ J95 c q b0 n W G done (slots a) w
theorem I95.put {a0 : Act} {c : Cop} {q : CA} {b0 n : Nat} {W : World} {G : Nat} {done : Nat → Bool} {a : Act} {w : World} (i : Nat) (u : Value)
    (hF : Fr 5 17 a0 a) (h0 : 17 < a0.tmps.size) (h1 : 5 ≤ i) (h2 : i ≤ 17) (hJ : J95 c q b0 n W G done (upd (slots a) i u) w) :
    I95 a0 c q b0 n W done { tmps := a.tmps.setIfInBounds i u, defers := a.defers } w :=
  ⟨G, hF.put i u h1 h2 h0, by rw [slots_put a i u (by rw [hF.sz]; omega)]; exact hJ⟩
set_option maxRecDepth 100000 in
set_option maxHeartbeats 8000000 in
theorem r95 (ops : List Oper) (hops : Tryz.f95.body.bind (regionIn 1) = some ops) {Q : Exit → Act → World → Prop} (a0 : Act) (c : Cop) (q : CA) (b0 n : Nat) (W : World)
    (hsz : a0.tmps.size = 52) (h2 : slots a0 2 = .pointer (some ⟨b0, 0, none⟩)) (h1 : slots a0 1 = .int .i64 n) (hbx : Box W b0 (copCs c q)) (hb0 : b0 < W.heap.size) (hok : okR 99 c.hlo c.hhi = true) (hn : n ≤ 3000)
    (hQ : ∀ a w (G : Nat), Fr 5 17 a0 a → Below W.heap.size W w → slots a 5 = .pointer (some ⟨G, 0, none⟩) → W.heap.size ≤ G → w.heap[G]? = some (.cells #[.int .i64 (c.hlo + (n : Int) % (c.hhi - c.hlo + 1)), .slice none 0 0] 105 (0, 0)) → Q .normal a w) :
    (Code.region 1 ops.toArray true).wp Tryz.prog Q a0 W := by
  simp only [Tryz.f95, regionIn, Option.bind_some] at hops
  simp at hops
  subst hops
  refine wp_region_inv (I95 a0 c q b0 n W) tryz_mixed (by kernel_rfl) ⟨0, Fr.refl _ _ _, ?_⟩ ?_ ?_
  · exact { gr := bl_dr (Below.refl _ _), a0 := fun h => (by cases h), a1 := fun h => (by cases h), a2 := fun h => (by cases h), a3 := fun h => (by cases h), a4 := fun h => (by cases h), a5 := fun h => (by cases h), a6 := fun h => (by cases h), a7 := fun h => (by cases h), a8 := fun h => (by cases h), a9 := fun h => (by cases h), a10 := fun h => (by cases h) }
  · refine ⟨?_, ?_, ?_, ?_, ?_, ?_, ?_, ?_, ?_, ?_, ?_, ?_, trivial⟩
    · rintro done a w hcl hdn hdep ⟨G, hF, hJ⟩ K hK
      have y2 : a.tmps[2]?.getD undef = .pointer (some ⟨b0, 0, none⟩) := (hF.same 2 (by omega)).trans h2
      clear hdep hcl
      go_simp
      exact hK _ _ (I95.put 8 _ hF (by omega) (by decide) (by decide) { hJ with a0 := fun _ => rfl })
    · rintro done a w hcl hdn hdep ⟨G, hF, hJ⟩ K hK
      have x0 : a.tmps[8]?.getD undef = .pointer (some ⟨b0, 7, none⟩) := hJ.a0 (hdep ⟨0, .data⟩ (by simp) rfl)
      clear hdep hcl
      go_simp
      exact hK _ _ (I95.put 9 _ hF (by omega) (by decide) (by decide) { hJ with a1 := fun _ => rfl })
    · rintro done a w hcl hdn hdep ⟨G, hF, hJ⟩ K hK
      have x1 : a.tmps[9]?.getD undef = .pointer (some ⟨b0, 7, none⟩) := hJ.a1 (hdep ⟨1, .data⟩ (by simp) rfl)
      have c7 : w.cell? ⟨b0, 7, none⟩ = some (.int .i64 c.hlo) := (hbx.below hJ.gr hb0) 7
      clear hdep hcl
      go_simp
      exact hK _ _ (I95.put 10 _ hF (by omega) (by decide) (by decide) { hJ with a2 := fun _ => rfl })
    · rintro done a w hcl hdn hdep ⟨G, hF, hJ⟩ K hK
      have y1 : a.tmps[1]?.getD undef = .int .i64 n := (hF.same 1 (by omega)).trans h1
      clear hdep hcl
      go_simp
      exact hK _ _ (I95.put 11 _ hF (by omega) (by decide) (by decide) { hJ with a3 := fun _ => rfl })
    · rintro done a w hcl hdn hdep ⟨G, hF, hJ⟩ K hK
      have y2 : a.tmps[2]?.getD undef = .pointer (some ⟨b0, 0, none⟩) := (hF.same 2 (by omega)).trans h2
      clear hdep hcl
      go_simp
      exact hK _ _ (I95.put 12 _ hF (by omega) (by decide) (by decide) { hJ with a4 := fun _ => rfl })
    · rintro done a w hcl hdn hdep ⟨G, hF, hJ⟩ K hK
      have x4 : a.tmps[12]?.getD undef = .pointer (some ⟨b0, 7, none⟩) := hJ.a4 (hdep ⟨4, .data⟩ (by simp) rfl)
      have c7 : w.cell? ⟨b0, 7, none⟩ = some (.int .i64 c.hlo) := (hbx.below hJ.gr hb0) 7
      have c8 : w.cell? ⟨b0, 8, none⟩ = some (.int .i64 c.hhi) := (hbx.below hJ.gr hb0) 8
      clear hdep hcl
      go_simp
      exact hK _ _ (I95.put 13 _ hF (by omega) (by decide) (by decide) { hJ with a5 := fun _ => rfl })
    · rintro done a w hcl hdn hdep ⟨G, hF, hJ⟩ K hK
      have x5 : a.tmps[13]?.getD undef = .agg #[.int .i64 c.hlo, .int .i64 c.hhi] := hJ.a5 (hdep ⟨5, .data⟩ (by simp) rfl)
      obtain ⟨o1, o2, o3⟩ := okR_spec hok
      have h7 : done 7 = false := by
        cases h : done 7 with
        | false => rfl
        | true => have := hcl 7 _ rfl h ⟨6, .data⟩ (by simp) rfl; rw [hdn] at this; cases this
      have h8 : done 8 = false := by
        cases h : done 8 with
        | false => rfl
        | true => have := hcl 8 _ rfl h ⟨7, .data⟩ (by simp) rfl; rw [h7] at this; cases this
      have h9 : done 9 = false := by
        cases h : done 9 with
        | false => rfl
        | true => have := hcl 9 _ rfl h ⟨8, .data⟩ (by simp) rfl; rw [h8] at this; cases this
      have h11 : done 11 = false := by
        cases h : done 11 with
        | false => rfl
        | true => have := hcl 11 _ rfl h ⟨9, .data⟩ (by simp) rfl; rw [h9] at this; cases this
      clear hdep hcl
      go_simp
      refine (rsize_c c.hlo c.hhi w o1 o2 o3).mono ?_
      rintro e w1 ⟨rfl, hb⟩
      exact hK _ _ (I95.put 14 _ hF (by omega) (by decide) (by decide) { hJ with gr := bl_tr hJ.gr hb, a6 := fun _ => rfl, a10 := fun h => (let ⟨g1, g2, g3⟩ := hJ.a10 h; ⟨g1, g2, (hb.block _ (Array.getElem?_eq_some_iff.1 g3).1).trans g3⟩) })
    · rintro done a w hcl hdn hdep ⟨G, hF, hJ⟩ K hK
      have x3 : a.tmps[11]?.getD undef = .int .i64 n := hJ.a3 (hdep ⟨3, .data⟩ (by simp) rfl)
      have x6 : a.tmps[14]?.getD undef = .int .i64 (c.hhi - c.hlo + 1) := hJ.a6 (hdep ⟨6, .data⟩ (by simp) rfl)
      obtain ⟨o1, o2, o3⟩ := okR_spec hok
      have hne : ¬ ((c.hhi - c.hlo + 1) = 0) := by omega
      have htm : (n : Int).tmod (c.hhi - c.hlo + 1) = (n : Int) % (c.hhi - c.hlo + 1) := Int.tmod_eq_emod_of_nonneg (by omega)
      clear hdep hcl
      go_simp
      exact hK _ _ (I95.put 15 _ hF (by omega) (by decide) (by decide) { hJ with a7 := fun _ => rfl })
    · rintro done a w hcl hdn hdep ⟨G, hF, hJ⟩ K hK
      have x2 : a.tmps[10]?.getD undef = .int .i64 c.hlo := hJ.a2 (hdep ⟨2, .data⟩ (by simp) rfl)
      have x7 : a.tmps[15]?.getD undef = .int .i64 ((n : Int) % (c.hhi - c.hlo + 1)) := hJ.a7 (hdep ⟨7, .data⟩ (by simp) rfl)
      obtain ⟨o1, o2, o3⟩ := okR_spec hok
      have m1 : 0 ≤ (n : Int) % (c.hhi - c.hlo + 1) := Int.emod_nonneg _ (by omega)
      have m2 : (n : Int) % (c.hhi - c.hlo + 1) < (c.hhi - c.hlo + 1) := Int.emod_lt_of_pos _ (by omega)
      have hwr : IntKind.i64.wrap (c.hlo + (n : Int) % (c.hhi - c.hlo + 1)) = c.hlo + (n : Int) % (c.hhi - c.hlo + 1) := IntWalk.i64_in _ (by omega)
      clear hdep hcl
      go_simp
      exact hK _ _ (I95.put 16 _ hF (by omega) (by decide) (by decide) { hJ with a8 := fun _ => rfl })
    · rintro done a w hcl hdn hdep ⟨G, hF, hJ⟩ K hK
      have x8 : a.tmps[16]?.getD undef = .int .i64 (c.hlo + (n : Int) % (c.hhi - c.hlo + 1)) := hJ.a8 (hdep ⟨8, .data⟩ (by simp) rfl)
      clear hdep hcl
      go_simp
      exact hK _ _ (I95.put 17 _ hF (by omega) (by decide) (by decide) { hJ with a9 := fun _ => rfl })
    · rintro done a w hcl hdn hdep ⟨G, hF, hJ⟩ K hK
      have h11 : done 11 = false := by
        cases h : done 11 with
        | false => rfl
        | true => have := hcl 11 _ rfl h ⟨10, .data⟩ (by simp) rfl; rw [hdn] at this; cases this
      clear hdep hcl
      go_simp
      exact hK _ _ (I95.put (G := w.heap.size) 5 _ hF (by omega) (by decide) (by decide) { hJ with gr := bl_al hJ.gr _, a10 := fun _ => ⟨rfl, hJ.gr.size, by rw [show also 10 done 11 = false from h11]; exact World.alloc_heap_new _ _⟩ })
    · rintro done a w hcl hdn hdep ⟨G, hF, hJ⟩ K hK
      obtain ⟨g1, g2, g3⟩ := hJ.a10 (hdep ⟨10, .data⟩ (by simp) rfl)
      have x10 : a.tmps[5]?.getD undef = .pointer (some ⟨G, 0, none⟩) := g1
      have x9 : a.tmps[17]?.getD undef = .agg #[.int .i64 (c.hlo + (n : Int) % (c.hhi - c.hlo + 1)), .slice none 0 0] := hJ.a9 (hdep ⟨9, .data⟩ (by simp) rfl)
      rw [hdn] at g3
      have hfz : ∀ o, w.frozen? ⟨G, o, none⟩ = false := fun o => by simp [World.frozen?, g3]
      have hcz : ∀ o, w.cell? ⟨G, o, none⟩ = (#[.int .i64 0, .slice none 0 0])[o]? := fun o => by simp [World.cell?, g3]
      have dG : done 10 = true := hdep ⟨10, .data⟩ (by simp) rfl
      clear hdep hcl
      go_simp
      have hgr : Below W.heap.size W ((w.setCell ⟨G, 0, none⟩ (.int .i64 (c.hlo + (n : Int) % (c.hhi - c.hlo + 1)))).setCell ⟨G, 1, none⟩ (.slice none 0 0)) := bl_st (bl_st (hJ.gr) g2 _) g2 _
      have hhp := (heap_setCell_same _ G 1 _ 105 (.slice none 0 0) (heap_setCell_same _ G 0 _ 105 (.int .i64 (c.hlo + (n : Int) % (c.hhi - c.hlo + 1))) g3))
      exact hK _ _ ⟨_, hF, { hJ with gr := hgr, a10 := fun _ => ⟨g1, g2, hhp⟩ }⟩
  · rintro done a w hd ⟨G, hF, hJ⟩
    obtain ⟨hg1, hg2, hg3⟩ := hJ.a10 (hd 10 (by decide))
    rw [hd 11 (by decide)] at hg3
    exact hQ a w G hF hJ.gr hg1 hg2 hg3
structure J95b (heat lo hi x : Int) (b7 : Nat) (G base n : Nat) (v : Value) (xs : List Value) (W : World) (done : Nat → Bool) (s : Nat → Value) (w : World) : Prop where
  gr : Grown (fun k => k = G ∨ some k = v.ownBlock) W w
  box : w.heap[G]? = some (.cells #[.int .i64 heat, (if done 12 = true then s 45 else v)] 105 (0, 0))
  a0 : done 0 = true → s 35 = .pointer (some ⟨G, 1, none⟩)
  a1 : done 1 = true → s 36 = v
  a2 : done 2 = true → s 37 = .pointer (some ⟨b7, 0, none⟩)
  a3 : done 3 = true → s 38 = .int .i64 lo
  a4 : done 4 = true → s 39 = .int .i64 x
  a5 : done 5 = true → s 40 = .agg #[.int .i64 lo, .int .i64 hi]
  a6 : done 6 = true → s 41 = .int .i64 (hi - lo + 1)
  a7 : done 7 = true → s 42 = .int .i64 (x % (hi - lo + 1))
  a8 : done 8 = true → s 43 = .int .i64 (lo + x % (hi - lo + 1))
  a11 : done 11 = true → s 46 = .pointer (some ⟨G, 1, none⟩)
  bu : done 9 = true → done 10 = false → ∃ b, s 44 = .slice (some ⟨b, 0, none⟩) 1 1 ∧ W.heap.size ≤ b ∧ w.heap[b]? = some (.cells ([.int .i64 (lo + x % (hi - lo + 1))]).toArray 3 (0, 0))
  r : done 10 = false → w.ownsRow base 3 1 v n xs
  q : done 10 = true → w.ownsRow base 3 1 (s 45) (n + 1) (xs ++ [.int .i64 (lo + x % (hi - lo + 1))])
def I95b (a0 : Act) (heat lo hi x : Int) (b7 : Nat) (G base n : Nat) (v : Value) (xs : List Value) (W : World) (done : Nat → Bool) (a : Act) (w : World) : Prop :=
  Fr 35 46 a0 a ∧ J95b heat lo hi x b7 G base n v xs W done (slots a) w
theorem I95b.put {a0 : Act} {heat lo hi x : Int} {b7 : Nat} {G base n : Nat} {v : Value} {xs : List Value} {W : World} {done : Nat → Bool} {a : Act} {w : World} (i : Nat) (u : Value)
    (hF : Fr 35 46 a0 a) (h0 : 46 < a0.tmps.size) (h1 : 35 ≤ i) (h2 : i ≤ 46) (hJ : J95b heat lo hi x b7 G base n v xs W done (upd (slots a) i u) w) :
    I95b a0 heat lo hi x b7 G base n v xs W done { tmps := a.tmps.setIfInBounds i u, defers := a.defers } w :=
  ⟨hF.put i u h1 h2 h0, by rw [slots_put a i u (by rw [hF.sz]; omega)]; exact hJ⟩
set_option maxRecDepth 100000 in
set_option maxHeartbeats 8000000 in
theorem r95b (ops : List Oper) (hops : Tryz.f95.body.bind (regionIn 7) = some ops) {Q : Exit → Act → World → Prop} (a0 : Act) (heat lo hi x : Int) (b7 : Nat) (G base n : Nat) (v : Value) (xs : List Value) (W : World)
    (hsz : a0.tmps.size = 52) (hbox : W.heap[G]? = some (.cells #[.int .i64 heat, v] 105 (0, 0))) (hr : W.ownsRow base 3 1 v n xs) (hbase : base ≤ W.heap.size) (hG : G < base) (hn : n ≤ 100000) (h1 : slots a0 1 = .int .i64 x) (h5 : slots a0 5 = .pointer (some ⟨G, 0, none⟩)) (h7 : slots a0 7 = .pointer (some ⟨b7, 0, none⟩)) (hb7 : b7 < W.heap.size) (h7G : b7 ≠ G) (h7v : some b7 ≠ v.ownBlock) (hc0 : W.cell? ⟨b7, 0, none⟩ = some (.int .i64 lo)) (hc1 : W.cell? ⟨b7, 1, none⟩ = some (.int .i64 hi)) (hok : okR 99 lo hi = true) (hx0 : 0 ≤ x) (hx9 : x ≤ 3000)
    (hQ : ∀ a w u, Fr 35 46 a0 a → Grown (fun k => k = G ∨ some k = v.ownBlock) W w → w.heap[G]? = some (.cells #[.int .i64 heat, u] 105 (0, 0)) → w.ownsRow base 3 1 u (n + 1) (xs ++ [.int .i64 (lo + x % (hi - lo + 1))]) → Q .normal a w) :
    (Code.region 7 ops.toArray true).wp Tryz.prog Q a0 W := by
  simp only [Tryz.f95, regionIn, Option.bind_some] at hops
  simp at hops
  subst hops
  have hnG : some G ≠ v.ownBlock := fun e => by have := (hr.lt G e.symm).1; omega
  have F := Lib.hid info3
  refine wp_region_inv (I95b a0 heat lo hi x b7 G base n v xs W) tryz_mixed (by kernel_rfl) ⟨Fr.refl _ _ _, ?_⟩ ?_ ?_
  · exact { gr := ⟨rfl, rfl, rfl, Nat.le_refl _, fun _ _ _ => rfl⟩, box := hbox, a0 := fun h => (by cases h), a1 := fun h => (by cases h), a2 := fun h => (by cases h), a3 := fun h => (by cases h), a4 := fun h => (by cases h), a5 := fun h => (by cases h), a6 := fun h => (by cases h), a7 := fun h => (by cases h), a8 := fun h => (by cases h), a11 := fun h => (by cases h), bu := fun h => (by cases h), r := fun _ => hr, q := fun h => (by cases h) }
  · refine ⟨?_, ?_, ?_, ?_, ?_, ?_, ?_, ?_, ?_, ?_, ?_, ?_, ?_, trivial⟩
    · rintro done a w hcl hdn hdep ⟨hF, hJ⟩ K hK
      have y5 : a.tmps[5]?.getD undef = .pointer (some ⟨G, 0, none⟩) := (hF.same 5 (by omega)).trans h5
      clear hdep hcl
      go_simp
      exact hK _ _ (I95b.put 35 _ hF (by omega) (by decide) (by decide) { hJ with a0 := fun _ => rfl })
    · rintro done a w hcl hdn hdep ⟨hF, hJ⟩ K hK
      have x0 : a.tmps[35]?.getD undef = .pointer (some ⟨G, 1, none⟩) := hJ.a0 (hdep ⟨0, .data⟩ (by simp) rfl)
      have hst : done 12 = false := by
        cases h : done 12 with
        | false => rfl
        | true => have := hcl 12 _ rfl h ⟨1, .phase⟩ (by simp) rfl; rw [hdn] at this; cases this
      have cv : w.cell? ⟨G, 1, none⟩ = some v := by
        have := hJ.box
        rw [hst] at this
        simp [World.cell?, this]
      clear hdep hcl
      go_simp
      exact hK _ _ (I95b.put 36 _ hF (by omega) (by decide) (by decide) { hJ with a1 := fun _ => rfl })
    · rintro done a w hcl hdn hdep ⟨hF, hJ⟩ K hK
      have y7 : a.tmps[7]?.getD undef = .pointer (some ⟨b7, 0, none⟩) := (hF.same 7 (by omega)).trans h7
      clear hdep hcl
      go_simp
      exact hK _ _ (I95b.put 37 _ hF (by omega) (by decide) (by decide) { hJ with a2 := fun _ => rfl })
    · rintro done a w hcl hdn hdep ⟨hF, hJ⟩ K hK
      have x2 : a.tmps[37]?.getD undef = .pointer (some ⟨b7, 0, none⟩) := hJ.a2 (hdep ⟨2, .data⟩ (by simp) rfl)
      have c0 : w.cell? ⟨b7, 0, none⟩ = some (.int .i64 lo) := (hJ.gr.cell hb7 (by simp [h7G, h7v])).trans hc0
      clear hdep hcl
      go_simp
      exact hK _ _ (I95b.put 38 _ hF (by omega) (by decide) (by decide) { hJ with a3 := fun _ => rfl })
    · rintro done a w hcl hdn hdep ⟨hF, hJ⟩ K hK
      have y1 : a.tmps[1]?.getD undef = .int .i64 x := (hF.same 1 (by omega)).trans h1
      clear hdep hcl
      go_simp
      exact hK _ _ (I95b.put 39 _ hF (by omega) (by decide) (by decide) { hJ with a4 := fun _ => rfl })
    · rintro done a w hcl hdn hdep ⟨hF, hJ⟩ K hK
      have y7 : a.tmps[7]?.getD undef = .pointer (some ⟨b7, 0, none⟩) := (hF.same 7 (by omega)).trans h7
      have c0 : w.cell? ⟨b7, 0, none⟩ = some (.int .i64 lo) := (hJ.gr.cell hb7 (by simp [h7G, h7v])).trans hc0
      have c1 : w.cell? ⟨b7, 1, none⟩ = some (.int .i64 hi) := (hJ.gr.cell hb7 (by simp [h7G, h7v])).trans hc1
      clear hdep hcl
      go_simp
      exact hK _ _ (I95b.put 40 _ hF (by omega) (by decide) (by decide) { hJ with a5 := fun _ => rfl })
    · rintro done a w hcl hdn hdep ⟨hF, hJ⟩ K hK
      have x5 : a.tmps[40]?.getD undef = .agg #[.int .i64 lo, .int .i64 hi] := hJ.a5 (hdep ⟨5, .data⟩ (by simp) rfl)
      obtain ⟨o1, o2, o3⟩ := okR_spec hok
      clear hdep hcl
      go_simp
      refine (rsize_c lo hi w o1 o2 o3).mono ?_
      rintro e w1 ⟨rfl, hb⟩
      exact hK _ _ (I95b.put 41 _ hF (by omega) (by decide) (by decide) { hJ with gr := hJ.gr.trans (Grown.bl hb), box := (hb.block _ (Array.getElem?_eq_some_iff.1 hJ.box).1).trans hJ.box, a6 := fun _ => rfl, bu := fun h h' => (let ⟨b, e1, e2, e3⟩ := hJ.bu h h'; ⟨b, e1, e2, (hb.block _ (Array.getElem?_eq_some_iff.1 e3).1).trans e3⟩), r := fun h => own_below (hJ.r h) hb, q := fun h => own_below (hJ.q h) hb })
    · rintro done a w hcl hdn hdep ⟨hF, hJ⟩ K hK
      have x4 : a.tmps[39]?.getD undef = .int .i64 x := hJ.a4 (hdep ⟨4, .data⟩ (by simp) rfl)
      have x6 : a.tmps[41]?.getD undef = .int .i64 (hi - lo + 1) := hJ.a6 (hdep ⟨6, .data⟩ (by simp) rfl)
      obtain ⟨o1, o2, o3⟩ := okR_spec hok
      have hne : ¬ ((hi - lo + 1) = 0) := by omega
      have htm : x.tmod (hi - lo + 1) = x % (hi - lo + 1) := Int.tmod_eq_emod_of_nonneg (by omega)
      clear hdep hcl
      go_simp
      exact hK _ _ (I95b.put 42 _ hF (by omega) (by decide) (by decide) { hJ with a7 := fun _ => rfl })
    · rintro done a w hcl hdn hdep ⟨hF, hJ⟩ K hK
      have x3 : a.tmps[38]?.getD undef = .int .i64 lo := hJ.a3 (hdep ⟨3, .data⟩ (by simp) rfl)
      have x7 : a.tmps[42]?.getD undef = .int .i64 (x % (hi - lo + 1)) := hJ.a7 (hdep ⟨7, .data⟩ (by simp) rfl)
      obtain ⟨o1, o2, o3⟩ := okR_spec hok
      have m1 : 0 ≤ x % (hi - lo + 1) := Int.emod_nonneg _ (by omega)
      have m2 : x % (hi - lo + 1) < (hi - lo + 1) := Int.emod_lt_of_pos _ (by omega)
      have hwr : IntKind.i64.wrap (lo + x % (hi - lo + 1)) = lo + x % (hi - lo + 1) := IntWalk.i64_in _ (by omega)
      clear hdep hcl
      go_simp
      exact hK _ _ (I95b.put 43 _ hF (by omega) (by decide) (by decide) { hJ with a8 := fun _ => rfl })
    · rintro done a w hcl hdn hdep ⟨hF, hJ⟩ K hK
      have x8 : a.tmps[43]?.getD undef = .int .i64 (lo + x % (hi - lo + 1)) := hJ.a8 (hdep ⟨8, .data⟩ (by simp) rfl)
      clear hdep hcl
      go_simp
      exact hK _ _ (I95b.put 44 _ hF (by omega) (by decide) (by decide) { hJ with gr := hJ.gr.alloc _, box := heap_al hJ.box _, r := fun h => (hJ.r h).alloc _, q := fun h => (hJ.q h).alloc _, bu := fun _ _ => ⟨w.heap.size, rfl, hJ.gr.size, World.alloc_heap_new _ _⟩ })
    · rintro done a w hcl hdn hdep ⟨hF, hJ⟩ K hK
      have x1 : a.tmps[36]?.getD undef = v := hJ.a1 (hdep ⟨1, .data⟩ (by simp) rfl)
      obtain ⟨b, hb, hbl, hbh⟩ := hJ.bu (hdep ⟨9, .data⟩ (by simp) rfl) hdn
      have hbs : a.tmps[44]?.getD undef = .slice (some ⟨b, 0, none⟩) 1 1 := hb
      rw [if_pos (show Region.wanted _ _ = true from rfl)]
      refine wp_append_k base _ _ 22 3 _ 1 8 rfl Tryz.underlying22 F.out rfl (by decide) (by decide) v n xs ([.int .i64 (lo + x % (hi - lo + 1))]) b (by simp [Act.eval, x1]) (by simp [Act.eval, hbs]) hbh rfl (by simp [Value.oneCell']) (hJ.r hdn) (by have := hJ.gr.size; omega) (by omega) ?_
      intro u w1 hown hg hat
      have hs2 : done 12 = false := by
        cases h : done 12 with
        | false => rfl
        | true => have := hcl 12 _ rfl h ⟨10, .data⟩ (by simp) rfl; rw [hdn] at this; cases this
      have hbb := hJ.box
      rw [hs2] at hbb
      have hgr : Grown (fun k => k = G ∨ some k = v.ownBlock) W w1 := hJ.gr.trans ⟨hg.os, hg.tape, hg.output, hg.size, fun k hk hn => hg.block k hk (fun e => hn (.inr e))⟩
      have hbw := (hg.block G (Array.getElem?_eq_some_iff.1 hbb).1 hnG).trans hbb
      have hbox1 : w1.heap[G]? = some (.cells #[.int .i64 heat, (if also 10 done 12 = true then u else v)] 105 (0, 0)) := by
        rw [show also 10 done 12 = false from hs2]; exact hbw
      exact hK _ _ (I95b.put 45 _ hF (by omega) (by decide) (by decide) { hJ with gr := hgr, box := hbox1, bu := fun _ h => (by cases h), r := fun h => (by cases h), q := fun _ => hown })
    · rintro done a w hcl hdn hdep ⟨hF, hJ⟩ K hK
      have y5 : a.tmps[5]?.getD undef = .pointer (some ⟨G, 0, none⟩) := (hF.same 5 (by omega)).trans h5
      clear hdep hcl
      go_simp
      exact hK _ _ (I95b.put 46 _ hF (by omega) (by decide) (by decide) { hJ with a11 := fun _ => rfl })
    · rintro done a w hcl hdn hdep ⟨hF, hJ⟩ K hK
      have x11 : a.tmps[46]?.getD undef = .pointer (some ⟨G, 1, none⟩) := hJ.a11 (hdep ⟨11, .data⟩ (by simp) rfl)
      have hd7 : done 10 = true := hdep ⟨10, .data⟩ (by simp) rfl
      obtain ⟨A, k, hsh⟩ := own_shape6 (hJ.q hd7)
      have hs : a.tmps[45]?.getD undef = .slice A (n + 1) k := hsh
      have hbb := hJ.box
      rw [hdn] at hbb
      have hcell : w.cell? ⟨G, 1, none⟩ = some v := by simp [World.cell?, hbb]
      have hfz : w.frozen? ⟨G, 1, none⟩ = false := by simp [World.frozen?, hbb]
      clear hdep hcl
      go_simp
      refine hK _ _ ⟨hF, { hJ with gr := hJ.gr.setCell (.inl (.inl rfl)) _, box := ?_, bu := fun _ h => (by have h' : done 10 = false := h; rw [hd7] at h'; cases h'), r := fun h => (by have h' : done 10 = false := h; rw [hd7] at h'; cases h'), q := fun h => ?_ }⟩
      · rw [heap_setCell_same w G 1 _ 105 _ hbb]
        rw [show also 12 done 12 = true from rfl, if_pos rfl, hsh]
        rfl
      · exact own_grown (hJ.q hd7) ((Grown.refl (fun k => k = G) w).setCell (.inl rfl) _) (fun k hk => by omega)
  · rintro done a w hd ⟨hF, hJ⟩
    have hb := hJ.box
    rw [hd 12 (by decide)] at hb
    exact hQ a w _ hF hJ.gr hb (hJ.q (hd 10 (by decide)))
end Go.Proofs.YtpgnplmjfhdncaaGreat
/- The reference's Nth. -/
namespace Go.Proofs.YtpgnplmjfhdncaaGreat
open Go.RowKit
set_option linter.unusedVariables false
/-- What of a number is left for the losses from hour j on. -/
def restN (c : Cop) (n : Int) : Nat → Int
  | 0 => n / (c.hhi - c.hlo + 1)
  | j + 1 => restN c n j / (p2 c.loss j - p1 c.loss j + 1)
def lossN (c : Cop) (n : Int) (j : Nat) : List Int := rowI (fun i => p1 c.loss i + restN c n i % (p2 c.loss i - p1 c.loss i + 1)) j
/-- The truth with a number. -/
def nthT (c : Cop) (n : Int) : Int × List Int := (c.hlo + n % (c.hhi - c.hlo + 1), lossN c n c.loss.length)
theorem div_bd {a b : Int} (h0 : 0 ≤ a) (h9 : a ≤ 3000) (hb : 1 ≤ b) : 0 ≤ a / b ∧ a / b ≤ 3000 := by
  refine ⟨Int.ediv_nonneg h0 (by omega), ?_⟩
  have := Int.ediv_le_self b h0
  omega
theorem restN_bd {c : Cop} (h0 : okR 99 c.hlo c.hhi = true) (hl : ∀ j, j < c.loss.length → okR 99 (p1 c.loss j) (p2 c.loss j) = true) {n : Int} (hn0 : 0 ≤ n) (hn : n ≤ 3000) : ∀ j, j ≤ c.loss.length → 0 ≤ restN c n j ∧ restN c n j ≤ 3000 := by
  intro j
  induction j with
  | zero => intro _; have := okR_spec h0; exact div_bd hn0 hn (by omega)
  | succ j ih =>
    intro hj
    have h1 := ih (by omega)
    have h2 := okR_spec (hl j (by omega))
    exact div_bd h1.1 h1.2 (by omega)
theorem Fr.lit52 {a0 a : Act} {v5 : Value} (h : Fr 5 17 a0 a) (hs : a0.tmps.size = 52) (h5 : slots a 5 = v5) : ∃ f : Nat → Value, a = { tmps := #[slots a0 0, slots a0 1, slots a0 2, slots a0 3, slots a0 4, v5, f 6, f 7, f 8, f 9, f 10, f 11, f 12, f 13, f 14, f 15, f 16, f 17, slots a0 18, slots a0 19, slots a0 20, slots a0 21, slots a0 22, slots a0 23, slots a0 24, slots a0 25, slots a0 26, slots a0 27, slots a0 28, slots a0 29, slots a0 30, slots a0 31, slots a0 32, slots a0 33, slots a0 34, slots a0 35, slots a0 36, slots a0 37, slots a0 38, slots a0 39, slots a0 40, slots a0 41, slots a0 42, slots a0 43, slots a0 44, slots a0 45, slots a0 46, slots a0 47, slots a0 48, slots a0 49, slots a0 50, slots a0 51], defers := a0.defers } := by
  refine ⟨slots a, ?_⟩
  have := h.lit
  rw [hs] at this
  subst h5
  exact this
theorem Fr.lit52b {a0 a : Act}  (h : Fr 35 46 a0 a) (hs : a0.tmps.size = 52)  : ∃ f : Nat → Value, a = { tmps := #[slots a0 0, slots a0 1, slots a0 2, slots a0 3, slots a0 4, slots a0 5, slots a0 6, slots a0 7, slots a0 8, slots a0 9, slots a0 10, slots a0 11, slots a0 12, slots a0 13, slots a0 14, slots a0 15, slots a0 16, slots a0 17, slots a0 18, slots a0 19, slots a0 20, slots a0 21, slots a0 22, slots a0 23, slots a0 24, slots a0 25, slots a0 26, slots a0 27, slots a0 28, slots a0 29, slots a0 30, slots a0 31, slots a0 32, slots a0 33, slots a0 34, f 35, f 36, f 37, f 38, f 39, f 40, f 41, f 42, f 43, f 44, f 45, f 46, slots a0 47, slots a0 48, slots a0 49, slots a0 50, slots a0 51], defers := a0.defers } := by
  refine ⟨slots a, ?_⟩
  have := h.lit
  rw [hs] at this
  exact this
set_option maxRecDepth 100000 in
set_option maxHeartbeats 8000000 in
theorem nth_c (c : Cop) (q : CA) (n : Nat) (w : World) (h0 : okR 99 c.hlo c.hhi = true) (hl : ∀ j, j < c.loss.length → okR 99 (p1 c.loss j) (p2 c.loss j) = true) (hll : c.loss.length ≤ 5) (hn : n ≤ 3000) (hx : PairsAt w w.heap.size q.a3 c.loss) :
    Calls Tryz.prog 95 #[copV c q, .int .i64 n] w fun e w' => ∃ A k, e = .returned (trV (nthT c n) A k) ∧ IntsAt w' w'.heap.size A (nthT c n).2 ∧ (∀ b o, A = some ⟨b, o, none⟩ → w.heap.size ≤ b ∧ b < w'.heap.size) ∧ Below w.heap.size w w' := by
  have HX := Lib.hid hx
  have HL := Lib.hid hl
  have H0 := Lib.hid h0
  obtain ⟨o1, o2, o3⟩ := okR_spec h0
  have HSZ : Hid (∀ w, Calls Tryz.prog 136 #[.agg #[.int .i64 c.hlo, .int .i64 c.hhi]] w fun e w' => e = .returned (.int .i64 (c.hhi - c.hlo + 1)) ∧ Below w.heap.size w w') := fun w => rsize_c _ _ w o1 o2 o3
  have hne : ¬ (c.hhi - c.hlo + 1 = 0) := by omega
  have htd : (n : Int).tdiv (c.hhi - c.hlo + 1) = restN c n 0 := Int.tdiv_eq_ediv_of_nonneg (by omega)
  obtain ⟨q1, q2⟩ := restN_bd h0 hl (n := n) (by omega) (by omega) 0 (Nat.zero_le _)
  have hwq : wrap64 ((n : Int) / (c.hhi - c.hlo + 1)) = restN c n 0 := IntWalk.wrap64_in _ (by have h : restN c n 0 = (n : Int) / (c.hhi - c.hlo + 1) := rfl; omega)
  clear htd
  clear hx hl h0 q1 q2
  go_enter Tryz.func95, Tryz.ntmps95
  go_wp2
  have hbx : Box ((w.alloc (.cells (copCs c q) 28)).alloc (.cells #[.int .i64 0, .slice none 0 0] 105)) w.heap.size (copCs c q) := (Box.new _ _ _ _).al (by simp) _
  have HBX := Lib.hid hbx
  refine r95 _ rfl _ c q w.heap.size n _ rfl rfl rfl HBX.out (by simp; omega) H0.out (by omega) ?_
  intro a w2 G hF hb h5 hg hgh
  have HB2 := Lib.hid (bl_tr (bl_al (bl_al (Below.refl w.heap.size w) _) _) hb)
  have HBX2 : Hid (Box w2 w.heap.size (copCs c q)) := HBX.out.bl (by simp) hb
  have hgh0 : Hid (w.heap.size + 2 ≤ G) := by simpa [Hid] using hg
  have hz4 : w2.heap[w.heap.size + 1]? = some (.cells #[.int .i64 0, .slice none 0 0] 105 (0, 0)) := (hb.block _ (by simp)).trans (by have := World.alloc_heap_new (w.alloc (.cells (copCs c q) 28)) (.cells #[.int .i64 0, .slice none 0 0] 105); rw [World.size_alloc] at this; exact this)
  have HZ4 := Lib.hid hz4
  have HGH := Lib.hid hgh
  obtain ⟨f, rfl⟩ := hF.lit52 rfl h5
  clear hF h5 hb hg hgh hbx hz4
  have hbx2 := HBX2.out
  unfold Box copCs at hbx2
  simp only [slots, List.getElem?_toArray, List.getElem?_cons_succ, List.getElem?_cons_zero, Option.getD_some]
  go_wp2_with (go_at_call 136; refine (HSZ.out _).mono ?_; clear hbx2; rintro e w3 ⟨rfl, hb⟩; have HB3 := Lib.hid (bl_tr HB2.out hb); have HBX3 : Hid (Box w3 w.heap.size (copCs c q)) := HBX2.out.bl (by simp) hb; have HG3 : Hid (w3.heap[G]? = some (.cells #[.int .i64 (c.hlo + (n : Int) % (c.hhi - c.hlo + 1)), .slice none 0 0] 105 (0, 0))) := ((hb.block _ (Array.getElem?_eq_some_iff.1 HGH.out).1).trans HGH.out); have HZ3 : Hid (w3.heap[w.heap.size + 1]? = some (.cells #[.int .i64 0, .slice none 0 0] 105 (0, 0))) := ((hb.block _ (Array.getElem?_eq_some_iff.1 HZ4.out).1).trans HZ4.out); clear hb)
  have HWQ := Lib.hid hwq
  clear hne hwq
  go_loopw [1, 6] (fun x i wr => ∃ (j : Nat) (v : Value), j ≤ c.loss.length ∧ i = .int .i64 j ∧ x = .int .i64 (restN c n j) ∧ Grown (fun k => G ≤ k) w3 wr ∧ wr.heap[G]? = some (.cells #[.int .i64 (c.hlo + (n : Int) % (c.hhi - c.hlo + 1)), v] 105 (0, 0)) ∧ wr.ownsRow (G + 1) 3 1 v j (ints (lossN c n j))) (fun _ i _ => c.loss.length - (intOf i).toNat)
  case atStart => exact ⟨0, _, Nat.zero_le _, rfl, by rw [HWQ.out], Grown.refl _ _, HG3.out, World.ownsRow_nil _ _ _ _⟩
  case round =>
    obtain ⟨j, v, hj, rfl, rfl, hgr, hgc, hrow⟩ := hrel
    have HGR := Lib.hid hgr
    have HGC := Lib.hid hgc
    have HROW := Lib.hid hrow
    have hg0 := hgh0.out
    have HBR : Hid (Below w.heap.size w wr) := HB3.out.trans (hgr.below (by have := HB3.out.size; omega) (fun k hk => by omega))
    have k9 : wr.cell? ⟨w.heap.size, 9, none⟩ = some (.slice q.a3 c.loss.length q.c3) := hgr.box HBX3.out (HBX3.out.lt (by simp)) (by omega) 9
    obtain ⟨r1, r2⟩ := restN_bd H0.out HL.out (n := n) (by omega) (by omega) j hj
    clear hgr hgc hrow hg0
    by_cases hlt : j < c.loss.length
    · obtain ⟨b, o, ha⟩ := HX.out.some_ (by omega)
      have hx' := HX.out
      rw [ha] at hx' k9
      obtain ⟨e1, e2⟩ := (hx'.below HBR.out).get j hlt
      have hj1 : (j : Int) < (c.loss.length : Int) := by omega
      obtain ⟨s1, s2, s3⟩ := okR_spec (HL.out j hlt)
      have HS2 : Hid (∀ w, Calls Tryz.prog 136 #[.agg #[.int .i64 (p1 c.loss j), .int .i64 (p2 c.loss j)]] w fun e w' => e = .returned (.int .i64 (p2 c.loss j - p1 c.loss j + 1)) ∧ Below w.heap.size w w') := fun w => rsize_c _ _ w s1 s2 s3
      have m1 : 0 ≤ restN c n j % (p2 c.loss j - p1 c.loss j + 1) := Int.emod_nonneg _ (by omega)
      have m2 : restN c n j % (p2 c.loss j - p1 c.loss j + 1) < p2 c.loss j - p1 c.loss j + 1 := Int.emod_lt_of_pos _ (by omega)
      have hne : ¬ (p2 c.loss j - p1 c.loss j + 1 = 0) := by omega
      have htd : (restN c n j).tdiv (p2 c.loss j - p1 c.loss j + 1) = restN c n (j + 1) := Int.tdiv_eq_ediv_of_nonneg r1
      have htm : (restN c n j).tmod (p2 c.loss j - p1 c.loss j + 1) = restN c n j % (p2 c.loss j - p1 c.loss j + 1) := Int.tmod_eq_emod_of_nonneg r1
      have hwr : IntKind.i64.wrap (p1 c.loss j + restN c n j % (p2 c.loss j - p1 c.loss j + 1)) = p1 c.loss j + restN c n j % (p2 c.loss j - p1 c.loss j + 1) := IntWalk.i64_in _ (by omega)
      obtain ⟨r3, r4⟩ := restN_bd H0.out HL.out (n := n) (by omega) (by omega) (j + 1) hlt
      have hwq : wrap64 (restN c n j / (p2 c.loss j - p1 c.loss j + 1)) = restN c n (j + 1) := IntWalk.wrap64_in _ (by have h : restN c n (j + 1) = restN c n j / (p2 c.loss j - p1 c.loss j + 1) := rfl; omega)
      have hwq' : wrap64 ((restN c n j).tdiv (p2 c.loss j - p1 c.loss j + 1)) = restN c n (j + 1) := by rw [htd]; exact IntWalk.wrap64_in _ (by omega)
      clear htd htm
      clear hx' ha s1 s2 s3 m1 m2 r3 r4
      go_wp2
      obtain ⟨W1, hW1⟩ : ∃ W1, wr.alloc (.cells #[.int .i64 (p1 c.loss j), .int .i64 (p2 c.loss j)] 24) = W1 := ⟨_, rfl⟩
      rw [hW1]
      have HB1 : Hid (Below wr.heap.size wr W1) := by rw [← hW1]; exact bl_al (Below.refl _ _) _
      have HN1 : Hid (W1.heap[wr.heap.size]? = some (.cells #[.int .i64 (p1 c.loss j), .int .i64 (p2 c.loss j)] 24 (0, 0))) := by rw [← hW1]; exact World.alloc_heap_new _ _
      have HGW : Hid (G < wr.heap.size) := (Array.getElem?_eq_some_iff.1 HGC.out).1
      clear hW1
      have g1 : W1.cell? ⟨G, 1, none⟩ = some v := cell_later HB1.out (by simp [World.cell?, HGC.out])
      have n0 : W1.cell? ⟨wr.heap.size, 0, none⟩ = some (.int .i64 (p1 c.loss j)) := by simp [World.cell?, HN1.out]
      have n1 : W1.cell? ⟨wr.heap.size, 1, none⟩ = some (.int .i64 (p2 c.loss j)) := by simp [World.cell?, HN1.out]
      obtain ⟨A0, k0, rfl⟩ := own_shape6 HROW.out
      have HROW1 := Lib.hid (own_below HROW.out HB1.out)
      have HFN : Hid (some wr.heap.size ≠ (Value.slice A0 j k0).ownBlock) := own_far6 HROW.out (Nat.le_refl _)
      have HGC1 : Hid (W1.heap[G]? = some (.cells #[.int .i64 (c.hlo + (n : Int) % (c.hhi - c.hlo + 1)), .slice A0 j k0] 105 (0, 0))) := (HB1.out.block _ HGW.out).trans HGC.out
      have HNW : Hid (wr.heap.size < W1.heap.size) := by have := World.block_lt_of_cell? W1 _ n0; exact this
      clear g1 hwr
      refine r95b _ rfl _ (c.hlo + (n : Int) % (c.hhi - c.hlo + 1)) (p1 c.loss j) (p2 c.loss j) (restN c n j) wr.heap.size G (G + 1) j (.slice A0 j k0) (ints (lossN c n j)) _ rfl HGC1.out HROW1.out (by have := HGW.out; have := HNW.out; omega) (by omega) (by omega) rfl rfl rfl HNW.out (by have := HGW.out; omega) HFN.out n0 n1 (HL.out j hlt) r1 r2 ?_
      intro a w8 u hF8 hg8 hbx8 hrw8
      have HG8 := Lib.hid hg8
      have HBX8 := Lib.hid hbx8
      have HRW8 := Lib.hid hrw8
      have m0 : w8.cell? ⟨wr.heap.size, 0, none⟩ = some (.int .i64 (p1 c.loss j)) := (hg8.cell HNW.out (by have := HGW.out; simp [HFN.out]; omega)).trans n0
      have m1 : w8.cell? ⟨wr.heap.size, 1, none⟩ = some (.int .i64 (p2 c.loss j)) := (hg8.cell HNW.out (by have := HGW.out; simp [HFN.out]; omega)).trans n1
      obtain ⟨f8, rfl⟩ := hF8.lit52b rfl
      clear hF8 hg8 hbx8 hrw8 n0 n1
      simp only [slots, List.getElem?_toArray, List.getElem?_cons_succ, List.getElem?_cons_zero, Option.getD_some]
      go_wp2_with (go_at_call 136; refine (HS2.out _).mono ?_; rintro e w9 ⟨rfl, hb9⟩; have HB9 := Lib.hid hb9; clear hb9)
      go_roundw
      case rel =>
        have hgg : Grown (fun k => G ≤ k) w3 wr := HGR.out
        have hg1 : Grown (fun k => G ≤ k) w3 W1 := hgg.trans (Grown.bl HB1.out)
        have hg2 : Grown (fun k => G ≤ k) w3 w8 := hg1.trans (HG8.out.mono fun k _ t => by
          rcases t with rfl | t
          · exact Nat.le_refl _
          · have := (HROW.out.lt k t.symm).1; omega)
        refine ⟨j + 1, u, by omega, by go_num, by first | rfl | rw [hwq] | rw [hwq'], hg2.trans (Grown.bl HB9.out), (HB9.out.block _ (Array.getElem?_eq_some_iff.1 HBX8.out).1).trans HBX8.out, ?_⟩
        have := own_below HRW8.out HB9.out
        unfold lossN
        rw [rowI_snoc, ints_snoc]
        exact this
      case measure => simp [intOf]; omega
    · obtain rfl : j = c.loss.length := by omega
      obtain ⟨A0, k0, rfl, hi, -⟩ := own_ints HROW.out
      have HI := Lib.hid hi
      have hc0 : wr.cell? ⟨G, 0, none⟩ = some (.int .i64 (c.hlo + (n : Int) % (c.hhi - c.hlo + 1))) := by simp [World.cell?, HGC.out]
      have hc1 : wr.cell? ⟨G, 1, none⟩ = some (.slice A0 (lossN c n c.loss.length).length k0) := by simp [World.cell?, HGC.out]
      have hz4 : wr.heap[w.heap.size + 1]? = some (.cells #[.int .i64 0, .slice none 0 0] 105 (0, 0)) := (HGR.out.block _ (Array.getElem?_eq_some_iff.1 HZ3.out).1 (by have := hgh0.out; omega)).trans HZ3.out
      have hf4 : ∀ o, wr.frozen? ⟨w.heap.size + 1, o, none⟩ = false := fun o => by simp [World.frozen?, hz4]
      have hc4 : ∀ o, wr.cell? ⟨w.heap.size + 1, o, none⟩ = (#[.int .i64 0, .slice none 0 0] : Array Value)[o]? := fun o => by simp [World.cell?, hz4]
      have HRES := Lib.hid (heap_setCell_same _ _ 1 _ _ (.slice A0 (lossN c n c.loss.length).length k0) (heap_setCell_same _ _ 0 _ _ (.int .i64 (c.hlo + (n : Int) % (c.hhi - c.hlo + 1))) hz4))
      clear hz4 hi
      go_wp2
      refine bodyPost_ret (v := trV (nthT c n) A0 k0) (results_cell_row Tryz.results95 _ _ (w.heap.size + 1) 105 _ (0, 0) _ (by rfl) HRES.out Tryz.underlying105 rfl (by kernel_rfl)) rfl ⟨A0, k0, rfl, ?_, ?_, ?_⟩
      · have hb2 : ∀ b o, A0 = some ⟨b, o, none⟩ → w.heap.size + 1 < b := fun b o e => by
          subst e
          have := (HROW.out.lt b rfl).1
          have := hgh0.out
          omega
        rcases HI.out with h | ⟨b, o, rfl, hlt2, hcc⟩
        · exact .inl h
        · have := hb2 b o rfl
          exact .inr ⟨b, o, rfl, by simpa [World.setCell] using hlt2, fun k hk => by
            rw [World.cell?_setCell_far _ _ _ _ (by simp; omega), World.cell?_setCell_far _ _ _ _ (by simp; omega)]
            exact hcc k hk⟩
      · intro b o e
        subst e
        have h1 := HROW.out.lt b rfl
        have := hgh0.out
        exact ⟨by omega, by simpa [World.setCell] using h1.2⟩
      · exact bl_st (bl_st HBR.out (by simp) _) (by simp) _
end Go.Proofs.YtpgnplmjfhdncaaGreat
/- The reference's Right. -/
namespace Go.Proofs.YtpgnplmjfhdncaaGreat
open Go.RowKit
set_option linter.unusedVariables false
/-- The bits of the numbers below n that p has. -/
def bitsN (p : Nat → Bool) : Nat → Int
  | 0 => 0
  | j + 1 => if p j = true then bitsN p j + 2 ^ j else bitsN p j
theorem bitsN_bd (p : Nat → Bool) : ∀ n, 0 ≤ bitsN p n ∧ bitsN p n < 2 ^ n := by
  intro n
  induction n with
  | zero => simp [bitsN]
  | succ n ih =>
    have h2 : (2 : Int) ^ (n + 1) = 2 ^ n + 2 ^ n := by rw [Int.pow_succ]; omega
    simp only [bitsN]
    split <;> omega
theorem or_pow' : ∀ j : Nat, j < 5 → ∀ x : Nat, x < 2 ^ j → bits .or .i64 (x : Int) (wrap64 (2 ^ j)) = (x : Int) + 2 ^ j := by decide +kernel
theorem or_pow {j : Nat} (hj : j < 5) {x : Int} (h0 : 0 ≤ x) (h1 : x < 2 ^ j) : bits .or .i64 x (wrap64 (2 ^ j)) = x + 2 ^ j := by
  obtain ⟨m, rfl⟩ : ∃ m : Nat, x = m := ⟨x.toNat, by omega⟩
  exact or_pow' j hj m (by exact_mod_cast h1)
set_option maxRecDepth 100000 in
set_option maxHeartbeats 4000000 in
theorem rright_c (c : Cop) (q : CA) (s : Int × List Int) (a : Option Addr) (k : Nat) (hp : Plays c c.coal c.want s) (hsl : (s.2.length : Int) = c.last + 1) (hr5 : c.rds.length ≤ 5)
    (hrd : ∀ j, j < c.rds.length → 0 ≤ t1 c.rds j ∧ t1 c.rds j ≤ c.last) (w : World) (hq : CopAt w w.heap.size c q) (hz : IntsAt w w.heap.size a s.2) :
    Calls Tryz.prog 96 #[copV c q, trV s a k] w fun e w' => e = .returned (.int .i64 (bitsN (rdB c s) c.rds.length)) ∧ Below w.heap.size w w' := by
  have HQ := Lib.hid hq
  have HZ := Lib.hid hz
  have HRD := Lib.hid hrd
  have HH : Hid (∀ (h : Nat), (h : Int) ≤ c.last → ∀ w : World, CopAt w w.heap.size c q → IntsAt w w.heap.size a s.2 →
    Calls Tryz.prog 138 #[copV c q, trV s a k, .slice q.a1 c.coal.length q.c1, .slice q.a2 c.want.length q.c2, .int .i64 h] w fun e w' => e = .returned (.int .i64 (hotAt c c.coal c.want s h)) ∧ Below w.heap.size w w') := fun h hh w hq hz => rhot_c c q s a k c.coal c.want q.a1 q.c1 q.a2 q.c2 hp hsl h hh w hq.coal hq.want hz
  clear hq hz hp hrd
  go_enter Tryz.func96, Tryz.ntmps96
  go_wp2
  go_loopw [5, 6] (fun x i wr => ∃ j : Nat, j ≤ c.rds.length ∧ i = .int .i64 j ∧ x = .int .i64 (bitsN (rdB c s) j) ∧ Below w.heap.size w wr ∧ Box wr w.heap.size (copCs c q) ∧ Box wr (w.heap.size + 1) (trCs s a k)) (fun _ i _ => c.rds.length - (intOf i).toNat)
  case atStart => exact ⟨0, Nat.zero_le _, rfl, rfl, bl_al (bl_al (Below.refl _ _) _) _, (Box.new _ _ _ _).al (by simp) _, Box.new' _ _ _ _ (by simp)⟩
  case round =>
    obtain ⟨j, hj, rfl, rfl, hb, hb0, hb1⟩ := hrel
    have HB := Lib.hid hb
    have HB0 := Lib.hid hb0
    have HB1 := Lib.hid hb1
    have k10 : wr.cell? ⟨w.heap.size, 10, none⟩ = some (.slice q.a4 c.rds.length q.c4) := hb0 10
    clear hb hb0 hb1
    by_cases hlt : j < c.rds.length
    · obtain ⟨b, o, ha⟩ := HQ.out.rds.some_ (by omega)
      have hx' := HQ.out.rds
      rw [ha] at hx' k10
      obtain ⟨e1, e2, e3⟩ := (hx'.below HB.out).get j hlt
      obtain ⟨t0, t9⟩ := HRD.out j hlt
      obtain ⟨m, hm⟩ : ∃ m : Nat, t1 c.rds j = m := ⟨(t1 c.rds j).toNat, by omega⟩
      have hmn : (t1 c.rds j).toNat = m := by omega
      have hj1 : (j : Int) < (c.rds.length : Int) := by omega
      have HC : Hid (∀ w : World, CopAt w w.heap.size c q → IntsAt w w.heap.size a s.2 →
    Calls Tryz.prog 138 #[copV c q, trV s a k, .slice q.a1 c.coal.length q.c1, .slice q.a2 c.want.length q.c2, .int .i64 (t1 c.rds j)] w fun e w' => e = .returned (.int .i64 (hotAt c c.coal c.want s m)) ∧ Below w.heap.size w w') := by rw [hm]; exact HH.out m (by omega)
      have HRB : Hid (rdB c s j = within (hotAt c c.coal c.want s m) (t2 c.rds j) (t3 c.rds j)) := by unfold Hid rdB; rw [hmn]
      clear hx' hm hmn t0 t9 ha
      go_wp2
      obtain ⟨W1, hW1⟩ : ∃ W1, wr.alloc (.cells #[.int .i64 (t1 c.rds j), .int .i64 (t2 c.rds j), .int .i64 (t3 c.rds j)] 99) = W1 := ⟨_, rfl⟩
      rw [hW1]
      have HBW : Hid (Below wr.heap.size wr W1) := by rw [← hW1]; exact bl_al (Below.refl _ _) _
      have hn1 : Box W1 wr.heap.size #[.int .i64 (t1 c.rds j), .int .i64 (t2 c.rds j), .int .i64 (t3 c.rds j)] := by rw [← hW1]; exact Box.new _ _ _ _
      have i0 : W1.cell? ⟨wr.heap.size, 0, none⟩ = some (.int .i64 (t1 c.rds j)) := hn1 0
      have i1 : W1.cell? ⟨wr.heap.size, 1, none⟩ = some (.int .i64 (t2 c.rds j)) := hn1 1
      have i2 : W1.cell? ⟨wr.heap.size, 2, none⟩ = some (.int .i64 (t3 c.rds j)) := hn1 2
      have hb0 : Box W1 w.heap.size (copCs c q) := HB0.out.bl (by simp) HBW.out
      have hb1 : Box W1 (w.heap.size + 1) (trCs s a k) := HB1.out.bl (by simp) HBW.out
      clear k10 hW1 hn1 e1 e2 e3
      have k0 : W1.cell? ⟨w.heap.size, 0, none⟩ = some (.int .i64 c.last) := hb0 0
      have k1 : W1.cell? ⟨w.heap.size, 1, none⟩ = some (.int .i64 c.start) := hb0 1
      have k2 : W1.cell? ⟨w.heap.size, 2, none⟩ = some (.int .i64 c.most) := hb0 2
      have k3 : W1.cell? ⟨w.heap.size, 3, none⟩ = some (.int .i64 c.per) := hb0 3
      have k4 : W1.cell? ⟨w.heap.size, 4, none⟩ = some (.int .i64 c.shovels) := hb0 4
      have k5 : W1.cell? ⟨w.heap.size, 5, none⟩ = some (.slice q.a1 c.coal.length q.c1) := hb0 5
      have k6 : W1.cell? ⟨w.heap.size, 6, none⟩ = some (.slice q.a2 c.want.length q.c2) := hb0 6
      have k7 : W1.cell? ⟨w.heap.size, 7, none⟩ = some (.int .i64 c.hlo) := hb0 7
      have k8 : W1.cell? ⟨w.heap.size, 8, none⟩ = some (.int .i64 c.hhi) := hb0 8
      have k9 : W1.cell? ⟨w.heap.size, 9, none⟩ = some (.slice q.a3 c.loss.length q.c3) := hb0 9
      have k10 : W1.cell? ⟨w.heap.size, 10, none⟩ = some (.slice q.a4 c.rds.length q.c4) := hb0 10
      have j0 : W1.cell? ⟨w.heap.size + 1, 0, none⟩ = some (.int .i64 s.1) := hb1 0
      have j1 : W1.cell? ⟨w.heap.size + 1, 1, none⟩ = some (.slice a s.2.length k) := hb1 1
      clear hb0 hb1
      refine wp_region_plus (by kernel_rfl) ?_
      repeat (go_big_quiet_step (first | (go_at_call 138; exact Calls.pl (HC.out _ (HQ.out.up (bl_tr HB.out (bl_pl HBW.out _))) (HZ.out.up (bl_tr HB.out (bl_pl HBW.out _))))) | (go_at_call 137; exact Calls.pl (ris_c _ _ _ _))))
      refine wpQuiet_nil ?_
      rintro _ ⟨d, rfl⟩
      have HBL : Hid (Below wr.heap.size wr (plus W1 d)) := bl_pl HBW.out d
      clear k0 k1 k2 k3 k4 k5 k6 k7 k8 k9 k10 j0 j1 i0 i1 i2
      cases hk : within (hotAt c c.coal c.want s m) (t2 c.rds j) (t3 c.rds j) with
      | false =>
        have HST : Hid (bitsN (rdB c s) (j + 1) = bitsN (rdB c s) j) := by unfold Hid; simp only [bitsN]; rw [if_neg (by rw [HRB.out, hk]; simp)]
        clear hk
        go_wp2
        go_roundw
        case rel => exact ⟨j + 1, by omega, by go_num, by rw [HST.out], bl_tr HB.out HBL.out, HB0.out.bl (by simp) HBL.out, HB1.out.bl (by simp) HBL.out⟩
        case measure => simp [intOf]; omega
      | true =>
        have HST : Hid (bitsN (rdB c s) (j + 1) = bitsN (rdB c s) j + 2 ^ j) := by unfold Hid; simp only [bitsN]; rw [if_pos (by rw [HRB.out, hk])]
        have hbb := bitsN_bd (rdB c s) j
        have HOR : Hid (bits .or .i64 (bitsN (rdB c s) j) (wrap64 (2 ^ j)) = bitsN (rdB c s) j + 2 ^ j) := or_pow (by omega) hbb.1 hbb.2
        clear hk hbb
        go_wp2
        go_roundw
        case rel => exact ⟨j + 1, by omega, by go_num, by rw [HST.out, HOR.out], bl_tr HB.out HBL.out, HB0.out.bl (by simp) HBL.out, HB1.out.bl (by simp) HBL.out⟩
        case measure => simp [intOf]; omega
    · obtain rfl : j = c.rds.length := by omega
      go_wp2
      go_ret
      exact ⟨rfl, HB.out⟩
end Go.Proofs.YtpgnplmjfhdncaaGreat
/- The reference's Truths. -/
namespace Go.Proofs.YtpgnplmjfhdncaaGreat
open Go.RowKit
set_option linter.unusedVariables false
theorem manyC_N {c : Cop} (h0 : okR 99 c.hlo c.hhi = true) (hl : ∀ j, j < c.loss.length → okR 99 (p1 c.loss j) (p2 c.loss j) = true) : ∀ j, j ≤ c.loss.length → (manyC c j = manyN c j ∧ manyN c j ≤ 2000) ∨ (manyC c j = 2001 ∧ 2001 ≤ manyN c j) := by
  intro j
  induction j with
  | zero => intro _; have := okR_spec h0; exact .inl ⟨rfl, by simp only [manyN]; omega⟩
  | succ j ih =>
    intro hj
    have h2 := okR_spec (hl j (by omega))
    have h3 := manyC_bd h0 hl j (by omega)
    have h4 := manyN_bd h0 hl j (by omega)
    simp only [manyC, manyN]
    rcases ih (by omega) with ⟨e, h⟩ | ⟨e, h⟩
    · rw [e]; omega
    · have h5 : 2001 * 1 ≤ manyC c j * (p2 c.loss j - p1 c.loss j + 1) := Int.mul_le_mul (by omega) (by omega) (by omega) (by omega)
      have h6 : 2001 * 1 ≤ manyN c j * (p2 c.loss j - p1 c.loss j + 1) := Int.mul_le_mul h (by omega) (by omega) (by omega)
      omega
theorem manyN_ok {c : Cop} (ho : Okc c) : manyN c c.loss.length ≤ 2000 := by
  rcases manyC_N ho.hh ho.lb c.loss.length (Nat.le_refl _) with ⟨_, h⟩ | ⟨h, _⟩
  · exact h
  · have := ho.many; omega
theorem mod_bd {a b : Int} (hb : 1 ≤ b) : 0 ≤ a % b ∧ a % b < b := ⟨Int.emod_nonneg _ (by omega), Int.emod_lt_of_pos _ (by omega)⟩
theorem nth_sc {c : Cop} (ho : Okc c) (n : Int) : IsSc c (nthT c n) := by
  have hh := okR_spec ho.hh
  have h1 := mod_bd (a := n) (b := c.hhi - c.hlo + 1) (by omega)
  refine ⟨by simp only [nthT]; omega, by simp only [nthT]; omega, by simp only [nthT, lossN, rowI_len]; exact ho.ll, fun j hj => ?_⟩
  simp only [nthT, lossN, rowI_len] at hj ⊢
  rw [nth_rowI _ hj]
  have h2 := okR_spec (ho.lb j hj)
  have h3 := mod_bd (a := restN c n j) (b := p2 c.loss j - p1 c.loss j + 1) (by omega)
  omega
/-- The truths among the first n. -/
def truthsN (c : Cop) : Nat → List (Int × List Int)
  | 0 => []
  | n + 1 => truthsN c n ++ (if (bitsN (rdB c (nthT c n)) c.rds.length == fullN c.rds.length) = true then [nthT c n] else [])
def truthsR (c : Cop) : List (Int × List Int) := truthsN c (manyN c c.loss.length).toNat
theorem truthsN_len (c : Cop) : ∀ n, (truthsN c n).length ≤ n := by
  intro n
  induction n with
  | zero => simp [truthsN]
  | succ n ih => simp only [truthsN, List.length_append]; split <;> simp <;> omega
/-- The cells of a row of truths, whose losses lie outside the row's block. -/
def TrRow (w : World) (vb : Option Nat) (ts : List (Int × List Int)) (xs : List Value) : Prop :=
  xs.length = 2 * ts.length ∧ ∀ j, j < ts.length → ∃ A k, xs[2 * j]? = some (.int .i64 (sh ts j)) ∧ xs[2 * j + 1]? = some (.slice A (sl ts j).length k) ∧ IntsAt w w.heap.size A (sl ts j) ∧ ∀ b o, A = some ⟨b, o, none⟩ → some b ≠ vb ∧ b < w.heap.size
theorem IntsAt.grown {w w' : World} {vb : Option Nat} {A : Option Addr} {xs : List Int} (h : IntsAt w w.heap.size A xs) (hb : ∀ b o, A = some ⟨b, o, none⟩ → some b ≠ vb ∧ b < w.heap.size) (hg : Grown (fun k => some k = vb) w w') : IntsAt w' w'.heap.size A xs := by
  rcases h with h | ⟨b, o, rfl, hlt, hc⟩
  · exact .inl h
  · have := hb b o rfl
    exact .inr ⟨b, o, rfl, Nat.lt_of_lt_of_le hlt hg.size, fun j hj => (hg.cell this.2 this.1).trans (hc j hj)⟩
theorem TrRow.grown {w w' : World} {vb : Option Nat} {ts : List (Int × List Int)} {xs : List Value} (h : TrRow w vb ts xs) (hg : Grown (fun k => some k = vb) w w') : TrRow w' vb ts xs :=
  ⟨h.1, fun j hj => let ⟨A, k, h1, h2, h3, h4⟩ := h.2 j hj; ⟨A, k, h1, h2, h3.grown h4 hg, fun b o e => ⟨(h4 b o e).1, Nat.lt_of_lt_of_le (h4 b o e).2 hg.size⟩⟩⟩
theorem TrRow.bl {w w' : World} {vb : Option Nat} {ts : List (Int × List Int)} {xs : List Value} (h : TrRow w vb ts xs) (hb : Below w.heap.size w w') : TrRow w' vb ts xs := h.grown (Grown.bl hb)
theorem TrRow.move {w : World} {vb vb' : Option Nat} {ts : List (Int × List Int)} {xs : List Value} (h : TrRow w vb ts xs) (hv : vb' = vb ∨ ∃ n, vb' = some n ∧ w.heap.size ≤ n) : TrRow w vb' ts xs := by
  rcases hv with rfl | ⟨n, rfl, hn⟩
  · exact h
  · exact ⟨h.1, fun j hj => let ⟨A, k, h1, h2, h3, h4⟩ := h.2 j hj; ⟨A, k, h1, h2, h3, fun b o e => ⟨fun e2 => by have := (h4 b o e).2; injection e2; omega, (h4 b o e).2⟩⟩⟩
theorem TrRow.snoc {w : World} {vb : Option Nat} {ts : List (Int × List Int)} {xs : List Value} (h : TrRow w vb ts xs) (s : Int × List Int) (A : Option Addr) (k : Nat) (hi : IntsAt w w.heap.size A s.2) (hA : ∀ b o, A = some ⟨b, o, none⟩ → some b ≠ vb ∧ b < w.heap.size) :
    TrRow w vb (ts ++ [s]) (xs ++ [.int .i64 s.1, .slice A s.2.length k]) := by
  refine ⟨by simp [h.1]; omega, fun j hj => ?_⟩
  by_cases hlt : j < ts.length
  · obtain ⟨A', k', h1, h2, h3, h4⟩ := h.2 j hlt
    have e1 : sh (ts ++ [s]) j = sh ts j := by simp [sh, List.getElem?_append_left hlt]
    have e2 : sl (ts ++ [s]) j = sl ts j := by simp [sl, List.getElem?_append_left hlt]
    refine ⟨A', k', ?_, ?_, by rw [e2]; exact h3, h4⟩
    · rw [List.getElem?_append_left (by rw [h.1]; omega), e1]; exact h1
    · rw [List.getElem?_append_left (by rw [h.1]; omega), e2]; exact h2
  · have hje : j = ts.length := by simp at hj; omega
    subst hje
    have e1 : sh (ts ++ [s]) ts.length = s.1 := by simp [sh]
    have e2 : sl (ts ++ [s]) ts.length = s.2 := by simp [sl]
    refine ⟨A, k, ?_, ?_, by rw [e2]; exact hi, hA⟩
    · rw [List.getElem?_append_right (by rw [h.1]; omega), e1, h.1]; simp
    · rw [List.getElem?_append_right (by rw [h.1]; omega), e2, h.1]
      rw [show 2 * ts.length + 1 - 2 * ts.length = 1 by omega]; rfl
theorem own_truths {w : World} {base n : Nat} {e : TypeId} {v : Value} {xs : List Value} {ts : List (Int × List Int)} (h : w.ownsRow base e 2 v n xs) (ht : TrRow w v.ownBlock ts xs) : ∃ A c, v = .slice A ts.length c ∧ TruthsAt w w.heap.size A ts := by
  have hl : ts.length = n := by have := h.1; have := ht.1; omega
  rcases h.2 with ⟨rfl, h0⟩ | ⟨g, cap, cur, rfl, hb, hh, h1, h2, h3, h4⟩
  · exact ⟨none, 0, by rw [hl, h0], .inl (List.eq_nil_of_length_eq_zero (by omega))⟩
  · have hc : ∀ i, i < n * 2 → w.cell? ⟨g, i, none⟩ = xs[i]? := by
      intro i hi
      have h5 : (cur.toList.take (n * 2))[i]? = xs[i]? := by rw [h4]
      rw [List.getElem?_take, if_pos (by omega)] at h5
      simp only [World.cell?, hh]
      rw [← h5]
      simp
    refine ⟨_, cap, by rw [hl], .inr ⟨g, 0, rfl, (Array.getElem?_eq_some_iff.1 hh).1, fun j hj => ?_⟩⟩
    obtain ⟨A, k, e1, e2, e3, _⟩ := ht.2 j hj
    refine ⟨?_, A, k, ?_, e3⟩
    · rw [hc _ (by omega), show 0 + j * 2 = 2 * j by omega]; exact e1
    · rw [hc _ (by omega), show 0 + j * 2 + 1 = 2 * j + 1 by omega]; exact e2
theorem info105 : (Tryz.prog.info? 105).map (fun i => (i.zero, i.size, i.bytes)) = some (some (.agg #[.int .i64 0, .slice none 0 0]), 2, 32) := by kernel_rfl
set_option maxRecDepth 100000 in
set_option maxHeartbeats 8000000 in
theorem rtruths_c (c : Cop) (q : CA) (w : World) (hq : CopAt w w.heap.size c q) (ho : Okc c) :
    Calls Tryz.prog 36 #[copV c q] w fun e w' => ∃ A k, e = .returned (.slice A (truthsR c).length k) ∧ TruthsAt w' w'.heap.size A (truthsR c) ∧ Below w.heap.size w w' := by
  have HQ := Lib.hid hq
  have HO := Lib.hid ho
  have hl4 := ho.l4
  have hll := ho.ll
  have hmn : Hid (manyN c c.loss.length ≤ 2000) := manyN_ok ho
  have hm1 : Hid (1 ≤ manyN c c.loss.length) := (manyN_bd ho.hh ho.lb c.loss.length (Nat.le_refl _)).1
  have HMC : Hid (∀ w, CopAt w w.heap.size c q → Calls Tryz.prog 94 #[copV c q] w fun e w' => e = .returned (.int .i64 (manyN c c.loss.length)) ∧ Below w.heap.size w w') := fun w hq => many_c c q w ho.hh ho.lb (by omega) hq.loss
  have HNC : Hid (∀ (n : Nat) w, n ≤ 3000 → CopAt w w.heap.size c q → Calls Tryz.prog 95 #[copV c q, .int .i64 n] w fun e w' => ∃ A k, e = .returned (trV (nthT c n) A k) ∧ IntsAt w' w'.heap.size A (nthT c n).2 ∧ (∀ b o, A = some ⟨b, o, none⟩ → w.heap.size ≤ b ∧ b < w'.heap.size) ∧ Below w.heap.size w w') := fun n w hn hq => nth_c c q n w ho.hh ho.lb (by omega) hn hq.loss
  have HRC : Hid (∀ (n : Nat) A k w, CopAt w w.heap.size c q → IntsAt w w.heap.size A (nthT c n).2 → Calls Tryz.prog 96 #[copV c q, trV (nthT c n) A k] w fun e w' => e = .returned (.int .i64 (bitsN (rdB c (nthT c n)) c.rds.length)) ∧ Below w.heap.size w w') := fun n A k w hq hi => rright_c c q (nthT c n) A k (plays0 ho (nth_sc ho n)) (nth_sc ho n).len ho.rl (fun j hj => by have := ho.rb j hj; omega) w hq hi
  have HFC : Hid (∀ w, Calls Tryz.prog 97 #[copV c q] w fun e w' => e = .returned (.int .i64 (fullN c.rds.length)) ∧ Below w.heap.size w w') := fun w => rfull_c c q w ho.rl
  clear hq ho
  go_enter Tryz.func36, Tryz.ntmps36
  go_wp2
  go_loopw [3, 4] (fun v i wr => ∃ (j : Nat) (xs : List Value), (j : Int) ≤ manyN c c.loss.length ∧ i = .int .i64 j ∧ Below w.heap.size w wr ∧ Box wr w.heap.size (copCs c q) ∧ wr.ownsRow (w.heap.size + 1) 105 2 v (truthsN c j).length xs ∧ TrRow wr v.ownBlock (truthsN c j) xs) (fun _ i _ => (manyN c c.loss.length).toNat - (intOf i).toNat)
  case atStart => exact ⟨0, [], by have := hm1.out; simp; omega, rfl, bl_al (Below.refl _ _) _, Box.new _ _ _ _, World.ownsRow_nil _ _ _ _, by simp [truthsN], fun j hj => by simp [truthsN] at hj⟩
  case round =>
    obtain ⟨j, xs, hj, rfl, hb, hb0, hrow, htr⟩ := hrel
    have HB := Lib.hid hb
    have HB0 := Lib.hid hb0
    have HROW := Lib.hid hrow
    have HTR := Lib.hid htr
    obtain ⟨A0, k0, rfl⟩ := own_shape6 hrow
    have k0 : wr.cell? ⟨w.heap.size, 0, none⟩ = some (.int .i64 c.last) := hb0 0
    have k1 : wr.cell? ⟨w.heap.size, 1, none⟩ = some (.int .i64 c.start) := hb0 1
    have k2 : wr.cell? ⟨w.heap.size, 2, none⟩ = some (.int .i64 c.most) := hb0 2
    have k3 : wr.cell? ⟨w.heap.size, 3, none⟩ = some (.int .i64 c.per) := hb0 3
    have k4 : wr.cell? ⟨w.heap.size, 4, none⟩ = some (.int .i64 c.shovels) := hb0 4
    have k5 : wr.cell? ⟨w.heap.size, 5, none⟩ = some (.slice q.a1 c.coal.length q.c1) := hb0 5
    have k6 : wr.cell? ⟨w.heap.size, 6, none⟩ = some (.slice q.a2 c.want.length q.c2) := hb0 6
    have k7 : wr.cell? ⟨w.heap.size, 7, none⟩ = some (.int .i64 c.hlo) := hb0 7
    have k8 : wr.cell? ⟨w.heap.size, 8, none⟩ = some (.int .i64 c.hhi) := hb0 8
    have k9 : wr.cell? ⟨w.heap.size, 9, none⟩ = some (.slice q.a3 c.loss.length q.c3) := hb0 9
    have k10 : wr.cell? ⟨w.heap.size, 10, none⟩ = some (.slice q.a4 c.rds.length q.c4) := hb0 10
    have HSZ0 : Hid (w.heap.size + 1 ≤ wr.heap.size) := (hb0.lt (by simp))
    clear hb hb0 hrow htr
    have hjb : (j : Int) ≤ 2000 := by have := hmn.out; omega
    by_cases hlt : (j : Int) < manyN c c.loss.length
    · go_wp2_with (first | (go_at_call 94; refine (HMC.out _ (HQ.out.up HB.out)).mono ?_; rintro e w1 ⟨rfl, hb1⟩; have HB1 := Lib.hid hb1; have HBX1 : Hid (Box w1 w.heap.size (copCs c q)) := HB0.out.bl (by simp) hb1; have hbx1 := HBX1.out; unfold Box copCs at hbx1; clear hb1 k0 k1 k2 k3 k4 k5 k6 k7 k8 k9 k10) | (go_at_call 95; refine (HNC.out j _ (by have := hmn.out; omega) (HQ.out.up (bl_tr HB.out HB1.out))).mono ?_; clear hbx1; rintro e w2 ⟨A, k, rfl, hi2, hA2, hb2⟩; have HB2 : Hid (Below wr.heap.size wr w2) := bl_tr HB1.out hb2; have HI2 := Lib.hid hi2; have HA2 := Lib.hid hA2; have HSZ1 : Hid (wr.heap.size ≤ w1.heap.size) := HB1.out.size; clear hi2 hA2 hb2))
      obtain ⟨W1, hW1⟩ : ∃ W1, w2.alloc (.cells (trCs (nthT c j) A k) 105) = W1 := ⟨_, rfl⟩
      have HW1 : Hid (Below w2.heap.size w2 W1) := by rw [← hW1]; exact bl_al (Below.refl _ _) _
      have HN1 : Hid (Box W1 w2.heap.size (trCs (nthT c j) A k)) := by rw [← hW1]; exact Box.new _ _ _ _
      have HB3 : Hid (Below wr.heap.size wr W1) := bl_tr HB2.out HW1.out
      rw [hW1]
      clear hW1
      have hb0 : Box W1 w.heap.size (copCs c q) := HB0.out.bl (by simp) HB3.out
      have t0 : W1.cell? ⟨w2.heap.size, 0, none⟩ = some (.int .i64 (nthT c j).1) := HN1.out 0
      have t1 : W1.cell? ⟨w2.heap.size, 1, none⟩ = some (.slice A (nthT c j).2.length k) := HN1.out 1
      have k0 : W1.cell? ⟨w.heap.size, 0, none⟩ = some (.int .i64 c.last) := hb0 0
      have k1 : W1.cell? ⟨w.heap.size, 1, none⟩ = some (.int .i64 c.start) := hb0 1
      have k2 : W1.cell? ⟨w.heap.size, 2, none⟩ = some (.int .i64 c.most) := hb0 2
      have k3 : W1.cell? ⟨w.heap.size, 3, none⟩ = some (.int .i64 c.per) := hb0 3
      have k4 : W1.cell? ⟨w.heap.size, 4, none⟩ = some (.int .i64 c.shovels) := hb0 4
      have k5 : W1.cell? ⟨w.heap.size, 5, none⟩ = some (.slice q.a1 c.coal.length q.c1) := hb0 5
      have k6 : W1.cell? ⟨w.heap.size, 6, none⟩ = some (.slice q.a2 c.want.length q.c2) := hb0 6
      have k7 : W1.cell? ⟨w.heap.size, 7, none⟩ = some (.int .i64 c.hlo) := hb0 7
      have k8 : W1.cell? ⟨w.heap.size, 8, none⟩ = some (.int .i64 c.hhi) := hb0 8
      have k9 : W1.cell? ⟨w.heap.size, 9, none⟩ = some (.slice q.a3 c.loss.length q.c3) := hb0 9
      have k10 : W1.cell? ⟨w.heap.size, 10, none⟩ = some (.slice q.a4 c.rds.length q.c4) := hb0 10
      clear hb0
      have HRA : Hid (∀ d, Calls Tryz.prog 96 #[copV c q, trV (nthT c j) A k] (plus W1 d) fun e w' => e = .returned (.int .i64 (bitsN (rdB c (nthT c j)) c.rds.length)) ∧ Below (plus W1 d).heap.size (plus W1 d) w') := fun d => HRC.out j A k _ (HQ.out.up (bl_tr HB.out (bl_pl HB3.out d))) (HI2.out.up (bl_pl HW1.out d))
      refine wp_region_plus (by kernel_rfl) ?_
      repeat (go_big_quiet_step (first | (go_at_call 96; exact Calls.pl (HRA.out _)) | (go_at_call 97; exact Calls.pl (HFC.out _))))
      refine wpQuiet_nil ?_
      rintro _ ⟨d, rfl⟩
      have HBL : Hid (Below wr.heap.size wr (plus W1 d)) := bl_pl HB3.out d
      clear k0 k1 k2 k3 k4 k5 k6 k7 k8 k9 k10
      cases hk : (bitsN (rdB c (nthT c j)) c.rds.length == fullN c.rds.length) with
      | false =>
        have HST : Hid (truthsN c (j + 1) = truthsN c j) := by unfold Hid; simp only [truthsN]; rw [if_neg (by rw [hk]; simp)]; simp
        clear t0 t1
        go_wp2
        go_roundw
        case rel => exact ⟨j + 1, xs, by omega, by go_num, bl_tr HB.out HBL.out, HB0.out.bl (by simp) HBL.out, by rw [HST.out]; exact own_below HROW.out HBL.out, by rw [HST.out]; exact HTR.out.bl HBL.out⟩
        case measure => simp [intOf]; omega
      | true =>
        have HST : Hid (truthsN c (j + 1) = truthsN c j ++ [nthT c j]) := by unfold Hid; simp only [truthsN]; rw [if_pos hk]
        have HLN : Hid ((truthsN c j).length ≤ 1000000) := by have := truthsN_len c j; have := hmn.out; unfold Hid; omega
        have HROW1 := Lib.hid (own_below HROW.out HBL.out)
        have u0 : (plus W1 d).cell? ⟨w2.heap.size, 0, none⟩ = some (.int .i64 (nthT c j).1) := cell_later (bl_pl (Below.refl _ _) d) t0
        have u1 : (plus W1 d).cell? ⟨w2.heap.size, 1, none⟩ = some (.slice A (nthT c j).2.length k) := cell_later (bl_pl (Below.refl _ _) d) t1
        generalize hW2 : plus W1 d = W2 at *
        clear t0 t1
        go_wp2_with (refine wpList_append_k rfl (w.heap.size + 1) _ _ 57 105 _ 2 32 rfl Tryz.underlying57 info105 rfl (by decide) (by decide) (.slice A0 (truthsN c j).length k0) (truthsN c j).length xs [.int .i64 (nthT c j).1, .slice A (nthT c j).2.length k] W2.heap.size rfl rfl (World.alloc_heap_new W2 _) rfl (by simp [Value.oneCell']) (HROW1.out.alloc _) (by have h1 := HBL.out.size; have h2 := HSZ0.out; simp; omega) HLN.out ?_; intro v1 w8 ho8 hg8 hat8; obtain ⟨A5, k5, rfl⟩ := own_shape6 ho8; have HO8 := Lib.hid ho8; have HG8 := Lib.hid hg8; have HAT8 := Lib.hid hat8; clear ho8 hg8 hat8)
        go_roundw
        case rel =>
          have hgr : Grown (fun k => some k = (Value.slice A0 (truthsN c j).length k0).ownBlock) W2 w8 := ((Grown.refl _ W2).alloc _).trans ⟨HG8.out.os, HG8.out.tape, HG8.out.output, HG8.out.size, fun k hk hn => HG8.out.block k hk (fun e => hn e)⟩
          have hbl8 : Below wr.heap.size wr w8 → True := fun _ => trivial
          have hw8 : Below w.heap.size w w8 := (bl_tr HB.out HBL.out).trans (hgr.below (by have h1 := HBL.out.size; have h2 := HSZ0.out; omega) (fun k hk => by have := (HROW.out.lt k hk.symm).1; omega))
          have hbx8 : Box w8 w.heap.size (copCs c q) := hgr.box (HB0.out.bl (by simp) HBL.out) (by have h1 := HBL.out.size; have h2 := HSZ0.out; omega) (fun e => by have := (HROW.out.lt _ e.symm).1; omega)
          have hWW : Below w2.heap.size w2 W2 := by rw [← hW2]; exact bl_pl HW1.out d
          have hA : ∀ b o, A = some ⟨b, o, none⟩ → some b ≠ (Value.slice A0 (truthsN c j).length k0).ownBlock ∧ b < W2.heap.size := fun b o e => by
            have h1 := HA2.out b o e
            refine ⟨fun e2 => ?_, Nat.lt_of_lt_of_le h1.2 hWW.size⟩
            have h3 := (HROW.out.lt b e2.symm).2
            have h4 := HSZ1.out
            omega
          have htr2 : TrRow W2 (Value.slice A0 (truthsN c j).length k0).ownBlock (truthsN c j ++ [nthT c j]) (xs ++ [.int .i64 (nthT c j).1, .slice A (nthT c j).2.length k]) := (HTR.out.bl HBL.out).snoc _ _ _ (HI2.out.up hWW) hA
          have htr8 := htr2.grown hgr
          refine ⟨j + 1, _, by omega, by go_num, hw8, hbx8, by rw [HST.out, List.length_append]; exact HO8.out, ?_⟩
          rw [HST.out]
          rcases HAT8.out with h | h
          · rw [h]; exact htr8
          · have h2 := htr2.move (vb' := (Value.slice A5 ((truthsN c j).length + 1) k5).ownBlock) (.inr ⟨_, h, by simp⟩)
            refine ⟨htr8.1, fun i hi => ?_⟩
            obtain ⟨B1, l1, x1, x2, x3, x4⟩ := h2.2 i hi
            obtain ⟨B2, l2, y1, y2, y3, y4⟩ := htr8.2 i hi
            have e : B1 = B2 := by rw [x2] at y2; injection y2 with y2; injection y2
            subst e
            exact ⟨B1, l2, y1, y2, y3, fun b o e => ⟨(x4 b o e).1, (y4 b o e).2⟩⟩
        case measure => simp [intOf]; omega
    · have hjn : (manyN c c.loss.length).toNat = j := by have := hm1.out; omega
      obtain ⟨A1, c1, he, hta⟩ := own_truths HROW.out HTR.out
      have HTA := Lib.hid hta
      have HE := Lib.hid he
      have HJN : Hid (truthsR c = truthsN c j) := by unfold Hid truthsR; rw [hjn]
      clear he hta hjn
      go_wp2_with (go_at_call 94; refine (HMC.out _ (HQ.out.up HB.out)).mono ?_; rintro e w1 ⟨rfl, hb1⟩; have HB1 := Lib.hid hb1; clear hb1 k0 k1 k2 k3 k4 k5 k6 k7 k8 k9 k10)
      go_ret
      exact ⟨A1, c1, by rw [HJN.out, ← HE.out]; rfl, by rw [HJN.out]; exact HTA.out.up HB1.out, bl_tr HB.out HB1.out⟩
end Go.Proofs.YtpgnplmjfhdncaaGreat
/- The reference's Fault of coppers. -/
namespace Go.Proofs.YtpgnplmjfhdncaaGreat
open Go.RowKit
set_option linter.unusedVariables false
set_option maxRecDepth 100000 in
set_option maxHeartbeats 4000000 in
theorem fault_1a (c : Cop) (q : CA) (w : World) (h1 : decide (4 < c.last) = true) :
    Calls Tryz.prog 51 #[copV c q] w fun e w' => e = .returned (.int .i64 3) ∧ Below w.heap.size w w' := by
  go_enter Tryz.func51, Tryz.ntmps51
  go_wp2
  go_ret
  exact ⟨rfl, bl_al (Below.refl _ _) _⟩
set_option maxRecDepth 100000 in
set_option maxHeartbeats 4000000 in
theorem fault_1b (c : Cop) (q : CA) (w : World) (h1 : decide (4 < c.last) = false) (h2 : decide ((5 : Int) < (c.rds.length : Int)) = true) :
    Calls Tryz.prog 51 #[copV c q] w fun e w' => e = .returned (.int .i64 3) ∧ Below w.heap.size w w' := by
  go_enter Tryz.func51, Tryz.ntmps51
  go_wp2
  go_ret
  exact ⟨rfl, bl_al (Below.refl _ _) _⟩
set_option maxRecDepth 100000 in
set_option maxHeartbeats 4000000 in
theorem fault_2a (c : Cop) (q : CA) (w : World) (hq : CopAt w w.heap.size c q) (hn1 : c.coal.length ≤ 1000000) (hn2 : c.want.length ≤ 1000000) (hn3 : c.loss.length ≤ 1000000) (hn4 : c.rds.length ≤ 1000000) (h1 : decide (4 < c.last) = false) (h2 : decide ((5 : Int) < (c.rds.length : Int)) = false) (v1 : decide (c.last < 0) = true) :
    Calls Tryz.prog 51 #[copV c q] w fun e w' => e = .returned (.int .i64 1) ∧ Below w.heap.size w w' := by
  have HQ := Lib.hid hq
  clear hq
  go_enter Tryz.func51, Tryz.ntmps51
  go_wp2_with (first | (go_at_call 38; refine (in_c _ _ _ _).mono ?_; rintro e w1 ⟨rfl, rfl⟩) | (go_at_call 107; refine (each_c c q _ _ _ _ _ (by omega) (by omega) (by first | exact hn1 | exact hn2) (by first | exact (HQ.out.coal.up (by repeat (first | exact Below.refl _ _ | refine bl_al ?_ _ | refine bl_pl ?_ _))) | exact (HQ.out.want.up (by repeat (first | exact Below.refl _ _ | refine bl_al ?_ _ | refine bl_pl ?_ _))))).mono ?_; rintro e w1 ⟨rfl, hb⟩; obtain ⟨d, rfl⟩ := below_plus hb; clear hb) | (go_at_call 108; refine (rinside_c _ _ _ _).mono ?_; rintro e w1 ⟨rfl, hb⟩; obtain ⟨d, rfl⟩ := below_plus hb; clear hb))
  go_ret
  exact ⟨rfl, by repeat (first | exact bl_al (Below.refl _ _) _ | refine bl_pl ?_ _)⟩
set_option maxRecDepth 100000 in
set_option maxHeartbeats 4000000 in
theorem fault_2b (c : Cop) (q : CA) (w : World) (hq : CopAt w w.heap.size c q) (hn1 : c.coal.length ≤ 1000000) (hn2 : c.want.length ≤ 1000000) (hn3 : c.loss.length ≤ 1000000) (hn4 : c.rds.length ≤ 1000000) (h1 : decide (4 < c.last) = false) (h2 : decide ((5 : Int) < (c.rds.length : Int)) = false) (v1 : decide (c.last < 0) = false) (v2 : within c.most 0 999 = false) :
    Calls Tryz.prog 51 #[copV c q] w fun e w' => e = .returned (.int .i64 1) ∧ Below w.heap.size w w' := by
  have HQ := Lib.hid hq
  clear hq
  have hl0 : 0 ≤ c.last := by simpa using v1
  have hl4 : c.last ≤ 4 := by simpa using h1
  go_enter Tryz.func51, Tryz.ntmps51
  go_wp2_with (first | (go_at_call 38; refine (in_c _ _ _ _).mono ?_; rintro e w1 ⟨rfl, rfl⟩) | (go_at_call 107; refine (each_c c q _ _ _ _ _ (by omega) (by omega) (by first | exact hn1 | exact hn2) (by first | exact (HQ.out.coal.up (by repeat (first | exact Below.refl _ _ | refine bl_al ?_ _ | refine bl_pl ?_ _))) | exact (HQ.out.want.up (by repeat (first | exact Below.refl _ _ | refine bl_al ?_ _ | refine bl_pl ?_ _))))).mono ?_; rintro e w1 ⟨rfl, hb⟩; obtain ⟨d, rfl⟩ := below_plus hb; clear hb) | (go_at_call 108; refine (rinside_c _ _ _ _).mono ?_; rintro e w1 ⟨rfl, hb⟩; obtain ⟨d, rfl⟩ := below_plus hb; clear hb))
  go_ret
  exact ⟨rfl, by repeat (first | exact bl_al (Below.refl _ _) _ | refine bl_pl ?_ _)⟩
set_option maxRecDepth 100000 in
set_option maxHeartbeats 4000000 in
theorem fault_2c (c : Cop) (q : CA) (w : World) (hq : CopAt w w.heap.size c q) (hn1 : c.coal.length ≤ 1000000) (hn2 : c.want.length ≤ 1000000) (hn3 : c.loss.length ≤ 1000000) (hn4 : c.rds.length ≤ 1000000) (h1 : decide (4 < c.last) = false) (h2 : decide ((5 : Int) < (c.rds.length : Int)) = false) (v1 : decide (c.last < 0) = false) (v2 : within c.most 0 999 = true) (v3 : within c.start 0 c.most = false) :
    Calls Tryz.prog 51 #[copV c q] w fun e w' => e = .returned (.int .i64 1) ∧ Below w.heap.size w w' := by
  have HQ := Lib.hid hq
  clear hq
  have hl0 : 0 ≤ c.last := by simpa using v1
  have hl4 : c.last ≤ 4 := by simpa using h1
  go_enter Tryz.func51, Tryz.ntmps51
  go_wp2_with (first | (go_at_call 38; refine (in_c _ _ _ _).mono ?_; rintro e w1 ⟨rfl, rfl⟩) | (go_at_call 107; refine (each_c c q _ _ _ _ _ (by omega) (by omega) (by first | exact hn1 | exact hn2) (by first | exact (HQ.out.coal.up (by repeat (first | exact Below.refl _ _ | refine bl_al ?_ _ | refine bl_pl ?_ _))) | exact (HQ.out.want.up (by repeat (first | exact Below.refl _ _ | refine bl_al ?_ _ | refine bl_pl ?_ _))))).mono ?_; rintro e w1 ⟨rfl, hb⟩; obtain ⟨d, rfl⟩ := below_plus hb; clear hb) | (go_at_call 108; refine (rinside_c _ _ _ _).mono ?_; rintro e w1 ⟨rfl, hb⟩; obtain ⟨d, rfl⟩ := below_plus hb; clear hb))
  go_ret
  exact ⟨rfl, by repeat (first | exact bl_al (Below.refl _ _) _ | refine bl_pl ?_ _)⟩
set_option maxRecDepth 100000 in
set_option maxHeartbeats 4000000 in
theorem fault_2d (c : Cop) (q : CA) (w : World) (hq : CopAt w w.heap.size c q) (hn1 : c.coal.length ≤ 1000000) (hn2 : c.want.length ≤ 1000000) (hn3 : c.loss.length ≤ 1000000) (hn4 : c.rds.length ≤ 1000000) (h1 : decide (4 < c.last) = false) (h2 : decide ((5 : Int) < (c.rds.length : Int)) = false) (v1 : decide (c.last < 0) = false) (v2 : within c.most 0 999 = true) (v3 : within c.start 0 c.most = true) (v4 : within c.per 1 20 = false) :
    Calls Tryz.prog 51 #[copV c q] w fun e w' => e = .returned (.int .i64 1) ∧ Below w.heap.size w w' := by
  have HQ := Lib.hid hq
  clear hq
  have hl0 : 0 ≤ c.last := by simpa using v1
  have hl4 : c.last ≤ 4 := by simpa using h1
  go_enter Tryz.func51, Tryz.ntmps51
  go_wp2_with (first | (go_at_call 38; refine (in_c _ _ _ _).mono ?_; rintro e w1 ⟨rfl, rfl⟩) | (go_at_call 107; refine (each_c c q _ _ _ _ _ (by omega) (by omega) (by first | exact hn1 | exact hn2) (by first | exact (HQ.out.coal.up (by repeat (first | exact Below.refl _ _ | refine bl_al ?_ _ | refine bl_pl ?_ _))) | exact (HQ.out.want.up (by repeat (first | exact Below.refl _ _ | refine bl_al ?_ _ | refine bl_pl ?_ _))))).mono ?_; rintro e w1 ⟨rfl, hb⟩; obtain ⟨d, rfl⟩ := below_plus hb; clear hb) | (go_at_call 108; refine (rinside_c _ _ _ _).mono ?_; rintro e w1 ⟨rfl, hb⟩; obtain ⟨d, rfl⟩ := below_plus hb; clear hb))
  go_ret
  exact ⟨rfl, by repeat (first | exact bl_al (Below.refl _ _) _ | refine bl_pl ?_ _)⟩
set_option maxRecDepth 100000 in
set_option maxHeartbeats 4000000 in
theorem fault_2e (c : Cop) (q : CA) (w : World) (hq : CopAt w w.heap.size c q) (hn1 : c.coal.length ≤ 1000000) (hn2 : c.want.length ≤ 1000000) (hn3 : c.loss.length ≤ 1000000) (hn4 : c.rds.length ≤ 1000000) (h1 : decide (4 < c.last) = false) (h2 : decide ((5 : Int) < (c.rds.length : Int)) = false) (v1 : decide (c.last < 0) = false) (v2 : within c.most 0 999 = true) (v3 : within c.start 0 c.most = true) (v4 : within c.per 1 20 = true) (v5 : within c.shovels 0 3 = false) :
    Calls Tryz.prog 51 #[copV c q] w fun e w' => e = .returned (.int .i64 1) ∧ Below w.heap.size w w' := by
  have HQ := Lib.hid hq
  clear hq
  have hl0 : 0 ≤ c.last := by simpa using v1
  have hl4 : c.last ≤ 4 := by simpa using h1
  go_enter Tryz.func51, Tryz.ntmps51
  go_wp2_with (first | (go_at_call 38; refine (in_c _ _ _ _).mono ?_; rintro e w1 ⟨rfl, rfl⟩) | (go_at_call 107; refine (each_c c q _ _ _ _ _ (by omega) (by omega) (by first | exact hn1 | exact hn2) (by first | exact (HQ.out.coal.up (by repeat (first | exact Below.refl _ _ | refine bl_al ?_ _ | refine bl_pl ?_ _))) | exact (HQ.out.want.up (by repeat (first | exact Below.refl _ _ | refine bl_al ?_ _ | refine bl_pl ?_ _))))).mono ?_; rintro e w1 ⟨rfl, hb⟩; obtain ⟨d, rfl⟩ := below_plus hb; clear hb) | (go_at_call 108; refine (rinside_c _ _ _ _).mono ?_; rintro e w1 ⟨rfl, hb⟩; obtain ⟨d, rfl⟩ := below_plus hb; clear hb))
  go_ret
  exact ⟨rfl, by repeat (first | exact bl_al (Below.refl _ _) _ | refine bl_pl ?_ _)⟩
set_option maxRecDepth 100000 in
set_option maxHeartbeats 4000000 in
theorem fault_2f (c : Cop) (q : CA) (w : World) (hq : CopAt w w.heap.size c q) (hn1 : c.coal.length ≤ 1000000) (hn2 : c.want.length ≤ 1000000) (hn3 : c.loss.length ≤ 1000000) (hn4 : c.rds.length ≤ 1000000) (h1 : decide (4 < c.last) = false) (h2 : decide ((5 : Int) < (c.rds.length : Int)) = false) (v1 : decide (c.last < 0) = false) (v2 : within c.most 0 999 = true) (v3 : within c.start 0 c.most = true) (v4 : within c.per 1 20 = true) (v5 : within c.shovels 0 3 = true) (v6 : eachB c.last c.shovels c.coal = false) :
    Calls Tryz.prog 51 #[copV c q] w fun e w' => e = .returned (.int .i64 1) ∧ Below w.heap.size w w' := by
  have HQ := Lib.hid hq
  clear hq
  have hl0 : 0 ≤ c.last := by simpa using v1
  have hl4 : c.last ≤ 4 := by simpa using h1
  go_enter Tryz.func51, Tryz.ntmps51
  go_wp2_with (first | (go_at_call 38; refine (in_c _ _ _ _).mono ?_; rintro e w1 ⟨rfl, rfl⟩) | (go_at_call 107; refine (each_c c q _ _ _ _ _ (by omega) (by omega) (by first | exact hn1 | exact hn2) (by first | exact (HQ.out.coal.up (by repeat (first | exact Below.refl _ _ | refine bl_al ?_ _ | refine bl_pl ?_ _))) | exact (HQ.out.want.up (by repeat (first | exact Below.refl _ _ | refine bl_al ?_ _ | refine bl_pl ?_ _))))).mono ?_; rintro e w1 ⟨rfl, hb⟩; obtain ⟨d, rfl⟩ := below_plus hb; clear hb) | (go_at_call 108; refine (rinside_c _ _ _ _).mono ?_; rintro e w1 ⟨rfl, hb⟩; obtain ⟨d, rfl⟩ := below_plus hb; clear hb))
  go_ret
  exact ⟨rfl, by repeat (first | exact bl_al (Below.refl _ _) _ | refine bl_pl ?_ _)⟩
set_option maxRecDepth 100000 in
set_option maxHeartbeats 4000000 in
theorem fault_2g (c : Cop) (q : CA) (w : World) (hq : CopAt w w.heap.size c q) (hn1 : c.coal.length ≤ 1000000) (hn2 : c.want.length ≤ 1000000) (hn3 : c.loss.length ≤ 1000000) (hn4 : c.rds.length ≤ 1000000) (h1 : decide (4 < c.last) = false) (h2 : decide ((5 : Int) < (c.rds.length : Int)) = false) (v1 : decide (c.last < 0) = false) (v2 : within c.most 0 999 = true) (v3 : within c.start 0 c.most = true) (v4 : within c.per 1 20 = true) (v5 : within c.shovels 0 3 = true) (v6 : eachB c.last c.shovels c.coal = true) (v7 : eachB c.last 20 c.want = false) :
    Calls Tryz.prog 51 #[copV c q] w fun e w' => e = .returned (.int .i64 1) ∧ Below w.heap.size w w' := by
  have HQ := Lib.hid hq
  clear hq
  have hl0 : 0 ≤ c.last := by simpa using v1
  have hl4 : c.last ≤ 4 := by simpa using h1
  go_enter Tryz.func51, Tryz.ntmps51
  go_wp2_with (first | (go_at_call 38; refine (in_c _ _ _ _).mono ?_; rintro e w1 ⟨rfl, rfl⟩) | (go_at_call 107; refine (each_c c q _ _ _ _ _ (by omega) (by omega) (by first | exact hn1 | exact hn2) (by first | exact (HQ.out.coal.up (by repeat (first | exact Below.refl _ _ | refine bl_al ?_ _ | refine bl_pl ?_ _))) | exact (HQ.out.want.up (by repeat (first | exact Below.refl _ _ | refine bl_al ?_ _ | refine bl_pl ?_ _))))).mono ?_; rintro e w1 ⟨rfl, hb⟩; obtain ⟨d, rfl⟩ := below_plus hb; clear hb) | (go_at_call 108; refine (rinside_c _ _ _ _).mono ?_; rintro e w1 ⟨rfl, hb⟩; obtain ⟨d, rfl⟩ := below_plus hb; clear hb))
  go_ret
  exact ⟨rfl, by repeat (first | exact bl_al (Below.refl _ _) _ | refine bl_pl ?_ _)⟩
set_option maxRecDepth 100000 in
set_option maxHeartbeats 4000000 in
theorem fault_2h (c : Cop) (q : CA) (w : World) (hq : CopAt w w.heap.size c q) (hn1 : c.coal.length ≤ 1000000) (hn2 : c.want.length ≤ 1000000) (hn3 : c.loss.length ≤ 1000000) (hn4 : c.rds.length ≤ 1000000) (h1 : decide (4 < c.last) = false) (h2 : decide ((5 : Int) < (c.rds.length : Int)) = false) (v1 : decide (c.last < 0) = false) (v2 : within c.most 0 999 = true) (v3 : within c.start 0 c.most = true) (v4 : within c.per 1 20 = true) (v5 : within c.shovels 0 3 = true) (v6 : eachB c.last c.shovels c.coal = true) (v7 : eachB c.last 20 c.want = true) (v8 : okR 99 c.hlo c.hhi = false) :
    Calls Tryz.prog 51 #[copV c q] w fun e w' => e = .returned (.int .i64 1) ∧ Below w.heap.size w w' := by
  have HQ := Lib.hid hq
  clear hq
  have hl0 : 0 ≤ c.last := by simpa using v1
  have hl4 : c.last ≤ 4 := by simpa using h1
  go_enter Tryz.func51, Tryz.ntmps51
  go_wp2_with (first | (go_at_call 38; refine (in_c _ _ _ _).mono ?_; rintro e w1 ⟨rfl, rfl⟩) | (go_at_call 107; refine (each_c c q _ _ _ _ _ (by omega) (by omega) (by first | exact hn1 | exact hn2) (by first | exact (HQ.out.coal.up (by repeat (first | exact Below.refl _ _ | refine bl_al ?_ _ | refine bl_pl ?_ _))) | exact (HQ.out.want.up (by repeat (first | exact Below.refl _ _ | refine bl_al ?_ _ | refine bl_pl ?_ _))))).mono ?_; rintro e w1 ⟨rfl, hb⟩; obtain ⟨d, rfl⟩ := below_plus hb; clear hb) | (go_at_call 108; refine (rinside_c _ _ _ _).mono ?_; rintro e w1 ⟨rfl, hb⟩; obtain ⟨d, rfl⟩ := below_plus hb; clear hb))
  go_ret
  exact ⟨rfl, by repeat (first | exact bl_al (Below.refl _ _) _ | refine bl_pl ?_ _)⟩
set_option maxRecDepth 100000 in
set_option maxHeartbeats 4000000 in
theorem fault_2i (c : Cop) (q : CA) (w : World) (hq : CopAt w w.heap.size c q) (hn1 : c.coal.length ≤ 1000000) (hn2 : c.want.length ≤ 1000000) (hn3 : c.loss.length ≤ 1000000) (hn4 : c.rds.length ≤ 1000000) (h1 : decide (4 < c.last) = false) (h2 : decide ((5 : Int) < (c.rds.length : Int)) = false) (v1 : decide (c.last < 0) = false) (v2 : within c.most 0 999 = true) (v3 : within c.start 0 c.most = true) (v4 : within c.per 1 20 = true) (v5 : within c.shovels 0 3 = true) (v6 : eachB c.last c.shovels c.coal = true) (v7 : eachB c.last 20 c.want = true) (v8 : okR 99 c.hlo c.hhi = true) (v9 : ((c.loss.length : Int) != c.last + 1) = true) :
    Calls Tryz.prog 51 #[copV c q] w fun e w' => e = .returned (.int .i64 1) ∧ Below w.heap.size w w' := by
  have HQ := Lib.hid hq
  clear hq
  have hl0 : 0 ≤ c.last := by simpa using v1
  have hl4 : c.last ≤ 4 := by simpa using h1
  go_enter Tryz.func51, Tryz.ntmps51
  go_wp2_with (first | (go_at_call 38; refine (in_c _ _ _ _).mono ?_; rintro e w1 ⟨rfl, rfl⟩) | (go_at_call 107; refine (each_c c q _ _ _ _ _ (by omega) (by omega) (by first | exact hn1 | exact hn2) (by first | exact (HQ.out.coal.up (by repeat (first | exact Below.refl _ _ | refine bl_al ?_ _ | refine bl_pl ?_ _))) | exact (HQ.out.want.up (by repeat (first | exact Below.refl _ _ | refine bl_al ?_ _ | refine bl_pl ?_ _))))).mono ?_; rintro e w1 ⟨rfl, hb⟩; obtain ⟨d, rfl⟩ := below_plus hb; clear hb) | (go_at_call 108; refine (rinside_c _ _ _ _).mono ?_; rintro e w1 ⟨rfl, hb⟩; obtain ⟨d, rfl⟩ := below_plus hb; clear hb))
  go_ret
  exact ⟨rfl, by repeat (first | exact bl_al (Below.refl _ _) _ | refine bl_pl ?_ _)⟩
def okL (c : Cop) (j : Nat) : Bool := okR 99 (p1 c.loss j) (p2 c.loss j)
def okD (c : Cop) (j : Nat) : Bool := okRd c.last (t1 c.rds j) (t2 c.rds j) (t3 c.rds j)
def faultZ (c : Cop) : Int := if allN (okL c) c.loss.length = false then 1 else if allN (okD c) c.rds.length = false then 1 else if 2000 < manyN c c.loss.length then 3 else 0
set_option maxRecDepth 100000 in
set_option maxHeartbeats 4000000 in
theorem fault_z (c : Cop) (q : CA) (w : World) (hq : CopAt w w.heap.size c q) (hn1 : c.coal.length ≤ 1000000) (hn2 : c.want.length ≤ 1000000) (hn3 : c.loss.length ≤ 1000000) (hn4 : c.rds.length ≤ 1000000) (h1 : decide (4 < c.last) = false) (h2 : decide ((5 : Int) < (c.rds.length : Int)) = false) (v1 : decide (c.last < 0) = false) (v2 : within c.most 0 999 = true) (v3 : within c.start 0 c.most = true) (v4 : within c.per 1 20 = true) (v5 : within c.shovels 0 3 = true) (v6 : eachB c.last c.shovels c.coal = true) (v7 : eachB c.last 20 c.want = true) (v8 : okR 99 c.hlo c.hhi = true) (v9 : ((c.loss.length : Int) != c.last + 1) = false) :
    Calls Tryz.prog 51 #[copV c q] w fun e w' => e = .returned (.int .i64 (faultZ c)) ∧ Below w.heap.size w w' := by
  have HQ := Lib.hid hq
  clear hq
  have hl0 : 0 ≤ c.last := by simpa using v1
  have hl4 : c.last ≤ 4 := by simpa using h1
  have HH := Lib.hid v8
  have HLL : Hid ((c.loss.length : Int) = c.last + 1) := by unfold Hid; simpa using v9
  go_enter Tryz.func51, Tryz.ntmps51
  go_wp2_with (first | (go_at_call 38; refine (in_c _ _ _ _).mono ?_; rintro e w1 ⟨rfl, rfl⟩) | (go_at_call 107; refine (each_c c q _ _ _ _ _ (by omega) (by omega) (by first | exact hn1 | exact hn2) (by first | exact (HQ.out.coal.up (by repeat (first | exact Below.refl _ _ | refine bl_al ?_ _ | refine bl_pl ?_ _))) | exact (HQ.out.want.up (by repeat (first | exact Below.refl _ _ | refine bl_al ?_ _ | refine bl_pl ?_ _))))).mono ?_; rintro e w1 ⟨rfl, hb⟩; obtain ⟨d, rfl⟩ := below_plus hb; clear hb) | (go_at_call 108; refine (rinside_c _ _ _ _).mono ?_; rintro e w1 ⟨rfl, hb⟩; obtain ⟨d, rfl⟩ := below_plus hb; clear hb))
  clear v1 v2 v3 v4 v5 v6 v7 v8 v9 h1 h2
  go_loopw [3] (fun i wr => ∃ j : Nat, j ≤ c.loss.length ∧ i = .int .i64 j ∧ Below w.heap.size w wr ∧ Box wr w.heap.size (copCs c q) ∧ idxN (fun j => !okL c j) 0 c.loss.length = idxN (fun j => !okL c j) j (c.loss.length - j)) (fun i _ => c.loss.length - (intOf i).toNat)
  case atStart => exact ⟨0, Nat.zero_le _, rfl, by repeat (first | exact Below.refl _ _ | refine bl_al ?_ _ | refine bl_pl ?_ _), by repeat (first | exact Box.new _ _ _ _ | (refine Box.plus ?_ _ (by simp))), rfl⟩
  case round =>
    obtain ⟨j, hj, rfl, hb, hb0, hi⟩ := hrel
    have HB := Lib.hid hb
    have HB0 := Lib.hid hb0
    have HI := Lib.hid hi
    have k9 : wr.cell? ⟨w.heap.size, 9, none⟩ = some (.slice q.a3 c.loss.length q.c3) := hb0 9
    have k10 : wr.cell? ⟨w.heap.size, 10, none⟩ = some (.slice q.a4 c.rds.length q.c4) := hb0 10
    clear hb hb0 hi
    by_cases hlt : j < c.loss.length
    · obtain ⟨b, o, ha⟩ := HQ.out.loss.some_ (by omega)
      have hx' := HQ.out.loss
      rw [ha] at hx' k9
      obtain ⟨e1, e2⟩ := (hx'.below HB.out).get j hlt
      have hj1 : (j : Int) < (c.loss.length : Int) := by omega
      clear hx' ha k10
      cases hk : okL c j with
      | false =>
        have HC : Hid (∀ w, Calls Tryz.prog 108 #[.agg #[.int .i64 (p1 c.loss j), .int .i64 (p2 c.loss j)], .int .i64 99] w fun e w' => e = .returned (.bool false) ∧ Below w.heap.size w w') := fun w => by have := rinside_c (p1 c.loss j) (p2 c.loss j) 99 w; rw [show okR 99 (p1 c.loss j) (p2 c.loss j) = false from hk] at this; exact this
        have HF : Hid (faultZ c = 1) := by
          have h3 := idxN_hit hlt HI.out (by simp [hk])
          have h4 : allN (okL c) c.loss.length = false := by unfold allN anyN; simp [h3]
          unfold Hid faultZ
          rw [if_pos h4]
        clear hk
        go_wp2_with (go_at_call 108; refine (HC.out _).mono ?_; rintro e w5 ⟨rfl, hb5⟩; have HB5 := Lib.hid hb5; clear hb5)
        go_ret
        exact ⟨by rw [HF.out]; rfl, bl_tr HB.out HB5.out⟩
      | true =>
        have HC : Hid (∀ w, Calls Tryz.prog 108 #[.agg #[.int .i64 (p1 c.loss j), .int .i64 (p2 c.loss j)], .int .i64 99] w fun e w' => e = .returned (.bool true) ∧ Below w.heap.size w w') := fun w => by have := rinside_c (p1 c.loss j) (p2 c.loss j) 99 w; rw [show okR 99 (p1 c.loss j) (p2 c.loss j) = true from hk] at this; exact this
        have HJ := Lib.hid (idxN_step hlt HI.out (by simp [hk]))
        clear hk
        go_wp2_with (go_at_call 108; refine (HC.out _).mono ?_; rintro e w5 ⟨rfl, hb5⟩; have HB5 := Lib.hid hb5; clear hb5)
        go_roundw
        case rel => exact ⟨j + 1, by omega, by go_num, bl_tr HB.out HB5.out, HB0.out.bl (by simp) HB5.out, HJ.out⟩
        case measure => simp [intOf]; omega
    · have HAL : Hid (allN (okL c) c.loss.length = true) := by
        have hje : j = c.loss.length := by omega
        subst hje
        unfold Hid allN
        rw [idxN_nott (idxN_end HI.out)]
        rfl
      have hlen : ¬ ((j : Int) < (c.loss.length : Int)) := by omega
      clear k10
      go_wp2
      clear k9 hlt hlen
      go_loopw [4] (fun i w2 => ∃ j : Nat, j ≤ c.rds.length ∧ i = .int .i64 j ∧ Below w.heap.size w w2 ∧ Box w2 w.heap.size (copCs c q) ∧ idxN (fun j => !okD c j) 0 c.rds.length = idxN (fun j => !okD c j) j (c.rds.length - j)) (fun i _ => c.rds.length - (intOf i).toNat)
      case atStart => exact ⟨0, Nat.zero_le _, rfl, HB.out, HB0.out, rfl⟩
      case round =>
        clear HI HB HB0
        obtain ⟨j, hj, rfl, hb, hb0, hi⟩ := hrel
        have HB := Lib.hid hb
        have HB0 := Lib.hid hb0
        have HI := Lib.hid hi
        have k0 : wr.cell? ⟨w.heap.size, 0, none⟩ = some (.int .i64 c.last) := hb0 0
        have k10 : wr.cell? ⟨w.heap.size, 10, none⟩ = some (.slice q.a4 c.rds.length q.c4) := hb0 10
        clear hi
        by_cases hlt : j < c.rds.length
        · obtain ⟨b, o, ha⟩ := HQ.out.rds.some_ (by omega)
          have hx' := HQ.out.rds
          rw [ha] at hx' k10
          obtain ⟨e1, e2, e3⟩ := (hx'.below HB.out).get j hlt
          have hj1 : (j : Int) < (c.rds.length : Int) := by omega
          clear hx' ha hb hb0
          cases hk1 : within (t1 c.rds j) 0 c.last with
          | false =>
            have HC : Hid (∀ w, Calls Tryz.prog 38 #[.int .i64 (t1 c.rds j), .int .i64 0, .int .i64 c.last] w fun e w' => e = .returned (.bool false) ∧ Below w.heap.size w w') := fun w => by have h := in_c (t1 c.rds j) 0 c.last w; rw [hk1] at h; exact h.mono fun e w' ⟨he, hw⟩ => ⟨he, by subst hw; exact Below.refl _ _⟩
            have HF : Hid (faultZ c = 1) := by
              have h3 := idxN_hit hlt HI.out (by simp [okD, okRd, hk1])
              have h4 : allN (okD c) c.rds.length = false := by unfold allN anyN; simp [h3]
              unfold Hid faultZ
              rw [if_neg (by rw [HAL.out]; simp), if_pos h4]
            clear hk1
            go_wp2
            refine wp_region_plus (by kernel_rfl) ?_
            repeat (go_big_quiet_step ((go_at_call 38; exact Calls.pl (HC.out _))))
            refine wpQuiet_nil ?_
            rintro _ ⟨d, rfl⟩
            go_wp2
            go_ret
            exact ⟨by rw [HF.out]; rfl, bl_pl HB.out d⟩
          | true =>
            have HC : Hid (∀ w, Calls Tryz.prog 38 #[.int .i64 (t1 c.rds j), .int .i64 0, .int .i64 c.last] w fun e w' => e = .returned (.bool true) ∧ Below w.heap.size w w') := fun w => by have h := in_c (t1 c.rds j) 0 c.last w; rw [hk1] at h; exact h.mono fun e w' ⟨he, hw⟩ => ⟨he, by subst hw; exact Below.refl _ _⟩
            cases hk2 : okR 999 (t2 c.rds j) (t3 c.rds j) with
            | false =>
              have HC2 : Hid (∀ w, Calls Tryz.prog 108 #[.agg #[.int .i64 (t2 c.rds j), .int .i64 (t3 c.rds j)], .int .i64 999] w fun e w' => e = .returned (.bool false) ∧ Below w.heap.size w w') := fun w => by have := rinside_c (t2 c.rds j) (t3 c.rds j) 999 w; rw [hk2] at this; exact this
              have HF : Hid (faultZ c = 1) := by
                have h3 := idxN_hit hlt HI.out (by simp [okD, okRd, hk1, hk2])
                have h4 : allN (okD c) c.rds.length = false := by unfold allN anyN; simp [h3]
                unfold Hid faultZ
                rw [if_neg (by rw [HAL.out]; simp), if_pos h4]
              clear hk1 hk2
              go_wp2
              refine wp_region_plus (by kernel_rfl) ?_
              repeat (go_big_quiet_step (first | (go_at_call 38; exact Calls.pl (HC.out _)) | (go_at_call 108; exact Calls.pl (HC2.out _))))
              refine wpQuiet_nil ?_
              rintro _ ⟨d, rfl⟩
              go_wp2
              go_ret
              exact ⟨by rw [HF.out]; rfl, bl_pl HB.out d⟩
            | true =>
              have HC2 : Hid (∀ w, Calls Tryz.prog 108 #[.agg #[.int .i64 (t2 c.rds j), .int .i64 (t3 c.rds j)], .int .i64 999] w fun e w' => e = .returned (.bool true) ∧ Below w.heap.size w w') := fun w => by have := rinside_c (t2 c.rds j) (t3 c.rds j) 999 w; rw [hk2] at this; exact this
              have HJ := Lib.hid (idxN_step hlt HI.out (by simp [okD, okRd, hk1, hk2]))
              clear hk1 hk2
              go_wp2
              refine wp_region_plus (by kernel_rfl) ?_
              repeat (go_big_quiet_step (first | (go_at_call 38; exact Calls.pl (HC.out _)) | (go_at_call 108; exact Calls.pl (HC2.out _))))
              refine wpQuiet_nil ?_
              rintro _ ⟨d, rfl⟩
              go_wp2
              go_roundw
              case rel => exact ⟨j + 1, by omega, by go_num, bl_pl HB.out d, HB0.out.bl (by simp) (bl_pl (Below.refl _ _) d), HJ.out⟩
              case measure => simp [intOf]; omega
        · have HAD : Hid (allN (okD c) c.rds.length = true) := by
            have hje : j = c.rds.length := by omega
            subst hje
            unfold Hid allN
            rw [idxN_nott (idxN_end HI.out)]
            rfl
          have HM : Hid (∀ w, CopAt w w.heap.size c q → Calls Tryz.prog 94 #[copV c q] w fun e w' => e = .returned (.int .i64 (manyN c c.loss.length)) ∧ Below w.heap.size w w') := fun w hq => many_c c q w HH.out (fun j hj => (allN_iff _ _).1 HAL.out j hj) hn3 hq.loss
          have hlen : ¬ ((j : Int) < (c.rds.length : Int)) := by omega
          unfold Box copCs at hb0
          clear hb
          by_cases hgt : 2000 < manyN c c.loss.length
          · have HF : Hid (faultZ c = 3) := by
              unfold Hid faultZ
              rw [if_neg (by rw [HAL.out]; simp), if_neg (by rw [HAD.out]; simp), if_pos hgt]
            go_wp2_with (go_at_call 94; refine (HM.out _ (HQ.out.up HB.out)).mono ?_; clear hb0; rintro e w5 ⟨rfl, hb5⟩; have HB5 := Lib.hid hb5; clear hb5)
            go_ret
            exact ⟨by rw [HF.out]; rfl, bl_tr HB.out HB5.out⟩
          · have HF : Hid (faultZ c = 0) := by
              unfold Hid faultZ
              rw [if_neg (by rw [HAL.out]; simp), if_neg (by rw [HAD.out]; simp), if_neg hgt]
            have hle : manyN c c.loss.length ≤ 2000 := by omega
            clear hgt
            go_wp2_with (go_at_call 94; refine (HM.out _ (HQ.out.up HB.out)).mono ?_; clear hb0; rintro e w5 ⟨rfl, hb5⟩; have HB5 := Lib.hid hb5; clear hb5)
            go_ret
            exact ⟨by rw [HF.out]; rfl, bl_tr HB.out HB5.out⟩
/-- **Fault is CheckCopper.** -/
theorem fault_c (c : Cop) (q : CA) (w : World) (hq : CopAt w w.heap.size c q) (hn1 : c.coal.length ≤ 1000000) (hn2 : c.want.length ≤ 1000000) (hn3 : c.loss.length ≤ 1000000) (hn4 : c.rds.length ≤ 1000000) :
    Calls Tryz.prog 51 #[copV c q] w fun e w' => e = .returned (.int .i64 (checkCop c)) ∧ Below w.heap.size w w' := by
  have key : ∀ r : Int, checkCop c = r → Calls Tryz.prog 51 #[copV c q] w fun e w' => e = .returned (.int .i64 r) ∧ Below w.heap.size w w' := by
    intro r hr
    cases h1 : decide (4 < c.last) with
    | true =>
      have : r = 3 := by rw [← hr]; simp [checkCop, bad1, h1]
      rw [this]; exact fault_1a c q w h1
    | false =>
      cases h2 : decide ((5 : Int) < (c.rds.length : Int)) with
      | true =>
        have : r = 3 := by rw [← hr]; simp [checkCop, bad1, h1, h2]
        rw [this]; exact fault_1b c q w h1 h2
      | false =>
        have hb1 : bad1 c = false := by simp only [bad1, h1, h2, Bool.or_self]
        have one : bad2 c = true ∨ bad3 c = true → r = 1 := by
          intro h
          rw [← hr]
          unfold checkCop
          rw [hb1]
          rcases h with h | h
          · rw [h]; simp
          · rw [h]; cases bad2 c <;> simp
        cases v1 : decide (c.last < 0) with
        | true => rw [one (.inl (by simp only [bad2, v1, Bool.true_or]))]; exact fault_2a c q w hq hn1 hn2 hn3 hn4 h1 h2 v1
        | false =>
          cases v2 : within c.most 0 999 with
          | false =>
            refine (one (.inl ?_)) ▸ fault_2b c q w hq hn1 hn2 hn3 hn4 h1 h2 v1 v2
            by_cases hm : 999 < c.most
            · simp [bad2, hm]
            · have h0 : within c.start 0 c.most = false := by
                cases hs : within c.start 0 c.most with
                | false => rfl
                | true =>
                  rw [within_iff] at hs
                  have : within c.most 0 999 = true := within_iff.2 (by omega)
                  rw [v2] at this; cases this
              simp [bad2, h0]
          | true =>
            have hm9 := (within_iff.1 v2).2
            have hm9' : decide (999 < c.most) = false := by simpa using hm9
            cases v3 : within c.start 0 c.most with
            | false => exact (one (.inl (by simp [bad2, v3]))) ▸ fault_2c c q w hq hn1 hn2 hn3 hn4 h1 h2 v1 v2 v3
            | true =>
              cases v4 : within c.per 1 20 with
              | false => exact (one (.inl (by simp [bad2, v4]))) ▸ fault_2d c q w hq hn1 hn2 hn3 hn4 h1 h2 v1 v2 v3 v4
              | true =>
                cases v5 : within c.shovels 0 3 with
                | false => exact (one (.inl (by simp [bad2, v5]))) ▸ fault_2e c q w hq hn1 hn2 hn3 hn4 h1 h2 v1 v2 v3 v4 v5
                | true =>
                  have hb2 : bad2 c = false := by simp only [bad2, v1, v3, hm9', v4, v5]; rfl
                  cases v6 : eachB c.last c.shovels c.coal with
                  | false => exact (one (.inr (by have : coalB c c.coal = false := v6; simp [bad3, this]))) ▸ fault_2f c q w hq hn1 hn2 hn3 hn4 h1 h2 v1 v2 v3 v4 v5 v6
                  | true =>
                    cases v7 : eachB c.last 20 c.want with
                    | false => exact (one (.inr (by have : promB c c.want = false := v7; simp [bad3, this]))) ▸ fault_2g c q w hq hn1 hn2 hn3 hn4 h1 h2 v1 v2 v3 v4 v5 v6 v7
                    | true =>
                      cases v8 : okR 99 c.hlo c.hhi with
                      | false => exact (one (.inr (by simp [bad3, v8]))) ▸ fault_2h c q w hq hn1 hn2 hn3 hn4 h1 h2 v1 v2 v3 v4 v5 v6 v7 v8
                      | true =>
                        cases v9 : ((c.loss.length : Int) != c.last + 1) with
                        | true => exact (one (.inr (by have : decide ((c.loss.length : Int) = c.last + 1) = false := by simpa using v9
                                                       simp only [bad3, this]; simp))) ▸ fault_2i c q w hq hn1 hn2 hn3 hn4 h1 h2 v1 v2 v3 v4 v5 v6 v7 v8 v9
                        | false =>
                          have hv9 : decide ((c.loss.length : Int) = c.last + 1) = true := by simpa using v9
                          have hz : r = faultZ c := by
                            rw [← hr]
                            have b6 : coalB c c.coal = true := v6
                            have b7 : promB c c.want = true := v7
                            unfold checkCop faultZ
                            rw [hb1, hb2]
                            cases u1 : allN (okL c) c.loss.length with
                            | false =>
                              have : allN (fun j => okR 99 (p1 c.loss j) (p2 c.loss j)) c.loss.length = false := u1
                              rw [if_neg (by simp), if_neg (by simp), if_pos (by simp only [bad3, this]; simp)]
                              simp
                            | true =>
                              have u1' : allN (fun j => okR 99 (p1 c.loss j) (p2 c.loss j)) c.loss.length = true := u1
                              cases u2 : allN (okD c) c.rds.length with
                              | false =>
                                have : allN (fun j => okRd c.last (t1 c.rds j) (t2 c.rds j) (t3 c.rds j)) c.rds.length = false := u2
                                rw [if_neg (by simp), if_neg (by simp), if_pos (by simp only [bad3, this]; simp)]
                                simp
                              | true =>
                                have u2' : allN (fun j => okRd c.last (t1 c.rds j) (t2 c.rds j) (t3 c.rds j)) c.rds.length = true := u2
                                have hb3 : bad3 c = false := by simp only [bad3, b6, b7, v8, hv9, u1', u2']; rfl
                                rw [hb3]
                                simp only [Bool.false_eq_true, if_false, Bool.true_eq_false]
                                have := manyC_N v8 (fun j hj => (allN_iff _ _).1 u1' j hj) c.loss.length (Nat.le_refl _)
                                by_cases hgt : 2000 < manyN c c.loss.length
                                · rw [if_pos hgt, if_pos (by omega)]
                                · rw [if_neg hgt, if_neg (by omega)]
                          rw [hz]
                          exact fault_z c q w hq hn1 hn2 hn3 hn4 h1 h2 v1 v2 v3 v4 v5 v6 v7 v8 v9
  exact key _ rfl
end Go.Proofs.YtpgnplmjfhdncaaGreat
