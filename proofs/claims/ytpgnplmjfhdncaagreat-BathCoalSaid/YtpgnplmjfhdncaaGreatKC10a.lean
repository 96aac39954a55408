/- A part of the proof: C10a. -/
import Derived.Test.YtpgnplmjfhdncaaGreatKC8
import Derived.Test.YtpgnplmjfhdncaaGreatKRni
import Derived.Test.YtpgnplmjfhdncaaGreatKC5a
namespace Go.Proofs.YtpgnplmjfhdncaaGreat
open Go.RowKit
set_option linter.unusedVariables false
/-- append(v, ys), ys one element of 'size' cells in a box of its own. -/
theorem wp_append_k {P : Program} {o : Oper} {a : Act} {w : World} {K : Act → World → Prop} {Q : Exit → Act → World → Prop} (base : Nat) (s x : Operand) (t e : TypeId) (z : Value) (size bytes : Nat)
    (ho : o.op = .call { callee := .builtin .append, args := #[s, x], argTypes := #[t, t] })
    (ht : P.underlying t = some (.slice e)) (hinfo : (P.info? e).map (fun i => (i.zero, i.size, i.bytes)) = some (some z, size, bytes)) (hz : z.cells.size = size) (hsz : 0 < size) (hb8 : bytes ≤ 80)
    (v : Value) (n : Nat) (xs : List Value) (ys : List Value) (b : Nat) (hs : a.eval s = v) (hx : a.eval x = .slice (some ⟨b, 0, none⟩) 1 1) (hy : w.heap[b]? = some (.cells ys.toArray e (0, 0))) (hyl : ys.length = size) (h1 : ∀ y ∈ ys, y.oneCell' = true)
    (HO : w.ownsRow base e size v n xs) (hbase : base ≤ w.heap.size) (hl : n ≤ 1000000)
    (h : ∀ v1 w1, w1.ownsRow base e size v1 (n + 1) (xs ++ ys) → w.grownBy w1 v.ownBlock → (v1.ownBlock = v.ownBlock ∨ v1.ownBlock = some w.heap.size) → K (a.put o.dst v1) w1) :
    o.wp P a w K Q := by
  obtain ⟨i0, hi, hzz⟩ := Option.map_eq_some_iff.1 hinfo
  simp only [Prod.mk.injEq] at hzz
  obtain ⟨hz0, hz1, hz2⟩ := hzz
  have hmul : (n + 1) * bytes ≤ (n + 1) * 80 := Nat.mul_le_mul_left _ hb8
  obtain ⟨v', w', hr, h2, h3, _, h5⟩ := run_append_own_at (P := P) w base t o.type e i0 z size bytes ht hi hz0 hz1 hz2 hz hsz v n xs HO ⟨b, 0, none⟩ 1 1 ys (by omega)
    (by
      intro j u hu
      have hadd : (⟨b, 0, none⟩ : Addr).add j = ⟨b, j, none⟩ := by
        unfold Addr.add
        split
        · rename_i h0; rw [h0]
        · rw [Nat.zero_add]
      rw [hadd]
      simp [World.cell?, hy, hu])
    h1 (by simp only [maxLen]; omega) (by omega) hbase
  unfold Oper.wp execOp
  simp only [ho, resolve, invoke, builtin, Sem.run_bind, Sem.run_pure, Result.andThen_ok, List.map_toArray, List.map_cons, List.map_nil, hs, hx, hr]
  exact h v' w' h2 h3 h5
abbrev wkCs (c : Cop) (q : CA) (v : Value) (m : Nat) : Array Value := #[.int .i64 c.last, .int .i64 c.start, .int .i64 c.most, .int .i64 c.per, .int .i64 c.shovels, .slice q.a1 c.coal.length q.c1, .slice q.a2 c.want.length q.c2, .int .i64 c.hlo, .int .i64 c.hhi, .slice q.a3 c.loss.length q.c3, .slice q.a4 c.rds.length q.c4, v, .map (some m)]
structure J10 (c : Cop) (q : CA) (m p7 b8 wb base n : Nat) (v : Value) (xs : List Value) (x : Int × List Int) (W : World) (done : Nat → Bool) (s : Nat → Value) (w : World) : Prop where
  gr : Grown (fun k => k = wb ∨ some k = v.ownBlock) W w
  box : w.heap[wb]? = some (.cells (wkCs c q (if done 10 = true then s 57 else v) m) 184 (0, 0))
  a0 : done 0 = true → s 50 = .pointer (some ⟨wb, 0, none⟩)
  a1 : done 1 = true → s 51 = .pointer (some ⟨wb, 0, none⟩)
  a2 : done 2 = true → s 52 = .pointer (some ⟨wb, 0, none⟩)
  a3 : done 3 = true → s 53 = .pointer (some ⟨wb, 11, none⟩)
  a4 : done 4 = true → s 54 = v
  a5 : done 5 = true → s 55 = scV x.1 x.2
  a6 : done 6 = true → done 7 = false → ∃ b, s 56 = .slice (some ⟨b, 0, none⟩) 1 1 ∧ W.heap.size ≤ b ∧ w.heap[b]? = some (.cells (sc6 x).toArray 158 (0, 0))
  r : done 7 = false → w.ownsRow base 158 6 v n xs
  q : done 7 = true → w.ownsRow base 158 6 (s 57) (n + 1) (xs ++ sc6 x)
  a8 : done 8 = true → s 58 = .pointer (some ⟨wb, 0, none⟩)
  a9 : done 9 = true → s 59 = .pointer (some ⟨wb, 11, none⟩)
def I10 (a0 : Act) (c : Cop) (q : CA) (m p7 b8 wb base n : Nat) (v : Value) (xs : List Value) (x : Int × List Int) (W : World) (done : Nat → Bool) (a : Act) (w : World) : Prop :=
  Fr 50 59 a0 a ∧ J10 c q m p7 b8 wb base n v xs x W done (slots a) w
theorem I10.put {a0 : Act} {c : Cop} {q : CA} {m p7 b8 wb base n : Nat} {v : Value} {xs : List Value} {x : Int × List Int} {W : World} {done : Nat → Bool} {a : Act} {w : World} (i : Nat) (u : Value)
    (hF : Fr 50 59 a0 a) (h0 : 59 < a0.tmps.size) (h1 : 50 ≤ i) (h2 : i ≤ 59) (hJ : J10 c q m p7 b8 wb base n v xs x W done (upd (slots a) i u) w) :
    I10 a0 c q m p7 b8 wb base n v xs x W done { tmps := a.tmps.setIfInBounds i u, defers := a.defers } w :=
  ⟨hF.put i u h1 h2 h0, by rw [slots_put a i u (by rw [hF.sz]; omega)]; exact hJ⟩
theorem own_far6 {w : World} {b : Nat} {e : TypeId} {n size : Nat} {v : Value} {xs : List Value} (h : w.ownsRow b e size v n xs) {k : Nat} (hk : w.heap.size ≤ k) : some k ≠ v.ownBlock := by
  intro he
  have := (h.lt k he.symm).2
  omega
theorem own_shape6 {w : World} {base n size : Nat} {e : TypeId} {v : Value} {xs : List Value} (h : w.ownsRow base e size v n xs) : ∃ A c, v = .slice A n c := by
  rcases h.2 with ⟨rfl, rfl⟩ | ⟨g, cap, cur, rfl, _⟩
  · exact ⟨none, 0, rfl⟩
  · exact ⟨_, cap, rfl⟩
def regionIn (n : Nat) : Code → Option (List Oper)
  | .region id ops _ => if id = n then some ops.toList else none
  | .seq a b => (regionIn n a).or (regionIn n b)
  | .cond _ a b => (regionIn n a).or (regionIn n b)
  | .block _ a => regionIn n a
  | .loop a => regionIn n a
  | .scope a => regionIn n a
  | .rangeFunc _ _ a b => (regionIn n a).or (regionIn n b)
  | _ => none
set_option maxRecDepth 100000 in
set_option maxHeartbeats 8000000 in
theorem r10 (ops : List Oper) (hops : Tryz.f114.body.bind (regionIn 10) = some ops) {l : Nat} {Q : Exit → Act → World → Prop} (hQo : ¬ LetsOut Q) (a0 : Act) (W : World) (c : Cop) (q : CA) (m p7 b8 wb base n : Nat) (v : Value) (xs : List Value) (x : Int × List Int)
    (hsz : a0.tmps.size = 67) (h7 : slots a0 7 = .pointer (some ⟨p7, 0, none⟩)) (h8 : slots a0 8 = .pointer (some ⟨b8, 0, none⟩)) (hn : n ≤ 100000) (hbase : base ≤ W.heap.size) (hwb : wb < base) (hp7 : p7 < base) (h7w : p7 ≠ wb) (h8w : b8 ≠ wb)
    (hc7 : W.cell? ⟨p7, 0, none⟩ = some (.pointer (some ⟨wb, 0, none⟩))) (hc8 : Box W b8 (scCs x.1 x.2)) (h8v : some b8 ≠ v.ownBlock) (hbox : W.heap[wb]? = some (.cells (wkCs c q v m) 184 (0, 0))) (hr : W.ownsRow base 158 6 v n xs)
    (hQ : ∀ a w u, Grown (fun k => k = wb ∨ some k = v.ownBlock) W w → w.heap[wb]? = some (.cells (wkCs c q u m) 184 (0, 0)) → w.ownsRow base 158 6 u (n + 1) (xs ++ sc6 x) → Q .normal a w) :
    (Code.region 10 ops.toArray true).wpIn (Fence.wide.inRound l) 0 Tryz.prog Q a0 W := by
  simp only [Tryz.f114, regionIn, Option.bind_some] at hops
  simp at hops
  subst hops
  have info : (Tryz.prog.info? 158).map (fun i => (i.zero, i.size, i.bytes)) = some (some (.agg #[.int .i64 0, .int .i64 0, .int .i64 0, .int .i64 0, .int .i64 0, .int .i64 0]), 6, 48) := by kernel_rfl
  have F := Lib.hid info
  clear info
  have hp7W : p7 < W.heap.size := by omega
  have hb8W : b8 < W.heap.size := hc8.lt (by simp)
  have hn7 : some p7 ≠ v.ownBlock := fun e => by have := (hr.lt p7 e.symm).1; omega
  have hnw : some wb ≠ v.ownBlock := fun e => by have := (hr.lt wb e.symm).1; omega
  have H8 := Lib.hid hc8
  clear hc8
  refine wpIn_round_inv (by decide) hQo (I10 a0 c q m p7 b8 wb base n v xs x W) tryz_mixed (by kernel_rfl) ⟨Fr.refl _ _ _, ?_⟩ ?_ ?_
  · exact { gr := ⟨rfl, rfl, rfl, Nat.le_refl _, fun _ _ _ => rfl⟩, box := hbox, a0 := fun h => (by cases h), a1 := fun h => (by cases h), a2 := fun h => (by cases h), a3 := fun h => (by cases h), a4 := fun h => (by cases h), a5 := fun h => (by cases h), a6 := fun h => (by cases h), r := fun _ => hr, q := fun h => (by cases h), a8 := fun h => (by cases h), a9 := fun h => (by cases h) }
  · refine ⟨?_, ?_, ?_, ?_, ?_, ?_, ?_, ?_, ?_, ?_, ?_, trivial⟩
    · rintro done a w hcl hdn hdep ⟨hF, hJ⟩ K hK
      have h7' : a.tmps[7]?.getD undef = .pointer (some ⟨p7, 0, none⟩) := (hF.same 7 (by omega)).trans h7
      have hc : w.cell? ⟨p7, 0, none⟩ = some (.pointer (some ⟨wb, 0, none⟩)) := (hJ.gr.cell hp7W (by simp [h7w, hn7])).trans hc7
      clear hdep hcl
      go_simp
      exact hK _ _ (I10.put 50 _ hF (by omega) (by decide) (by decide) { hJ with a0 := fun _ => rfl })
    · rintro done a w hcl hdn hdep ⟨hF, hJ⟩ K hK
      have h7' : a.tmps[7]?.getD undef = .pointer (some ⟨p7, 0, none⟩) := (hF.same 7 (by omega)).trans h7
      have hc : w.cell? ⟨p7, 0, none⟩ = some (.pointer (some ⟨wb, 0, none⟩)) := (hJ.gr.cell hp7W (by simp [h7w, hn7])).trans hc7
      clear hdep hcl
      go_simp
      exact hK _ _ (I10.put 51 _ hF (by omega) (by decide) (by decide) { hJ with a1 := fun _ => rfl })
    · rintro done a w hcl hdn hdep ⟨hF, hJ⟩ K hK
      have hd1 : done 1 = true := hdep ⟨1, .data⟩ (by simp) rfl
      have hp : a.tmps[51]?.getD undef = .pointer (some ⟨wb, 0, none⟩) := hJ.a1 hd1
      clear hdep hcl
      go_simp
      exact hK _ _ (I10.put 52 _ hF (by omega) (by decide) (by decide) { hJ with a2 := fun _ => rfl })
    · rintro done a w hcl hdn hdep ⟨hF, hJ⟩ K hK
      have hd2 : done 2 = true := hdep ⟨2, .data⟩ (by simp) rfl
      have hp : a.tmps[52]?.getD undef = .pointer (some ⟨wb, 0, none⟩) := hJ.a2 hd2
      clear hdep hcl
      go_simp
      exact hK _ _ (I10.put 53 _ hF (by omega) (by decide) (by decide) { hJ with a3 := fun _ => rfl })
    · rintro done a w hcl hdn hdep ⟨hF, hJ⟩ K hK
      have hd3 : done 3 = true := hdep ⟨3, .data⟩ (by simp) rfl
      have hst : done 10 = false := by
        cases h : done 10 with
        | false => rfl
        | true => have := hcl 10 _ rfl h ⟨4, .phase⟩ (by simp) rfl; rw [hdn] at this; cases this
      have hp : a.tmps[53]?.getD undef = .pointer (some ⟨wb, 11, none⟩) := hJ.a3 hd3
      have hc : w.cell? ⟨wb, 11, none⟩ = some v := by
        have := hJ.box
        rw [hst] at this
        simp [World.cell?, this]
      clear hdep hcl
      go_simp
      exact hK _ _ (I10.put 54 _ hF (by omega) (by decide) (by decide) { hJ with a4 := fun _ => rfl })
    · rintro done a w hcl hdn hdep ⟨hF, hJ⟩ K hK
      have h8' : a.tmps[8]?.getD undef = .pointer (some ⟨b8, 0, none⟩) := (hF.same 8 (by omega)).trans h8
      have hb : Box w b8 (scCs x.1 x.2) := hJ.gr.box H8.out hb8W (by simp [h8w, h8v])
      unfold Box scCs at hb
      clear hdep hcl
      go_simp
      exact hK _ _ (I10.put 55 _ hF (by omega) (by decide) (by decide) { hJ with a5 := fun _ => rfl })
    · rintro done a w hcl hdn hdep ⟨hF, hJ⟩ K hK
      have hd5 : done 5 = true := hdep ⟨5, .data⟩ (by simp) rfl
      have hv : a.tmps[55]?.getD undef = scV x.1 x.2 := hJ.a5 hd5
      clear hdep hcl
      go_simp
      exact hK _ _ (I10.put 56 _ hF (by omega) (by decide) (by decide) { hJ with gr := hJ.gr.alloc _, box := heap_al hJ.box _, r := fun h => (hJ.r h).alloc _, q := fun h => (hJ.q h).alloc _, a6 := fun _ _ => ⟨w.heap.size, rfl, hJ.gr.size, World.alloc_heap_new _ _⟩ })
    · rintro done a w hcl hdn hdep ⟨hF, hJ⟩ K hK
      have hd4 : done 4 = true := hdep ⟨4, .data⟩ (by simp) rfl
      have hd6 : done 6 = true := hdep ⟨6, .data⟩ (by simp) rfl
      have hp : a.tmps[54]?.getD undef = v := hJ.a4 hd4
      obtain ⟨b, hb, hbl, hbh⟩ := hJ.a6 hd6 hdn
      have hbs : a.tmps[56]?.getD undef = .slice (some ⟨b, 0, none⟩) 1 1 := hb
      rw [if_pos (show Region.wanted _ _ = true from rfl)]
      refine wp_append_k base _ _ 182 158 _ 6 48 rfl Tryz.underlying182 F.out rfl (by decide) (by decide) v n xs (sc6 x) b (by simp [Act.eval, hp]) (by simp [Act.eval, hbs]) hbh rfl (by simp [sc6, Value.oneCell']) (hJ.r hdn) (by have := hJ.gr.size; omega) (by omega) ?_
      intro u w1 hown hg hat
      have h10 : done 10 = false := by
        cases h : done 10 with
        | false => rfl
        | true => have := hcl 10 _ rfl h ⟨7, .data⟩ (by simp) rfl; rw [hdn] at this; cases this
      have hbb := hJ.box
      rw [h10] at hbb
      have hgr : Grown (fun k => k = wb ∨ some k = v.ownBlock) W w1 := hJ.gr.trans ⟨hg.os, hg.tape, hg.output, hg.size, fun k hk hn => hg.block k hk (fun e => hn (.inr e))⟩
      have hbw := (hg.block wb (Array.getElem?_eq_some_iff.1 hbb).1 hnw).trans hbb
      have hbox1 : w1.heap[wb]? = some (.cells (wkCs c q (if also 7 done 10 = true then u else v) m) 184 (0, 0)) := by
        rw [show also 7 done 10 = false from h10]; exact hbw
      exact hK _ _ (I10.put 57 _ hF (by omega) (by decide) (by decide) { hJ with gr := hgr, box := hbox1, a6 := fun _ h => (by cases h), r := fun h => (by cases h), q := fun _ => hown })
    · rintro done a w hcl hdn hdep ⟨hF, hJ⟩ K hK
      have hd0 : done 0 = true := hdep ⟨0, .data⟩ (by simp) rfl
      have hp : a.tmps[50]?.getD undef = .pointer (some ⟨wb, 0, none⟩) := hJ.a0 hd0
      clear hdep hcl
      go_simp
      exact hK _ _ (I10.put 58 _ hF (by omega) (by decide) (by decide) { hJ with a8 := fun _ => rfl })
    · rintro done a w hcl hdn hdep ⟨hF, hJ⟩ K hK
      have hd8 : done 8 = true := hdep ⟨8, .data⟩ (by simp) rfl
      have hp : a.tmps[58]?.getD undef = .pointer (some ⟨wb, 0, none⟩) := hJ.a8 hd8
      clear hdep hcl
      go_simp
      exact hK _ _ (I10.put 59 _ hF (by omega) (by decide) (by decide) { hJ with a9 := fun _ => rfl })
    · rintro done a w hcl hdn hdep ⟨hF, hJ⟩ K hK
      have hd9 : done 9 = true := hdep ⟨9, .data⟩ (by simp) rfl
      have hd7 : done 7 = true := hdep ⟨7, .data⟩ (by simp) rfl
      have hp : a.tmps[59]?.getD undef = .pointer (some ⟨wb, 11, none⟩) := hJ.a9 hd9
      obtain ⟨A, k, hsh⟩ := own_shape6 (hJ.q hd7)
      have hs : a.tmps[57]?.getD undef = .slice A (n + 1) k := hsh
      have hbb := hJ.box
      rw [hdn] at hbb
      have hcell : w.cell? ⟨wb, 11, none⟩ = some v := by simp [World.cell?, hbb]
      have hfz : w.frozen? ⟨wb, 11, none⟩ = false := by simp [World.frozen?, hbb]
      clear hdep hcl
      go_simp
      refine hK _ _ ⟨hF, { hJ with gr := hJ.gr.setCell (.inl (.inl rfl)) _, box := ?_, a6 := fun _ h => (by have h' : done 7 = false := h; rw [hd7] at h'; cases h'), r := fun h => (by have h' : done 7 = false := h; rw [hd7] at h'; cases h'), q := fun h => ?_ }⟩
      · rw [heap_setCell_same w wb 11 _ 184 _ hbb]
        rw [show also 10 done 10 = true from rfl, if_pos rfl, hsh]
        rfl
      · exact own_grown (hJ.q hd7) ((Grown.refl (fun k => k = wb) w).setCell (.inl rfl) _) (fun k hk => by omega)
  · rintro done a w hd ⟨hF, hJ⟩
    have h10 : done 10 = true := hd 10 (by decide)
    have h7 : done 7 = true := hd 7 (by decide)
    have hb := hJ.box
    rw [h10] at hb
    exact hQ a w _ hJ.gr hb (hJ.q h7)
end Go.Proofs.YtpgnplmjfhdncaaGreat
