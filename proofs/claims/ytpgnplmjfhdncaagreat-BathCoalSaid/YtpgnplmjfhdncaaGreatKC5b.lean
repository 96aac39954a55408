/- A part of the proof: C5b. -/
import Derived.Test.YtpgnplmjfhdncaaGreatKC5a
namespace Go.Proofs.YtpgnplmjfhdncaaGreat
open Go.RowKit
set_option linter.unusedVariables false
theorem own_ne {w : World} {b b' : Nat} {e e' : TypeId} {n n' : Nat} {v v' : Value} {xs xs' : List Value} (h : w.ownsRow b e 1 v n xs) (h' : w.ownsRow b' e' 1 v' n' xs') (hne : e ≠ e') : v.ownBlock = none ∨ v.ownBlock ≠ v'.ownBlock := by
  rcases h.2 with ⟨rfl, _⟩ | ⟨g, cap, cur, rfl, _, hh, _⟩
  · exact .inl rfl
  · refine .inr fun hk => ?_
    rcases h'.2 with ⟨rfl, _⟩ | ⟨g', cap', cur', rfl, _, hh', _⟩
    · simp [Value.ownBlock] at hk
    · have : g = g' := by simpa [Value.ownBlock] using hk
      subst this
      rw [hh] at hh'
      injection hh' with hh'
      injection hh' with _ ht
      exact hne ht
theorem own_far {w : World} {b : Nat} {e : TypeId} {n : Nat} {v : Value} {xs : List Value} (h : w.ownsRow b e 1 v n xs) {k : Nat} (hk : w.heap.size ≤ k) : some k ≠ v.ownBlock := by
  intro he
  have := (h.lt k he.symm).2
  omega
theorem own_near {w : World} {b : Nat} {e : TypeId} {n : Nat} {v : Value} {xs : List Value} (h : w.ownsRow b e 1 v n xs) {k : Nat} (hk : k < b) : some k ≠ v.ownBlock := by
  intro he
  have := (h.lt k he.symm).1
  omega
theorem own_shape {w : World} {base n : Nat} {e : TypeId} {v : Value} {xs : List Value} (h : w.ownsRow base e 1 v n xs) : ∃ A c, v = .slice A n c := by
  rcases h.2 with ⟨rfl, rfl⟩ | ⟨g, cap, cur, rfl, _⟩
  · exact ⟨none, 0, rfl⟩
  · exact ⟨_, cap, rfl⟩
theorem ne_sym {a b : Option Nat} (h : a = none ∨ a ≠ b) : b = none ∨ b ≠ a := by
  cases b with
  | none => exact .inl rfl
  | some k => refine .inr fun e => ?_; rcases h with h | h; (rw [h] at e; cases e); exact h e.symm
set_option maxRecDepth 100000 in
set_option maxHeartbeats 8000000 in
theorem r11 (ops : List Oper) (hops : Tryz.f123.body.bind (regionOps 11) = some ops) {Q : Exit → Act → World → Prop} (a0 : Act) (W : World) (g B n : Nat) (v1 v2 v3 : Value) (x y : Int) (z : Bool) (xs ys zs : List Value)
    (hsz : a0.tmps.size = 80) (h8 : slots a0 8 = .pointer (some ⟨g, 0, none⟩)) (h9 : slots a0 9 = .int .i64 y) (h11 : slots a0 11 = .int .i64 x) (h12 : slots a0 12 = .bool z) (hgB : g < B) (hBW : B ≤ W.heap.size) (hn : n ≤ 100)
    (hbox : W.heap[g]? = some (.cells #[v1, v2, v3] 163 (0, 0))) (hr1 : W.ownsRow B 3 1 v1 n xs) (hr2 : W.ownsRow B 3 1 v2 n ys) (hr3 : W.ownsRow B 4 1 v3 n zs) (hd : v1.ownBlock = none ∨ v1.ownBlock ≠ v2.ownBlock)
    (hQ : ∀ a w u1 u2 u3, Fr 60 77 a0 a → Below g W w → w.heap[g]? = some (.cells #[u1, u2, u3] 163 (0, 0)) → w.ownsRow B 3 1 u1 (n + 1) (xs ++ [.int .i64 x]) → w.ownsRow B 3 1 u2 (n + 1) (ys ++ [.int .i64 y]) → w.ownsRow B 4 1 u3 (n + 1) (zs ++ [.bool z]) → (u1.ownBlock = none ∨ u1.ownBlock ≠ u2.ownBlock) → Q .normal a w) :
    (Code.region 11 ops.toArray true).wp Tryz.prog Q a0 W := by
  simp only [Tryz.f123, regionOps, Option.bind_some] at hops
  simp at hops
  subst hops
  have info3 : (Tryz.prog.info? 3).map (fun i => (i.zero, i.size, i.bytes)) = some (some (.int .i64 0), 1, 8) := by kernel_rfl
  have info4 : (Tryz.prog.info? 4).map (fun i => (i.zero, i.size, i.bytes)) = some (some (.bool false), 1, 1) := by kernel_rfl
  have F3 := Lib.hid info3
  have F4 := Lib.hid info4
  clear info3 info4
  have hgW : g < W.heap.size := by omega
  refine wp_region_inv (I11 a0 W g B n v1 v2 v3 x y z xs ys zs) tryz_mixed (by kernel_rfl) ⟨Fr.refl _ _ _, ?_⟩ ?_ ?_
  · exact { below := ⟨rfl, rfl, rfl, Nat.le_refl _, fun _ _ => rfl⟩, box := hbox, a0 := fun h => (by cases h), a1 := fun h => (by cases h), a2 := fun h => (by cases h), a3 := fun h => (by cases h), r1 := fun _ => hr1, q1 := fun h => (by cases h), a5 := fun h => (by cases h), a6 := fun h => (by cases h), a7 := fun h => (by cases h), a8 := fun h => (by cases h), r2 := fun _ => hr2, q2 := fun h => (by cases h), a10 := fun h => (by cases h), a11 := fun h => (by cases h), a12 := fun h => (by cases h), a13 := fun h => (by cases h), r3 := fun _ => hr3, q3 := fun h => (by cases h), a15 := fun h => (by cases h), a17 := fun h => (by cases h), a19 := fun h => (by cases h) }
  · refine ⟨?_, ?_, ?_, ?_, ?_, ?_, ?_, ?_, ?_, ?_, ?_, ?_, ?_, ?_, ?_, ?_, ?_, ?_, ?_, ?_, ?_, trivial⟩
    · rintro done a w hcl hdn hdep ⟨hF, hJ⟩ K hK
      have h8' : a.tmps[8]?.getD undef = .pointer (some ⟨g, 0, none⟩) := (hF.same 8 (by omega)).trans h8
      clear hdep
      go_simp
      exact hK _ _ (I11.put 60 _ hF (by omega) (by decide) (by decide) { hJ with a0 := fun _ => rfl })
    · rintro done a w hcl hdn hdep ⟨hF, hJ⟩ K hK
      have hd0 : done 0 = true := hdep ⟨0, .data⟩ (by simp) rfl
      have hst : done 16 = false := by
        cases h : done 16 with
        | false => rfl
        | true => have := hcl 16 _ rfl h ⟨1, .phase⟩ (by simp) rfl; rw [hdn] at this; cases this
      have hp : a.tmps[60]?.getD undef = .pointer (some ⟨g, 0, none⟩) := hJ.a0 hd0
      have hc : w.cell? ⟨g, 0, none⟩ = some v1 := by
        have := hJ.box
        rw [hst] at this
        simp [World.cell?, this]
      clear hdep hcl
      go_simp
      exact hK _ _ (I11.put 61 _ hF (by omega) (by decide) (by decide) { hJ with a1 := fun _ => rfl })
    · rintro done a w hcl hdn hdep ⟨hF, hJ⟩ K hK
      have hv : a.tmps[11]?.getD undef = .int .i64 x := (hF.same 11 (by omega)).trans h11
      clear hdep
      go_simp
      exact hK _ _ (I11.put 62 _ hF (by omega) (by decide) (by decide) { hJ with a2 := fun _ => rfl })
    · rintro done a w hcl hdn hdep ⟨hF, hJ⟩ K hK
      have hd2 : done 2 = true := hdep ⟨2, .data⟩ (by simp) rfl
      have hv : a.tmps[62]?.getD undef = .int .i64 x := hJ.a2 hd2
      clear hdep hcl
      go_simp
      exact hK _ _ (I11.put 63 _ hF (by omega) (by decide) (by decide) { hJ with below := hJ.below.alloc (by have := hJ.below.size; omega) _, box := (Below.heap_alloc _ _ _ (by have := hJ.below.size; omega)).trans hJ.box, r1 := fun h => (hJ.r1 h).alloc _, q1 := fun h => ⟨(hJ.q1 h).1.alloc _, (hJ.q1 h).2⟩, r2 := fun h => (hJ.r2 h).alloc _, q2 := fun h => ⟨(hJ.q2 h).1.alloc _, (hJ.q2 h).2⟩, r3 := fun h => (hJ.r3 h).alloc _, q3 := fun h => ⟨(hJ.q3 h).1.alloc _, (hJ.q3 h).2⟩, a3 := fun _ _ => ⟨w.heap.size, rfl, hJ.below.size, World.alloc_heap_new _ _⟩, a8 := fun h h' => (let ⟨b, e, l, hh⟩ := hJ.a8 h h'; ⟨b, e, l, (Below.heap_alloc _ _ _ (Array.getElem?_eq_some_iff.1 hh).1).trans hh⟩), a13 := fun h h' => (let ⟨b, e, l, hh⟩ := hJ.a13 h h'; ⟨b, e, l, (Below.heap_alloc _ _ _ (Array.getElem?_eq_some_iff.1 hh).1).trans hh⟩) })
    · rintro done a w hcl hdn hdep ⟨hF, hJ⟩ K hK
      have hd1 : done 1 = true := hdep ⟨1, .data⟩ (by simp) rfl
      have hd3 : done 3 = true := hdep ⟨3, .data⟩ (by simp) rfl
      have hp : a.tmps[61]?.getD undef = v1 := hJ.a1 hd1
      obtain ⟨b, hb, hbl, hbh⟩ := hJ.a3 hd3 hdn
      have hbs : a.tmps[63]?.getD undef = .slice (some ⟨b, 0, none⟩) 1 1 := hb
      have h9' : done 9 = false := by
        cases h : done 9 with
        | false => rfl
        | true => have := (hJ.q2 h).2.1; rw [hdn] at this; cases this
      rw [if_pos (show Region.wanted _ _ = true from rfl)]
      refine wp_append_one B _ _ 22 3 (.int .i64 0) 8 rfl Tryz.underlying22 F3.out rfl (by decide) v1 n xs (.int .i64 x) b (by simp [Act.eval, hp]) (by simp [Act.eval, hbs]) hbh rfl (hJ.r1 hdn) (by have := hJ.below.size; omega) (by omega) ?_
      intro u w1 hown hg hat
      have hfar : ∀ k, W.heap.size ≤ k → some k ≠ v1.ownBlock := fun k hk => own_far hr1 hk
      have hbl1 : Below g W w1 := hJ.below.trans ⟨hg.os, hg.tape, hg.output, hg.size, fun k hk => hg.block k (by have := hJ.below.size; omega) (own_near hr1 (by omega))⟩
      have hbx : ∀ (k : Nat) (o : Obj), W.heap.size ≤ k → w.heap[k]? = some o → w1.heap[k]? = some o := fun k o hk ho => (hg.block k (Array.getElem?_eq_some_iff.1 ho).1 (hfar k hk)).trans ho
      have h16 : done 16 = false := by
        cases h : done 16 with
        | false => rfl
        | true => have := hcl 16 _ rfl h ⟨4, .data⟩ (by simp) rfl; rw [hdn] at this; cases this
      have hbb := hJ.box
      rw [h16] at hbb
      have hbw := (hg.block g (by have := hJ.below.size; omega) (own_near hr1 hgB)).trans hbb
      have hor : u.ownBlock = v1.ownBlock ∨ ∃ k, u.ownBlock = some k ∧ W.heap.size ≤ k := hat.imp id (fun h => ⟨_, h, hJ.below.size⟩)
      have hbox1 : w1.heap[g]? = some (.cells #[if also 4 done 16 = true then u else v1, if also 4 done 18 = true then slots a 69 else v2, if also 4 done 20 = true then slots a 74 else v3] 163 (0, 0)) := by
        rw [show also 4 done 16 = false from h16]; exact hbw
      exact hK _ _ (I11.put 64 _ hF (by omega) (by decide) (by decide) { hJ with below := hbl1, box := hbox1, a3 := fun _ h => (by cases h), r1 := fun h => (by cases h), q1 := fun _ => ⟨hown, hor⟩, a8 := fun h h' => (let ⟨b, e, l, hh⟩ := hJ.a8 h h'; ⟨b, e, l, hbx b _ l hh⟩), r2 := fun h => (hJ.r2 h9').kept hg (ne_sym hd), q2 := fun h => (by have h2 : done 9 = true := h; rw [h9'] at h2; cases h2), a13 := fun h h' => (let ⟨b, e, l, hh⟩ := hJ.a13 h h'; ⟨b, e, l, hbx b _ l hh⟩), r3 := fun h => (hJ.r3 h).kept hg (own_ne (hJ.r3 h) (hJ.r1 hdn) (by decide)), q3 := fun h => (by have h2 := (hJ.q3 h).2; rw [h9'] at h2; cases h2) })
    · rintro done a w hcl hdn hdep ⟨hF, hJ⟩ K hK
      have h8' : a.tmps[8]?.getD undef = .pointer (some ⟨g, 0, none⟩) := (hF.same 8 (by omega)).trans h8
      clear hdep
      go_simp
      exact hK _ _ (I11.put 65 _ hF (by omega) (by decide) (by decide) { hJ with a5 := fun _ => rfl })
    · rintro done a w hcl hdn hdep ⟨hF, hJ⟩ K hK
      have hd5 : done 5 = true := hdep ⟨5, .data⟩ (by simp) rfl
      have hst : done 18 = false := by
        cases h : done 18 with
        | false => rfl
        | true => have := hcl 18 _ rfl h ⟨6, .phase⟩ (by simp) rfl; rw [hdn] at this; cases this
      have hp : a.tmps[65]?.getD undef = .pointer (some ⟨g, 1, none⟩) := hJ.a5 hd5
      have hc : w.cell? ⟨g, 1, none⟩ = some v2 := by
        have := hJ.box
        rw [hst] at this
        simp [World.cell?, this]
      clear hdep hcl
      go_simp
      exact hK _ _ (I11.put 66 _ hF (by omega) (by decide) (by decide) { hJ with a6 := fun _ => rfl })
    · rintro done a w hcl hdn hdep ⟨hF, hJ⟩ K hK
      have hv : a.tmps[9]?.getD undef = .int .i64 y := (hF.same 9 (by omega)).trans h9
      clear hdep
      go_simp
      exact hK _ _ (I11.put 67 _ hF (by omega) (by decide) (by decide) { hJ with a7 := fun _ => rfl })
    · rintro done a w hcl hdn hdep ⟨hF, hJ⟩ K hK
      have hd7 : done 7 = true := hdep ⟨7, .data⟩ (by simp) rfl
      have hv : a.tmps[67]?.getD undef = .int .i64 y := hJ.a7 hd7
      clear hdep hcl
      go_simp
      exact hK _ _ (I11.put 68 _ hF (by omega) (by decide) (by decide) { hJ with below := hJ.below.alloc (by have := hJ.below.size; omega) _, box := (Below.heap_alloc _ _ _ (by have := hJ.below.size; omega)).trans hJ.box, r1 := fun h => (hJ.r1 h).alloc _, q1 := fun h => ⟨(hJ.q1 h).1.alloc _, (hJ.q1 h).2⟩, r2 := fun h => (hJ.r2 h).alloc _, q2 := fun h => ⟨(hJ.q2 h).1.alloc _, (hJ.q2 h).2⟩, r3 := fun h => (hJ.r3 h).alloc _, q3 := fun h => ⟨(hJ.q3 h).1.alloc _, (hJ.q3 h).2⟩, a3 := fun h h' => (let ⟨b, e, l, hh⟩ := hJ.a3 h h'; ⟨b, e, l, (Below.heap_alloc _ _ _ (Array.getElem?_eq_some_iff.1 hh).1).trans hh⟩), a8 := fun _ _ => ⟨w.heap.size, rfl, hJ.below.size, World.alloc_heap_new _ _⟩, a13 := fun h h' => (let ⟨b, e, l, hh⟩ := hJ.a13 h h'; ⟨b, e, l, (Below.heap_alloc _ _ _ (Array.getElem?_eq_some_iff.1 hh).1).trans hh⟩) })
    · rintro done a w hcl hdn hdep ⟨hF, hJ⟩ K hK
      have hd6 : done 6 = true := hdep ⟨6, .data⟩ (by simp) rfl
      have hd8 : done 8 = true := hdep ⟨8, .data⟩ (by simp) rfl
      have hd4 : done 4 = true := hdep ⟨4, .chain⟩ (by simp) rfl
      have hp : a.tmps[66]?.getD undef = v2 := hJ.a6 hd6
      obtain ⟨b, hb, hbl, hbh⟩ := hJ.a8 hd8 hdn
      have hbs : a.tmps[68]?.getD undef = .slice (some ⟨b, 0, none⟩) 1 1 := hb
      have h14' : done 14 = false := by
        cases h : done 14 with
        | false => rfl
        | true => have := (hJ.q3 h).2; rw [hdn] at this; cases this
      rw [if_pos (show Region.wanted _ _ = true from rfl)]
      refine wp_append_one B _ _ 22 3 (.int .i64 0) 8 rfl Tryz.underlying22 F3.out rfl (by decide) v2 n ys (.int .i64 y) b (by simp [Act.eval, hp]) (by simp [Act.eval, hbs]) hbh rfl (hJ.r2 hdn) (by have := hJ.below.size; omega) (by omega) ?_
      intro u w1 hown hg hat
      have hfar : ∀ k, W.heap.size ≤ k → some k ≠ v2.ownBlock := fun k hk => own_far hr2 hk
      have hbl1 : Below g W w1 := hJ.below.trans ⟨hg.os, hg.tape, hg.output, hg.size, fun k hk => hg.block k (by have := hJ.below.size; omega) (own_near hr2 (by omega))⟩
      have hbx : ∀ (k : Nat) (o : Obj), W.heap.size ≤ k → w.heap[k]? = some o → w1.heap[k]? = some o := fun k o hk ho => (hg.block k (Array.getElem?_eq_some_iff.1 ho).1 (hfar k hk)).trans ho
      obtain ⟨hq1, hq1o⟩ := hJ.q1 hd4
      have h64 : (slots a 64).ownBlock = none ∨ (slots a 64).ownBlock ≠ v2.ownBlock := by
        rcases hq1o with h | ⟨k, h, hk⟩
        · rw [h]; exact hd
        · rw [h]; exact .inr (hfar k hk)
      have h18 : done 18 = false := by
        cases h : done 18 with
        | false => rfl
        | true => have := hcl 18 _ rfl h ⟨9, .data⟩ (by simp) rfl; rw [hdn] at this; cases this
      have hbb := hJ.box
      rw [h18] at hbb
      have hbw := (hg.block g (by have := hJ.below.size; omega) (own_near hr2 hgB)).trans hbb
      have hbox1 : w1.heap[g]? = some (.cells #[if also 9 done 16 = true then slots a 64 else v1, if also 9 done 18 = true then u else v2, if also 9 done 20 = true then slots a 74 else v3] 163 (0, 0)) := by
        rw [show also 9 done 18 = false from h18]; exact hbw
      have hdd : (slots a 64).ownBlock = none ∨ (slots a 64).ownBlock ≠ u.ownBlock := by
        rcases hat with hat | hat
        · rw [hat]; exact h64
        · rw [hat]; exact .inr fun e => own_far hq1 (Nat.le_refl _) e.symm
      exact hK _ _ (I11.put 69 _ hF (by omega) (by decide) (by decide) { hJ with below := hbl1, box := hbox1, a3 := fun _ h => (by have h2 : done 4 = false := h; rw [hd4] at h2; cases h2), r1 := fun h => (by have h2 : done 4 = false := h; rw [hd4] at h2; cases h2), q1 := fun _ => ⟨hq1.kept hg h64, hq1o⟩, a8 := fun _ h => (by cases h), r2 := fun h => (by cases h), q2 := fun _ => ⟨hown, hd4, hdd⟩, a13 := fun h h' => (let ⟨b, e, l, hh⟩ := hJ.a13 h h'; ⟨b, e, l, hbx b _ l hh⟩), r3 := fun h => (hJ.r3 h).kept hg (own_ne (hJ.r3 h) (hJ.r2 hdn) (by decide)), q3 := fun h => (by have h2 : done 14 = true := h; rw [h14'] at h2; cases h2) })
    · rintro done a w hcl hdn hdep ⟨hF, hJ⟩ K hK
      have h8' : a.tmps[8]?.getD undef = .pointer (some ⟨g, 0, none⟩) := (hF.same 8 (by omega)).trans h8
      clear hdep
      go_simp
      exact hK _ _ (I11.put 70 _ hF (by omega) (by decide) (by decide) { hJ with a10 := fun _ => rfl })
    · rintro done a w hcl hdn hdep ⟨hF, hJ⟩ K hK
      have hd10 : done 10 = true := hdep ⟨10, .data⟩ (by simp) rfl
      have hst : done 20 = false := by
        cases h : done 20 with
        | false => rfl
        | true => have := hcl 20 _ rfl h ⟨11, .phase⟩ (by simp) rfl; rw [hdn] at this; cases this
      have hp : a.tmps[70]?.getD undef = .pointer (some ⟨g, 2, none⟩) := hJ.a10 hd10
      have hc : w.cell? ⟨g, 2, none⟩ = some v3 := by
        have := hJ.box
        rw [hst] at this
        simp [World.cell?, this]
      clear hdep hcl
      go_simp
      exact hK _ _ (I11.put 71 _ hF (by omega) (by decide) (by decide) { hJ with a11 := fun _ => rfl })
    · rintro done a w hcl hdn hdep ⟨hF, hJ⟩ K hK
      have hv : a.tmps[12]?.getD undef = .bool z := (hF.same 12 (by omega)).trans h12
      clear hdep
      go_simp
      exact hK _ _ (I11.put 72 _ hF (by omega) (by decide) (by decide) { hJ with a12 := fun _ => rfl })
    · rintro done a w hcl hdn hdep ⟨hF, hJ⟩ K hK
      have hd12 : done 12 = true := hdep ⟨12, .data⟩ (by simp) rfl
      have hv : a.tmps[72]?.getD undef = .bool z := hJ.a12 hd12
      clear hdep hcl
      go_simp
      exact hK _ _ (I11.put 73 _ hF (by omega) (by decide) (by decide) { hJ with below := hJ.below.alloc (by have := hJ.below.size; omega) _, box := (Below.heap_alloc _ _ _ (by have := hJ.below.size; omega)).trans hJ.box, r1 := fun h => (hJ.r1 h).alloc _, q1 := fun h => ⟨(hJ.q1 h).1.alloc _, (hJ.q1 h).2⟩, r2 := fun h => (hJ.r2 h).alloc _, q2 := fun h => ⟨(hJ.q2 h).1.alloc _, (hJ.q2 h).2⟩, r3 := fun h => (hJ.r3 h).alloc _, q3 := fun h => ⟨(hJ.q3 h).1.alloc _, (hJ.q3 h).2⟩, a3 := fun h h' => (let ⟨b, e, l, hh⟩ := hJ.a3 h h'; ⟨b, e, l, (Below.heap_alloc _ _ _ (Array.getElem?_eq_some_iff.1 hh).1).trans hh⟩), a8 := fun h h' => (let ⟨b, e, l, hh⟩ := hJ.a8 h h'; ⟨b, e, l, (Below.heap_alloc _ _ _ (Array.getElem?_eq_some_iff.1 hh).1).trans hh⟩), a13 := fun _ _ => ⟨w.heap.size, rfl, hJ.below.size, World.alloc_heap_new _ _⟩ })
    · rintro done a w hcl hdn hdep ⟨hF, hJ⟩ K hK
      have hd11 : done 11 = true := hdep ⟨11, .data⟩ (by simp) rfl
      have hd13 : done 13 = true := hdep ⟨13, .data⟩ (by simp) rfl
      have hd9 : done 9 = true := hdep ⟨9, .chain⟩ (by simp) rfl
      have hp : a.tmps[71]?.getD undef = v3 := hJ.a11 hd11
      obtain ⟨b, hb, hbl, hbh⟩ := hJ.a13 hd13 hdn
      have hbs : a.tmps[73]?.getD undef = .slice (some ⟨b, 0, none⟩) 1 1 := hb
      rw [if_pos (show Region.wanted _ _ = true from rfl)]
      refine wp_append_one B _ _ 161 4 (.bool false) 1 rfl Tryz.underlying161 F4.out rfl (by decide) v3 n zs (.bool z) b (by simp [Act.eval, hp]) (by simp [Act.eval, hbs]) hbh rfl (hJ.r3 hdn) (by have := hJ.below.size; omega) (by omega) ?_
      intro u w1 hown hg hat
      have hbl1 : Below g W w1 := hJ.below.trans ⟨hg.os, hg.tape, hg.output, hg.size, fun k hk => hg.block k (by have := hJ.below.size; omega) (own_near hr3 (by omega))⟩
      obtain ⟨hq2, hd4, hq2d⟩ := hJ.q2 hd9
      obtain ⟨hq1, hq1o⟩ := hJ.q1 hd4
      have h20 : done 20 = false := by
        cases h : done 20 with
        | false => rfl
        | true => have := hcl 20 _ rfl h ⟨14, .data⟩ (by simp) rfl; rw [hdn] at this; cases this
      have hbb := hJ.box
      rw [h20] at hbb
      have hbw := (hg.block g (by have := hJ.below.size; omega) (own_near hr3 hgB)).trans hbb
      have hbox1 : w1.heap[g]? = some (.cells #[if also 14 done 16 = true then slots a 64 else v1, if also 14 done 18 = true then slots a 69 else v2, if also 14 done 20 = true then u else v3] 163 (0, 0)) := by
        rw [show also 14 done 20 = false from h20]; exact hbw
      exact hK _ _ (I11.put 74 _ hF (by omega) (by decide) (by decide) { hJ with below := hbl1, box := hbox1, a3 := fun _ h => (by have h2 : done 4 = false := h; rw [hd4] at h2; cases h2), r1 := fun h => (by have h2 : done 4 = false := h; rw [hd4] at h2; cases h2), q1 := fun _ => ⟨hq1.kept hg (own_ne hq1 (hJ.r3 hdn) (by decide)), hq1o⟩, a8 := fun _ h => (by have h2 : done 9 = false := h; rw [hd9] at h2; cases h2), r2 := fun h => (by have h2 : done 9 = false := h; rw [hd9] at h2; cases h2), q2 := fun _ => ⟨hq2.kept hg (own_ne hq2 (hJ.r3 hdn) (by decide)), hd4, hq2d⟩, a13 := fun _ h => (by cases h), r3 := fun h => (by cases h), q3 := fun _ => ⟨hown, hd9⟩ })
    · rintro done a w hcl hdn hdep ⟨hF, hJ⟩ K hK
      have h8' : a.tmps[8]?.getD undef = .pointer (some ⟨g, 0, none⟩) := (hF.same 8 (by omega)).trans h8
      clear hdep
      go_simp
      exact hK _ _ (I11.put 75 _ hF (by omega) (by decide) (by decide) { hJ with a15 := fun _ => rfl })
    · rintro done a w hcl hdn hdep ⟨hF, hJ⟩ K hK
      have hd15 : done 15 = true := hdep ⟨15, .data⟩ (by simp) rfl
      have hd4 : done 4 = true := hdep ⟨4, .data⟩ (by simp) rfl
      have hp : a.tmps[75]?.getD undef = .pointer (some ⟨g, 0, none⟩) := hJ.a15 hd15
      obtain ⟨A, c, hsh⟩ := own_shape (hJ.q1 hd4).1
      have hs : a.tmps[64]?.getD undef = .slice A (n + 1) c := hsh
      have hbb := hJ.box
      have hcell : ∃ u, w.cell? ⟨g, 0, none⟩ = some u := by simp [World.cell?, hbb]
      obtain ⟨u, hcell⟩ := hcell
      have hfz : w.frozen? ⟨g, 0, none⟩ = false := by simp [World.frozen?, hbb]
      clear hdep hcl
      go_simp
      refine hK _ _ ⟨hF, { hJ with below := hJ.below.setCell (p := ⟨g, 0, none⟩) (Nat.le_refl _) _, box := ?_, a3 := fun h h' => (let ⟨b, e, l, hh⟩ := hJ.a3 h h'; ⟨b, e, l, (Below.heap_setCell _ _ _ _ (by simp; omega)).trans hh⟩), r1 := fun h => ownsRow_setCell_below (hJ.r1 h) hgB _, q1 := fun h => ⟨ownsRow_setCell_below (hJ.q1 h).1 hgB _, (hJ.q1 h).2⟩, a8 := fun h h' => (let ⟨b, e, l, hh⟩ := hJ.a8 h h'; ⟨b, e, l, (Below.heap_setCell _ _ _ _ (by simp; omega)).trans hh⟩), r2 := fun h => ownsRow_setCell_below (hJ.r2 h) hgB _, q2 := fun h => ⟨ownsRow_setCell_below (hJ.q2 h).1 hgB _, (hJ.q2 h).2⟩, a13 := fun h h' => (let ⟨b, e, l, hh⟩ := hJ.a13 h h'; ⟨b, e, l, (Below.heap_setCell _ _ _ _ (by simp; omega)).trans hh⟩), r3 := fun h => ownsRow_setCell_below (hJ.r3 h) hgB _, q3 := fun h => ⟨ownsRow_setCell_below (hJ.q3 h).1 hgB _, (hJ.q3 h).2⟩ }⟩
      rw [heap_setCell_same w g 0 _ 163 _ hbb, ← hsh]
      rfl
    · rintro done a w hcl hdn hdep ⟨hF, hJ⟩ K hK
      have h8' : a.tmps[8]?.getD undef = .pointer (some ⟨g, 0, none⟩) := (hF.same 8 (by omega)).trans h8
      clear hdep
      go_simp
      exact hK _ _ (I11.put 76 _ hF (by omega) (by decide) (by decide) { hJ with a17 := fun _ => rfl })
    · rintro done a w hcl hdn hdep ⟨hF, hJ⟩ K hK
      have hd17 : done 17 = true := hdep ⟨17, .data⟩ (by simp) rfl
      have hd9 : done 9 = true := hdep ⟨9, .data⟩ (by simp) rfl
      have hp : a.tmps[76]?.getD undef = .pointer (some ⟨g, 1, none⟩) := hJ.a17 hd17
      obtain ⟨A, c, hsh⟩ := own_shape (hJ.q2 hd9).1
      have hs : a.tmps[69]?.getD undef = .slice A (n + 1) c := hsh
      have hbb := hJ.box
      have hcell : ∃ u, w.cell? ⟨g, 1, none⟩ = some u := by simp [World.cell?, hbb]
      obtain ⟨u, hcell⟩ := hcell
      have hfz : w.frozen? ⟨g, 1, none⟩ = false := by simp [World.frozen?, hbb]
      clear hdep hcl
      go_simp
      refine hK _ _ ⟨hF, { hJ with below := hJ.below.setCell (p := ⟨g, 1, none⟩) (Nat.le_refl _) _, box := ?_, a3 := fun h h' => (let ⟨b, e, l, hh⟩ := hJ.a3 h h'; ⟨b, e, l, (Below.heap_setCell _ _ _ _ (by simp; omega)).trans hh⟩), r1 := fun h => ownsRow_setCell_below (hJ.r1 h) hgB _, q1 := fun h => ⟨ownsRow_setCell_below (hJ.q1 h).1 hgB _, (hJ.q1 h).2⟩, a8 := fun h h' => (let ⟨b, e, l, hh⟩ := hJ.a8 h h'; ⟨b, e, l, (Below.heap_setCell _ _ _ _ (by simp; omega)).trans hh⟩), r2 := fun h => ownsRow_setCell_below (hJ.r2 h) hgB _, q2 := fun h => ⟨ownsRow_setCell_below (hJ.q2 h).1 hgB _, (hJ.q2 h).2⟩, a13 := fun h h' => (let ⟨b, e, l, hh⟩ := hJ.a13 h h'; ⟨b, e, l, (Below.heap_setCell _ _ _ _ (by simp; omega)).trans hh⟩), r3 := fun h => ownsRow_setCell_below (hJ.r3 h) hgB _, q3 := fun h => ⟨ownsRow_setCell_below (hJ.q3 h).1 hgB _, (hJ.q3 h).2⟩ }⟩
      rw [heap_setCell_same w g 1 _ 163 _ hbb, ← hsh]
      rfl
    · rintro done a w hcl hdn hdep ⟨hF, hJ⟩ K hK
      have h8' : a.tmps[8]?.getD undef = .pointer (some ⟨g, 0, none⟩) := (hF.same 8 (by omega)).trans h8
      clear hdep
      go_simp
      exact hK _ _ (I11.put 77 _ hF (by omega) (by decide) (by decide) { hJ with a19 := fun _ => rfl })
    · rintro done a w hcl hdn hdep ⟨hF, hJ⟩ K hK
      have hd19 : done 19 = true := hdep ⟨19, .data⟩ (by simp) rfl
      have hd14 : done 14 = true := hdep ⟨14, .data⟩ (by simp) rfl
      have hp : a.tmps[77]?.getD undef = .pointer (some ⟨g, 2, none⟩) := hJ.a19 hd19
      obtain ⟨A, c, hsh⟩ := own_shape (hJ.q3 hd14).1
      have hs : a.tmps[74]?.getD undef = .slice A (n + 1) c := hsh
      have hbb := hJ.box
      have hcell : ∃ u, w.cell? ⟨g, 2, none⟩ = some u := by simp [World.cell?, hbb]
      obtain ⟨u, hcell⟩ := hcell
      have hfz : w.frozen? ⟨g, 2, none⟩ = false := by simp [World.frozen?, hbb]
      clear hdep hcl
      go_simp
      refine hK _ _ ⟨hF, { hJ with below := hJ.below.setCell (p := ⟨g, 2, none⟩) (Nat.le_refl _) _, box := ?_, a3 := fun h h' => (let ⟨b, e, l, hh⟩ := hJ.a3 h h'; ⟨b, e, l, (Below.heap_setCell _ _ _ _ (by simp; omega)).trans hh⟩), r1 := fun h => ownsRow_setCell_below (hJ.r1 h) hgB _, q1 := fun h => ⟨ownsRow_setCell_below (hJ.q1 h).1 hgB _, (hJ.q1 h).2⟩, a8 := fun h h' => (let ⟨b, e, l, hh⟩ := hJ.a8 h h'; ⟨b, e, l, (Below.heap_setCell _ _ _ _ (by simp; omega)).trans hh⟩), r2 := fun h => ownsRow_setCell_below (hJ.r2 h) hgB _, q2 := fun h => ⟨ownsRow_setCell_below (hJ.q2 h).1 hgB _, (hJ.q2 h).2⟩, a13 := fun h h' => (let ⟨b, e, l, hh⟩ := hJ.a13 h h'; ⟨b, e, l, (Below.heap_setCell _ _ _ _ (by simp; omega)).trans hh⟩), r3 := fun h => ownsRow_setCell_below (hJ.r3 h) hgB _, q3 := fun h => ⟨ownsRow_setCell_below (hJ.q3 h).1 hgB _, (hJ.q3 h).2⟩ }⟩
      rw [heap_setCell_same w g 2 _ 163 _ hbb, ← hsh]
      rfl
  · rintro done a w hall ⟨hF, hJ⟩
    have d4 := hall 4 (by decide)
    have d9 := hall 9 (by decide)
    have d14 := hall 14 (by decide)
    have hbb := hJ.box
    rw [hall 16 (by decide), hall 18 (by decide), hall 20 (by decide)] at hbb
    exact hQ a w _ _ _ hF hJ.below hbb (hJ.q1 d4).1 (hJ.q2 d9).1 (hJ.q3 d14).1 (hJ.q2 d9).2.2
end Go.Proofs.YtpgnplmjfhdncaaGreat
