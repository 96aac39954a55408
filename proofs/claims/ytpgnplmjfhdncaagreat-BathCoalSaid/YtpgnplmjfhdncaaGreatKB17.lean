/- A part of the proof: B17. -/
import Derived.Test.YtpgnplmjfhdncaaGreatKB6
import Derived.Test.YtpgnplmjfhdncaaGreatKC10a
namespace Go.Proofs.YtpgnplmjfhdncaaGreat
open Go.RowKit
set_option linter.unusedVariables false
/-- Region 1 of Free: n and e come from planned; in what way the work's memory is, says Z. -/
structure J48 (r : Rm) (q : RA) (a1 : Option Addr) (l1 c1 : Nat) (hour : Int) (b0 : Nat) (n : List Int) (er : Int) (pv : Nat → Value) (Z : Nat → World → Prop) (sep : Nat → Nat → Prop) (W : World) (m : Nat) (done : Nat → Bool) (s : Nat → Value) (w : World) : Prop where
  gr : Below W.heap.size W w
  a0 : done 0 = true → s 13 = roomV r q
  a1 : done 1 = true → s 14 = .slice a1 l1 c1
  a2 : done 2 = true → s 15 = .int .i64 hour
  a3 : done 3 = true → s 16 = .pointer (some ⟨b0, 0, none⟩)
  a4 : done 4 = true → s 17 = .pointer (some ⟨b0, 0, none⟩)
  a5 : done 5 = true → s 18 = .int .i64 r.cop.last
  a6 : done 6 = true → s 19 = .bool (within hour 0 r.cop.last)
  a7 : done 7 = true → s 20 = .tuple #[pv m, nv n, .int .i64 er] ∧ Z m w
  a8 : done 8 = true → s 12 = .tuple #[pv m, nv n, .int .i64 er]
  a9 : done 9 = true → s 21 = pv m
  a10 : done 10 = true → s 22 = nv n
  a11 : done 11 = true → s 23 = .int .i64 er
  a12 : done 12 = true → ∃ g, s 9 = .pointer (some ⟨g, 0, none⟩) ∧ W.heap.size ≤ g ∧ w.heap[g]? = some (.cells (if done 14 = true then nvs n else nvs []) 115 (0, 0)) ∧ (done 7 = true → sep g m)
  a13 : done 13 = true → s 8 = pv m
  a15 : done 15 = true → s 10 = .int .i64 er
def I48 (a0 : Act) (r : Rm) (q : RA) (a1 : Option Addr) (l1 c1 : Nat) (hour : Int) (b0 : Nat) (n : List Int) (er : Int) (pv : Nat → Value) (Z : Nat → World → Prop) (sep : Nat → Nat → Prop) (W : World) (done : Nat → Bool) (a : Act) (w : World) : Prop :=
  ∃ m, Fr 8 23 a0 a ∧ J48 r q a1 l1 c1 hour b0 n er pv Z sep W m done (slots a) w
theorem I48.put {a0 : Act} {r : Rm} {q : RA} {a1 : Option Addr} {l1 c1 : Nat} {hour : Int} {b0 : Nat} {n : List Int} {er : Int} {pv : Nat → Value} {Z : Nat → World → Prop} {sep : Nat → Nat → Prop} {W : World} {done : Nat → Bool} {a : Act} {w : World} (m i : Nat) (u : Value)
    (hF : Fr 8 23 a0 a) (h0 : 23 < a0.tmps.size) (h1 : 8 ≤ i) (h2 : i ≤ 23) (hJ : J48 r q a1 l1 c1 hour b0 n er pv Z sep W m done (upd (slots a) i u) w) :
    I48 a0 r q a1 l1 c1 hour b0 n er pv Z sep W done { tmps := a.tmps.setIfInBounds i u, defers := a.defers } w :=
  ⟨m, hF.put i u h1 h2 h0, by rw [slots_put a i u (by rw [hF.sz]; omega)]; exact hJ⟩
set_option maxRecDepth 100000 in
set_option maxHeartbeats 8000000 in
theorem r48 (ops : List Oper) (hops : Tryz.f48.body.bind (regionIn 1) = some ops) {Q : Exit → Act → World → Prop} (a0 : Act) (W : World) (r : Rm) (q : RA) (a1 : Option Addr) (l1 c1 : Nat) (hour : Int) (b0 : Nat) (n : List Int) (er : Int) (pv : Nat → Value) (Z : Nat → World → Prop) (sep : Nat → Nat → Prop)
    (hsz : a0.tmps.size = 47) (h1 : slots a0 1 = .slice a1 l1 c1) (h2 : slots a0 2 = .int .i64 hour) (h3 : slots a0 3 = .pointer (some ⟨b0, 0, none⟩)) (hbx : Box W b0 (roomCs r q)) (hb0 : b0 < W.heap.size)
    (hcall : ∀ w, Below W.heap.size W w → Calls Tryz.prog 83 #[roomV r q, .slice a1 l1 c1, .bool (within hour 0 r.cop.last)] w fun e w' => ∃ m, e = .returned (.tuple #[pv m, nv n, .int .i64 er]) ∧ Below w.heap.size w w' ∧ Z m w' ∧ ∀ g, g < w.heap.size → sep g m)
    (hZ : ∀ m a b, Z m a → Below a.heap.size a b → Z m b) (hZs : ∀ m a, Z m a → sep a.heap.size m) (hZc : ∀ m a g o v, Z m a → sep g m → W.heap.size ≤ g → Z m (a.setCell ⟨g, o, none⟩ v))
    (hQ : ∀ a w m g, Fr 8 23 a0 a → Below W.heap.size W w → slots a 8 = pv m → slots a 9 = .pointer (some ⟨g, 0, none⟩) → W.heap.size ≤ g → w.heap[g]? = some (.cells (nvs n) 115 (0, 0)) → slots a 10 = .int .i64 er → Z m w → sep g m → Q .normal a w) :
    (Code.region 1 ops.toArray true).wp Tryz.prog Q a0 W := by
  simp only [Tryz.f48, regionIn, Option.bind_some] at hops
  simp at hops
  subst hops
  refine wp_region_inv (I48 a0 r q a1 l1 c1 hour b0 n er pv Z sep W) tryz_mixed (by kernel_rfl) ⟨0, Fr.refl _ _ _, ?_⟩ ?_ ?_
  · exact { gr := bl_dr (Below.refl _ _), a0 := fun h => (by cases h), a1 := fun h => (by cases h), a2 := fun h => (by cases h), a3 := fun h => (by cases h), a4 := fun h => (by cases h), a5 := fun h => (by cases h), a6 := fun h => (by cases h), a7 := fun h => (by cases h), a8 := fun h => (by cases h), a9 := fun h => (by cases h), a10 := fun h => (by cases h), a11 := fun h => (by cases h), a12 := fun h => (by cases h), a13 := fun h => (by cases h), a15 := fun h => (by cases h) }
  · refine ⟨?_, ?_, ?_, ?_, ?_, ?_, ?_, ?_, ?_, ?_, ?_, ?_, ?_, ?_, ?_, ?_, trivial⟩
    · rintro done a w hcl hdn hdep ⟨m, hF, hJ⟩ K hK
      have h3' : a.tmps[3]?.getD undef = .pointer (some ⟨b0, 0, none⟩) := (hF.same 3 (by omega)).trans h3
      have hb : Box w b0 (roomCs r q) := hbx.below hJ.gr hb0
      unfold Box roomCs at hb
      clear hdep hcl
      go_simp
      exact hK _ _ (I48.put m 13 _ hF (by omega) (by decide) (by decide) { hJ with a0 := fun _ => rfl })
    · rintro done a w hcl hdn hdep ⟨m, hF, hJ⟩ K hK
      have h' : a.tmps[1]?.getD undef = .slice a1 l1 c1 := (hF.same 1 (by omega)).trans h1
      clear hdep hcl
      go_simp
      exact hK _ _ (I48.put m 14 _ hF (by omega) (by decide) (by decide) { hJ with a1 := fun _ => rfl })
    · rintro done a w hcl hdn hdep ⟨m, hF, hJ⟩ K hK
      have h' : a.tmps[2]?.getD undef = .int .i64 hour := (hF.same 2 (by omega)).trans h2
      clear hdep hcl
      go_simp
      exact hK _ _ (I48.put m 15 _ hF (by omega) (by decide) (by decide) { hJ with a2 := fun _ => rfl })
    · rintro done a w hcl hdn hdep ⟨m, hF, hJ⟩ K hK
      have h3' : a.tmps[3]?.getD undef = .pointer (some ⟨b0, 0, none⟩) := (hF.same 3 (by omega)).trans h3
      clear hdep hcl
      go_simp
      exact hK _ _ (I48.put m 16 _ hF (by omega) (by decide) (by decide) { hJ with a3 := fun _ => rfl })
    · rintro done a w hcl hdn hdep ⟨m, hF, hJ⟩ K hK
      have h' : a.tmps[16]?.getD undef = .pointer (some ⟨b0, 0, none⟩) := hJ.a3 (hdep ⟨3, .data⟩ (by simp) rfl)
      clear hdep hcl
      go_simp
      exact hK _ _ (I48.put m 17 _ hF (by omega) (by decide) (by decide) { hJ with a4 := fun _ => rfl })
    · rintro done a w hcl hdn hdep ⟨m, hF, hJ⟩ K hK
      have h' : a.tmps[17]?.getD undef = .pointer (some ⟨b0, 0, none⟩) := hJ.a4 (hdep ⟨4, .data⟩ (by simp) rfl)
      have hc : w.cell? ⟨b0, 0, none⟩ = some (.int .i64 r.cop.last) := (hbx.below hJ.gr hb0) 0
      clear hdep hcl
      go_simp
      exact hK _ _ (I48.put m 18 _ hF (by omega) (by decide) (by decide) { hJ with a5 := fun _ => rfl })
    · rintro done a w hcl hdn hdep ⟨m, hF, hJ⟩ K hK
      have h' : a.tmps[15]?.getD undef = .int .i64 hour := hJ.a2 (hdep ⟨2, .data⟩ (by simp) rfl)
      have h'' : a.tmps[18]?.getD undef = .int .i64 r.cop.last := hJ.a5 (hdep ⟨5, .data⟩ (by simp) rfl)
      clear hdep hcl
      go_simp
      refine (within9_c _ _ _ _).mono ?_
      rintro e w1 ⟨rfl, rfl⟩
      exact hK _ _ (I48.put m 19 _ hF (by omega) (by decide) (by decide) { hJ with a6 := fun _ => rfl })
    · rintro done a w hcl hdn hdep ⟨m, hF, hJ⟩ K hK
      have x1 : a.tmps[13]?.getD undef = roomV r q := hJ.a0 (hdep ⟨0, .data⟩ (by simp) rfl)
      have x2 : a.tmps[14]?.getD undef = .slice a1 l1 c1 := hJ.a1 (hdep ⟨1, .data⟩ (by simp) rfl)
      have x3 : a.tmps[19]?.getD undef = .bool (within hour 0 r.cop.last) := hJ.a6 (hdep ⟨6, .data⟩ (by simp) rfl)
      have h14 : done 14 = false := by
        cases h : done 14 with
        | false => rfl
        | true => have := hcl 14 _ rfl h ⟨7, .phase⟩ (by simp) rfl; rw [hdn] at this; cases this
      have h8 : done 8 = false := by
        cases h : done 8 with
        | false => rfl
        | true => have := hcl 8 _ rfl h ⟨7, .data⟩ (by simp) rfl; rw [hdn] at this; cases this
      have h9 : done 9 = false := by
        cases h : done 9 with
        | false => rfl
        | true => have := hcl 9 _ rfl h ⟨8, .data⟩ (by simp) rfl; rw [h8] at this; cases this
      have h13 : done 13 = false := by
        cases h : done 13 with
        | false => rfl
        | true => have := hcl 13 _ rfl h ⟨7, .phase⟩ (by simp) rfl; rw [hdn] at this; cases this
      clear hdep hcl
      go_simp
      refine (hcall w hJ.gr).mono ?_
      rintro e w1 ⟨m', rfl, hb, hz, hs⟩
      refine hK _ _ (I48.put m' 20 _ hF (by omega) (by decide) (by decide) { hJ with gr := bl_tr hJ.gr hb, a7 := fun _ => ⟨rfl, hz⟩, a8 := fun h => (by have h' : done 8 = true := h; rw [h8] at h'; cases h'), a9 := fun h => (by have h' : done 9 = true := h; rw [h9] at h'; cases h'), a13 := fun h => (by have h' : done 13 = true := h; rw [h13] at h'; cases h'), a12 := fun h => ?_ })
      obtain ⟨g, e1, e2, e3, e4⟩ := hJ.a12 h
      exact ⟨g, e1, e2, (hb.block _ (Array.getElem?_eq_some_iff.1 e3).1).trans e3, fun _ => hs g (Array.getElem?_eq_some_iff.1 e3).1⟩
    · rintro done a w hcl hdn hdep ⟨m, hF, hJ⟩ K hK
      have x1 : a.tmps[20]?.getD undef = .tuple #[pv m, nv n, .int .i64 er] := (hJ.a7 (hdep ⟨7, .data⟩ (by simp) rfl)).1
      clear hdep hcl
      go_simp
      exact hK _ _ (I48.put m 12 _ hF (by omega) (by decide) (by decide) { hJ with a8 := fun _ => rfl })
    · rintro done a w hcl hdn hdep ⟨m, hF, hJ⟩ K hK
      have x1 : a.tmps[12]?.getD undef = .tuple #[pv m, nv n, .int .i64 er] := hJ.a8 (hdep ⟨8, .data⟩ (by simp) rfl)
      clear hdep hcl
      go_simp
      exact hK _ _ (I48.put m 21 _ hF (by omega) (by decide) (by decide) { hJ with a9 := fun _ => rfl })
    · rintro done a w hcl hdn hdep ⟨m, hF, hJ⟩ K hK
      have x1 : a.tmps[12]?.getD undef = .tuple #[pv m, nv n, .int .i64 er] := hJ.a8 (hdep ⟨8, .data⟩ (by simp) rfl)
      clear hdep hcl
      go_simp
      exact hK _ _ (I48.put m 22 _ hF (by omega) (by decide) (by decide) { hJ with a10 := fun _ => rfl })
    · rintro done a w hcl hdn hdep ⟨m, hF, hJ⟩ K hK
      have x1 : a.tmps[12]?.getD undef = .tuple #[pv m, nv n, .int .i64 er] := hJ.a8 (hdep ⟨8, .data⟩ (by simp) rfl)
      clear hdep hcl
      go_simp
      exact hK _ _ (I48.put m 23 _ hF (by omega) (by decide) (by decide) { hJ with a11 := fun _ => rfl })
    · rintro done a w hcl hdn hdep ⟨m, hF, hJ⟩ K hK
      have h14 : done 14 = false := by
        cases h : done 14 with
        | false => rfl
        | true => have := hcl 14 _ rfl h ⟨12, .data⟩ (by simp) rfl; rw [hdn] at this; cases this
      clear hdep hcl
      go_simp
      refine hK _ _ (I48.put m 9 _ hF (by omega) (by decide) (by decide) { hJ with gr := bl_al hJ.gr _, a7 := fun h => ⟨(hJ.a7 h).1, hZ _ _ _ (hJ.a7 h).2 (bl_al (Below.refl _ _) _)⟩, a12 := fun _ => ⟨w.heap.size, rfl, hJ.gr.size, ?_, fun h => hZs _ _ (hJ.a7 h).2⟩ })
      rw [show also 12 done 14 = false from h14]
      exact World.alloc_heap_new _ _
    · rintro done a w hcl hdn hdep ⟨m, hF, hJ⟩ K hK
      have x1 : a.tmps[21]?.getD undef = pv m := hJ.a9 (hdep ⟨9, .data⟩ (by simp) rfl)
      clear hdep hcl
      go_simp
      exact hK _ _ (I48.put m 8 _ hF (by omega) (by decide) (by decide) { hJ with a13 := fun _ => rfl })
    · rintro done a w hcl hdn hdep ⟨m, hF, hJ⟩ K hK
      have x1 : a.tmps[22]?.getD undef = nv n := hJ.a10 (hdep ⟨10, .data⟩ (by simp) rfl)
      have hd7 : done 7 = true := hdep ⟨7, .phase⟩ (by simp) rfl
      obtain ⟨g, e1, e2, e3, e4⟩ := hJ.a12 (hdep ⟨12, .data⟩ (by simp) rfl)
      have x2 : a.tmps[9]?.getD undef = .pointer (some ⟨g, 0, none⟩) := e1
      rw [hdn] at e3
      have hfz : ∀ o, w.frozen? ⟨g, o, none⟩ = false := fun o => by simp [World.frozen?, e3]
      have hcz : ∀ o, w.cell? ⟨g, o, none⟩ = (nvs [])[o]? := fun o => by simp [World.cell?, e3]
      clear hdep hcl
      go_simp
      have hz := hJ.a7 hd7
      have hgr : Below W.heap.size W (((((w.setCell ⟨g, 0, none⟩ (.int .i64 (nth n 0))).setCell ⟨g, 1, none⟩ (.int .i64 (nth n 1))).setCell ⟨g, 2, none⟩ (.int .i64 (nth n 2))).setCell ⟨g, 3, none⟩ (.int .i64 (nth n 3))).setCell ⟨g, 4, none⟩ (.int .i64 (nth n 4))) := bl_st (bl_st (bl_st (bl_st (bl_st hJ.gr e2 _) e2 _) e2 _) e2 _) e2 _
      have s7 := e4 hd7
      refine hK _ _ ⟨m, hF, { hJ with gr := hgr, a7 := fun _ => ⟨hz.1, hZc _ _ _ _ _ (hZc _ _ _ _ _ (hZc _ _ _ _ _ (hZc _ _ _ _ _ (hZc _ _ _ _ _ hz.2 s7 e2) s7 e2) s7 e2) s7 e2) s7 e2⟩, a12 := fun _ => ⟨g, e1, e2, ?_, fun _ => s7⟩ }⟩
      exact zero5 w g _ rfl e3 _ _ _ _ _
    · rintro done a w hcl hdn hdep ⟨m, hF, hJ⟩ K hK
      have x1 : a.tmps[23]?.getD undef = .int .i64 er := hJ.a11 (hdep ⟨11, .data⟩ (by simp) rfl)
      clear hdep hcl
      go_simp
      exact hK _ _ (I48.put m 10 _ hF (by omega) (by decide) (by decide) { hJ with a15 := fun _ => rfl })
  · rintro done a w hd ⟨m, hF, hJ⟩
    obtain ⟨g, hg, hgw, hgh, hs⟩ := hJ.a12 (hd 12 (by decide))
    rw [hd 14 (by decide)] at hgh
    exact hQ a w m g hF hJ.gr (hJ.a13 (hd 13 (by decide))) hg hgw hgh (hJ.a15 (hd 15 (by decide))) (hJ.a7 (hd 7 (by decide))).2 (hs (hd 7 (by decide)))
end Go.Proofs.YtpgnplmjfhdncaaGreat
