/- Give: the region that goes on with one bath more. -/
import Derived.Test.YtpgnplmjfhdncaaGreatKP1
import Derived.WalkMore
import Derived.ScopeJumps
import Derived.Deep.Cut
namespace Go.Proofs.YtpgnplmjfhdncaaGreat
open Go.RowKit
set_option linter.unusedVariables false
structure J99 (g gw b0 gc : Nat) (a : Option Addr) (k : Nat) (out : List Int) (h mm : Int) (R : Bool → World → Prop) (W : World) (A1 : Option Addr) (K1 : Nat) (A2 : Option Addr) (K2 : Nat) (bb : Bool) (done : Nat → Bool) (s : Nat → Value) (w : World) : Prop where
  gr : done 10 = false → Below W.heap.size W w
  rr : done 10 = true → R bb w
  a0 : done 0 = true → s 28 = .func (.func 99) #[] #[.pointer (some ⟨g, 0, none⟩), .pointer (some ⟨gw, 0, none⟩), .pointer (some ⟨b0, 0, none⟩), .pointer (some ⟨gc, 0, none⟩)]
  a1 : done 1 = true → s 29 = .slice a out.length k
  a2 : done 2 = true → s 30 = .slice A1 out.length K1
  a3 : done 3 = true → s 31 = .int .i64 h
  a5 : done 5 = true → s 33 = .slice A2 (out.length + 1) K2
  a6 : done 6 = true → s 34 = .int .i64 h
  a7 : done 7 = true → s 35 = .int .i64 (h + 1)
  a8 : done 8 = true → s 36 = .int .i64 mm
  a9 : done 9 = true → s 37 = .int .i64 (mm - 1)
  a10 : done 10 = true → s 38 = .bool bb
  fc : done 2 = true → done 5 = false → w.ownsRow W.heap.size 3 1 (.slice A1 out.length K1) out.length (ints out)
  bu : done 4 = true → done 5 = false → ∃ b, s 32 = .slice (some ⟨b, 0, none⟩) 1 1 ∧ W.heap.size ≤ b ∧ w.heap[b]? = some (.cells #[.int .i64 h] 3 (0, 0))
  fa : done 5 = true → done 10 = false → w.ownsRow W.heap.size 3 1 (.slice A2 (out.length + 1) K2) (out.length + 1) (ints (out ++ [h]))
def I99 (a0 : Act) (g gw b0 gc : Nat) (a : Option Addr) (k : Nat) (out : List Int) (h mm : Int) (R : Bool → World → Prop) (W : World) (done : Nat → Bool) (ac : Act) (w : World) : Prop :=
  ∃ (A1 : Option Addr) (K1 : Nat) (A2 : Option Addr) (K2 : Nat) (bb : Bool), Fr 28 38 a0 ac ∧ J99 g gw b0 gc a k out h mm R W A1 K1 A2 K2 bb done (slots ac) w
theorem I99.put {a0 : Act} {g gw b0 gc : Nat} {a : Option Addr} {k : Nat} {out : List Int} {h mm : Int} {R : Bool → World → Prop} {W : World} {A1 : Option Addr} {K1 : Nat} {A2 : Option Addr} {K2 : Nat} {bb : Bool} {done : Nat → Bool} {ac : Act} {w : World} (j : Nat) (u : Value)
    (hF : Fr 28 38 a0 ac) (h0 : 38 < a0.tmps.size) (h1 : 28 ≤ j) (h2 : j ≤ 38) (hJ : J99 g gw b0 gc a k out h mm R W A1 K1 A2 K2 bb done (upd (slots ac) j u) w) :
    I99 a0 g gw b0 gc a k out h mm R W done { tmps := ac.tmps.setIfInBounds j u, defers := ac.defers } w :=
  ⟨A1, K1, A2, K2, bb, hF.put j u h1 h2 h0, by rw [slots_put ac j u (by rw [hF.sz]; omega)]; exact hJ⟩
set_option maxRecDepth 100000 in
set_option maxHeartbeats 8000000 in
theorem r99 (ops : List Oper) (hops : Tryz.f99.body.bind (regionIn 7) = some ops) {Q : Exit → Act → World → Prop} (a0 : Act) (g gw b0 gc : Nat) (a : Option Addr) (k : Nat) (out : List Int) (h mm : Int) (R : Bool → World → Prop) (W : World)
    (hsz : a0.tmps.size = 39) (s6 : slots a0 6 = .pointer (some ⟨gc, 0, none⟩)) (s0 : slots a0 0 = .slice a out.length k) (s11 : slots a0 11 = .int .i64 h) (s2 : slots a0 2 = .int .i64 mm)
    (hch : Box W gc #[.func (.func 99) #[] #[.pointer (some ⟨g, 0, none⟩), .pointer (some ⟨gw, 0, none⟩), .pointer (some ⟨b0, 0, none⟩), .pointer (some ⟨gc, 0, none⟩)]]) (hh0 : 0 ≤ h) (hh9 : h ≤ 1000) (hm0 : 0 ≤ mm) (hm9 : mm ≤ 1000) (hpl : out.length ≤ 1000)
    (hc101 : ∀ w, Below W.heap.size W w → Calls Tryz.prog 101 #[.slice a out.length k] w fun e w' => ∃ A1 K1, e = .returned (.slice A1 out.length K1) ∧ w'.ownsRow w.heap.size 3 1 (.slice A1 out.length K1) out.length (ints out) ∧ Below w.heap.size w w')
    (hcr : ∀ A2 K2 w, Below W.heap.size W w → w.ownsRow W.heap.size 3 1 (.slice A2 (out.length + 1) K2) (out.length + 1) (ints (out ++ [h])) → Calls Tryz.prog 99 #[.slice A2 (out.length + 1) K2, .int .i64 (h + 1), .int .i64 (mm - 1), .pointer (some ⟨g, 0, none⟩), .pointer (some ⟨gw, 0, none⟩), .pointer (some ⟨b0, 0, none⟩), .pointer (some ⟨gc, 0, none⟩)] w fun e w' => ∃ bb, e = .returned (.bool bb) ∧ R bb w')
    (hQ : ∀ ac w bb, Fr 28 38 a0 ac → slots ac 38 = .bool bb → R bb w → Q .normal ac w) :
    (Code.region 7 ops.toArray true).wp Tryz.prog Q a0 W := by
  simp only [Tryz.f99, regionIn, Option.bind_some] at hops
  simp at hops
  subst hops
  have F := Lib.hid info3
  refine wp_region_inv (I99 a0 g gw b0 gc a k out h mm R W) tryz_mixed (by kernel_rfl) ⟨none, 0, none, 0, true, Fr.refl _ _ _, ?_⟩ ?_ ?_
  · exact { gr := fun _ => bl_dr (Below.refl _ _), rr := fun h => (by cases h), fc := fun h => (by cases h), bu := fun h => (by cases h), fa := fun h => (by cases h), a0 := fun h => (by cases h), a1 := fun h => (by cases h), a2 := fun h => (by cases h), a3 := fun h => (by cases h), a5 := fun h => (by cases h), a6 := fun h => (by cases h), a7 := fun h => (by cases h), a8 := fun h => (by cases h), a9 := fun h => (by cases h), a10 := fun h => (by cases h) }
  · refine ⟨?_, ?_, ?_, ?_, ?_, ?_, ?_, ?_, ?_, ?_, ?_, trivial⟩
    · rintro done ac w hcl hdn hdep ⟨A1, K1, A2, K2, bb, hF, hJ⟩ K hK
      have y6 : ac.tmps[6]?.getD undef = .pointer (some ⟨gc, 0, none⟩) := (hF.same 6 (by omega)).trans s6
      have h10 : done 10 = false := by
        cases h' : done 10 with
        | false => rfl
        | true => have := hcl 10 _ rfl h' ⟨0, .data⟩ (by simp) rfl; rw [hdn] at this; cases this
      have c0 : w.cell? ⟨gc, 0, none⟩ = some (.func (.func 99) #[] #[.pointer (some ⟨g, 0, none⟩), .pointer (some ⟨gw, 0, none⟩), .pointer (some ⟨b0, 0, none⟩), .pointer (some ⟨gc, 0, none⟩)]) := ((hJ.gr h10).cell (World.block_lt_of_cell? W _ (hch 0))).trans (hch 0)
      clear hdep hcl
      go_simp
      exact hK _ _ (I99.put 28 _ hF (by omega) (by decide) (by decide) { hJ with a0 := fun _ => rfl })
    · rintro done ac w hcl hdn hdep ⟨A1, K1, A2, K2, bb, hF, hJ⟩ K hK
      have y0 : ac.tmps[0]?.getD undef = .slice a out.length k := (hF.same 0 (by omega)).trans s0
      have h2 : done 2 = false := by
        cases h' : done 2 with
        | false => rfl
        | true => have := hcl 2 _ rfl h' ⟨1, .data⟩ (by simp) rfl; rw [hdn] at this; cases this
      have h5 : done 5 = false := by
        cases h' : done 5 with
        | false => rfl
        | true => have := hcl 5 _ rfl h' ⟨2, .data⟩ (by simp) rfl; rw [h2] at this; cases this
      have h10 : done 10 = false := by
        cases h' : done 10 with
        | false => rfl
        | true => have := hcl 10 _ rfl h' ⟨5, .data⟩ (by simp) rfl; rw [h5] at this; cases this
      clear hdep hcl
      go_simp
      exact hK _ _ (I99.put 29 _ hF (by omega) (by decide) (by decide) { hJ with a1 := fun _ => rfl })
    · rintro done ac w hcl hdn hdep ⟨A1, K1, A2, K2, bb, hF, hJ⟩ K hK
      have x1 : ac.tmps[29]?.getD undef = .slice a out.length k := hJ.a1 (hdep ⟨1, .data⟩ (by simp) rfl)
      have h5 : done 5 = false := by
        cases h' : done 5 with
        | false => rfl
        | true => have := hcl 5 _ rfl h' ⟨2, .data⟩ (by simp) rfl; rw [hdn] at this; cases this
      have h10 : done 10 = false := by
        cases h' : done 10 with
        | false => rfl
        | true => have := hcl 10 _ rfl h' ⟨5, .data⟩ (by simp) rfl; rw [h5] at this; cases this
      clear hdep hcl
      go_simp
      refine (hc101 w (hJ.gr h10)).mono ?_
      rintro e w1 ⟨A1', K1', rfl, hr, hb⟩
      have hw := (hJ.gr h10).size
      exact hK _ _ (I99.put (A1 := A1') (K1 := K1') 30 _ hF (by omega) (by decide) (by decide) { hJ with gr := fun _ => (hJ.gr h10).trans (hb.mono hw), rr := (fun h' => (by have h2 : done 10 = true := h'; rw [h10] at h2; cases h2)), a2 := fun _ => rfl, fc := fun _ _ => own_base hr hw, bu := fun h1 h2 => (let ⟨b, e1, e2, e3⟩ := hJ.bu h1 h2; ⟨b, e1, e2, (hb.block _ (Array.getElem?_eq_some_iff.1 e3).1).trans e3⟩), fa := fun h' _ => (by have h2 : done 5 = true := h'; rw [h5] at h2; cases h2) })
    · rintro done ac w hcl hdn hdep ⟨A1, K1, A2, K2, bb, hF, hJ⟩ K hK
      have y11 : ac.tmps[11]?.getD undef = .int .i64 h := (hF.same 11 (by omega)).trans s11
      have h4 : done 4 = false := by
        cases h' : done 4 with
        | false => rfl
        | true => have := hcl 4 _ rfl h' ⟨3, .data⟩ (by simp) rfl; rw [hdn] at this; cases this
      have h5 : done 5 = false := by
        cases h' : done 5 with
        | false => rfl
        | true => have := hcl 5 _ rfl h' ⟨4, .data⟩ (by simp) rfl; rw [h4] at this; cases this
      have h10 : done 10 = false := by
        cases h' : done 10 with
        | false => rfl
        | true => have := hcl 10 _ rfl h' ⟨5, .data⟩ (by simp) rfl; rw [h5] at this; cases this
      clear hdep hcl
      go_simp
      exact hK _ _ (I99.put 31 _ hF (by omega) (by decide) (by decide) { hJ with a3 := fun _ => rfl })
    · rintro done ac w hcl hdn hdep ⟨A1, K1, A2, K2, bb, hF, hJ⟩ K hK
      have x3 : ac.tmps[31]?.getD undef = .int .i64 h := hJ.a3 (hdep ⟨3, .data⟩ (by simp) rfl)
      have h5 : done 5 = false := by
        cases h' : done 5 with
        | false => rfl
        | true => have := hcl 5 _ rfl h' ⟨4, .data⟩ (by simp) rfl; rw [hdn] at this; cases this
      have h10 : done 10 = false := by
        cases h' : done 10 with
        | false => rfl
        | true => have := hcl 10 _ rfl h' ⟨5, .data⟩ (by simp) rfl; rw [h5] at this; cases this
      clear hdep hcl
      go_simp
      have hw := (hJ.gr h10).size
      exact hK _ _ (I99.put 32 _ hF (by omega) (by decide) (by decide) { hJ with gr := fun _ => bl_al (hJ.gr h10) _, rr := (fun h' => (by have h2 : done 10 = true := h'; rw [h10] at h2; cases h2)), fc := fun h1 h2 => (hJ.fc h1 h2).alloc _, bu := fun _ _ => ⟨w.heap.size, rfl, hw, World.alloc_heap_new _ _⟩, fa := fun h' _ => (by have h2 : done 5 = true := h'; rw [h5] at h2; cases h2) })
    · rintro done ac w hcl hdn hdep ⟨A1, K1, A2, K2, bb, hF, hJ⟩ K hK
      have x2 : ac.tmps[30]?.getD undef = .slice A1 out.length K1 := hJ.a2 (hdep ⟨2, .data⟩ (by simp) rfl)
      have h10 : done 10 = false := by
        cases h' : done 10 with
        | false => rfl
        | true => have := hcl 10 _ rfl h' ⟨5, .data⟩ (by simp) rfl; rw [hdn] at this; cases this
      obtain ⟨b, hb, hbl, hbh⟩ := hJ.bu (hdep ⟨4, .data⟩ (by simp) rfl) hdn
      have hbs : ac.tmps[32]?.getD undef = .slice (some ⟨b, 0, none⟩) 1 1 := hb
      have hr9 := hJ.fc (hdep ⟨2, .data⟩ (by simp) rfl) hdn
      have hw := (hJ.gr h10).size
      rw [if_pos (show Region.wanted _ _ = true from rfl)]
      refine wp_append_k W.heap.size _ _ 22 3 _ 1 8 rfl Tryz.underlying22 F.out rfl (by decide) (by decide) (.slice A1 out.length K1) out.length (ints out) [.int .i64 h] b (by simp [Act.eval, x2]) (by simp [Act.eval, hbs]) hbh rfl (by simp [Value.oneCell']) hr9 (by omega) (by omega) ?_
      intro u w1 hown hg hat
      obtain ⟨A2', K2', rfl⟩ := own_shape6 hown
      have hgr : Below W.heap.size W w1 := bl_gr (hJ.gr h10) hg (fun k hk => (hr9.lt k hk).1)
      exact hK _ _ (I99.put (A2 := A2') (K2 := K2') 33 _ hF (by omega) (by decide) (by decide) { hJ with gr := fun _ => hgr, rr := (fun h' => (by have h2 : done 10 = true := h'; rw [h10] at h2; cases h2)), a5 := fun _ => rfl, fc := fun _ h' => (by cases h'), bu := fun _ h' => (by cases h'), fa := fun _ _ => (by rw [ints_snoc]; exact hown) })
    · rintro done ac w hcl hdn hdep ⟨A1, K1, A2, K2, bb, hF, hJ⟩ K hK
      have y11 : ac.tmps[11]?.getD undef = .int .i64 h := (hF.same 11 (by omega)).trans s11
      have h7 : done 7 = false := by
        cases h' : done 7 with
        | false => rfl
        | true => have := hcl 7 _ rfl h' ⟨6, .data⟩ (by simp) rfl; rw [hdn] at this; cases this
      have h10 : done 10 = false := by
        cases h' : done 10 with
        | false => rfl
        | true => have := hcl 10 _ rfl h' ⟨7, .data⟩ (by simp) rfl; rw [h7] at this; cases this
      clear hdep hcl
      go_simp
      exact hK _ _ (I99.put 34 _ hF (by omega) (by decide) (by decide) { hJ with a6 := fun _ => rfl })
    · rintro done ac w hcl hdn hdep ⟨A1, K1, A2, K2, bb, hF, hJ⟩ K hK
      have x6 : ac.tmps[34]?.getD undef = .int .i64 h := hJ.a6 (hdep ⟨6, .data⟩ (by simp) rfl)
      have h10 : done 10 = false := by
        cases h' : done 10 with
        | false => rfl
        | true => have := hcl 10 _ rfl h' ⟨7, .data⟩ (by simp) rfl; rw [hdn] at this; cases this
      have hw1 : IntKind.i64.wrap (h + 1) = h + 1 := IntWalk.i64_in _ (by omega)
      clear hdep hcl
      go_simp
      exact hK _ _ (I99.put 35 _ hF (by omega) (by decide) (by decide) { hJ with a7 := fun _ => rfl })
    · rintro done ac w hcl hdn hdep ⟨A1, K1, A2, K2, bb, hF, hJ⟩ K hK
      have y2 : ac.tmps[2]?.getD undef = .int .i64 mm := (hF.same 2 (by omega)).trans s2
      have h9 : done 9 = false := by
        cases h' : done 9 with
        | false => rfl
        | true => have := hcl 9 _ rfl h' ⟨8, .data⟩ (by simp) rfl; rw [hdn] at this; cases this
      have h10 : done 10 = false := by
        cases h' : done 10 with
        | false => rfl
        | true => have := hcl 10 _ rfl h' ⟨9, .data⟩ (by simp) rfl; rw [h9] at this; cases this
      clear hdep hcl
      go_simp
      exact hK _ _ (I99.put 36 _ hF (by omega) (by decide) (by decide) { hJ with a8 := fun _ => rfl })
    · rintro done ac w hcl hdn hdep ⟨A1, K1, A2, K2, bb, hF, hJ⟩ K hK
      have x8 : ac.tmps[36]?.getD undef = .int .i64 mm := hJ.a8 (hdep ⟨8, .data⟩ (by simp) rfl)
      have h10 : done 10 = false := by
        cases h' : done 10 with
        | false => rfl
        | true => have := hcl 10 _ rfl h' ⟨9, .data⟩ (by simp) rfl; rw [hdn] at this; cases this
      have hw1 : IntKind.i64.wrap (mm - 1) = mm - 1 := IntWalk.i64_in _ (by omega)
      clear hdep hcl
      go_simp
      exact hK _ _ (I99.put 37 _ hF (by omega) (by decide) (by decide) { hJ with a9 := fun _ => rfl })
    · rintro done ac w hcl hdn hdep ⟨A1, K1, A2, K2, bb, hF, hJ⟩ K hK
      have x0 : ac.tmps[28]?.getD undef = .func (.func 99) #[] #[.pointer (some ⟨g, 0, none⟩), .pointer (some ⟨gw, 0, none⟩), .pointer (some ⟨b0, 0, none⟩), .pointer (some ⟨gc, 0, none⟩)] := hJ.a0 (hdep ⟨0, .data⟩ (by simp) rfl)
      have x5 : ac.tmps[33]?.getD undef = .slice A2 (out.length + 1) K2 := hJ.a5 (hdep ⟨5, .data⟩ (by simp) rfl)
      have x7 : ac.tmps[35]?.getD undef = .int .i64 (h + 1) := hJ.a7 (hdep ⟨7, .data⟩ (by simp) rfl)
      have x9 : ac.tmps[37]?.getD undef = .int .i64 (mm - 1) := hJ.a9 (hdep ⟨9, .data⟩ (by simp) rfl)
      have hr12 := hJ.fa (hdep ⟨5, .data⟩ (by simp) rfl) hdn
      have d12 : done 5 = true := hdep ⟨5, .data⟩ (by simp) rfl
      clear hdep hcl
      go_simp
      refine (hcr A2 K2 w (hJ.gr hdn) hr12).mono ?_
      rintro e w1 ⟨bb', rfl, hR⟩
      exact hK _ _ (I99.put (bb := bb') 38 _ hF (by omega) (by decide) (by decide) { hJ with gr := fun h' => (by cases h'), rr := fun _ => hR, a10 := fun _ => rfl, fc := fun _ h' => (by have h2 : done 5 = false := h'; rw [d12] at h2; cases h2), bu := fun _ h' => (by have h2 : done 5 = false := h'; rw [d12] at h2; cases h2), fa := fun _ h' => (by cases h') })
  · rintro done ac w hd ⟨A1, K1, A2, K2, bb, hF, hJ⟩
    exact hQ ac w bb hF (hJ.a10 (hd 10 (by decide))) (hJ.rr (hd 10 (by decide)))
end Go.Proofs.YtpgnplmjfhdncaaGreat
/- Give: its inner function. -/
namespace Go.Proofs.YtpgnplmjfhdncaaGreat
open Go.RowKit
set_option linter.unusedVariables false
theorem Fr.lit39 {a0 a : Act} {v38 : Value} (h : Fr 28 38 a0 a) (hs : a0.tmps.size = 39) (h38 : slots a 38 = v38) : ∃ f : Nat → Value, a = { tmps := #[slots a0 0, slots a0 1, slots a0 2, slots a0 3, slots a0 4, slots a0 5, slots a0 6, slots a0 7, slots a0 8, slots a0 9, slots a0 10, slots a0 11, slots a0 12, slots a0 13, slots a0 14, slots a0 15, slots a0 16, slots a0 17, slots a0 18, slots a0 19, slots a0 20, slots a0 21, slots a0 22, slots a0 23, slots a0 24, slots a0 25, slots a0 26, slots a0 27, f 28, f 29, f 30, f 31, f 32, f 33, f 34, f 35, f 36, f 37, v38], defers := a0.defers } := by
  refine ⟨slots a, ?_⟩
  have := h.lit
  rw [hs] at this
  subst h38
  exact this
/-- The first of so many baths more, from one on, without which there is a sure plan. -/
def giveF (r : Rm) : Nat → Nat → List Int → Option (List Int)
  | 0, _, out => if restB r out = true then some out else none
  | many + 1, from_, out => (List.range (r.baths.length - many - from_)).findSome? fun k => giveF r many (from_ + k + 1) (out ++ [((from_ + k : Nat) : Int)])
/-- Give at work: found in g, the work's address in gw, the room in b0, the function in gc. -/
structure GiveAt (r : Rm) (q : RA) (B wb m b0 g gw gc : Nat) (w : World) : Prop where
  bw : BW r q B wb m w
  rm : Box w b0 (roomCs r q)
  fnd : ∃ v, w.heap[g]? = some (.cells #[v] 22 (0, 0))
  pw : Box w gw #[.pointer (some ⟨wb, 0, none⟩)]
  pc : Box w gc #[.func (.func 99) #[] #[.pointer (some ⟨g, 0, none⟩), .pointer (some ⟨gw, 0, none⟩), .pointer (some ⟨b0, 0, none⟩), .pointer (some ⟨gc, 0, none⟩)]]
/-- The blocks are apart; all stand below N + 2. -/
structure GiveSep (B wb m b0 g gw gc N : Nat) : Prop where
  s1 : m ≠ b0
  s2 : m ≠ g
  s3 : m ≠ gw
  s4 : m ≠ gc
  s5 : g ≠ wb
  s6 : g ≠ b0
  s7 : g ≠ gw
  s8 : g ≠ gc
  s9 : B ≤ g
  s10 : m < N + 2
  s11 : g < N + 2
section
variable {r : Rm} {q : RA} {B wb m b0 g gw gc N : Nat} {w W : World}
theorem GiveAt.up (h : GiveAt r q B wb m b0 g gw gc w) (hb : Below w.heap.size w W) : GiveAt r q B wb m b0 g gw gc W := by
  obtain ⟨v, hv⟩ := h.fnd
  exact ⟨h.bw.up hb, h.rm.bl (by simp [roomCs]) hb, ⟨v, (hb.block _ (Array.getElem?_eq_some_iff.1 hv).1).trans hv⟩, h.pw.bl (by simp) hb, h.pc.bl (by simp) hb⟩
theorem GiveAt.rest (h : GiveAt r q B wb m b0 g gw gc w) (hs : GiveSep B wb m b0 g gw gc N) (hw : BW r q B wb m W) (he : Ext [m] w W) : GiveAt r q B wb m b0 g gw gc W := by
  obtain ⟨v, hv⟩ := h.fnd
  have := hs.s1; have := hs.s2; have := hs.s3; have := hs.s4
  exact ⟨hw, h.rm.ex (by simp [roomCs]) he (by simp; omega), ⟨v, (he.block _ (Array.getElem?_eq_some_iff.1 hv).1 (by simp; omega)).trans hv⟩, h.pw.ex (by simp) he (by simp; omega), h.pc.ex (by simp) he (by simp; omega)⟩
theorem GiveAt.put (h : GiveAt r q B wb m b0 g gw gc w) (hs : GiveSep B wb m b0 g gw gc N) (v : Value) : GiveAt r q B wb m b0 g gw gc (w.setCell ⟨g, 0, none⟩ v) ∧ (w.setCell ⟨g, 0, none⟩ v).heap[g]? = some (.cells #[v] 22 (0, 0)) := by
  obtain ⟨u, hu⟩ := h.fnd
  have hg : Grown (fun k => k = g) w (w.setCell ⟨g, 0, none⟩ v) := (Grown.refl (fun k => k = g) w).setCell (p := ⟨g, 0, none⟩) (.inl rfl) _
  have hn : (w.setCell ⟨g, 0, none⟩ v).heap[g]? = some (.cells #[v] 22 (0, 0)) := by rw [heap_setCell_same _ _ _ _ _ _ hu]; rfl
  have := hs.s2; have := hs.s5; have := hs.s6; have := hs.s7; have := hs.s8; have := hs.s9
  exact ⟨⟨h.bw.grown hg (by omega) (by omega) (fun k hk => by omega), hg.box h.rm (h.rm.lt (by simp [roomCs])) (by omega), ⟨v, hn⟩, hg.box h.pw (h.pw.lt (by simp)) (by omega), hg.box h.pc (h.pc.lt (by simp)) (by omega)⟩, hn⟩
end
/-- What the inner function comes to. -/
def GiveR (r : Rm) (q : RA) (B wb m b0 g gw gc : Nat) (W : World) (res : Option (List Int)) (bb : Bool) (W' : World) : Prop :=
  bb = res.isSome ∧ GiveAt r q B wb m b0 g gw gc W' ∧ Ext [m, g] W W' ∧ ∀ x, res = some x → ∃ A K, W'.heap[g]? = some (.cells #[.slice A x.length K] 22 (0, 0)) ∧ IntsAt W' W'.heap.size A x
theorem findSome_step {α β : Type} (f : Nat → Option β) (n k : Nat) (h : ∀ j, j < k → f j = none) (hk : k < n) {y : β} (hy : f k = some y) : (List.range n).findSome? f = some y := by
  obtain ⟨t, rfl⟩ : ∃ t, n = k + 1 + t := ⟨n - (k + 1), by omega⟩
  rw [List.range_add, List.findSome?_append, List.range_succ, List.findSome?_append, List.findSome?_eq_none_iff.2 (fun x hx => h x (List.mem_range.1 hx))]
  simp [hy]
set_option maxRecDepth 100000 in
set_option maxHeartbeats 8000000 in
theorem give_rec (r : Rm) (q : RA) (B wb m b0 g gw gc N : Nat) (hs : GiveSep B wb m b0 g gw gc N) :
    ∀ (many from_ : Nat) (out : List Int) (a : Option Addr) (k : Nat) (w : World), GiveAt r q B wb m b0 g gw gc w → N + 2 ≤ w.heap.size → PlanP N a out w → from_ ≤ r.baths.length → out.length ≤ from_ → many ≤ r.baths.length →
    Calls Tryz.prog 99 #[.slice a out.length k, .int .i64 from_, .int .i64 many, .pointer (some ⟨g, 0, none⟩), .pointer (some ⟨gw, 0, none⟩), .pointer (some ⟨b0, 0, none⟩), .pointer (some ⟨gc, 0, none⟩)] w fun e w' =>
      ∃ bb, e = .returned (.bool bb) ∧ GiveR r q B wb m b0 g gw gc w (giveF r many from_ out) bb w' := by
  intro many
  induction many with
  | zero =>
    intro from_ out a k w h hN hpl hfr hol hma
    have h5 := h.bw.ok.n5
    have HH := Lib.hid h
    have HS := Lib.hid hs
    have HPL := Lib.hid hpl
    obtain ⟨v, hv⟩ := h.fnd
    have hcg := cell_one hv
    have hfg : w.frozen? ⟨g, 0, none⟩ = false := by simp [World.frozen?, hv]
    obtain ⟨hp1, hp2⟩ := h.put hs (.slice a out.length k)
    have HP1 := Lib.hid hp1
    have HP2 := Lib.hid hp2
    have hgr : Grown (fun k => k = g) w (w.setCell ⟨g, 0, none⟩ (.slice a out.length k)) := (Grown.refl (fun k => k = g) w).setCell (p := ⟨g, 0, none⟩) (.inl rfl) _
    have HGR := Lib.hid hgr
    have hpw : (w.setCell ⟨g, 0, none⟩ (.slice a out.length k)).cell? ⟨gw, 0, none⟩ = some (.pointer (some ⟨wb, 0, none⟩)) := hp1.pw 0
    have HI1 : Hid (PlanP N a out (w.setCell ⟨g, 0, none⟩ (.slice a out.length k))) := hpl.ext (L := [g]) ⟨hgr.os, hgr.tape, hgr.output, hgr.size, fun k hk hn => hgr.block k hk (fun e => hn (by simp [e]))⟩ (fun k hk => by simp at hk; have := hs.s11; omega)
    have hsz : (w.setCell ⟨g, 0, none⟩ (.slice a out.length k)).heap.size = w.heap.size := by simp [World.setCell]
    have HSZ := Lib.hid hsz
    clear h hs hpl hv hp1 hp2 hgr hsz
    go_enter Tryz.func99, Tryz.ntmps99
    go_wp2_with (first | (go_at_call 100; go_loud (refine (rest_c r q B wb m out a k _ HP1.out.bw HI1.out.at_ (fun b o e => (by
      have h1 := HI1.out.far b o e
      have h2 := HS.out.s10
      refine ⟨by omega, ?_⟩
      rcases HI1.out with ⟨h3, _⟩ | ⟨b', o', h3, _, h4, _⟩
      · rw [h3] at e; cases e
      · rw [h3] at e; cases e; exact h4)) (by omega)).mono ?_; rintro e w5 ⟨rfl, hbw, hext⟩; have HBW5 := Lib.hid hbw; have HX5 := Lib.hid hext; clear hbw hext)))
    go_ret
    refine ⟨restB r out, rfl, ?_, HP1.out.rest HS.out HBW5.out HX5.out, ?_, ?_⟩
    · unfold giveF
      cases restB r out <;> rfl
    · exact (Ext.of_grown (Ext.refl [m, g] w) HGR.out (fun k hk _ => by simp [hk])).trans (HX5.out.mono (fun x _ hx => by simp at hx; simp [hx]))
    · intro x hx
      unfold giveF at hx
      split at hx
      · cases hx
        exact ⟨a, k, (HX5.out.block _ (Array.getElem?_eq_some_iff.1 HP2.out).1 (by have := HS.out.s2; simp; omega)).trans HP2.out, (HI1.out.ext HX5.out (fun x hx => by simp at hx; have := HS.out.s10; omega)).at_⟩
      · cases hx
  | succ many ih =>
    intro from_ out a k w h hN hpl hfr hol hma
    have h5 := h.bw.ok.n5
    have HH := Lib.hid h
    have HS := Lib.hid hs
    have HPL := Lib.hid hpl
    have HIH := Lib.hid ih
    have hne : ¬ ((many : Int) + 1 = 0) := by omega
    have hneb : ((many : Int) + 1 == 0) = false := by simpa using hne
    clear h hs hpl ih
    go_enter Tryz.func99, Tryz.ntmps99
    go_wp2
    go_loopw [11] (fun i wr => ∃ (j hh : Nat), hh = from_ + j ∧ j ≤ r.baths.length - many - from_ ∧ i = .int .i64 (hh : Int) ∧ GiveAt r q B wb m b0 g gw gc wr ∧ PlanP N a out wr ∧ Ext [m, g] w wr ∧ ∀ jj, jj < j → giveF r many (from_ + jj + 1) (out ++ [((from_ + jj : Nat) : Int)]) = none) (fun i _ => 1000 - (intOf i).toNat)
    case atStart => exact ⟨0, from_, rfl, Nat.zero_le _, rfl, HH.out, HPL.out, Ext.refl _ _, fun jj hj => by omega⟩
    case round =>
      obtain ⟨j, hh, hhj, hj, rfl, hg, hp, he, hnone⟩ := hrel
      have HG := Lib.hid hg
      have HP := Lib.hid hp
      have HE := Lib.hid he
      have HNO := Lib.hid hnone
      have HHJ := Lib.hid hhj
      have hrm := hg.rm
      unfold Box roomCs at hrm
      clear hg hp he hnone hhj
      by_cases hle : (hh : Int) ≤ (r.baths.length : Int) - ((many : Int) + 1)
      · go_wp2
        refine r99 _ rfl _ g gw b0 gc a k out (hh : Int) ((many : Int) + 1) (GiveR r q B wb m b0 g gw gc wr (giveF r many (hh + 1) (out ++ [(hh : Int)]))) wr rfl rfl rfl rfl rfl HG.out.pc (by omega) (by omega) (by omega) (by omega) (by omega) (fun w hb => clonePl (HP.out.up hb) (by omega)) ?_ ?_
        · intro A2 K2 w2 hb hr
          have hb2 := hb.size
          have hws := HE.out.size
          have := HIH.out (hh + 1) (out ++ [(hh : Int)]) A2 K2 w2 (HG.out.up hb) (by omega) (PlanP.own hr (by omega)) (by omega) (by have := HHJ.out; simp; omega) (by omega)
          rw [List.length_append, List.length_singleton] at this
          rw [show (many : Int) + 1 - 1 = (many : Int) from by omega]
          refine this.mono ?_
          rintro e w' ⟨bo, rfl, h1, h2, h3, h4⟩
          exact ⟨bo, rfl, h1, h2, (Ext.of_below hb).trans h3, h4⟩
        · intro ac w5 bo hF h38 hR
          have HR := Lib.hid hR
          obtain ⟨f, rfl⟩ := hF.lit39 rfl h38
          clear hF h38 hR
          simp only [slots, List.getElem?_toArray, List.getElem?_cons_succ, List.getElem?_cons_zero, Option.getD_some]
          obtain ⟨hbo, hga, hext, hres⟩ := HR.out
          have HGA := Lib.hid hga
          have HXT := Lib.hid hext
          have HRS := Lib.hid hres
          have HBO := Lib.hid hbo
          clear hga hext hres hrm hbo
          cases bo with
          | true =>
            go_wp2
            go_ret
            have hbo := HBO.out
            obtain ⟨y, hy⟩ := Option.isSome_iff_exists.1 hbo.symm
            have hfs : giveF r (many + 1) from_ out = some y := by
              rw [giveF]
              refine findSome_step (α := Nat) _ _ j (fun jj hjj => HNO.out jj hjj) (by have := HHJ.out; omega) ?_
              rw [← HHJ.out]
              exact hy
            refine ⟨true, rfl, by rw [hfs]; rfl, HGA.out, HE.out.trans HXT.out, fun x hx => ?_⟩
            rw [hfs] at hx
            cases hx
            exact HRS.out y hy
          | false =>
            have hsc : from_ + j < r.baths.length - many := by have := HHJ.out; omega
            go_wp2
            go_roundw
            case rel =>
              have hbo := HBO.out
              have hn : giveF r many (hh + 1) (out ++ [(hh : Int)]) = none := by
                cases h' : giveF r many (hh + 1) (out ++ [(hh : Int)]) with
                | none => rfl
                | some y => rw [h'] at hbo; cases hbo
              refine ⟨j + 1, hh + 1, by have := HHJ.out; omega, by omega, by go_num, HGA.out, HP.out.ext HXT.out (fun x hx => by have := HS.out.s10; have := HS.out.s11; simp at hx; omega), HE.out.trans HXT.out, fun jj hjj => ?_⟩
              rcases Nat.lt_or_ge jj j with hlt | hge
              · exact HNO.out jj hlt
              · obtain rfl : jj = j := by omega
                rw [← HHJ.out]
                exact hn
            case measure => simp [intOf]; omega
      · go_wp2
        go_ret
        have hfs : giveF r (many + 1) from_ out = none := by
          rw [giveF]
          refine List.findSome?_eq_none_iff.2 (fun x hx => HNO.out x ?_)
          have := List.mem_range.1 hx
          have := HHJ.out
          omega
        refine .inl ⟨rfl, by rw [hfs]; rfl, HG.out, HE.out, fun x hx => ?_⟩
        rw [hfs] at hx
        cases hx
end Go.Proofs.YtpgnplmjfhdncaaGreat
/- Give. -/
namespace Go.Proofs.YtpgnplmjfhdncaaGreat
open Go.RowKit
set_option linter.unusedVariables false
theorem plans_all {r : Rm} {out : List Int} (h : ∀ i, i < r.baths.length → hasI (i : Int) out = true) : ∀ (d i : Nat) (plan n : List Int), i + d = r.baths.length → plansF r out d i plan n = if sureB r n = true then [plan] else [] := by
  intro d
  induction d with
  | zero => intro i plan n _; rfl
  | succ d ih => intro i plan n hi; rw [plansF_out (h i (by omega)), ih (i + 1) plan n (by omega)]
theorem give_all {r : Rm} (hs : sureB r [] = true) : ∀ (many from_ : Nat) (out : List Int), from_ + many = r.baths.length → (∀ i, i < from_ → hasI (i : Int) out = true) → (giveF r many from_ out).isSome = true := by
  intro many
  induction many with
  | zero =>
    intro from_ out hf h
    have : restB r out = true := by
      unfold restB plansL
      rw [plans_all (fun i hi => h i (by omega)) _ 0 [] [] (by omega), if_pos hs]
      rfl
    rw [giveF, if_pos this]; rfl
  | succ many ih =>
    intro from_ out hf h
    rw [giveF, show r.baths.length - many - from_ = 1 from by omega]
    have := ih (from_ + 0 + 1) (out ++ [((from_ + 0 : Nat) : Int)]) (by omega) (fun i hi => by
      unfold hasI
      rw [anyN_iff]
      by_cases he : i = from_
      · refine ⟨out.length, by simp, ?_⟩
        rw [nth_app_eq, he]; simp
      · have h1 := h i (by omega)
        unfold hasI at h1
        rw [anyN_iff] at h1
        obtain ⟨j, hj, hp⟩ := h1
        exact ⟨j, by simp; omega, by rw [nth_app_lt hj]; exact hp⟩)
    obtain ⟨y, hy⟩ := Option.isSome_iff_exists.1 this
    rw [findSome_step (α := Nat) (fun k => giveF r many (from_ + k + 1) (out ++ [((from_ + k : Nat) : Int)])) 1 0 (fun j hj => by omega) (by omega) hy]
    rfl
/-- The fewest baths that can be given back. -/
def giveO (r : Rm) : Option (List Int) := (List.range (r.baths.length + 1)).findSome? fun many => giveF r many 0 []
def giveL (r : Rm) : List Int := (giveO r).getD []
theorem giveO_some {r : Rm} (hs : sureB r [] = true) : ∃ x, giveO r = some x := by
  have := give_all hs r.baths.length 0 [] (by omega) (fun i hi => by omega)
  cases h : giveO r with
  | some x => exact ⟨x, rfl⟩
  | none =>
    have h1 := List.findSome?_eq_none_iff.1 h r.baths.length (List.mem_range.2 (by omega))
    rw [h1] at this
    cases this
set_option maxRecDepth 100000 in
set_option maxHeartbeats 4000000 in
theorem giveY_c (r : Rm) (q : RA) (w : World) (hq : RoomAt w w.heap.size r q) (he : roomErr r = 0) (hsu : sureB r [] = true) :
    Calls Tryz.prog 40 #[roomV r q] w fun e w' => ∃ A K, e = .returned (.tuple #[.slice A (giveL r).length K, .int .i64 0]) ∧ IntsAt w' w'.heap.size A (giveL r) ∧ Below w.heap.size w w' := by
  have HQ := Lib.hid hq
  have HE := Lib.hid he
  have HO := Lib.hid (room_ok he)
  have HSU := Lib.hid hsu
  have HZ : Hid (∀ j, 0 ≤ nth [] j ∧ nth [] j ≤ 100) := fun j => by simp [nth]
  obtain ⟨gx, hgx⟩ := giveO_some hsu
  have HGX := Lib.hid hgx
  have hn5 := HO.out.n5
  clear hq he hsu hgx
  go_enter Tryz.func40, Tryz.ntmps40
  go_wp2
  go_step3
  go_wp2_with (first | (go_at_call 89; go_loud (refine (askedR_ok r q _ (HQ.out.up (bl_al (Below.refl _ _) _)) HO.out.cop.small HE.out).mono ?_; rintro e w1 ⟨m, rfl, hm, hmp, hcl, hb⟩; have HX1 : Hid (Box w1 w.heap.size (roomCs r q)) := (Box.new w (roomCs r q) 44 (0, 0)).bl (by simp) hb; have HB1 : Hid (Below w.heap.size w w1) := bl_tr (bl_al (Below.refl w.heap.size w) _) hb; have HM : Hid (w.heap.size < m) := (by simp at hm; unfold Hid; omega); have HBW : Hid (BW r q w.heap.size (m + 1) m w1) := BW.new HO.out hmp hcl (HQ.out.below HB1.out) (by have := HM.out; omega); clear hb hm hmp hcl)) | (have hz := HB1; clear hz; go_at_call 98; go_loud (refine (sureR_c r q w.heap.size (m + 1) m [] _ (HBW.out.up (bl_al (Below.refl _ _) _)) HZ.out).mono ?_; rw [HSU.out]; rintro e w2 ⟨rfl, hbw2, hext2⟩; have HW2 := Lib.hid hbw2; have HX2 := Lib.hid hext2; have HB2 : Hid (Below w.heap.size w w2) := (bl_al HB1.out _).trans (hext2.below (by have := HB1.out.size; simp; omega) (fun k hk => by simp at hk; have := HM.out; omega)); have HRM2 : Hid (Box w2 w.heap.size (roomCs r q)) := (HX1.out.al (by simp) _).ext hext2 (by have := HX1.out.lt (by simp); simp; omega) (by have := HM.out; simp; omega); have HPW2 : Hid (Box w2 w1.heap.size #[.pointer (some ⟨m + 1, 0, none⟩)]) := (Box.new w1 #[.pointer (some ⟨m + 1, 0, none⟩)] 113 (0, 0)).ext hext2 (by simp) (by have := HBW.out.lt; simp; omega); have hrm2 := HRM2.out; unfold Box roomCs at hrm2; clear hbw2 hext2)))
  obtain ⟨W3, hW3⟩ : ∃ W3, (w2.alloc (.cells #[.slice none 0 0] 22)).alloc (.cells #[.func (.func 99) #[] #[.pointer (some ⟨w2.heap.size, 0, none⟩), .pointer (some ⟨w1.heap.size, 0, none⟩), .pointer (some ⟨w.heap.size, 0, none⟩), .pointer (some ⟨w2.heap.size + 1, 0, none⟩)]] 137) = W3 := ⟨_, rfl⟩
  rw [hW3]
  have hb3 : Below w2.heap.size w2 W3 := by rw [← hW3]; exact bl_al (bl_al (Below.refl _ _) _) _
  have HS3 : Hid (W3.heap.size = w2.heap.size + 2) := by rw [← hW3]; simp [Hid]
  have HB3 : Hid (Below w.heap.size w W3) := bl_tr HB2.out hb3
  have HG3 : Hid (GiveAt r q w.heap.size (m + 1) m w.heap.size w2.heap.size w1.heap.size (w2.heap.size + 1) W3) := by
    refine ⟨HW2.out.up hb3, HRM2.out.bl (by simp [roomCs]) hb3, ⟨_, by rw [← hW3]; exact heap_al (World.alloc_heap_new _ _) _⟩, HPW2.out.bl (by simp) hb3, ?_⟩
    rw [← hW3]; exact Box.new' _ _ _ _ (by simp)
  have HSEP : Hid (GiveSep w.heap.size (m + 1) m w.heap.size w2.heap.size w1.heap.size (w2.heap.size + 1) w2.heap.size) := by
    have g1 := HM.out
    have g2 := HBW.out.lt
    have g3 := HB1.out.size
    have g4 := HX2.out.size
    simp at g4
    exact ⟨by omega, by omega, by omega, by omega, by omega, by omega, by omega, by omega, by omega, by omega, by omega⟩
  have hrm3 := HG3.out.rm
  unfold Box roomCs at hrm3
  clear hW3 hb3 hrm2
  go_step3
  go_wp2
  go_loopw [26] (fun i wr => ∃ k : Nat, k ≤ r.baths.length + 1 ∧ i = .int .i64 (k : Int) ∧ GiveAt r q w.heap.size (m + 1) m w.heap.size w2.heap.size w1.heap.size (w2.heap.size + 1) wr ∧ Below w.heap.size w wr ∧ w2.heap.size + 2 ≤ wr.heap.size ∧ ∀ j, j < k → giveF r j 0 [] = none) (fun i _ => r.baths.length + 1 - (intOf i).toNat)
  case atStart => exact ⟨0, Nat.zero_le _, rfl, HG3.out, HB3.out, by have := HS3.out; omega, fun j hj => by omega⟩
  case round =>
    obtain ⟨k, hk, rfl, hg, hb, hsz, hno⟩ := hrel
    have HG := Lib.hid hg
    have HB := Lib.hid hb
    have HNO := Lib.hid hno
    have hcl := hg.pc 0
    have hcl' : wr.cell? ⟨w2.heap.size + 1, 0, none⟩ = some (.func (.func 99) #[] #[.pointer (some ⟨w2.heap.size, 0, none⟩), .pointer (some ⟨w1.heap.size, 0, none⟩), .pointer (some ⟨w.heap.size, 0, none⟩), .pointer (some ⟨w2.heap.size + 1, 0, none⟩)]) := hcl
    clear hg hb hno hrm3 hcl
    by_cases hlt : k < r.baths.length + 1
    · have hlt' : (k : Int) < (r.baths.length : Int) + 1 := by omega
      go_upto_if 31 with (first | (go_at_call 99; go_loud (refine (give_rec r q w.heap.size (m + 1) m w.heap.size w2.heap.size w1.heap.size (w2.heap.size + 1) w2.heap.size HSEP.out k 0 [] none 0 wr HG.out hsz (.inl ⟨rfl, rfl⟩) (Nat.zero_le _) (Nat.zero_le _) (by omega)).mono ?_; rintro e w5 ⟨bo, rfl, hR⟩; have HR := Lib.hid hR; clear hR hcl')))
      cases bo with
      | true =>
        obtain ⟨hbo, hga, hext, hres⟩ := HR.out
        obtain ⟨y, hy⟩ := Option.isSome_iff_exists.1 hbo.symm
        obtain ⟨A, K, hf, hi⟩ := hres y hy
        have hgo : giveO r = some y := findSome_step (α := Nat) (fun many => giveF r many 0 []) _ k HNO.out hlt hy
        have hgl : giveL r = y := by rw [giveL, hgo]; rfl
        have hcf := cell_one hf
        have HI := Lib.hid hi
        have HXT := Lib.hid hext
        have HGL := Lib.hid hgl
        clear hbo hga hext hres hy hf hi hgo hgl
        go_wp2
        rw [Exit.noGoto_ret]
        go_ret2
        refine ⟨A, K, by rw [HGL.out]; rfl, by rw [HGL.out]; exact HI.out, HB.out.trans (HXT.out.below HB.out.size (fun x hx => by have := HSEP.out.s9; have := HBW.out.bm; simp at hx; omega))⟩
      | false =>
        obtain ⟨hbo, hga, hext, hres⟩ := HR.out
        have hn : giveF r k 0 [] = none := by
          cases h' : giveF r k 0 [] with
          | none => rfl
          | some y => rw [h'] at hbo; cases hbo
        have HGA := Lib.hid hga
        have HXT := Lib.hid hext
        have HN := Lib.hid hn
        clear hbo hga hext hres hn
        go_wp2
        go_roundw
        case rel =>
          refine ⟨k + 1, by omega, by go_num, HGA.out, HB.out.trans (HXT.out.below HB.out.size (fun x hx => by have := HSEP.out.s9; have := HBW.out.bm; simp at hx; omega)), Nat.le_trans hsz HXT.out.size, fun j hj => ?_⟩
          rcases Nat.lt_or_ge j k with h1 | h1
          · exact HNO.out j h1
          · obtain rfl : j = k := by omega
            exact HN.out
        case measure => simp [intOf]; omega
    · exfalso
      have h1 : (List.range (r.baths.length + 1)).findSome? (fun many => giveF r many 0 []) = none := List.findSome?_eq_none_iff.2 (fun x hx => HNO.out x (by have := List.mem_range.1 hx; omega))
      have h2 := HGX.out
      rw [giveO, h1] at h2
      cases h2
end Go.Proofs.YtpgnplmjfhdncaaGreat
