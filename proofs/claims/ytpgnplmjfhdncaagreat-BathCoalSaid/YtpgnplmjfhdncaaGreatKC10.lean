/- A part of the proof: C10, C11, C12. -/
import Derived.Test.YtpgnplmjfhdncaaGreatKC8
import Derived.Test.YtpgnplmjfhdncaaGreatKC4
import Derived.Test.YtpgnplmjfhdncaaGreatKEqs
import Derived.Test.YtpgnplmjfhdncaaGreatKCn
import Derived.Test.YtpgnplmjfhdncaaGreatKC10a
namespace Go.Proofs.YtpgnplmjfhdncaaGreat
open Go.RowKit
attribute [local go_sem] Oper.semAt_some
set_option linter.unusedVariables false
def lastS (acc : List (Int × List Int)) : Int × List Int := acc.getD (acc.length - 1) (0, [])
def addT (c : Cop) (acc : List (Int × List Int)) (s : Int × List Int) : List (Int × List Int) := if rightB c s = true ∧ (acc = [] ∨ eqS (lastS acc) s = false) then acc ++ [s] else acc
def truthsF (c : Cop) (l : List (Int × List Int)) : List (Int × List Int) := l.foldl (addT c) []
theorem truthsF_snoc (c : Cop) (l : List (Int × List Int)) (s : Int × List Int) : truthsF c (l ++ [s]) = addT c (truthsF c l) s := by simp [truthsF, List.foldl_append]
theorem addT_len (c : Cop) (acc : List (Int × List Int)) (s : Int × List Int) : (addT c acc s).length ≤ acc.length + 1 := by
  unfold addT
  split
  · simp
  · omega
theorem foldT_len (c : Cop) (l : List (Int × List Int)) : ∀ acc, (l.foldl (addT c) acc).length ≤ acc.length + l.length := by
  induction l with
  | nil => intro acc; simp
  | cons x l ih =>
    intro acc
    have := ih (addT c acc x)
    have := addT_len c acc x
    simp only [List.foldl_cons, List.length_cons]
    omega
theorem truthsF_len (c : Cop) (l : List (Int × List Int)) : (truthsF c l).length ≤ l.length := by
  have := foldT_len c l []
  simpa [truthsF] using this
/-- The truths of coppers. -/
def truthsC (c : Cop) : List (Int × List Int) := truthsF c (scenesC c)
theorem scenes_c (c : Cop) (q : CA) (w : World) : Calls Tryz.prog 142 #[copV c q] w fun e w' => e = .returned (.func (.func 166) #[] #[.pointer (some ⟨w.heap.size, 0, none⟩)]) ∧ w' = w.alloc (.cells (copCs c q) 41) := by
  go_enter Tryz.func142, Tryz.ntmps142
  go_wp2
  go_ret
  exact ⟨rfl, rfl⟩
@[go_sem] theorem cell?_alloc3_some (w : World) (a : Addr) (A B C : Obj) (h : (w.cell? a).isSome = true) : (((w.alloc A).alloc B).alloc C).cell? a = w.cell? a := by
  obtain ⟨u, hu⟩ := Option.isSome_iff_exists.1 h
  rw [hu]
  exact cell_later (bl_al (bl_al (bl_al (Below.refl _ _) _) _) _) hu
structure Small (c : Cop) : Prop where
  n1 : c.coal.length ≤ 1000000000
  n2 : c.want.length ≤ 1000000000
  n3 : c.loss.length ≤ 1000000000
  n4 : c.rds.length ≤ 1000000000
/-- The work of coppers: the struct in block b, its truths, its map. -/
structure WorkAt (c : Cop) (q : CA) (tr : List (Int × List Int)) (b m base : Nat) (v : Value) (W : World) : Prop where
  cells : W.heap[b]? = some (.cells (wkCs c q v m) 184 (0, 0))
  row : W.ownsRow base 158 6 v tr.length (tr.flatMap sc6)
/-- Between two rounds of asked's loop: m: the map's block; the struct behind it, the variable w, the iterator's coppers. -/
structure AskI (c : Cop) (q : CA) (w : World) (m : Nat) (pre : List (Int × List Int)) (W : World) : Prop where
  bel : Below w.heap.size w W
  sz : m + 4 ≤ W.heap.size
  b0 : Box W w.heap.size (copCs c q)
  b3 : Box W (m + 3) (copCs c q)
  mp : W.heap[m]? = some (.map #[] 0)
  b2 : Box W (m + 2) #[.pointer (some ⟨m + 1, 0, none⟩)]
  wk : ∃ v, WorkAt c q (truthsF c pre) (m + 1) m (m + 9) v W
theorem AskI.grown {c : Cop} {q : CA} {w : World} {m : Nat} {pre : List (Int × List Int)} {A B : World} (hw : w.heap.size < m) (h : AskI c q w m pre A) (hG : Grown (fun k => m + 4 ≤ k ∧ k < m + 9) A B) : AskI c q w m pre B := by
  obtain ⟨v, hv⟩ := h.wk
  exact ⟨h.bel.trans (hG.below (by have := h.sz; omega) (fun k hk => by omega)), Nat.le_trans h.sz hG.size, hG.box h.b0 (h.b0.lt (by simp)) (by omega), hG.box h.b3 (h.b3.lt (by simp)) (by omega), heap_grown h.mp hG (by omega), hG.box h.b2 (h.b2.lt (by simp)) (by omega),
    v, heap_grown hv.cells hG (by omega), own_grown hv.row hG (fun k hk => by omega)⟩
set_option maxRecDepth 100000 in
set_option maxHeartbeats 4000000 in
theorem asked_c (c : Cop) (q : CA) (w : World) (hq : CopAt w w.heap.size c q) (hsm : Small c) (hck : checkCop c = 0) :
    Calls Tryz.prog 114 #[copV c q, .bool true] w fun e w' => Below w.heap.size w w' ∧ ((truthsC c = [] ∧ e = .returned (.tuple #[.pointer none, .int .i64 11])) ∨
      (truthsC c ≠ [] ∧ ∃ b m v, e = .returned (.tuple #[.pointer (some ⟨b, 0, none⟩), .int .i64 0]) ∧ w.heap.size < m ∧ b = m + 1 ∧ w'.heap[m]? = some (.map #[] 0) ∧ WorkAt c q (truthsC c) b m (m + 9) v w')) := by
  refine (callsIn_wide (n := 0)).1 (callsIn_of_wp_marks Tryz.func114 rfl trivial ?_ rfl)
  simp only [Tryz.ntmps114, List.size_toArray, List.length_cons, List.length_nil, Nat.reduceAdd, Nat.reduceSub, Array.replicate_succ, Array.replicate_zero, List.push_toArray, List.append_toArray, List.nil_append, List.cons_append]
  have hmm := @run_makeMap Tryz.prog
  have HQ := Lib.hid hq
  have HK := Lib.hid hck
  have HSM := Lib.hid hsm
  clear hq hck hsm
  gi_wp2_with (first | (refine ⟨trivial, rfl, ?_⟩; gi_at_call 121; refine (callsIn_wide.2 (check_c c q _ (HQ.out.up (bl_al (Below.refl _ _) _)) HSM.out.n1 HSM.out.n2 HSM.out.n3 HSM.out.n4)).mono ?_; rintro e w1 ⟨rfl, hb⟩; rw [HK.out]; have hx : Box w1 w.heap.size (copCs c q) := (Box.new w (copCs c q) 41 (0, 0)).bl (by simp) hb; have HX := Lib.hid hx; unfold Box copCs at hx; have HB := Lib.hid (bl_tr (bl_al (Below.refl _ _) _) hb); have hsz : w.heap.size < w1.heap.size := (by have := hb.size; simp at this; omega); clear hb) | (refine ⟨trivial, rfl, ?_⟩; gi_at_call 142; refine (callsIn_wide.2 (scenes_c c q _)).mono ?_; rintro e w2 ⟨rfl, rfl⟩))
  clear hx hmm
  have HSZ := Lib.hid hsz
  clear hsz
  obtain ⟨W0, hW0⟩ : ∃ W0, ((((w1.alloc (.map #[] 0)).alloc (.cells (wkCs c q (.slice none 0 0) w1.heap.size) 184)).alloc (.cells #[.pointer (some ⟨w1.heap.size + 1, 0, none⟩)] 150)).alloc (.cells (copCs c q) 41)) = W0 := ⟨_, rfl⟩
  rw [hW0]
  have hs0 : W0.heap.size = w1.heap.size + 4 := by rw [← hW0]; simp
  have HI0 : Hid (AskI c q w w1.heap.size [] W0) := by
    rw [← hW0]
    have hw : w.heap.size < w1.heap.size := HSZ.out
    refine ⟨bl_al (bl_al (bl_al (bl_al HB.out _) _) _) _, by simp, (((HX.out.al (by simp) _).al (by simp) _).al (by simp) _).al (by simp) _, Box.new' _ _ _ _ (by simp), ?_, (Box.new' _ _ _ _ (by simp)).al (by simp) _, .slice none 0 0, ?_, World.ownsRow_nil _ _ _ _⟩
    · exact heap_al (heap_al (heap_al (World.alloc_heap_new w1 _) _) _) _
    · have := World.alloc_heap_new (w1.alloc (.map #[] 0)) (.cells (wkCs c q (.slice none 0 0) w1.heap.size) 184)
      rw [World.size_alloc] at this
      exact heap_al (heap_al this _) _
  have HS0 := Lib.hid hs0
  clear hW0 hs0
  refine wpIn_rangeB (P := Tryz.prog) (w1.heap.size + 9) (fun k => w1.heap.size + 6 ≤ k ∧ k < w1.heap.size + 9) (Kept (w1.heap.size + 9) [w1.heap.size + 1, w1.heap.size + 5]) (gf := 166) (lb := #[.pointer (some ⟨w1.heap.size + 1 + 1 + 1, 0, none⟩)]) rfl (enters_of Tryz.func166 (by kernel_rfl) rfl) (encs := fun x : Int × List Int => #[scV x.1 x.2]) (tot := scenesC c) ?seq ?hT Kept.trans ?hKb (fun _ => rfl) (AskI c q w w1.heap.size) (fun _ _ _ => False) ?hI (fun _ _ _ _ h _ _ => h) HI0.out 8 (fun x b W => w1.heap.size + 9 ≤ b ∧ Box W b (scCs x.1 x.2) ∧ ∀ v, W.heap[w1.heap.size + 1]? = some (.cells (wkCs c q v w1.heap.size) 184 (0, 0)) → some b ≠ v.ownBlock) ?assign ?ha1 ?body ?done ?stop
  case seq =>
    intro r
    have ho := okc_of HK.out
    have hsz : ((W0.alloc (.deferred (some []))).alloc (.loop r)).heap.size = w1.heap.size + 6 := by simp [HS0.out]
    have hw : w.heap.size < w1.heap.size := HSZ.out
    have := scenes_it c q (w1.heap.size + 3) [w1.heap.size + 1, w1.heap.size + 5] ((W0.alloc (.deferred (some []))).alloc (.loop r)) (by omega) (by simp) (fun k hk => by simp at hk; omega)
      (fun b o hb => by
        obtain ⟨b', o', e, hlt, _⟩ := HQ.out.loss.at_ (by have := ho.ll; have := ho.l0; omega)
        rw [hb] at e
        cases e
        simp
        omega) ho.l0 ho.l4 ho.ll ho.lb ho.hh ((HI0.out.b3.al (by simp) _).al (by simp) _) ((HQ.out.loss.below (bl_al (bl_al HI0.out.bel _) _)).mono (by omega))
    rw [hsz] at this
    exact this
  case hT =>
    rw [HS0.out]; constructor <;> omega
  case hKb =>
    intro W o
    rw [HS0.out]
    exact (Kept.refl _ _ W).putObj (by simp) o
  case hI =>
    intro pre A B h hsz hG
    rw [HS0.out] at hG
    exact h.grown HSZ.out (hG.mono fun k _ t => by omega)
  case assign =>
    intro l pre x W K h1 h2 h3 hK
    have HKK := Lib.hid hK
    clear hK
    gi_wp2
    have hk2 := HKK.out W.heap.size (W.alloc (.cells (scCs x.1 x.2) 158)) (by simp) (fun k hk => Below.heap_alloc _ _ _ (by omega)) (Kept.bl (bl_al (Below.refl _ _) _) (by simp) (by have := HS0.out; omega)) (h3.grown HSZ.out (Grown.bl (bl_al (Below.refl _ _) _))) ⟨by have := HS0.out; omega, Box.new _ _ _ _, fun v hv he => by
      obtain ⟨v', h'⟩ := h3.wk
      have h1 := heap_al h'.cells (.cells (scCs x.1 x.2) 158)
      rw [hv] at h1
      have hvv : v = v' := by simpa using h1
      subst hvv
      exact own_far6 h'.row (Nat.le_refl _) he⟩
    simpa using hk2
  case ha1 =>
    rintro x b A B ⟨h1, h2, h2'⟩ h3 hG
    rw [HS0.out] at hG
    exact ⟨h1, hG.box h2 (h2.lt (by simp)) (by omega), fun v hv => h2' v ((hG.block _ (by have := HS0.out; omega) (by omega)).symm.trans hv)⟩
  case body =>
    rintro l pre x b W hpx h1 h2 h3 ⟨h4, h5, h6⟩
    have ho := okc_of HK.out
    have hxs : IsSc c x := (mem_scenes ho.l0 x).1 (hpx.subset (by simp))
    obtain ⟨v, hwk, hrow⟩ := h3.wk
    obtain ⟨A, kk, rfl, hsc, -⟩ := own_scenes hrow
    have HROW := Lib.hid hrow
    have HA := Lib.hid h3
    have HWK := Lib.hid hwk
    have hb0 := h3.b0
    have hb2 : W.cell? ⟨w1.heap.size + 1 + 1, 0, none⟩ = some (.pointer (some ⟨w1.heap.size + 1, 0, none⟩)) := h3.b2 0
    have hwc : W.cell? ⟨w1.heap.size + 1, 11, none⟩ = some (.slice A (truthsF c pre).length kk) := by simp [World.cell?, hwk]
    have H5 := Lib.hid h5
    have H4 := Lib.hid h4
    have H6 := Lib.hid (h6 _ hwk)
    have HPN : Hid ((truthsF c pre).length ≤ 100000) := by
      have h7 := scenes_small ho
      have h8 := hpx.length_le
      have h9 := truthsF_len c pre
      simp at h8
      unfold Hid
      omega
    unfold Box copCs at hb0
    unfold Box scCs at h5
    have HPL := Lib.hid (plays0 ho hxs)
    have HRB : Hid (∀ j, j < c.rds.length → 0 ≤ t1 c.rds j ∧ t1 c.rds j ≤ c.last) := fun j hj => by have := ho.rb j hj; omega
    have HRL := Lib.hid ho.rl
    have HHS := Lib.hid h1
    have HN := Lib.hid h2
    clear hrow hwk h3 ho hpx h1 h2 h4 h6
    cases hr : rightB c x with
    | false =>
      have HC : Hid (∀ d, Calls Tryz.prog 143 #[copV c q, scV x.1 x.2, .slice none 0 0] (plus W d) fun e w' => e = .returned (.bool false) ∧ Below (plus W d).heap.size (plus W d) w') := fun d => by have h := right_c c q x (plus W d) HPL.out (HQ.out.up (bl_pl HA.out.bel d)) HRB.out HRL.out; rw [hr] at h; exact h
      have HT : Hid (truthsF c (pre ++ [x]) = truthsF c pre) := by unfold Hid; rw [truthsF_snoc, addT, if_neg (by simp [hr])]
      clear hr
      simp
      gi_wp2
      refine wpIn_round_plus (by decide) (by kernel_rfl) ?_
      repeat (go_big_quiet_step ((go_at_call 143; exact Calls.pl (HC.out _))))
      refine wpQuiet_nil ?_
      rintro _ ⟨d, rfl⟩
      gi_wp2
      have h := HA.out.grown HSZ.out (Grown.bl (bl_pl (Below.refl _ _) d))
      exact ⟨fun k hk => plus_heap W d k (by have := HHS.out; omega), Kept.bl (bl_pl (Below.refl _ _) d) (by simp [plus_size]) (by have := HN.out; omega), h.bel, h.sz, h.b0, h.b3, h.mp, h.b2, by rw [HT.out]; exact h.wk⟩
    | true =>
      have HC : Hid (∀ d, Calls Tryz.prog 143 #[copV c q, scV x.1 x.2, .slice none 0 0] (plus W d) fun e w' => e = .returned (.bool true) ∧ Below (plus W d).heap.size (plus W d) w') := fun d => by have h := right_c c q x (plus W d) HPL.out (HQ.out.up (bl_pl HA.out.bel d)) HRB.out HRL.out; rw [hr] at h; exact h
      by_cases hnil : truthsF c pre = []
      · have HT : Hid (truthsF c (pre ++ [x]) = truthsF c pre ++ [x]) := by unfold Hid; rw [truthsF_snoc, addT, if_pos ⟨hr, .inl hnil⟩]
        rw [hnil] at hwc
        simp only [List.length_nil] at hwc
        clear hr hnil
        simp
        gi_wp2
        refine wpIn_round_plus (by decide) (by kernel_rfl) ?_
        repeat (go_big_quiet_step ((go_at_call 143; exact Calls.pl (HC.out _))))
        refine wpQuiet_nil ?_
        rintro _ ⟨d, rfl⟩
        gi_wp2
        refine r10 _ rfl (by rintro ⟨a, w, h⟩; exact h) _ _ c q w1.heap.size (w1.heap.size + 1 + 1) b (w1.heap.size + 1) (w1.heap.size + 9) (truthsF c pre).length (.slice A (truthsF c pre).length kk) ((truthsF c pre).flatMap sc6) x rfl rfl rfl HPN.out (by have := HN.out; simp [plus_size]; omega) (by omega) (by omega) (by omega) (by have := H4.out; omega) ((plus_cell _ _ _ (by have := HN.out; show w1.heap.size + 1 + 1 < _; omega)).trans hb2) (H5.out.plus d (by simp)) H6.out ((plus_heap _ _ _ (by have := HN.out; omega)).trans HWK.out) (own_grown HROW.out (Grown.bl (bl_pl (Below.refl _ _) d)) (fun _ _ h => h)) ?_
        intro a w2 u hG hbx hrw
        have hw0 : w.heap.size < w1.heap.size := HSZ.out
        have hn2 := HN.out
        have hvb : ∀ k, some k = Value.ownBlock (.slice A (truthsF c pre).length kk) → w1.heap.size + 9 ≤ k := fun k hk => (HROW.out.lt k hk.symm).1
        have hG2 : Grown (fun k => k = w1.heap.size + 1 ∨ w1.heap.size + 9 ≤ k) W w2 := (Grown.bl (bl_pl (Below.refl _ _) d)).trans (hG.mono fun k _ t => t.imp id (hvb k))
        refine ⟨fun k hk => hG2.block k (by have := HHS.out; omega) (by have := HS0.out; omega), ⟨hG2.os, hG2.tape, hG2.output, hG2.size, fun k hk hkw hn => hG2.block k hkw (by simp at hn; omega)⟩, HA.out.bel.trans (hG2.below (by have := HA.out.sz; omega) (fun k hk => by omega)), Nat.le_trans HA.out.sz hG2.size, hG2.box HA.out.b0 (HA.out.b0.lt (by simp)) (by omega), hG2.box HA.out.b3 (HA.out.b3.lt (by simp)) (by omega), heap_grown HA.out.mp hG2 (by omega), hG2.box HA.out.b2 (HA.out.b2.lt (by simp)) (by omega), u, hbx, ?_⟩
        rw [HT.out, List.length_append, List.flatMap_append]
        simpa using hrw
      · obtain ⟨n, hn⟩ : ∃ n, (truthsF c pre).length = n + 1 := ⟨(truthsF c pre).length - 1, by have : (truthsF c pre).length ≠ 0 := fun h => hnil (List.eq_nil_of_length_eq_zero h); omega⟩
        obtain ⟨g, o, rfl⟩ := hsc.some_ (by omega)
        obtain ⟨e0, e1, e2, e3, e4, e5⟩ := hsc.get n (by omega)
        have hwrap : wrap64 (n : Int) = (n : Int) := IntWalk.wrap64_in _ (by have := HPN.out; omega)
        have hne1 : ((((n + 1 : Nat) : Int)) == 0) = false := by simp; omega
        have hne2 : ((n : Int) + 1 == 0) = false := by simp; omega
        have hlt1 : (n : Int) < ((n + 1 : Nat) : Int) := by omega
        have hls : lastS (truthsF c pre) = (sh (truthsF c pre) n, sl (truthsF c pre) n) := by unfold lastS sh sl; rw [hn]; rfl
        rw [show (x : Int × List Int) = (x.1, x.2) from rfl] at hr
        cases heq : eqS (lastS (truthsF c pre)) x with
        | false =>
          have HT : Hid (truthsF c (pre ++ [x]) = truthsF c pre ++ [x]) := by unfold Hid; rw [truthsF_snoc, addT, if_pos ⟨hr, .inr heq⟩]
          rw [hn] at hwc
          rw [hls] at heq
          have heq2 : eqS (sh (truthsF c pre) n, sl (truthsF c pre) n) (x.1, x.2) = false := heq
          clear heq hls
          simp
          gi_wp2
          refine wpIn_round_plus (by decide) (by kernel_rfl) ?_
          repeat (go_big_quiet_step ((go_at_call 143; exact Calls.pl (HC.out _))))
          refine wpQuiet_nil ?_
          rintro _ ⟨d, rfl⟩
          gi_wp2
          refine r10 _ rfl (by rintro ⟨a, w, h⟩; exact h) _ _ c q w1.heap.size (w1.heap.size + 1 + 1) b (w1.heap.size + 1) (w1.heap.size + 9) (truthsF c pre).length (.slice (some ⟨g, o, none⟩) (truthsF c pre).length kk) ((truthsF c pre).flatMap sc6) x rfl rfl rfl HPN.out (by have := HN.out; simp [plus_size]; omega) (by omega) (by omega) (by omega) (by have := H4.out; omega) ((plus_cell _ _ _ (by have := HN.out; show w1.heap.size + 1 + 1 < _; omega)).trans hb2) (H5.out.plus d (by simp)) H6.out ((plus_heap _ _ _ (by have := HN.out; omega)).trans HWK.out) (own_grown HROW.out (Grown.bl (bl_pl (Below.refl _ _) d)) (fun _ _ h => h)) ?_
          intro a w2 u hG hbx hrw
          have hw0 : w.heap.size < w1.heap.size := HSZ.out
          have hn2 := HN.out
          have hvb : ∀ k, some k = Value.ownBlock (.slice (some ⟨g, o, none⟩) (truthsF c pre).length kk) → w1.heap.size + 9 ≤ k := fun k hk => (HROW.out.lt k hk.symm).1
          have hG2 : Grown (fun k => k = w1.heap.size + 1 ∨ w1.heap.size + 9 ≤ k) W w2 := (Grown.bl (bl_pl (Below.refl _ _) d)).trans (hG.mono fun k _ t => t.imp id (hvb k))
          refine ⟨fun k hk => hG2.block k (by have := HHS.out; omega) (by have := HS0.out; omega), ⟨hG2.os, hG2.tape, hG2.output, hG2.size, fun k hk hkw hn => hG2.block k hkw (by simp at hn; omega)⟩, HA.out.bel.trans (hG2.below (by have := HA.out.sz; omega) (fun k hk => by omega)), Nat.le_trans HA.out.sz hG2.size, hG2.box HA.out.b0 (HA.out.b0.lt (by simp)) (by omega), hG2.box HA.out.b3 (HA.out.b3.lt (by simp)) (by omega), heap_grown HA.out.mp hG2 (by omega), hG2.box HA.out.b2 (HA.out.b2.lt (by simp)) (by omega), u, hbx, ?_⟩
          rw [HT.out, List.length_append, List.flatMap_append]
          simpa using hrw
        | true =>
          have HT : Hid (truthsF c (pre ++ [x]) = truthsF c pre) := by unfold Hid; rw [truthsF_snoc, addT, if_neg (by simp [heq, hnil])]
          rw [hn] at hwc
          rw [hls] at heq
          have heq2 : eqS (sh (truthsF c pre) n, sl (truthsF c pre) n) (x.1, x.2) = true := heq
          clear heq hls
          simp
          gi_wp2
          refine wpIn_round_plus (by decide) (by kernel_rfl) ?_
          repeat (go_big_quiet_step ((go_at_call 143; exact Calls.pl (HC.out _))))
          refine wpQuiet_nil ?_
          rintro _ ⟨d, rfl⟩
          gi_wp2
          have h := HA.out.grown HSZ.out (Grown.bl (bl_pl (Below.refl _ _) d))
          exact ⟨fun k hk => plus_heap W d k (by have := HHS.out; omega), Kept.bl (bl_pl (Below.refl _ _) d) (by simp [plus_size]) (by have := HN.out; omega), h.bel, h.sz, h.b0, h.b3, h.mp, h.b2, by rw [HT.out]; exact h.wk⟩
  case done =>
    rintro W h hD
    obtain ⟨v, hwk, hrow⟩ := h.wk
    obtain ⟨A, kk, rfl, hsc, -⟩ := own_scenes hrow
    have hb2 : W.cell? ⟨w1.heap.size + 1 + 1, 0, none⟩ = some (.pointer (some ⟨w1.heap.size + 1, 0, none⟩)) := h.b2 0
    have hwc : W.cell? ⟨w1.heap.size + 1, 11, none⟩ = some (.slice A (truthsF c (scenesC c)).length kk) := by simp [World.cell?, hwk]
    have hput : Grown (fun k => k = W0.heap.size) W (W.putObj W0.heap.size (.deferred none)) := (Grown.refl (fun k => k = W0.heap.size) W).putObj (l := W0.heap.size) (.inl rfl) _
    have hs0 := HS0.out
    have hw0 : w.heap.size < w1.heap.size := HSZ.out
    have hbel : Below w.heap.size w (W.putObj W0.heap.size (.deferred none)) := h.bel.trans (hput.below (by have := h.sz; omega) (fun k hk => by omega))
    have HPUT := Lib.hid hput
    have HBEL := Lib.hid hbel
    have HD := Lib.hid hD
    have HH := Lib.hid h
    have HW := Lib.hid hwk
    have HRO := Lib.hid hrow
    clear hput hbel hD h hwk hrow hsc hs0 hw0
    cases hnil : (((truthsF c (scenesC c)).length : Int) == 0) with
    | true =>
      have ht : truthsC c = [] := List.eq_nil_of_length_eq_zero (by unfold truthsC; simpa using hnil)
      gi_wp2
      refine ⟨by simp, .inl ⟨_, _, rfl, run_takeDeferred HD.out, ?_⟩⟩
      exact ⟨_, results_tmp2 rfl _ _ _, HBEL.out, .inl ⟨ht, rfl⟩⟩
    | false =>
      have ht : truthsC c ≠ [] := fun h => by
        have : (truthsF c (scenesC c)).length = 0 := by unfold truthsC at h; rw [h]; rfl
        rw [this] at hnil
        cases hnil
      gi_wp2
      refine ⟨by simp, .inl ⟨_, _, rfl, run_takeDeferred HD.out, ?_⟩⟩
      refine ⟨_, results_tmp2 rfl _ _ _, HBEL.out, .inr ⟨ht, w1.heap.size + 1, w1.heap.size, _, rfl, HSZ.out, rfl, heap_grown HH.out.mp HPUT.out (by have := HS0.out; omega), heap_grown HW.out HPUT.out (by have := HS0.out; omega), own_grown HRO.out HPUT.out (fun k hk => by have := HS0.out; omega)⟩⟩
  case stop =>
    rintro c pre W _ h _
    exact h.elim
set_option maxHeartbeats 4000000 in
theorem asked_bad (c : Cop) (q : CA) (fine : Bool) (w : World) (hq : CopAt w w.heap.size c q) (hsm : Small c) (hck : checkCop c ≠ 0) :
    Calls Tryz.prog 114 #[copV c q, .bool fine] w fun e w' => e = .returned (.tuple #[.pointer none, .int .i64 (checkCop c)]) ∧ Below w.heap.size w w' := by
  have HQ := Lib.hid hq
  have HSM := Lib.hid hsm
  clear hq hsm
  have hck1 : (checkCop c == 0) = false := by simpa using hck
  go_enter Tryz.func114, Tryz.ntmps114
  go_wp2_with (go_at_call 121; refine (check_c c q _ (HQ.out.up (bl_al (Below.refl _ _) _)) HSM.out.n1 HSM.out.n2 HSM.out.n3 HSM.out.n4).mono ?_; rintro e w1 ⟨rfl, hb⟩; have HB := Lib.hid hb; clear hb)
  go_ret2
  exact ⟨rfl, bl_tr (bl_al (Below.refl _ _) _) HB.out⟩
end Go.Proofs.YtpgnplmjfhdncaaGreat
namespace Go.Proofs.YtpgnplmjfhdncaaGreat
open Go.RowKit
set_option linter.unusedVariables false
set_option maxHeartbeats 1000000 in
theorem wider_c (lo hi n : Int) (w : World) :
    Calls Tryz.prog 162 #[.agg #[.int .i64 lo, .int .i64 hi], .int .i64 n] w fun e w' => e = .returned (.agg #[.int .i64 (min lo n), .int .i64 (max hi n)]) ∧ Below w.heap.size w w' := by
  have HB : Hid (∀ A B C : Obj, (((w.alloc A).alloc B).alloc C).heap[w.heap.size + 1]? = some B) := fun A B C => heap_al (by have := World.alloc_heap_new (w.alloc A) B; rwa [World.size_alloc] at this) C
  by_cases hlt : hi < n
  · have hmx : Hid (max hi n = n) := by unfold Hid; omega
    rw [hmx.out]
    go_enter Tryz.func162, Tryz.ntmps162
    go_wp2
    go_region_held3 (fun w' => w'.cell? ⟨w.heap.size, 0, none⟩ = some (.int .i64 lo) ∧ w'.cell? ⟨w.heap.size, 1, none⟩ = some (.int .i64 hi)) (first | go_keep) (first | (go_at_call 148; refine (min2_c lo n _ _ _ _ (by go_simp) (by go_simp)).mono ?_; rintro e w1 ⟨rfl, rfl⟩))
    all_goals (go_wp2; exact bodyPost_ret (results_cell_row Tryz.results162 _ _ (w.heap.size + 1) 37 _ (0, 0) _ (by rfl) (HB.out _ _ _) Tryz.underlying37 rfl (by kernel_rfl)) rfl ⟨rfl, bl_dr (bl_al (bl_al (bl_al (Below.refl _ _) _) _) _)⟩)
  · have hle : n ≤ hi := by omega
    have hmx : Hid (max hi n = hi) := by unfold Hid; omega
    rw [hmx.out]
    go_enter Tryz.func162, Tryz.ntmps162
    go_wp2
    go_region_held3 (fun w' => w'.cell? ⟨w.heap.size, 0, none⟩ = some (.int .i64 lo) ∧ w'.cell? ⟨w.heap.size, 1, none⟩ = some (.int .i64 hi)) (first | go_keep) (first | (go_at_call 148; refine (min2_c lo n _ _ _ _ (by go_simp) (by go_simp)).mono ?_; rintro e w1 ⟨rfl, rfl⟩))
    all_goals (go_wp2; exact bodyPost_ret (results_cell_row Tryz.results162 _ _ (w.heap.size + 1) 37 _ (0, 0) _ (by rfl) (HB.out _ _ _) Tryz.underlying37 rfl (by kernel_rfl)) rfl ⟨rfl, bl_dr (bl_al (bl_al (bl_al (Below.refl _ _) _) _) _)⟩)
def verd (lo hi : Int) : Int := if 0 < lo then 1 else if hi = 0 then 2 else 3
theorem verdict_c (lo hi : Int) (w : World) :
    Calls Tryz.prog 140 #[.agg #[.int .i64 lo, .int .i64 hi]] w fun e w' => e = .returned (.int .i64 (verd lo hi)) ∧ Below w.heap.size w w' := by
  by_cases h1 : 0 < lo
  · have HF : Hid (verd lo hi = 1) := by unfold Hid verd; rw [if_pos h1]
    go_enter Tryz.func140, Tryz.ntmps140
    go_wp2
    go_ret
    exact ⟨by rw [HF.out]; rfl, bl_al (Below.refl _ _) _⟩
  · by_cases h2 : hi = 0
    · have HF : Hid (verd lo hi = 2) := by unfold Hid verd; rw [if_neg h1, if_pos h2]
      subst h2
      go_enter Tryz.func140, Tryz.ntmps140
      go_wp2
      go_ret
      exact ⟨by rw [HF.out]; rfl, bl_al (Below.refl _ _) _⟩
    · have HF : Hid (verd lo hi = 3) := by unfold Hid verd; rw [if_neg h1, if_neg h2]
      go_enter Tryz.func140, Tryz.ntmps140
      go_wp2
      go_ret
      exact ⟨by rw [HF.out]; rfl, bl_al (Below.refl _ _) _⟩
end Go.Proofs.YtpgnplmjfhdncaaGreat
namespace Go.Proofs.YtpgnplmjfhdncaaGreat
open Go.RowKit
set_option linter.unusedVariables false
/-- The bounds of g, at 0 to j - 1. -/
def bndI (g : Nat → Int) : Nat → Int × Int
  | 0 => (0, 0)
  | j + 1 => (min (if j = 0 then (g j, g j) else bndI g j).1 (g j), max (if j = 0 then (g j, g j) else bndI g j).2 (g j))
/-- Scene j of a list. -/
def scN (tr : List (Int × List Int)) (j : Nat) : Int × List Int := (sh tr j, sl tr j)
set_option maxRecDepth 100000 in
set_option maxHeartbeats 4000000 in
theorem bounds_c (c : Cop) (q : CA) (tr : List (Int × List Int)) (b m base : Nat) (v : Value) (k hour : Nat) (g : Nat → Int) (want : List Int) (a2 : Option Addr) (c2 : Nat) (w : World)
    (hq : CopAt w w.heap.size c q) (hw : WorkAt c q tr b m base v w) (ho : Okc c) (htr : ∀ j, j < tr.length → IsSc c (scN tr j)) (hn : tr.length ≤ 2000)
    (hwl : (want.length : Int) = c.last + 1) (hwb : ∀ j, 0 ≤ nth want j ∧ nth want j ≤ 100) (hy : IntsAt w w.heap.size a2 want) (hent : Ent k)
    (hcall : ∀ j, j < tr.length → ∀ W u, PastV c c.coal want (scN tr j) u W → Calls Tryz.prog k #[u, .int .i64 hour] W fun e W' => e = .returned (.int .i64 (g j)) ∧ Below W.heap.size W W') :
    Calls Tryz.prog 129 #[.agg #[.func (.func k) #[] #[]], .pointer (some ⟨b, 0, none⟩), .slice a2 want.length c2, .int .i64 hour] w fun e w' => e = .returned (.agg #[.int .i64 (bndI g tr.length).1, .int .i64 (bndI g tr.length).2]) ∧ Below w.heap.size w w' := by
  obtain ⟨A, kk, rfl, hsc, -⟩ := own_scenes hw.row
  have hbw : b < w.heap.size := (Array.getElem?_eq_some_iff.1 hw.cells).1
  have hwc : w.cell? ⟨b, 11, none⟩ = some (.slice A tr.length kk) := by simp [World.cell?, hw.cells]
  have HCB : Hid (Box w b (wkCs c q (.slice A tr.length kk) m)) := fun o => by simp [World.cell?, hw.cells]
  have HQ := Lib.hid hq
  have HO := Lib.hid ho
  have HTR := Lib.hid htr
  have HWL := Lib.hid hwl
  have HWB := Lib.hid hwb
  have HY := Lib.hid hy
  have HC := Lib.hid hcall
  have HSC := Lib.hid hsc
  have HBW := Lib.hid hbw
  clear hq hw ho htr hwl hwb hy hcall hsc hbw
  go_enter Tryz.func129, Tryz.ntmps129
  go_wp2
  clear hwc
  go_loopw [17] (fun i wr => ∃ j : Nat, j ≤ tr.length ∧ i = .int .i64 j ∧ Below w.heap.size w wr ∧ w.heap.size + 2 ≤ wr.heap.size ∧ Box wr w.heap.size #[.func (.func k) #[] #[]] ∧ wr.heap[w.heap.size + 1]? = some (.cells #[.int .i64 (bndI g j).1, .int .i64 (bndI g j).2] 37 (0, 0))) (fun i _ => tr.length - (intOf i).toNat)
  case atStart =>
    refine ⟨0, Nat.zero_le _, rfl, bl_al (bl_al (Below.refl _ _) _) _, by simp, (Box.new _ _ _ _).al (by simp) _, ?_⟩
    have := World.alloc_heap_new (w.alloc (.cells #[.func (.func k) #[] #[]] 170)) (.cells #[.int .i64 0, .int .i64 0] 37)
    rw [World.size_alloc] at this
    exact this
  case round =>
    obtain ⟨j, hj, rfl, hb, hsz, hbx, hr⟩ := hrel
    have HB := Lib.hid hb
    have HBX := Lib.hid hbx
    have HR := Lib.hid hr
    clear hb hr
    by_cases hlt : j < tr.length
    · obtain ⟨g0, o0, hA⟩ := (HSC.out.below HB.out).some_ (by omega)
      subst hA
      obtain ⟨e0, e1, e2, e3, e4, e5⟩ := (HSC.out.below HB.out).get j hlt
      have hfn : wr.cell? ⟨w.heap.size, 0, none⟩ = some (.func (.func k) #[] #[]) := hbx 0
      have hwk : Box wr b (wkCs c q (.slice (some ⟨g0, o0, none⟩) tr.length kk) m) := HCB.out.below HB.out HBW.out
      have w0 : wr.cell? ⟨b, 0, none⟩ = some (.int .i64 c.last) := hwk 0
      have w1 : wr.cell? ⟨b, 1, none⟩ = some (.int .i64 c.start) := hwk 1
      have w2 : wr.cell? ⟨b, 2, none⟩ = some (.int .i64 c.most) := hwk 2
      have w3 : wr.cell? ⟨b, 3, none⟩ = some (.int .i64 c.per) := hwk 3
      have w4 : wr.cell? ⟨b, 4, none⟩ = some (.int .i64 c.shovels) := hwk 4
      have w5 : wr.cell? ⟨b, 5, none⟩ = some (.slice q.a1 c.coal.length q.c1) := hwk 5
      have w6 : wr.cell? ⟨b, 6, none⟩ = some (.slice q.a2 c.want.length q.c2) := hwk 6
      have w7 : wr.cell? ⟨b, 7, none⟩ = some (.int .i64 c.hlo) := hwk 7
      have w8 : wr.cell? ⟨b, 8, none⟩ = some (.int .i64 c.hhi) := hwk 8
      have w9 : wr.cell? ⟨b, 9, none⟩ = some (.slice q.a3 c.loss.length q.c3) := hwk 9
      have w10 : wr.cell? ⟨b, 10, none⟩ = some (.slice q.a4 c.rds.length q.c4) := hwk 10
      have hj1 : (j : Int) < (tr.length : Int) := by omega
      have HPL : Hid (Plays c c.coal want (scN tr j)) := plays_of HO.out (HTR.out j hlt) HO.out.cl HWL.out (fun i => by have := HO.out.cb i; have := HO.out.h3; omega) HWB.out
      clear hbx hwk
      go_wp2
      clear e0 e1 e2 e3 e4 e5
      obtain ⟨W1, hW1⟩ : ∃ W1, wr.alloc (.cells (scCs (sh tr j) (sl tr j)) 158) = W1 := ⟨_, rfl⟩
      rw [hW1]
      have HB1 : Hid (Below wr.heap.size wr W1) := by rw [← hW1]; exact bl_al (Below.refl _ _) _
      have k0 : W1.cell? ⟨w.heap.size, 0, none⟩ = some (.func (.func k) #[] #[]) := cell_later HB1.out hfn
      have k1 : W1.cell? ⟨b, 0, none⟩ = some (.int .i64 c.last) := cell_later HB1.out w0
      have k2 : W1.cell? ⟨b, 1, none⟩ = some (.int .i64 c.start) := cell_later HB1.out w1
      have k3 : W1.cell? ⟨b, 2, none⟩ = some (.int .i64 c.most) := cell_later HB1.out w2
      have k4 : W1.cell? ⟨b, 3, none⟩ = some (.int .i64 c.per) := cell_later HB1.out w3
      have k5 : W1.cell? ⟨b, 4, none⟩ = some (.int .i64 c.shovels) := cell_later HB1.out w4
      have k6 : W1.cell? ⟨b, 5, none⟩ = some (.slice q.a1 c.coal.length q.c1) := cell_later HB1.out w5
      have k7 : W1.cell? ⟨b, 6, none⟩ = some (.slice q.a2 c.want.length q.c2) := cell_later HB1.out w6
      have k8 : W1.cell? ⟨b, 7, none⟩ = some (.int .i64 c.hlo) := cell_later HB1.out w7
      have k9 : W1.cell? ⟨b, 8, none⟩ = some (.int .i64 c.hhi) := cell_later HB1.out w8
      have k10 : W1.cell? ⟨b, 9, none⟩ = some (.slice q.a3 c.loss.length q.c3) := cell_later HB1.out w9
      have k11 : W1.cell? ⟨b, 10, none⟩ = some (.slice q.a4 c.rds.length q.c4) := cell_later HB1.out w10
      have hbw1 : Box W1 wr.heap.size (scCs (sh tr j) (sl tr j)) := by rw [← hW1]; exact Box.new _ _ _ _
      have k12 : W1.cell? ⟨wr.heap.size, 0, none⟩ = some (.int .i64 (sh tr j)) := hbw1 0
      have k13 : W1.cell? ⟨wr.heap.size, 1, none⟩ = some (.int .i64 (nth (sl tr j) 0)) := hbw1 1
      have k14 : W1.cell? ⟨wr.heap.size, 2, none⟩ = some (.int .i64 (nth (sl tr j) 1)) := hbw1 2
      have k15 : W1.cell? ⟨wr.heap.size, 3, none⟩ = some (.int .i64 (nth (sl tr j) 2)) := hbw1 3
      have k16 : W1.cell? ⟨wr.heap.size, 4, none⟩ = some (.int .i64 (nth (sl tr j) 3)) := hbw1 4
      have k17 : W1.cell? ⟨wr.heap.size, 5, none⟩ = some (.int .i64 (nth (sl tr j) 4)) := hbw1 5
      clear hW1 hbw1 hfn w0 w1 w2 w3 w4 w5 w6 w7 w8 w9 w10
      go_region_held3 (fun w' => w'.cell? ⟨w.heap.size, 0, none⟩ = some (.func (.func k) #[] #[]) ∧ w'.cell? ⟨b, 0, none⟩ = some (.int .i64 c.last) ∧ w'.cell? ⟨b, 1, none⟩ = some (.int .i64 c.start) ∧ w'.cell? ⟨b, 2, none⟩ = some (.int .i64 c.most) ∧ w'.cell? ⟨b, 3, none⟩ = some (.int .i64 c.per) ∧ w'.cell? ⟨b, 4, none⟩ = some (.int .i64 c.shovels) ∧ w'.cell? ⟨b, 5, none⟩ = some (.slice q.a1 c.coal.length q.c1) ∧ w'.cell? ⟨b, 6, none⟩ = some (.slice q.a2 c.want.length q.c2) ∧ w'.cell? ⟨b, 7, none⟩ = some (.int .i64 c.hlo) ∧ w'.cell? ⟨b, 8, none⟩ = some (.int .i64 c.hhi) ∧ w'.cell? ⟨b, 9, none⟩ = some (.slice q.a3 c.loss.length q.c3) ∧ w'.cell? ⟨b, 10, none⟩ = some (.slice q.a4 c.rds.length q.c4) ∧ w'.cell? ⟨wr.heap.size, 0, none⟩ = some (.int .i64 (sh tr j)) ∧ w'.cell? ⟨wr.heap.size, 1, none⟩ = some (.int .i64 (nth (sl tr j) 0)) ∧ w'.cell? ⟨wr.heap.size, 2, none⟩ = some (.int .i64 (nth (sl tr j) 1)) ∧ w'.cell? ⟨wr.heap.size, 3, none⟩ = some (.int .i64 (nth (sl tr j) 2)) ∧ w'.cell? ⟨wr.heap.size, 4, none⟩ = some (.int .i64 (nth (sl tr j) 3)) ∧ w'.cell? ⟨wr.heap.size, 5, none⟩ = some (.int .i64 (nth (sl tr j) 4))) (first | assumption | go_keep) (first | (go_at_call 123; refine (play_c c q (scN tr j) c.coal want q.a1 q.c1 a2 c2 _ HPL.out (HQ.out.coal.up (bl_tr HB.out (bl_dr HB1.out))) (HY.out.up (bl_tr HB.out (bl_dr HB1.out)))).mono ?_; rintro e w5 ⟨⟨u, rfl, hpv⟩, hb5⟩; have HPV := Lib.hid hpv; have HB5 := Lib.hid hb5; have hS5 : (fun w' => w'.cell? ⟨w.heap.size, 0, none⟩ = some (.func (.func k) #[] #[]) ∧ w'.cell? ⟨b, 0, none⟩ = some (.int .i64 c.last) ∧ w'.cell? ⟨b, 1, none⟩ = some (.int .i64 c.start) ∧ w'.cell? ⟨b, 2, none⟩ = some (.int .i64 c.most) ∧ w'.cell? ⟨b, 3, none⟩ = some (.int .i64 c.per) ∧ w'.cell? ⟨b, 4, none⟩ = some (.int .i64 c.shovels) ∧ w'.cell? ⟨b, 5, none⟩ = some (.slice q.a1 c.coal.length q.c1) ∧ w'.cell? ⟨b, 6, none⟩ = some (.slice q.a2 c.want.length q.c2) ∧ w'.cell? ⟨b, 7, none⟩ = some (.int .i64 c.hlo) ∧ w'.cell? ⟨b, 8, none⟩ = some (.int .i64 c.hhi) ∧ w'.cell? ⟨b, 9, none⟩ = some (.slice q.a3 c.loss.length q.c3) ∧ w'.cell? ⟨b, 10, none⟩ = some (.slice q.a4 c.rds.length q.c4) ∧ w'.cell? ⟨wr.heap.size, 0, none⟩ = some (.int .i64 (sh tr j)) ∧ w'.cell? ⟨wr.heap.size, 1, none⟩ = some (.int .i64 (nth (sl tr j) 0)) ∧ w'.cell? ⟨wr.heap.size, 2, none⟩ = some (.int .i64 (nth (sl tr j) 1)) ∧ w'.cell? ⟨wr.heap.size, 3, none⟩ = some (.int .i64 (nth (sl tr j) 2)) ∧ w'.cell? ⟨wr.heap.size, 4, none⟩ = some (.int .i64 (nth (sl tr j) 3)) ∧ w'.cell? ⟨wr.heap.size, 5, none⟩ = some (.int .i64 (nth (sl tr j) 4))) w5 := ⟨cell_later hb5 (w := W1.drew) k0, cell_later hb5 (w := W1.drew) k1, cell_later hb5 (w := W1.drew) k2, cell_later hb5 (w := W1.drew) k3, cell_later hb5 (w := W1.drew) k4, cell_later hb5 (w := W1.drew) k5, cell_later hb5 (w := W1.drew) k6, cell_later hb5 (w := W1.drew) k7, cell_later hb5 (w := W1.drew) k8, cell_later hb5 (w := W1.drew) k9, cell_later hb5 (w := W1.drew) k10, cell_later hb5 (w := W1.drew) k11, cell_later hb5 (w := W1.drew) k12, cell_later hb5 (w := W1.drew) k13, cell_later hb5 (w := W1.drew) k14, cell_later hb5 (w := W1.drew) k15, cell_later hb5 (w := W1.drew) k16, cell_later hb5 (w := W1.drew) k17⟩; dsimp only at hS5; clear hb5 hpv) | (refine (HC.out j hlt _ _ HPV.out).mono ?_; rintro e w6 ⟨rfl, hb6⟩; have HB6 := Lib.hid (bl_tr HB5.out hb6); have hS6 : (fun w' => w'.cell? ⟨w.heap.size, 0, none⟩ = some (.func (.func k) #[] #[]) ∧ w'.cell? ⟨b, 0, none⟩ = some (.int .i64 c.last) ∧ w'.cell? ⟨b, 1, none⟩ = some (.int .i64 c.start) ∧ w'.cell? ⟨b, 2, none⟩ = some (.int .i64 c.most) ∧ w'.cell? ⟨b, 3, none⟩ = some (.int .i64 c.per) ∧ w'.cell? ⟨b, 4, none⟩ = some (.int .i64 c.shovels) ∧ w'.cell? ⟨b, 5, none⟩ = some (.slice q.a1 c.coal.length q.c1) ∧ w'.cell? ⟨b, 6, none⟩ = some (.slice q.a2 c.want.length q.c2) ∧ w'.cell? ⟨b, 7, none⟩ = some (.int .i64 c.hlo) ∧ w'.cell? ⟨b, 8, none⟩ = some (.int .i64 c.hhi) ∧ w'.cell? ⟨b, 9, none⟩ = some (.slice q.a3 c.loss.length q.c3) ∧ w'.cell? ⟨b, 10, none⟩ = some (.slice q.a4 c.rds.length q.c4) ∧ w'.cell? ⟨wr.heap.size, 0, none⟩ = some (.int .i64 (sh tr j)) ∧ w'.cell? ⟨wr.heap.size, 1, none⟩ = some (.int .i64 (nth (sl tr j) 0)) ∧ w'.cell? ⟨wr.heap.size, 2, none⟩ = some (.int .i64 (nth (sl tr j) 1)) ∧ w'.cell? ⟨wr.heap.size, 3, none⟩ = some (.int .i64 (nth (sl tr j) 2)) ∧ w'.cell? ⟨wr.heap.size, 4, none⟩ = some (.int .i64 (nth (sl tr j) 3)) ∧ w'.cell? ⟨wr.heap.size, 5, none⟩ = some (.int .i64 (nth (sl tr j) 4))) w6 := ⟨cell_later (bl_tr HB5.out hb6) (w := W1.drew) k0, cell_later (bl_tr HB5.out hb6) (w := W1.drew) k1, cell_later (bl_tr HB5.out hb6) (w := W1.drew) k2, cell_later (bl_tr HB5.out hb6) (w := W1.drew) k3, cell_later (bl_tr HB5.out hb6) (w := W1.drew) k4, cell_later (bl_tr HB5.out hb6) (w := W1.drew) k5, cell_later (bl_tr HB5.out hb6) (w := W1.drew) k6, cell_later (bl_tr HB5.out hb6) (w := W1.drew) k7, cell_later (bl_tr HB5.out hb6) (w := W1.drew) k8, cell_later (bl_tr HB5.out hb6) (w := W1.drew) k9, cell_later (bl_tr HB5.out hb6) (w := W1.drew) k10, cell_later (bl_tr HB5.out hb6) (w := W1.drew) k11, cell_later (bl_tr HB5.out hb6) (w := W1.drew) k12, cell_later (bl_tr HB5.out hb6) (w := W1.drew) k13, cell_later (bl_tr HB5.out hb6) (w := W1.drew) k14, cell_later (bl_tr HB5.out hb6) (w := W1.drew) k15, cell_later (bl_tr HB5.out hb6) (w := W1.drew) k16, cell_later (bl_tr HB5.out hb6) (w := W1.drew) k17⟩; dsimp only at hS6; clear hb6 hS5))
      have HT : Hid (Below wr.heap.size wr w6) := bl_tr (bl_dr HB1.out) HB6.out
      clear hS6
      have hcell : w6.heap[w.heap.size + 1]? = some (.cells #[.int .i64 (bndI g j).1, .int .i64 (bndI g j).2] 37 (0, 0)) := (HT.out.block _ (by omega)).trans HR.out
      have r0 : w6.cell? ⟨w.heap.size + 1, 0, none⟩ = some (.int .i64 (bndI g j).1) := by simp [World.cell?, hcell]
      have r1 : w6.cell? ⟨w.heap.size + 1, 1, none⟩ = some (.int .i64 (bndI g j).2) := by simp [World.cell?, hcell]
      have rf : ∀ o, w6.frozen? ⟨w.heap.size + 1, o, none⟩ = false := fun o => by simp [World.frozen?, hcell]
      have HCELL := Lib.hid hcell
      clear hcell
      cases hj0 : ((j : Int) == 0) with
      | true =>
        have hjz : j = 0 := by simpa using hj0
        have HST : Hid (bndI g (j + 1) = (g j, g j)) := by unfold Hid; simp only [bndI]; rw [if_pos hjz]; simp
        clear hjz
        have HC6 := Lib.hid (heap_setCell_same _ _ 1 _ _ (.int .i64 (g j)) (heap_setCell_same _ _ 0 _ _ (.int .i64 (g j)) HCELL.out))
        go_wp2_with (go_at_call 162; refine (wider_c _ _ _ _).mono ?_; rintro e w7 ⟨rfl, hb7⟩; have hc7 : w7.heap[w.heap.size + 1]? = some (.cells #[.int .i64 (g j), .int .i64 (g j)] 37 (0, 0)) := (hb7.block _ (by have := (Array.getElem?_eq_some_iff.1 HC6.out).1; exact this)).trans HC6.out; have q0 : w7.cell? ⟨w.heap.size + 1, 0, none⟩ = some (.int .i64 (g j)) := (by simp [World.cell?, hc7]); have q1 : w7.cell? ⟨w.heap.size + 1, 1, none⟩ = some (.int .i64 (g j)) := (by simp [World.cell?, hc7]); have qf : ∀ o, w7.frozen? ⟨w.heap.size + 1, o, none⟩ = false := (fun o => by simp [World.frozen?, hc7]); have HC7 := Lib.hid hc7; have HB7 := Lib.hid hb7; clear hc7 hb7)
        go_roundw
        case rel =>
          have hbl : Below w.heap.size w w7 := bl_tr (bl_st (bl_st (bl_tr HB.out HT.out) (by simp) _) (by simp) _) HB7.out
          have hfin := heap_setCell_same _ _ 1 _ _ (.int .i64 (g j)) (heap_setCell_same _ _ 0 _ _ (.int .i64 (g j)) HC7.out)
          refine ⟨j + 1, by omega, by go_num, bl_st (bl_st hbl (by simp) _) (by simp) _, ?_, ?_, by rw [HST.out]; exact hfin⟩
          · have h1 := HT.out.size
            have h2 := HB7.out.size
            simp at h2 ⊢
            omega
          · exact ((((((Grown.bl (T := fun k => k = w.heap.size + 1) HT.out).setCell (.inl rfl) (.int .i64 (g j))).setCell (.inl rfl) (.int .i64 (g j))).trans (Grown.bl HB7.out)).setCell (.inl rfl) _).setCell (.inl rfl) _).box HBX.out (HBX.out.lt (by simp)) (by omega)
        case measure => simp [intOf]; omega
      | false =>
        have hjz : ¬ j = 0 := by simpa using hj0
        have HST : Hid (bndI g (j + 1) = (min (bndI g j).1 (g j), max (bndI g j).2 (g j))) := by unfold Hid; simp only [bndI]; rw [if_neg hjz]
        go_wp2_with (go_at_call 162; refine (wider_c _ _ _ _).mono ?_; rintro e w7 ⟨rfl, hb7⟩; have hc7 : w7.heap[w.heap.size + 1]? = some (.cells #[.int .i64 (bndI g j).1, .int .i64 (bndI g j).2] 37 (0, 0)) := (hb7.block _ (by have := (Array.getElem?_eq_some_iff.1 HCELL.out).1; exact this)).trans HCELL.out; have q0 : w7.cell? ⟨w.heap.size + 1, 0, none⟩ = some (.int .i64 (bndI g j).1) := (by simp [World.cell?, hc7]); have q1 : w7.cell? ⟨w.heap.size + 1, 1, none⟩ = some (.int .i64 (bndI g j).2) := (by simp [World.cell?, hc7]); have qf : ∀ o, w7.frozen? ⟨w.heap.size + 1, o, none⟩ = false := (fun o => by simp [World.frozen?, hc7]); have HC7 := Lib.hid hc7; have HB7 := Lib.hid hb7; clear hc7 hb7)
        go_roundw
        case rel =>
          have hbl : Below w.heap.size w w7 := bl_tr (bl_tr HB.out HT.out) HB7.out
          have hfin := heap_setCell_same _ _ 1 _ _ (.int .i64 (max (bndI g j).2 (g j))) (heap_setCell_same _ _ 0 _ _ (.int .i64 (min (bndI g j).1 (g j))) HC7.out)
          refine ⟨j + 1, by omega, by go_num, bl_st (bl_st hbl (by simp) _) (by simp) _, ?_, ?_, by rw [HST.out]; exact hfin⟩
          · have h1 := HT.out.size
            have h2 := HB7.out.size
            simp at h2 ⊢
            omega
          · exact ((((Grown.bl (T := fun k => k = w.heap.size + 1) HT.out).trans (Grown.bl HB7.out)).setCell (.inl rfl) _).setCell (.inl rfl) _).box HBX.out (HBX.out.lt (by simp)) (by omega)
        case measure => simp [intOf]; omega
    · obtain rfl : j = tr.length := by omega
      have hcell := HR.out
      have r0 : wr.cell? ⟨w.heap.size + 1, 0, none⟩ = some (.int .i64 (bndI g tr.length).1) := by simp [World.cell?, hcell]
      have r1 : wr.cell? ⟨w.heap.size + 1, 1, none⟩ = some (.int .i64 (bndI g tr.length).2) := by simp [World.cell?, hcell]
      have rf : ∀ o, wr.frozen? ⟨w.heap.size + 1, o, none⟩ = false := fun o => by simp [World.frozen?, hcell]
      have HRES := Lib.hid (heap_setCell_same _ _ 1 _ _ (.int .i64 (bndI g tr.length).2) (heap_setCell_same _ _ 0 _ _ (.int .i64 (bndI g tr.length).1) hcell))
      clear hcell
      go_wp2
      exact bodyPost_ret (results_cell_row Tryz.results129 _ _ (w.heap.size + 1) 37 _ (0, 0) _ (by rfl) HRES.out Tryz.underlying37 rfl (by kernel_rfl)) rfl ⟨rfl, bl_st (bl_st HB.out (by simp) _) (by simp) _⟩
end Go.Proofs.YtpgnplmjfhdncaaGreat
