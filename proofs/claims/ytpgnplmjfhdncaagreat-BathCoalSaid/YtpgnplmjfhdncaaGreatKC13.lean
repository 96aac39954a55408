/- A part of the proof: C13, C14, C15. -/
import Derived.Test.YtpgnplmjfhdncaaGreatKC10
import Derived.Lib.SliceRun
namespace Go.Proofs.YtpgnplmjfhdncaaGreat
open Go.RowKit
set_option linter.unusedVariables false
theorem ints_at (xs : List Int) (j : Nat) (h : j < xs.length) : (ints xs)[j]? = some (.int .i64 (nth xs j)) := by simp [ints, nth, h]
theorem ints_len (xs : List Int) : (ints xs).length = xs.length := by simp [ints]
/-- append(v, xs...). -/
theorem wpList_append_ints {P : Program} {ops : Array Oper} {rest : List Oper} {o : Oper} {a : Act} {w : World} {Q : Exit → Act → World → Prop} (hgd : o.guard = none) (base : Nat) (s x : Operand) (t e : TypeId)
    (ho : o.op = .call { callee := .builtin .append, args := #[s, x], argTypes := #[t, t] })
    (ht : P.underlying t = some (.slice e)) (hinfo : (P.info? e).map (fun i => (i.zero, i.size, i.bytes)) = some (some (.int .i64 0), 1, 8))
    (v : Value) (n : Nat) (zs : List Value) (ys : List Int) (b off cap B : Nat) (hs : a.eval s = v) (hx : a.eval x = .slice (some ⟨b, off, none⟩) ys.length cap) (hy : IntsAt w B (some ⟨b, off, none⟩) ys)
    (HO : w.ownsRow base e 1 v n zs) (hbase : base ≤ w.heap.size) (hl : n + ys.length ≤ 1000000)
    (h : ∀ v1 w1, w1.ownsRow base e 1 v1 (n + ys.length) (zs ++ ints ys) → w.grownBy w1 v.ownBlock → wpList P ops Q rest (a.put o.dst v1) w1) :
    wpList P ops Q (o :: rest) a w := by
  refine wpList_plain hgd fun K hK => ?_
  obtain ⟨i0, hi, hzz⟩ := Option.map_eq_some_iff.1 hinfo
  simp only [Prod.mk.injEq] at hzz
  obtain ⟨hz0, hz1, hz2⟩ := hzz
  obtain ⟨v', w', hr, h2, h3, _, h5⟩ := run_append_own_at (P := P) w base t o.type e i0 (.int .i64 0) 1 8 ht hi hz0 hz1 hz2 rfl (by omega) v n zs HO ⟨b, off, none⟩ ys.length cap (ints ys) (by simp [ints_len])
    (by
      intro j u hu
      have hj : j < ys.length := by have := (List.getElem?_eq_some_iff.1 hu).1; simpa [ints_len] using this
      have hadd : (⟨b, off, none⟩ : Addr).add j = ⟨b, off + j, none⟩ := by
        unfold Addr.add
        split
        · rename_i h0; rw [h0]; rfl
        · rfl
      rw [hadd, hy.get j hj, ← hu, ints_at ys j hj])
    (by intro y hy; simp only [ints, List.mem_map] at hy; obtain ⟨z, _, rfl⟩ := hy; rfl) (by simp only [maxLen]; omega) (by omega) hbase
  unfold Oper.wp execOp
  simp only [ho, resolve, invoke, builtin, Sem.run_bind, Sem.run_pure, Result.andThen_ok, List.map_toArray, List.map_cons, List.map_nil, hs, hx, hr]
  exact hK _ _ (h v' w' h2 h3)
@[go_sem] theorem eql22 (w : World) (b o n c : Nat) : (binOp .eql 22 (.slice (some ⟨b, o, none⟩) n c) (.slice none 0 0)).run Tryz.prog w = .ok (.bool false) w := Go.Lib.run_eql_slice_nil w 22 3 _ _ _ _ _ Tryz.underlying22
@[go_sem] theorem eql22n (w : World) (n c : Nat) : (binOp .eql 22 (.slice none n c) (.slice none 0 0)).run Tryz.prog w = .ok (.bool true) w := Go.Lib.run_eql_slice_nil w 22 3 _ _ _ _ _ Tryz.underlying22
theorem info3 : (Tryz.prog.info? 3).map (fun i => (i.zero, i.size, i.bytes)) = some (some (.int .i64 0), 1, 8) := by kernel_rfl
theorem own_empty (w : World) (base : Nat) (e : TypeId) (h : base ≤ w.heap.size) : (w.alloc (.cells #[] e)).ownsRow base e 1 (.slice (some ⟨w.heap.size, 0, none⟩) 0 0) 0 [] :=
  ⟨rfl, .inr ⟨w.heap.size, 0, #[], rfl, h, World.alloc_heap_new w _, Nat.le_refl _, by simp [maxLen], rfl, rfl⟩⟩
set_option maxRecDepth 100000 in
set_option maxHeartbeats 1000000 in
theorem clone_c (xs : List Int) (b o c : Nat) (w : World) (hn : xs.length ≤ 10000) (hx : IntsAt w w.heap.size (some ⟨b, o, none⟩) xs) :
    Calls Tryz.prog 101 #[.slice (some ⟨b, o, none⟩) xs.length c] w fun e w' => ∃ v, e = .returned v ∧ w'.ownsRow w.heap.size 3 1 v xs.length (ints xs) ∧ Below w.heap.size w w' := by
  have HX := Lib.hid hx
  clear hx
  go_enter Tryz.func101, Tryz.ntmps101
  go_wp2_with (refine wpList_append_ints rfl w.heap.size _ _ 22 3 rfl Tryz.underlying22 info3 _ 0 [] xs b o c w.heap.size rfl rfl (HX.out.below (bl_al (Below.refl _ _) _)) (own_empty w _ 3 (Nat.le_refl _)) (by simp) (by omega) ?_; intro v1 w1 hown hg; have HO := Lib.hid hown; have HG := Lib.hid hg; clear hown hg)
  go_ret
  refine ⟨v1, rfl, (by have := HO.out; simpa using this), bl_gr (bl_al (Below.refl _ _) _) HG.out (fun k hk => ?_)⟩
  have hk' : some k = some w.heap.size := hk.symm
  cases hk'
  exact Nat.le_refl _
theorem clone_nil (n c : Nat) (w : World) : Calls Tryz.prog 101 #[.slice none n c] w fun e w' => e = .returned (.slice none 0 0) ∧ w' = w := by
  go_enter Tryz.func101, Tryz.ntmps101
  go_wp2
  go_ret
  exact ⟨rfl, rfl⟩
theorem WorkAt.up {c : Cop} {q : CA} {tr : List (Int × List Int)} {b m base : Nat} {v : Value} {w W : World} (h : WorkAt c q tr b m base v w) (hb : Below w.heap.size w W) : WorkAt c q tr b m base v W :=
  ⟨(hb.block _ (Array.getElem?_eq_some_iff.1 h.cells).1).trans h.cells, own_below h.row hb⟩
/-- 1 if all promises are kept, else 0. -/
def wholeI (c : Cop) (coal want : List Int) (s : Int × List Int) : Int := if anyN (fun j => !nb (keptL c coal want s (c.last + 1).toNat) j) (keptL c coal want s (c.last + 1).toNat).length = true then 0 else 1
def sumL (want more : List Int) (n : Nat) : List Int := rowI (fun i => nth want i + nth more i) n
/-- The verdict on promises, in some truths. -/
def wholesC (c : Cop) (tr : List (Int × List Int)) (coal want : List Int) : Int := verd (bndI (fun j => wholeI c coal want (scN tr j)) tr.length).1 (bndI (fun j => wholeI c coal want (scN tr j)) tr.length).2
theorem whole_past (c : Cop) (coal want : List Int) (s : Int × List Int) (h : Int) (h4 : c.last ≤ 4) (W : World) (u : Value) (hu : PastV c coal want s u W) :
    Calls Tryz.prog 145 #[u, .int .i64 h] W fun e W' => e = .returned (.int .i64 (wholeI c coal want s)) ∧ Below W.heap.size W W' :=
  whole_c (hotL c coal want s (c.last + 1).toNat) (leftL c coal want s (c.last + 1).toNat) (keptL c coal want s (c.last + 1).toNat) u h W (by rw [keptL, rowB_len]; omega) hu
theorem bwhole_c (c : Cop) (q : CA) (tr : List (Int × List Int)) (b m base : Nat) (v : Value) (want : List Int) (a2 : Option Addr) (c2 : Nat) (n : Nat) (w : World)
    (hq : CopAt w w.heap.size c q) (hw : WorkAt c q tr b m base v w) (ho : Okc c) (htr : ∀ j, j < tr.length → IsSc c (scN tr j)) (hn : tr.length ≤ 2000)
    (hwl : (want.length : Int) = c.last + 1) (hwb : ∀ j, 0 ≤ nth want j ∧ nth want j ≤ 100) (hy : IntsAt w w.heap.size a2 want) (hnl : n = want.length) :
    Calls Tryz.prog 129 #[.agg #[.func (.func 145) #[] #[]], .pointer (some ⟨b, 0, none⟩), .slice a2 n c2, .int .i64 0] w fun e w' => e = .returned (.agg #[.int .i64 (bndI (fun j => wholeI c c.coal want (scN tr j)) tr.length).1, .int .i64 (bndI (fun j => wholeI c c.coal want (scN tr j)) tr.length).2]) ∧ Below w.heap.size w w' := by
  subst hnl
  have h4 := ho.l4
  exact bounds_c c q tr b m base v 145 0 (fun j => wholeI c c.coal want (scN tr j)) want a2 c2 w hq hw ho htr hn hwl hwb hy (enters_of Tryz.func145 (by kernel_rfl) rfl) (fun j hj W u hu => whole_past c c.coal want (scN tr j) _ h4 W u hu)
set_option maxRecDepth 100000 in
set_option maxHeartbeats 4000000 in
theorem with_c (c : Cop) (q : CA) (tr : List (Int × List Int)) (b m base : Nat) (v : Value) (more : List Int) (a2 : Option Addr) (c2 : Nat) (w : World)
    (hq : CopAt w w.heap.size c q) (hw : WorkAt c q tr b m base v w) (ho : Okc c) (htr : ∀ j, j < tr.length → IsSc c (scN tr j)) (hn : tr.length ≤ 2000)
    (hml : (more.length : Int) = c.last + 1) (hmb : ∀ j, 0 ≤ nth more j ∧ nth more j ≤ 20) (hm : IntsAt w w.heap.size a2 more) :
    Calls Tryz.prog 116 #[.pointer (some ⟨b, 0, none⟩), .slice a2 more.length c2] w fun e w' => e = .returned (.int .i64 (wholesC c tr c.coal (sumL c.want more (c.last + 1).toNat))) ∧ Below w.heap.size w w' := by
  have hl0 := ho.l0
  have hl4 := ho.l4
  have hwl := ho.wl
  obtain ⟨b1, o1, ha1⟩ := hq.want.some_ (by omega)
  obtain ⟨b2, o2, rfl⟩ := hm.some_ (by omega)
  have hbw : b < w.heap.size := (Array.getElem?_eq_some_iff.1 hw.cells).1
  have hwc : w.cell? ⟨b, 6, none⟩ = some (.slice (some ⟨b1, o1, none⟩) c.want.length q.c2) := by rw [← ha1]; simp [World.cell?, hw.cells]
  have HQ := Lib.hid hq
  have HW := Lib.hid hw
  have HO := Lib.hid ho
  have HTR := Lib.hid htr
  have HMB := Lib.hid hmb
  have HM := Lib.hid hm
  have HA1 := Lib.hid ha1
  clear hq hw ho htr hmb hm hbw ha1
  go_enter Tryz.func116, Tryz.ntmps116
  go_wp2_with (go_at_call 101; refine (clone_c c.want b1 o1 q.c2 _ (by omega) (by have := HQ.out.want; rw [HA1.out] at this; exact this)).mono ?_; rintro e w1 ⟨u, rfl, hown, hb1⟩; have HB1 := Lib.hid hb1; rcases hown.2 with ⟨_, h0⟩ | ⟨g, cap, cur, rfl, hgb, hgh, hg1, hg2, hg3, hg4⟩; (exfalso; omega); have HGH := Lib.hid hgh; have HG4 := Lib.hid hg4; have HOW := Lib.hid hown.1; clear hgh hg4 hb1 hown)
  go_loopw [16] (fun i wr => ∃ (j : Nat) (cu : Array Value), j ≤ more.length ∧ i = .int .i64 j ∧ Below w.heap.size w wr ∧ wr.heap[g]? = some (.cells cu 3 (0, 0)) ∧ (∀ k, k < more.length → cu[k]? = some (.int .i64 (if k < j then nth c.want k + nth more k else nth c.want k)))) (fun i _ => more.length - (intOf i).toNat)
  case atStart =>
    refine ⟨0, cur, Nat.zero_le _, rfl, HB1.out, HGH.out, fun k hk => ?_⟩
    have h := HG4.out
    have h2 : (cur.toList.take (c.want.length * 1))[k]? = some (.int .i64 (nth c.want k)) := by rw [h]; exact ints_at _ _ (by omega)
    rw [List.getElem?_take, if_pos (by omega)] at h2
    simpa using h2
  case round =>
    obtain ⟨j, cu, hj, rfl, hb, hh, hcu⟩ := hrel
    have HB := Lib.hid hb
    have HH := Lib.hid hh
    have HCU := Lib.hid hcu
    clear hb hcu
    by_cases hlt : j < more.length
    · have hcj : wr.cell? ⟨g, 0 + j, none⟩ = some (.int .i64 (nth c.want j)) := by
        have := HCU.out j hlt
        rw [if_neg (by omega)] at this
        simp [World.cell?, hh, this]
      have hcj' : wr.cell? ⟨g, j, none⟩ = some (.int .i64 (nth c.want j)) := by rw [Nat.zero_add] at hcj; exact hcj
      have hfj : wr.frozen? ⟨g, j, none⟩ = false := by simp [World.frozen?, hh]
      have hmj := (HM.out.below HB.out).get j hlt
      have hmb := HMB.out j
      have hwb := HO.out.wb j
      have hj1 : (j : Int) < (more.length : Int) := by omega
      have hj2 : (j : Int) < (c.want.length : Int) := by omega
      clear hh
      go_wp2
      go_roundw
      case rel =>
        refine ⟨j + 1, _, by omega, by go_num, bl_st HB.out (by simpa using hgb) _, heap_setCell_same _ _ j _ _ _ HH.out, fun k hk => ?_⟩
        have hk2 := HCU.out k hk
        by_cases hkj : k = j
        · subst hkj
          have hsz : k < cu.size := (Array.getElem?_eq_some_iff.1 hk2).1
          rw [if_pos (by omega)]
          simp [hsz]
        · rw [Array.getElem?_setIfInBounds_ne (by omega), hk2]
          by_cases hkl : k < j
          · rw [if_pos hkl, if_pos (by omega)]
          · rw [if_neg hkl, if_neg (by omega)]
      case measure => simp [intOf]; omega
    · obtain rfl : j = more.length := by omega
      have hnl : more.length = (c.last + 1).toNat := by omega
      have hlen : (sumL c.want more (c.last + 1).toNat).length = c.want.length := by simp only [sumL, rowI_len]; omega
      have hI : IntsAt wr wr.heap.size (some ⟨g, 0, none⟩) (sumL c.want more (c.last + 1).toNat) := .inr ⟨g, 0, rfl, (Array.getElem?_eq_some_iff.1 hh).1, fun k hk => by
        have hk' : k < more.length := by rw [hlen] at hk; omega
        have := HCU.out k hk'
        rw [if_pos hk'] at this
        rw [sumL, nth_rowI _ (by omega), Nat.zero_add]
        simp [World.cell?, hh, this]⟩
      have HI := Lib.hid hI
      have HSB : Hid (∀ k, 0 ≤ nth (sumL c.want more (c.last + 1).toNat) k ∧ nth (sumL c.want more (c.last + 1).toNat) k ≤ 100) := fun k => by
        by_cases hk : k < (c.last + 1).toNat
        · rw [sumL, nth_rowI _ hk]
          have h1 := HMB.out k
          have h2 := HO.out.wb k
          omega
        · rw [nth_out _ _ (by rw [sumL, rowI_len]; omega)]
          omega
      have HSL : Hid (((sumL c.want more (c.last + 1).toNat).length : Int) = c.last + 1) := by unfold Hid; rw [hlen]; omega
      have HLEN := Lib.hid hlen.symm
      clear hlen
      clear hI hh
      go_wp2_with (first | (go_at_call 129; refine (bwhole_c c q tr b m base v (sumL c.want more (c.last + 1).toNat) (some ⟨g, 0, none⟩) cap _ _ (HQ.out.up HB.out) (HW.out.up HB.out) HO.out HTR.out hn HSL.out HSB.out HI.out HLEN.out).mono ?_; rintro e w5 ⟨rfl, hb5⟩; have HB5 := Lib.hid hb5; clear hb5) | (go_at_call 140; refine (verdict_c _ _ _).mono ?_; rintro e w6 ⟨rfl, hb6⟩; have HB6 := Lib.hid hb6; clear hb6))
      go_ret
      exact ⟨rfl, bl_tr (bl_tr HB.out HB5.out) HB6.out⟩
end Go.Proofs.YtpgnplmjfhdncaaGreat
namespace Go.Proofs.YtpgnplmjfhdncaaGreat
open Go.RowKit
set_option linter.unusedVariables false
theorem asked_11 (c : Cop) (q : CA) (w : World) (hq : CopAt w w.heap.size c q) (hsm : Small c) (hck : checkCop c = 0) (ht : truthsC c = []) :
    Calls Tryz.prog 114 #[copV c q, .bool true] w fun e w' => e = .returned (.tuple #[.pointer none, .int .i64 11]) ∧ Below w.heap.size w w' :=
  (asked_c c q w hq hsm hck).mono fun e w' ⟨hb, h⟩ => by
    rcases h with ⟨_, he⟩ | ⟨hn, _⟩
    · exact ⟨he, hb⟩
    · exact (hn ht).elim
theorem asked_ok (c : Cop) (q : CA) (w : World) (hq : CopAt w w.heap.size c q) (hsm : Small c) (hck : checkCop c = 0) (ht : truthsC c ≠ []) :
    Calls Tryz.prog 114 #[copV c q, .bool true] w fun e w' => ∃ m v, e = .returned (.tuple #[.pointer (some ⟨m + 1, 0, none⟩), .int .i64 0]) ∧ w.heap.size < m ∧ w'.heap[m]? = some (.map #[] 0) ∧ WorkAt c q (truthsC c) (m + 1) m (m + 9) v w' ∧ Below w.heap.size w w' :=
  (asked_c c q w hq hsm hck).mono fun e w' ⟨hb, h⟩ => by
    rcases h with ⟨hn, _⟩ | ⟨_, b, m, v, he, h1, rfl, h2, h3⟩
    · exact (ht hn).elim
    · exact ⟨m, v, he, h1, h2, h3, hb⟩
theorem Okc.small {c : Cop} (h : Okc c) : Small c := by
  have h1 := h.cl
  have h2 := h.wl
  have h3 := h.ll
  have h4 := h.rl
  have h5 := h.l4
  exact ⟨by omega, by omega, by omega, by omega⟩
theorem truthsF_sub (c : Cop) (l : List (Int × List Int)) : ∀ s, s ∈ truthsF c l → s ∈ l := by
  have h : ∀ (l acc : List (Int × List Int)) s, s ∈ l.foldl (addT c) acc → s ∈ acc ∨ s ∈ l := by
    intro l
    induction l with
    | nil => intro acc s hs; exact .inl hs
    | cons x l ih =>
      intro acc s hs
      rcases ih _ s hs with h | h
      · unfold addT at h
        split at h
        · rcases List.mem_append.1 h with h | h
          · exact .inl h
          · exact .inr (by simp at h; simp [h])
        · exact .inl h
      · exact .inr (by simp [h])
  intro s hs
  rcases h l [] s hs with h | h
  · cases h
  · exact h
theorem truths_sc {c : Cop} (h0 : 0 ≤ c.last) : ∀ j, j < (truthsC c).length → IsSc c (scN (truthsC c) j) := fun j hj => by
  refine (mem_scenes h0 _).1 (truthsF_sub c _ _ ?_)
  have : scN (truthsC c) j = (truthsC c)[j] := by simp [scN, sh, sl, hj]
  rw [this]
  exact List.getElem_mem _
theorem truths_len {c : Cop} (h : Okc c) : (truthsC c).length ≤ 2000 := Nat.le_trans (truthsF_len c _) (scenes_small h)
theorem promB_of {c : Cop} {l : List Int} (h1 : (l.length : Int) = c.last + 1) (h2 : ∀ j, 0 ≤ nth l j ∧ nth l j ≤ 20) : promB c l = true := by
  simp only [promB, Bool.and_eq_true, decide_eq_true_eq, allN_iff, within_iff]
  exact ⟨h1, fun j _ => h2 j⟩
/-- The verdict of More. -/
def moreC (c : Cop) (more : List Int) : Int := wholesC c (truthsC c) c.coal (sumL c.want more (c.last + 1).toNat)
set_option maxRecDepth 100000 in
set_option maxHeartbeats 4000000 in
theorem more_c (c : Cop) (q : CA) (more : List Int) (a2 : Option Addr) (c2 : Nat) (w : World) (hq : CopAt w w.heap.size c q) (hck : checkCop c = 0) (ht : truthsC c ≠ [])
    (hml : (more.length : Int) = c.last + 1) (hmb : ∀ j, 0 ≤ nth more j ∧ nth more j ≤ 20) (hm : IntsAt w w.heap.size a2 more) :
    Calls Tryz.prog 69 #[copV c q, .slice a2 more.length c2] w fun e w' => e = .returned (.tuple #[.int .i64 (moreC c more), .int .i64 0]) ∧ Below w.heap.size w w' := by
  have ho := okc_of hck
  have hl0 := ho.l0
  have hl4 := ho.l4
  have HQ := Lib.hid hq
  have HO := Lib.hid ho
  have HT := Lib.hid ht
  have HM := Lib.hid hm
  have HMB := Lib.hid hmb
  have HML := Lib.hid hml
  have HCK := Lib.hid hck
  have HPB := Lib.hid (promB_of hml hmb)
  clear hq ho ht hm hmb hml hck
  go_enter Tryz.func69, Tryz.ntmps69
  go_wp2
  obtain ⟨W1, hW1⟩ : ∃ W1, w.alloc (.cells (copCs c q) 41) = W1 := ⟨_, rfl⟩
  rw [hW1]
  have hbx : Box W1 w.heap.size (copCs c q) := by rw [← hW1]; exact Box.new _ _ _ _
  have HB1 : Hid (Below w.heap.size w W1) := by rw [← hW1]; exact bl_al (Below.refl _ _) _
  have k0 : W1.cell? ⟨w.heap.size, 0, none⟩ = some (.int .i64 c.last) := hbx 0
  have k1 : W1.cell? ⟨w.heap.size, 1, none⟩ = some (.int .i64 c.start) := hbx 1
  have k2 : W1.cell? ⟨w.heap.size, 2, none⟩ = some (.int .i64 c.most) := hbx 2
  have k3 : W1.cell? ⟨w.heap.size, 3, none⟩ = some (.int .i64 c.per) := hbx 3
  have k4 : W1.cell? ⟨w.heap.size, 4, none⟩ = some (.int .i64 c.shovels) := hbx 4
  have k5 : W1.cell? ⟨w.heap.size, 5, none⟩ = some (.slice q.a1 c.coal.length q.c1) := hbx 5
  have k6 : W1.cell? ⟨w.heap.size, 6, none⟩ = some (.slice q.a2 c.want.length q.c2) := hbx 6
  have k7 : W1.cell? ⟨w.heap.size, 7, none⟩ = some (.int .i64 c.hlo) := hbx 7
  have k8 : W1.cell? ⟨w.heap.size, 8, none⟩ = some (.int .i64 c.hhi) := hbx 8
  have k9 : W1.cell? ⟨w.heap.size, 9, none⟩ = some (.slice q.a3 c.loss.length q.c3) := hbx 9
  have k10 : W1.cell? ⟨w.heap.size, 10, none⟩ = some (.slice q.a4 c.rds.length q.c4) := hbx 10
  have HBX := Lib.hid hbx
  clear hW1 hbx
  go_region_held3 (fun w' => w'.cell? ⟨w.heap.size, 0, none⟩ = some (.int .i64 c.last) ∧ w'.cell? ⟨w.heap.size, 1, none⟩ = some (.int .i64 c.start) ∧ w'.cell? ⟨w.heap.size, 2, none⟩ = some (.int .i64 c.most) ∧ w'.cell? ⟨w.heap.size, 3, none⟩ = some (.int .i64 c.per) ∧ w'.cell? ⟨w.heap.size, 4, none⟩ = some (.int .i64 c.shovels) ∧ w'.cell? ⟨w.heap.size, 5, none⟩ = some (.slice q.a1 c.coal.length q.c1) ∧ w'.cell? ⟨w.heap.size, 6, none⟩ = some (.slice q.a2 c.want.length q.c2) ∧ w'.cell? ⟨w.heap.size, 7, none⟩ = some (.int .i64 c.hlo) ∧ w'.cell? ⟨w.heap.size, 8, none⟩ = some (.int .i64 c.hhi) ∧ w'.cell? ⟨w.heap.size, 9, none⟩ = some (.slice q.a3 c.loss.length q.c3) ∧ w'.cell? ⟨w.heap.size, 10, none⟩ = some (.slice q.a4 c.rds.length q.c4)) (first | assumption | go_keep) (first | (go_at_call 119; refine (promised_c c q more a2 c2 _ hl0 hl4 (by have := HML.out; omega) (HM.out.up (bl_dr HB1.out))).mono ?_; rintro e w5 ⟨rfl, hb5⟩; rw [HPB.out]; have HB5 := Lib.hid hb5; have hS5 : (fun w' => w'.cell? ⟨w.heap.size, 0, none⟩ = some (.int .i64 c.last) ∧ w'.cell? ⟨w.heap.size, 1, none⟩ = some (.int .i64 c.start) ∧ w'.cell? ⟨w.heap.size, 2, none⟩ = some (.int .i64 c.most) ∧ w'.cell? ⟨w.heap.size, 3, none⟩ = some (.int .i64 c.per) ∧ w'.cell? ⟨w.heap.size, 4, none⟩ = some (.int .i64 c.shovels) ∧ w'.cell? ⟨w.heap.size, 5, none⟩ = some (.slice q.a1 c.coal.length q.c1) ∧ w'.cell? ⟨w.heap.size, 6, none⟩ = some (.slice q.a2 c.want.length q.c2) ∧ w'.cell? ⟨w.heap.size, 7, none⟩ = some (.int .i64 c.hlo) ∧ w'.cell? ⟨w.heap.size, 8, none⟩ = some (.int .i64 c.hhi) ∧ w'.cell? ⟨w.heap.size, 9, none⟩ = some (.slice q.a3 c.loss.length q.c3) ∧ w'.cell? ⟨w.heap.size, 10, none⟩ = some (.slice q.a4 c.rds.length q.c4)) w5 := ⟨cell_later hb5 (w := W1.drew) k0, cell_later hb5 (w := W1.drew) k1, cell_later hb5 (w := W1.drew) k2, cell_later hb5 (w := W1.drew) k3, cell_later hb5 (w := W1.drew) k4, cell_later hb5 (w := W1.drew) k5, cell_later hb5 (w := W1.drew) k6, cell_later hb5 (w := W1.drew) k7, cell_later hb5 (w := W1.drew) k8, cell_later hb5 (w := W1.drew) k9, cell_later hb5 (w := W1.drew) k10⟩; dsimp only at hS5; clear hb5) | (go_at_call 114; refine (asked_ok c q _ (HQ.out.up (bl_tr (bl_dr HB1.out) HB5.out)) HO.out.small HCK.out HT.out).mono ?_; rintro e w6 ⟨m, v, rfl, hm6, hmp6, hwk6, hb6⟩; have HW6 := Lib.hid hwk6; have HB6 := Lib.hid (bl_tr HB5.out hb6); have hS6 : (fun w' => w'.cell? ⟨w.heap.size, 0, none⟩ = some (.int .i64 c.last) ∧ w'.cell? ⟨w.heap.size, 1, none⟩ = some (.int .i64 c.start) ∧ w'.cell? ⟨w.heap.size, 2, none⟩ = some (.int .i64 c.most) ∧ w'.cell? ⟨w.heap.size, 3, none⟩ = some (.int .i64 c.per) ∧ w'.cell? ⟨w.heap.size, 4, none⟩ = some (.int .i64 c.shovels) ∧ w'.cell? ⟨w.heap.size, 5, none⟩ = some (.slice q.a1 c.coal.length q.c1) ∧ w'.cell? ⟨w.heap.size, 6, none⟩ = some (.slice q.a2 c.want.length q.c2) ∧ w'.cell? ⟨w.heap.size, 7, none⟩ = some (.int .i64 c.hlo) ∧ w'.cell? ⟨w.heap.size, 8, none⟩ = some (.int .i64 c.hhi) ∧ w'.cell? ⟨w.heap.size, 9, none⟩ = some (.slice q.a3 c.loss.length q.c3) ∧ w'.cell? ⟨w.heap.size, 10, none⟩ = some (.slice q.a4 c.rds.length q.c4)) w6 := ⟨cell_later (bl_tr HB5.out hb6) (w := W1.drew) k0, cell_later (bl_tr HB5.out hb6) (w := W1.drew) k1, cell_later (bl_tr HB5.out hb6) (w := W1.drew) k2, cell_later (bl_tr HB5.out hb6) (w := W1.drew) k3, cell_later (bl_tr HB5.out hb6) (w := W1.drew) k4, cell_later (bl_tr HB5.out hb6) (w := W1.drew) k5, cell_later (bl_tr HB5.out hb6) (w := W1.drew) k6, cell_later (bl_tr HB5.out hb6) (w := W1.drew) k7, cell_later (bl_tr HB5.out hb6) (w := W1.drew) k8, cell_later (bl_tr HB5.out hb6) (w := W1.drew) k9, cell_later (bl_tr HB5.out hb6) (w := W1.drew) k10⟩; dsimp only at hS6; clear hb6 hS5 hm6 hmp6 hwk6))
  clear hS6
  have HQ6 := Lib.hid (HQ.out.up (bl_tr (bl_dr HB1.out) HB6.out))
  have HM6 := Lib.hid (HM.out.up (bl_tr (bl_dr HB1.out) HB6.out))
  go_wp2_with (go_at_call 116; refine (with_c c q (truthsC c) (m + 1) m (m + 9) v more a2 c2 _ HQ6.out HW6.out HO.out (truths_sc hl0) (truths_len HO.out) HML.out HMB.out HM6.out).mono ?_; rintro e w7 ⟨rfl, hb7⟩; have HB7 := Lib.hid hb7; clear hb7)
  go_ret2
  exact ⟨rfl, bl_tr (bl_tr (bl_dr HB1.out) HB6.out) HB7.out⟩
end Go.Proofs.YtpgnplmjfhdncaaGreat
namespace Go.Proofs.YtpgnplmjfhdncaaGreat
open Go.RowKit
set_option linter.unusedVariables false
theorem wpList_append_k {P : Program} {ops : Array Oper} {rest : List Oper} {o : Oper} {a : Act} {w : World} {Q : Exit → Act → World → Prop} (hgd : o.guard = none) (base : Nat) (s x : Operand) (t e : TypeId) (z : Value) (size bytes : Nat)
    (ho : o.op = .call { callee := .builtin .append, args := #[s, x], argTypes := #[t, t] })
    (ht : P.underlying t = some (.slice e)) (hinfo : (P.info? e).map (fun i => (i.zero, i.size, i.bytes)) = some (some z, size, bytes)) (hz : z.cells.size = size) (hsz : 0 < size) (hb8 : bytes ≤ 80)
    (v : Value) (n : Nat) (xs : List Value) (ys : List Value) (b : Nat) (hs : a.eval s = v) (hx : a.eval x = .slice (some ⟨b, 0, none⟩) 1 1) (hy : w.heap[b]? = some (.cells ys.toArray e (0, 0))) (hyl : ys.length = size) (h1 : ∀ y ∈ ys, y.oneCell' = true)
    (HO : w.ownsRow base e size v n xs) (hbase : base ≤ w.heap.size) (hl : n ≤ 1000000)
    (h : ∀ v1 w1, w1.ownsRow base e size v1 (n + 1) (xs ++ ys) → w.grownBy w1 v.ownBlock → (v1.ownBlock = v.ownBlock ∨ v1.ownBlock = some w.heap.size) → wpList P ops Q rest (a.put o.dst v1) w1) :
    wpList P ops Q (o :: rest) a w :=
  wpList_plain hgd fun K hK => wp_append_k base s x t e z size bytes ho ht hinfo hz hsz hb8 v n xs ys b hs hx hy hyl h1 HO hbase hl (fun v1 w1 h2 h3 h4 => hK _ _ (h v1 w1 h2 h3 h4))
/-- The error of coppers, their truths gone through. -/
def copErr (c : Cop) : Int := if checkCop c ≠ 0 then checkCop c else if truthsC c = [] then 11 else 0
theorem hot_past (c : Cop) (coal want : List Int) (s : Int × List Int) (h : Nat) (h0 : 0 ≤ c.last) (h4 : c.last ≤ 4) (hh : (h : Int) ≤ c.last) (W : World) (u : Value) (hu : PastV c coal want s u W) :
    Calls Tryz.prog 128 #[u, .int .i64 h] W fun e W' => e = .returned (.int .i64 (nth (hotL c coal want s (c.last + 1).toNat) h)) ∧ Below W.heap.size W W' :=
  hot_c (hotL c coal want s (c.last + 1).toNat) (leftL c coal want s (c.last + 1).toNat) (keptL c coal want s (c.last + 1).toNat) u h W (by rw [hotL, rowI_len]; omega) (by rw [hotL, rowI_len]; omega) hu
theorem left_past (c : Cop) (coal want : List Int) (s : Int × List Int) (h : Nat) (h0 : 0 ≤ c.last) (h4 : c.last ≤ 4) (hh : (h : Int) ≤ c.last) (W : World) (u : Value) (hu : PastV c coal want s u W) :
    Calls Tryz.prog 130 #[u, .int .i64 h] W fun e W' => e = .returned (.int .i64 (nth (leftL c coal want s (c.last + 1).toNat) h)) ∧ Below W.heap.size W W' :=
  left_c (hotL c coal want s (c.last + 1).toNat) (leftL c coal want s (c.last + 1).toNat) (keptL c coal want s (c.last + 1).toNat) u h W (by rw [leftL, rowI_len]; omega) (by rw [leftL, rowI_len]; omega) hu
theorem info37 : (Tryz.prog.info? 37).map (fun i => (i.zero, i.size, i.bytes)) = some (some (.agg #[.int .i64 0, .int .i64 0]), 2, 16) := by kernel_rfl
theorem bhot_c (c : Cop) (q : CA) (tr : List (Int × List Int)) (b m base : Nat) (v : Value) (h : Nat) (w : World)
    (hq : CopAt w w.heap.size c q) (hw : WorkAt c q tr b m base v w) (ho : Okc c) (htr : ∀ j, j < tr.length → IsSc c (scN tr j)) (hn : tr.length ≤ 2000) (hh : (h : Int) ≤ c.last) :
    Calls Tryz.prog 129 #[.agg #[.func (.func 128) #[] #[]], .pointer (some ⟨b, 0, none⟩), .slice q.a2 c.want.length q.c2, .int .i64 h] w fun e w' => ∃ lo hi, e = .returned (.agg #[.int .i64 lo, .int .i64 hi]) ∧ Below w.heap.size w w' :=
  (bounds_c c q tr b m base v 128 h (fun j => nth (hotL c c.coal c.want (scN tr j) (c.last + 1).toNat) h) c.want q.a2 q.c2 w hq hw ho htr hn ho.wl (fun j => by have := ho.wb j; omega) hq.want (enters_of Tryz.func128 (by kernel_rfl) rfl) (fun j hj W u hu => hot_past c c.coal c.want (scN tr j) h ho.l0 ho.l4 hh W u hu)).mono fun e w' ⟨h1, h2⟩ => ⟨_, _, h1, h2⟩
theorem bleft_c (c : Cop) (q : CA) (tr : List (Int × List Int)) (b m base : Nat) (v : Value) (h : Nat) (w : World)
    (hq : CopAt w w.heap.size c q) (hw : WorkAt c q tr b m base v w) (ho : Okc c) (htr : ∀ j, j < tr.length → IsSc c (scN tr j)) (hn : tr.length ≤ 2000) (hh : (h : Int) ≤ c.last) :
    Calls Tryz.prog 129 #[.agg #[.func (.func 130) #[] #[]], .pointer (some ⟨b, 0, none⟩), .slice q.a2 c.want.length q.c2, .int .i64 h] w fun e w' => ∃ lo hi, e = .returned (.agg #[.int .i64 lo, .int .i64 hi]) ∧ Below w.heap.size w w' :=
  (bounds_c c q tr b m base v 130 h (fun j => nth (leftL c c.coal c.want (scN tr j) (c.last + 1).toNat) h) c.want q.a2 q.c2 w hq hw ho htr hn ho.wl (fun j => by have := ho.wb j; omega) hq.want (enters_of Tryz.func130 (by kernel_rfl) rfl) (fun j hj W u hu => left_past c c.coal c.want (scN tr j) h ho.l0 ho.l4 hh W u hu)).mono fun e w' ⟨h1, h2⟩ => ⟨_, _, h1, h2⟩
set_option maxHeartbeats 1000000 in
theorem bounds_bad (c : Cop) (q : CA) (w : World) (hq : CopAt w w.heap.size c q) (hsm : Small c) (hck : checkCop c ≠ 0) :
    Calls Tryz.prog 85 #[copV c q] w fun e w' => e = .returned (.tuple #[.slice none 0 0, .slice none 0 0, .int .i64 (checkCop c)]) ∧ Below w.heap.size w w' := by
  have HQ := Lib.hid hq
  have hne : (checkCop c == 0) = false := by simpa using hck
  have HCK := Lib.hid hck
  clear hq hck
  go_enter Tryz.func85, Tryz.ntmps85
  go_wp2_with (go_at_call 114; refine (asked_bad c q true _ (HQ.out.up (bl_al (Below.refl _ _) _)) hsm HCK.out).mono ?_; rintro e w1 ⟨rfl, hb⟩; have HB := Lib.hid hb; clear hb)
  go_ret3
  exact ⟨rfl, bl_tr (bl_al (Below.refl _ _) _) HB.out⟩
set_option maxHeartbeats 1000000 in
theorem bounds_11 (c : Cop) (q : CA) (w : World) (hq : CopAt w w.heap.size c q) (hsm : Small c) (hck : checkCop c = 0) (ht : truthsC c = []) :
    Calls Tryz.prog 85 #[copV c q] w fun e w' => e = .returned (.tuple #[.slice none 0 0, .slice none 0 0, .int .i64 11]) ∧ Below w.heap.size w w' := by
  have HQ := Lib.hid hq
  have HCK := Lib.hid hck
  have HT := Lib.hid ht
  clear hq hck ht
  go_enter Tryz.func85, Tryz.ntmps85
  go_wp2_with (go_at_call 114; refine (asked_11 c q _ (HQ.out.up (bl_al (Below.refl _ _) _)) hsm HCK.out HT.out).mono ?_; rintro e w1 ⟨rfl, hb⟩; have HB := Lib.hid hb; clear hb)
  go_ret3
  exact ⟨rfl, bl_tr (bl_al (Below.refl _ _) _) HB.out⟩
set_option maxRecDepth 100000 in
set_option maxHeartbeats 4000000 in
theorem bounds_ok (c : Cop) (q : CA) (w : World) (hq : CopAt w w.heap.size c q) (hck : checkCop c = 0) (ht : truthsC c ≠ []) :
    Calls Tryz.prog 85 #[copV c q] w fun e w' => ∃ u1 u2, e = .returned (.tuple #[u1, u2, .int .i64 0]) ∧ Below w.heap.size w w' := by
  have ho := okc_of hck
  have hl0 := ho.l0
  have hl4 := ho.l4
  have HQ := Lib.hid hq
  have HO := Lib.hid ho
  have HCK := Lib.hid hck
  have HT := Lib.hid ht
  clear hq hck ht ho
  go_enter Tryz.func85, Tryz.ntmps85
  go_wp2_with (go_at_call 114; refine (asked_ok c q _ (HQ.out.up (bl_al (Below.refl _ _) _)) HO.out.small HCK.out HT.out).mono ?_; rintro e w1 ⟨m, v, rfl, hm1, hmp1, hwk1, hb⟩; have HBX : Hid (Box w1 w.heap.size (copCs c q)) := (Box.new w (copCs c q) 41 (0, 0)).bl (by simp) hb; have hbx := HBX.out; unfold Box copCs at hbx; have HB := Lib.hid (bl_tr (bl_al (Below.refl w.heap.size w) _) hb); have HWK := Lib.hid hwk1; clear hb hm1 hmp1 hwk1)
  clear hbx
  go_loopw [2, 3, 18] (fun v2 v3 i wr => ∃ (j : Nat) (xs ys : List Value), (j : Int) ≤ c.last + 1 ∧ i = .int .i64 j ∧ Below w1.heap.size w1 wr ∧ wr.ownsRow w1.heap.size 37 2 v2 j xs ∧ wr.ownsRow w1.heap.size 37 2 v3 j ys ∧ (v2.ownBlock = none ∨ v2.ownBlock ≠ v3.ownBlock)) (fun _ _ i _ => (c.last + 1).toNat - (intOf i).toNat)
  case atStart => exact ⟨0, [], [], by simp; omega, rfl, Below.refl _ _, World.ownsRow_nil _ _ _ _, World.ownsRow_nil _ _ _ _, .inl rfl⟩
  case round =>
    obtain ⟨j, xs, ys, hj, rfl, hb, hx, hy, hd⟩ := hrel
    have HB1 := Lib.hid hb
    have HX := Lib.hid hx
    have HY := Lib.hid hy
    have HD := Lib.hid hd
    have hbx : Box wr w.heap.size (copCs c q) := HBX.out.bl (by simp) hb
    have HBX1 := Lib.hid hbx
    unfold Box copCs at hbx
    clear hb hx hy hd
    by_cases hlt : (j : Int) < c.last + 1
    · have HJ : Hid ((j : Int) ≤ c.last) := by unfold Hid; omega
      have HJ2 : Hid (j ≤ 1000000) := by unfold Hid; omega
      obtain ⟨A2, k2, rfl⟩ := own_shape6 HX.out
      obtain ⟨A3, k3, rfl⟩ := own_shape6 HY.out
      have hq1 : CopAt wr wr.heap.size c q := HQ.out.up (bl_tr HB.out HB1.out)
      have HQ1 := Lib.hid hq1
      clear hq1
      go_wp2_with (first | (go_at_call 129; refine (bhot_c c q (truthsC c) (m + 1) m (m + 9) v j _ HQ1.out (HWK.out.up HB1.out) HO.out (truths_sc hl0) (truths_len HO.out) HJ.out).mono ?_; clear hbx HQ1; rintro e w5 ⟨lo, hi, rfl, hb5⟩; have HB5 := Lib.hid (bl_tr HB1.out hb5); have HX5 := Lib.hid (own_below HX.out hb5); have HY5 := Lib.hid (own_below HY.out hb5); clear hb5) | (refine wpList_append_k rfl w1.heap.size _ _ 38 37 _ 2 16 rfl Tryz.underlying38 info37 rfl (by decide) (by decide) (.slice A2 j k2) j xs [.int .i64 lo, .int .i64 hi] w5.heap.size rfl rfl (World.alloc_heap_new w5 _) rfl (by simp [Value.oneCell']) (HX5.out.alloc _) (by have h1 := HB5.out.size; simp; omega) HJ2.out ?_; intro v1 w6 ho6 hg6 hat6; obtain ⟨A4, k4, rfl⟩ := own_shape6 ho6; have HX6 := Lib.hid ho6; have HAT6 := Lib.hid hat6; have HB6 : Hid (Below w1.heap.size w1 w6) := bl_gr (bl_al HB5.out _) hg6 (fun k hk => (HX5.out.lt k hk).1); have HY6 := Lib.hid ((HY5.out.alloc _).kept hg6 (ne_sym HD.out)); have c6 : w6.cell? ⟨w.heap.size, 6, none⟩ = some (.slice q.a2 c.want.length q.c2) := HBX.out.bl (by simp) HB6.out 6; have HY5' := HY5; clear ho6 hg6 hat6 HX5 HY5) | (go_at_call 129; refine (bleft_c c q (truthsC c) (m + 1) m (m + 9) v j _ (HQ.out.up (bl_tr HB.out HB6.out)) (HWK.out.up HB6.out) HO.out (truths_sc hl0) (truths_len HO.out) HJ.out).mono ?_; rintro e w7 ⟨lo', hi', rfl, hb7⟩; have HB7 := Lib.hid (bl_tr HB6.out hb7); have HX7 := Lib.hid (own_below HX6.out hb7); have HY7 := Lib.hid (own_below HY6.out hb7); clear hb7) | (refine wpList_append_k rfl w1.heap.size _ _ 38 37 _ 2 16 rfl Tryz.underlying38 info37 rfl (by decide) (by decide) (.slice A3 j k3) j ys [.int .i64 lo', .int .i64 hi'] w7.heap.size rfl rfl (World.alloc_heap_new w7 _) rfl (by simp [Value.oneCell']) (HY7.out.alloc _) (by have h1 := HB7.out.size; simp; omega) HJ2.out ?_; intro v1 w8 ho8 hg8 hat8; obtain ⟨A5, k5, rfl⟩ := own_shape6 ho8; have HY8 := Lib.hid ho8; have HAT8 := Lib.hid hat8; have HB8 : Hid (Below w1.heap.size w1 w8) := bl_gr (bl_al HB7.out _) hg8 (fun k hk => (HY7.out.lt k hk).1); have HG8 := Lib.hid hg8; clear ho8 hg8 hat8))
      go_roundw
      case rel =>
        have hd1 : (Value.slice A4 (j + 1) k4).ownBlock = none ∨ (Value.slice A4 (j + 1) k4).ownBlock ≠ (Value.slice A3 j k3).ownBlock := by
          rcases HAT6.out with h | h
          · rw [h]; exact HD.out
          · rw [h]; exact .inr (own_far6 HY5'.out (by simp))
        refine ⟨j + 1, _, _, by omega, by go_num, HB8.out, (HX7.out.alloc _).kept HG8.out hd1, HY8.out, ?_⟩
        rcases HAT8.out with h | h
        · rw [h]; exact hd1
        · rw [h]
          cases hk : (Value.slice A4 (j + 1) k4).ownBlock with
          | none => exact .inl rfl
          | some k => exact .inr (fun e => by
              have h1 := (HX7.out.lt k hk).2
              have h2 : k = (w7.alloc (.cells #[.int .i64 lo', .int .i64 hi'] 37)).heap.size := by injection e
              simp at h2
              omega)
      case measure => simp [intOf]; omega
    · obtain ⟨A2, k2, rfl⟩ := own_shape6 HX.out
      obtain ⟨A3, k3, rfl⟩ := own_shape6 HY.out
      go_wp2
      go_ret3
      exact ⟨⟨_, _, rfl⟩, bl_tr HB.out HB1.out⟩
end Go.Proofs.YtpgnplmjfhdncaaGreat
