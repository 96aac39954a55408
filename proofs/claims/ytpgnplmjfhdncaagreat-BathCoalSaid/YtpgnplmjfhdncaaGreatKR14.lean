/- The conversion of coppers. -/
import Derived.Test.YtpgnplmjfhdncaaGreatKR11
namespace Go.Proofs.YtpgnplmjfhdncaaGreat
open Go.RowKit
set_option linter.unusedVariables false
def sc2 (p : Int × Int) : List Value := [.int .i64 p.1, .int .i64 p.2]
def sc3 (p : Int × Int × Int) : List Value := [.int .i64 p.1, .int .i64 p.2.1, .int .i64 p.2.2]
theorem flatk_len {α : Type} (f : α → List Value) (k : Nat) (hf : ∀ x, (f x).length = k) (xs : List α) : (xs.flatMap f).length = xs.length * k := by
  induction xs with
  | nil => simp
  | cons x xs ih => simp only [List.flatMap_cons, List.length_append, ih, hf, List.length_cons]; rw [Nat.add_mul]; omega
theorem flatk_at {α : Type} (f : α → List Value) (k : Nat) (hf : ∀ x, (f x).length = k) (xs : List α) : ∀ (j i : Nat) (x : α), xs[j]? = some x → i < k → (xs.flatMap f)[j * k + i]? = (f x)[i]? := by
  induction xs with
  | nil => intro j i x h; simp at h
  | cons y xs ih =>
    intro j i x hj hi
    cases j with
    | zero =>
      simp at hj
      subst hj
      rw [List.flatMap_cons, Nat.zero_mul, Nat.zero_add, List.getElem?_append_left (by rw [hf]; exact hi)]
    | succ j =>
      rw [List.flatMap_cons, List.getElem?_append_right (by rw [hf, Nat.add_mul]; omega)]
      have : (j + 1) * k + i - (f y).length = j * k + i := by rw [hf, Nat.add_mul]; omega
      rw [this]
      exact ih j i x (by simpa using hj) hi
theorem own_flat {α : Type} (f : α → List Value) (k : Nat) (hk : 0 < k) (hf : ∀ x, (f x).length = k) {w : World} {base n : Nat} {e : TypeId} {v : Value} {xs : List α} (h : w.ownsRow base e k v n (xs.flatMap f)) :
    ∃ A c, v = .slice A xs.length c ∧ xs.length = n ∧ (xs = [] ∨ ∃ g, A = some ⟨g, 0, none⟩ ∧ base ≤ g ∧ g < w.heap.size ∧ ∀ j i x, xs[j]? = some x → i < k → w.cell? ⟨g, j * k + i, none⟩ = (f x)[i]?) := by
  have hl : xs.length = n := by have := h.1; rw [flatk_len f k hf] at this; exact Nat.eq_of_mul_eq_mul_right hk this
  rcases h.2 with ⟨rfl, h0⟩ | ⟨g, cap, cur, rfl, hb, hh, h1, h2, h3, h4⟩
  · exact ⟨none, 0, by rw [hl, h0], hl, .inl (List.eq_nil_of_length_eq_zero (by omega))⟩
  · refine ⟨_, cap, by rw [hl], hl, .inr ⟨g, rfl, hb, (Array.getElem?_eq_some_iff.1 hh).1, fun j i x hj hi => ?_⟩⟩
    have hjl : j < xs.length := (List.getElem?_eq_some_iff.1 hj).1
    have hlt : j * k + i < n * k := by
      have : (j + 1) * k ≤ n * k := Nat.mul_le_mul_right k (by omega)
      rw [Nat.add_mul] at this
      omega
    have h5 : (cur.toList.take (n * k))[j * k + i]? = (f x)[i]? := by rw [h4]; exact flatk_at f k hf xs j i x hj hi
    rw [List.getElem?_take, if_pos hlt] at h5
    simp only [World.cell?, hh]
    rw [← h5]
    simp
theorem own_pairs {w : World} {base n : Nat} {e : TypeId} {v : Value} {xs : List (Int × Int)} (h : w.ownsRow base e 2 v n (xs.flatMap sc2)) : ∃ A c, v = .slice A xs.length c ∧ PairsAt w w.heap.size A xs := by
  obtain ⟨A, c, e1, _, h2⟩ := own_flat sc2 2 (by omega) (fun _ => rfl) h
  refine ⟨A, c, e1, ?_⟩
  rcases h2 with h2 | ⟨g, rfl, _, hg, hc⟩
  · exact .inl h2
  · refine .inr ⟨g, 0, rfl, hg, fun j hj => ?_⟩
    have e0 := hc j 0 xs[j] (List.getElem?_eq_getElem hj) (by omega)
    have e1 := hc j 1 xs[j] (List.getElem?_eq_getElem hj) (by omega)
    have g1 : p1 xs j = xs[j].1 := by simp [p1, hj]
    have g2 : p2 xs j = xs[j].2 := by simp [p2, hj]
    rw [g1, g2]
    exact ⟨by rw [Nat.zero_add]; exact e0, by rw [Nat.zero_add]; exact e1⟩
theorem own_trips {w : World} {base n : Nat} {e : TypeId} {v : Value} {xs : List (Int × Int × Int)} (h : w.ownsRow base e 3 v n (xs.flatMap sc3)) : ∃ A c, v = .slice A xs.length c ∧ TripsAt w w.heap.size A xs := by
  obtain ⟨A, c, e1, _, h2⟩ := own_flat sc3 3 (by omega) (fun _ => rfl) h
  refine ⟨A, c, e1, ?_⟩
  rcases h2 with h2 | ⟨g, rfl, _, hg, hc⟩
  · exact .inl h2
  · refine .inr ⟨g, 0, rfl, hg, fun j hj => ?_⟩
    have e0 := hc j 0 xs[j] (List.getElem?_eq_getElem hj) (by omega)
    have e1 := hc j 1 xs[j] (List.getElem?_eq_getElem hj) (by omega)
    have e2 := hc j 2 xs[j] (List.getElem?_eq_getElem hj) (by omega)
    have g1 : t1 xs j = xs[j].1 := by simp [t1, hj]
    have g2 : t2 xs j = xs[j].2.1 := by simp [t2, hj]
    have g3 : t3 xs j = xs[j].2.2 := by simp [t3, hj]
    rw [g1, g2, g3]
    exact ⟨by rw [Nat.zero_add]; exact e0, by rw [Nat.zero_add]; exact e1, by rw [Nat.zero_add]; exact e2⟩
theorem take_snoc2 (xs : List (Int × Int)) (j : Nat) (hj : j < xs.length) : (xs.take (j + 1)).flatMap sc2 = (xs.take j).flatMap sc2 ++ [.int .i64 (p1 xs j), .int .i64 (p2 xs j)] := by
  rw [List.take_add_one, List.flatMap_append]
  have : xs[j]?.toList = [(p1 xs j, p2 xs j)] := by simp [p1, p2, hj]
  rw [this]
  rfl
theorem take_snoc3 (xs : List (Int × Int × Int)) (j : Nat) (hj : j < xs.length) : (xs.take (j + 1)).flatMap sc3 = (xs.take j).flatMap sc3 ++ [.int .i64 (t1 xs j), .int .i64 (t2 xs j), .int .i64 (t3 xs j)] := by
  rw [List.take_add_one, List.flatMap_append]
  have : xs[j]?.toList = [(t1 xs j, t2 xs j, t3 xs j)] := by simp [t1, t2, t3, hj]
  rw [this]
  rfl
theorem own_grownP {T : Nat → Prop} {A B : World} {base n size : Nat} {e : TypeId} {v : Value} {xs : List Value} (h : A.ownsRow base e size v n xs) (hG : Grown T A B) (hT : ∀ k, some k = v.ownBlock → ¬ T k) : B.ownsRow base e size v n xs := by
  refine ⟨h.1, h.2.imp id ?_⟩
  rintro ⟨g, cap, cur, e1, hb, hh, r⟩
  exact ⟨g, cap, cur, e1, hb, (hG.block g (Array.getElem?_eq_some_iff.1 hh).1 (hT g (by subst e1; rfl))).trans hh, r⟩
theorem Fr.lit71a {a0 a : Act} {v3 : Value} (h : Fr 3 25 a0 a) (hs : a0.tmps.size = 71) (h3 : slots a 3 = v3) : ∃ f : Nat → Value, a = { tmps := #[slots a0 0, slots a0 1, slots a0 2, v3, f 4, f 5, f 6, f 7, f 8, f 9, f 10, f 11, f 12, f 13, f 14, f 15, f 16, f 17, f 18, f 19, f 20, f 21, f 22, f 23, f 24, f 25, slots a0 26, slots a0 27, slots a0 28, slots a0 29, slots a0 30, slots a0 31, slots a0 32, slots a0 33, slots a0 34, slots a0 35, slots a0 36, slots a0 37, slots a0 38, slots a0 39, slots a0 40, slots a0 41, slots a0 42, slots a0 43, slots a0 44, slots a0 45, slots a0 46, slots a0 47, slots a0 48, slots a0 49, slots a0 50, slots a0 51, slots a0 52, slots a0 53, slots a0 54, slots a0 55, slots a0 56, slots a0 57, slots a0 58, slots a0 59, slots a0 60, slots a0 61, slots a0 62, slots a0 63, slots a0 64, slots a0 65, slots a0 66, slots a0 67, slots a0 68, slots a0 69, slots a0 70], defers := a0.defers } := by
  refine ⟨slots a, ?_⟩
  have := h.lit
  rw [hs] at this
  subst h3
  exact this
theorem Fr.lit71b {a0 a : Act}  (h : Fr 33 43 a0 a) (hs : a0.tmps.size = 71)  : ∃ f : Nat → Value, a = { tmps := #[slots a0 0, slots a0 1, slots a0 2, slots a0 3, slots a0 4, slots a0 5, slots a0 6, slots a0 7, slots a0 8, slots a0 9, slots a0 10, slots a0 11, slots a0 12, slots a0 13, slots a0 14, slots a0 15, slots a0 16, slots a0 17, slots a0 18, slots a0 19, slots a0 20, slots a0 21, slots a0 22, slots a0 23, slots a0 24, slots a0 25, slots a0 26, slots a0 27, slots a0 28, slots a0 29, slots a0 30, slots a0 31, slots a0 32, f 33, f 34, f 35, f 36, f 37, f 38, f 39, f 40, f 41, f 42, f 43, slots a0 44, slots a0 45, slots a0 46, slots a0 47, slots a0 48, slots a0 49, slots a0 50, slots a0 51, slots a0 52, slots a0 53, slots a0 54, slots a0 55, slots a0 56, slots a0 57, slots a0 58, slots a0 59, slots a0 60, slots a0 61, slots a0 62, slots a0 63, slots a0 64, slots a0 65, slots a0 66, slots a0 67, slots a0 68, slots a0 69, slots a0 70], defers := a0.defers } := by
  refine ⟨slots a, ?_⟩
  have := h.lit
  rw [hs] at this
  exact this
theorem Fr.lit71c {a0 a : Act}  (h : Fr 51 69 a0 a) (hs : a0.tmps.size = 71)  : ∃ f : Nat → Value, a = { tmps := #[slots a0 0, slots a0 1, slots a0 2, slots a0 3, slots a0 4, slots a0 5, slots a0 6, slots a0 7, slots a0 8, slots a0 9, slots a0 10, slots a0 11, slots a0 12, slots a0 13, slots a0 14, slots a0 15, slots a0 16, slots a0 17, slots a0 18, slots a0 19, slots a0 20, slots a0 21, slots a0 22, slots a0 23, slots a0 24, slots a0 25, slots a0 26, slots a0 27, slots a0 28, slots a0 29, slots a0 30, slots a0 31, slots a0 32, slots a0 33, slots a0 34, slots a0 35, slots a0 36, slots a0 37, slots a0 38, slots a0 39, slots a0 40, slots a0 41, slots a0 42, slots a0 43, slots a0 44, slots a0 45, slots a0 46, slots a0 47, slots a0 48, slots a0 49, slots a0 50, f 51, f 52, f 53, f 54, f 55, f 56, f 57, f 58, f 59, f 60, f 61, f 62, f 63, f 64, f 65, f 66, f 67, f 68, f 69, slots a0 70], defers := a0.defers } := by
  refine ⟨slots a, ?_⟩
  have := h.lit
  rw [hs] at this
  exact this
/-- Where the slices of coppers lie. -/
def QIn (lo hi : Nat) (q : CA) : Prop := ∀ b o, (q.a1 = some ⟨b, o, none⟩ ∨ q.a2 = some ⟨b, o, none⟩ ∨ q.a3 = some ⟨b, o, none⟩ ∨ q.a4 = some ⟨b, o, none⟩) → lo ≤ b ∧ b < hi
/-- What is converted: nil or of the common kind. -/
structure CPl (c : Cop) (q : CA) : Prop where
  p1 : Pl q.a1 c.coal.length q.c1
  p2 : Pl q.a2 c.want.length q.c2
structure Tiny (c : Cop) : Prop where
  n1 : c.coal.length ≤ 10000
  n2 : c.want.length ≤ 10000
  n3 : c.loss.length ≤ 10000
  n4 : c.rds.length ≤ 10000
set_option maxRecDepth 100000 in
set_option maxHeartbeats 8000000 in
theorem copper_c (c : Cop) (q : CA) (w : World) (hq : CopAt w w.heap.size c q) (hp : CPl c q) (ht : Tiny c) :
    Calls Tryz.prog 53 #[copV c q] w fun e w' => ∃ q', e = .returned (copV c q') ∧ CopAt w' w'.heap.size c q' ∧ QIn w.heap.size w'.heap.size q' ∧ Below w.heap.size w w' := by
  have HQ := Lib.hid hq
  have HT := Lib.hid ht
  have HP := Lib.hid hp
  clear hq ht hp
  go_enter Tryz.func53, Tryz.ntmps53
  go_wp2
  have HBX : Hid (Box ((w.alloc (.cells (copCs c q) 28)).alloc (.cells #[.int .i64 0, .int .i64 0, .int .i64 0, .int .i64 0, .int .i64 0, .slice none 0 0, .slice none 0 0, .int .i64 0, .int .i64 0, .slice none 0 0, .slice none 0 0] 41)) w.heap.size (copCs c q)) := (Box.new _ _ _ _).al (by simp) _
  have HZ0 : Hid (((w.alloc (.cells (copCs c q) 28)).alloc (.cells #[.int .i64 0, .int .i64 0, .int .i64 0, .int .i64 0, .int .i64 0, .slice none 0 0, .slice none 0 0, .int .i64 0, .int .i64 0, .slice none 0 0, .slice none 0 0] 41)).heap[w.heap.size + 1]? = some (.cells #[.int .i64 0, .int .i64 0, .int .i64 0, .int .i64 0, .int .i64 0, .slice none 0 0, .slice none 0 0, .int .i64 0, .int .i64 0, .slice none 0 0, .slice none 0 0] 41 (0, 0))) := by have := World.alloc_heap_new (w.alloc (.cells (copCs c q) 28)) (.cells #[.int .i64 0, .int .i64 0, .int .i64 0, .int .i64 0, .int .i64 0, .slice none 0 0, .slice none 0 0, .int .i64 0, .int .i64 0, .slice none 0 0, .slice none 0 0] 41); rw [World.size_alloc] at this; exact this
  refine r53 _ rfl _ c q w.heap.size _ rfl rfl HBX.out (by simp; omega) (HQ.out.up (bl_al (bl_al (Below.refl _ _) _) _)) HT.out.n1 HT.out.n2 HP.out.p1 HP.out.p2 ?_
  intro a w2 A5 K5 A6 K6 G hF hb h3 hg hgh hr5 hr6
  have HB2 := Lib.hid (bl_tr (bl_al (bl_al (Below.refl w.heap.size w) _) _) hb)
  have HBX2 : Hid (Box w2 w.heap.size (copCs c q)) := HBX.out.bl (by simp) hb
  have HZ2 : Hid (w2.heap[w.heap.size + 1]? = some (.cells #[.int .i64 0, .int .i64 0, .int .i64 0, .int .i64 0, .int .i64 0, .slice none 0 0, .slice none 0 0, .int .i64 0, .int .i64 0, .slice none 0 0, .slice none 0 0] 41 (0, 0))) := (hb.block _ (by simp)).trans HZ0.out
  have HG : Hid (w.heap.size + 2 ≤ G) := by simpa [Hid] using hg
  have HGS : Hid (G < w2.heap.size) := (Array.getElem?_eq_some_iff.1 hgh).1
  have HGH := Lib.hid hgh
  have HR5 : Hid (w2.ownsRow (w.heap.size + 2) 3 1 (.slice A5 c.coal.length K5) c.coal.length (ints c.coal)) := by have := hr5; simp only [World.size_alloc] at this; exact this
  have HR6 : Hid (w2.ownsRow (w.heap.size + 2) 3 1 (.slice A6 c.want.length K6) c.want.length (ints c.want)) := by have := hr6; simp only [World.size_alloc] at this; exact this
  obtain ⟨f, rfl⟩ := hF.lit71a rfl h3
  clear hF h3 hb hg hgh hr5 hr6
  simp only [slots, List.getElem?_toArray, List.getElem?_cons_succ, List.getElem?_cons_zero, Option.getD_some]
  go_wp2
  go_loopw [4] (fun i wr => ∃ (j : Nat) (v : Value), j ≤ c.loss.length ∧ i = .int .i64 j ∧ Grown (fun k => k = G ∨ w2.heap.size ≤ k) w2 wr ∧ wr.heap[G]? = some (.cells #[.int .i64 c.last, .int .i64 c.start, .int .i64 c.most, .int .i64 c.per, .int .i64 c.shovels, .slice A5 c.coal.length K5, .slice A6 c.want.length K6, .int .i64 c.hlo, .int .i64 c.hhi, v, .slice none 0 0] 41 (0, 0)) ∧ wr.ownsRow w2.heap.size 37 2 v j ((c.loss.take j).flatMap sc2)) (fun i _ => c.loss.length - (intOf i).toNat)
  case atStart => exact ⟨0, _, Nat.zero_le _, rfl, Grown.refl _ _, HGH.out, World.ownsRow_nil _ _ _ _⟩
  case round =>
    obtain ⟨j, v, hj, rfl, hgr, hgc, hrow⟩ := hrel
    have HGR := Lib.hid hgr
    have HGC := Lib.hid hgc
    have HROW := Lib.hid hrow
    have hG := HG.out
    have hGS := HGS.out
    have hbx : Box wr w.heap.size (copCs c q) := hgr.box HBX2.out (HBX2.out.lt (by simp)) (by omega)
    have HBXR := Lib.hid hbx
    have HBR : Hid (Below w.heap.size w wr) := HB2.out.trans (hgr.below (by have := HB2.out.size; omega) (fun k hk => by omega))
    have k9 : wr.cell? ⟨w.heap.size, 9, none⟩ = some (.slice q.a3 c.loss.length q.c3) := hbx 9
    have hjb : (j : Int) ≤ 10000 := by have := HT.out.n3; omega
    clear hgr hgc hrow hbx hG hGS
    by_cases hlt : j < c.loss.length
    · obtain ⟨b, o, ha⟩ := HQ.out.loss.some_ (by omega)
      have hx' := HQ.out.loss
      rw [ha] at hx'
      have hbw : b < w.heap.size := by
        obtain ⟨b', o', e, hb', _⟩ := hx'.at_ (by omega)
        cases e
        exact hb'
      have HBW := Lib.hid hbw
      have hxx := (hx'.below HBR.out).get j hlt
      obtain ⟨e1, e2⟩ := hxx
      have HE1 := Lib.hid e1
      have HE2 := Lib.hid e2
      have hj1 : (j : Int) < (c.loss.length : Int) := by omega
      have h9 : wr.cell? ⟨w.heap.size, 9, none⟩ = some (.slice (some ⟨b, o, none⟩) c.loss.length q.c3) := by rw [← ha]; exact k9
      have H9 := Lib.hid h9
      clear hx' ha e1 e2 h9 hbw
      go_wp2
      refine r53b _ rfl _ w.heap.size j b o c.loss.length q.c3 (p1 c.loss j) (p2 c.loss j) (.int .i64 c.last) (.int .i64 c.start) (.int .i64 c.most) (.int .i64 c.per) (.int .i64 c.shovels) (.slice A5 c.coal.length K5) (.slice A6 c.want.length K6) (.int .i64 c.hlo) (.int .i64 c.hhi) (.slice none 0 0) G w2.heap.size j v ((c.loss.take j).flatMap sc2) _ rfl HGC.out HROW.out HGR.out.size HGS.out (by have := HT.out.n3; omega) rfl rfl rfl hlt (by have := HT.out.n3; omega) (by have := HG.out; omega) (fun e => by have h1 := (HROW.out.lt _ e.symm).1; have h2 := HG.out; have h3 := HGS.out; omega) (by have := HBW.out; have := HG.out; omega) (fun e => by have h1 := (HROW.out.lt _ e.symm).1; have h2 := HG.out; have h3 := HGS.out; have := HBW.out; omega) H9.out HE1.out HE2.out ?_
      intro a w8 u hF8 hg8 hbx8 hrw8
      have HG8 := Lib.hid hg8
      have HBX8 := Lib.hid hbx8
      have HRW8 := Lib.hid hrw8
      obtain ⟨f8, rfl⟩ := hF8.lit71b rfl
      clear hF8 hg8 hbx8 hrw8
      simp only [slots, List.getElem?_toArray, List.getElem?_cons_succ, List.getElem?_cons_zero, Option.getD_some]
      go_wp2
      go_roundw
      case rel =>
        refine ⟨j + 1, u, by omega, by go_num, HGR.out.trans (HG8.out.mono fun k _ t => by
          rcases t with rfl | t
          · exact .inl rfl
          · exact .inr (HROW.out.lt k t.symm).1), HBX8.out, ?_⟩
        rw [take_snoc2 _ _ hlt]
        exact HRW8.out
      case measure => simp [intOf]; omega
    · have hje : j = c.loss.length := by omega
      have hrw := HROW.out
      rw [hje, List.take_of_length_le (Nat.le_refl _)] at hrw
      have HRL := Lib.hid hrw
      have hlen : ¬ ((j : Int) < (c.loss.length : Int)) := by omega
      obtain ⟨A3, K3, e3, -⟩ := own_pairs hrw
      have hgc := HGC.out
      rw [e3] at hgc hrw
      have HGC2 := Lib.hid hgc
      have HRL2 := Lib.hid hrw
      have HGW : Hid (G < wr.heap.size) := (Array.getElem?_eq_some_iff.1 hgc).1
      clear hje hrw e3 hgc HRL HROW HGC
      go_wp2
      clear k9 hlen hlt hjb
      go_loopw [5] (fun i w3 => ∃ (j : Nat) (u : Value), j ≤ c.rds.length ∧ i = .int .i64 j ∧ Grown (fun k => k = G ∨ wr.heap.size ≤ k) wr w3 ∧ w3.heap[G]? = some (.cells #[.int .i64 c.last, .int .i64 c.start, .int .i64 c.most, .int .i64 c.per, .int .i64 c.shovels, .slice A5 c.coal.length K5, .slice A6 c.want.length K6, .int .i64 c.hlo, .int .i64 c.hhi, .slice A3 c.loss.length K3, u] 41 (0, 0)) ∧ w3.ownsRow wr.heap.size 149 3 u j ((c.rds.take j).flatMap sc3)) (fun i _ => c.rds.length - (intOf i).toNat)
      case atStart => exact ⟨0, _, Nat.zero_le _, rfl, Grown.refl _ _, HGC2.out, World.ownsRow_nil _ _ _ _⟩
      case round =>
        rename_i wl _ _ _ _ _
        obtain ⟨j, u, hj, rfl, hgr, hgc, hrow⟩ := hrel
        have HGR3 := Lib.hid hgr
        have HGC3 := Lib.hid hgc
        have HROW3 := Lib.hid hrow
        have hG := HG.out
        have hGW := HGW.out
        have hbx : Box wr w.heap.size (copCs c q) := hgr.box HBXR.out (HBXR.out.lt (by simp)) (by have := HBR.out.size; omega)
        have HBX3 := Lib.hid hbx
        have HB3 : Hid (Below w.heap.size w wr) := HBR.out.trans (hgr.below HBR.out.size (fun k hk => by have := HBR.out.size; omega))
        have k10 : wr.cell? ⟨w.heap.size, 10, none⟩ = some (.slice q.a4 c.rds.length q.c4) := hbx 10
        have hjb : (j : Int) ≤ 10000 := by have := HT.out.n4; omega
        clear hgr hgc hrow hbx hG hGW
        by_cases hlt : j < c.rds.length
        · obtain ⟨b, o, ha⟩ := HQ.out.rds.some_ (by omega)
          have hx' := HQ.out.rds
          rw [ha] at hx'
          have hbw : b < w.heap.size := by
            obtain ⟨b', o', e, hb', _⟩ := hx'.at_ (by omega)
            cases e
            exact hb'
          have HBW := Lib.hid hbw
          obtain ⟨e0, e1, e2⟩ := (hx'.below HB3.out).get j hlt
          have HE0 := Lib.hid e0
          have HE1 := Lib.hid e1
          have HE2 := Lib.hid e2
          have hj1 : (j : Int) < (c.rds.length : Int) := by omega
          have h10 : wr.cell? ⟨w.heap.size, 10, none⟩ = some (.slice (some ⟨b, o, none⟩) c.rds.length q.c4) := by rw [← ha]; exact k10
          have H10 := Lib.hid h10
          clear hx' ha e0 e1 e2 h10 hbw
          go_wp2
          refine r53c _ rfl _ w.heap.size j b o c.rds.length q.c4 (t1 c.rds j) (t2 c.rds j) (t3 c.rds j) (.int .i64 c.last) (.int .i64 c.start) (.int .i64 c.most) (.int .i64 c.per) (.int .i64 c.shovels) (.slice A5 c.coal.length K5) (.slice A6 c.want.length K6) (.int .i64 c.hlo) (.int .i64 c.hhi) (.slice A3 c.loss.length K3) G wl.heap.size j u ((c.rds.take j).flatMap sc3) _ rfl HGC3.out HROW3.out HGR3.out.size HGW.out (by have := HT.out.n4; omega) rfl rfl rfl hlt (by have := HT.out.n4; omega) (by have := HG.out; omega) (fun e => by have h1 := (HROW3.out.lt _ e.symm).1; have h2 := HG.out; have h3 := HGW.out; omega) (by have := HBW.out; have := HG.out; omega) (fun e => by have h1 := (HROW3.out.lt _ e.symm).1; have h2 := HG.out; have h3 := HGW.out; have := HBW.out; omega) H10.out HE0.out HE1.out HE2.out ?_
          intro a w8 u8 hF8 hg8 hbx8 hrw8
          have HG8 := Lib.hid hg8
          have HBX8 := Lib.hid hbx8
          have HRW8 := Lib.hid hrw8
          obtain ⟨f8, rfl⟩ := hF8.lit71c rfl
          clear hF8 hg8 hbx8 hrw8
          simp only [slots, List.getElem?_toArray, List.getElem?_cons_succ, List.getElem?_cons_zero, Option.getD_some]
          go_wp2
          go_roundw
          case rel =>
            refine ⟨j + 1, u8, by omega, by go_num, HGR3.out.trans (HG8.out.mono fun k _ t => by
              rcases t with rfl | t
              · exact .inl rfl
              · exact .inr (HROW3.out.lt k t.symm).1), HBX8.out, ?_⟩
            rw [take_snoc3 _ _ hlt]
            exact HRW8.out
          case measure => simp [intOf]; omega
        · have hje : j = c.rds.length := by omega
          have hrw := HROW3.out
          rw [hje, List.take_of_length_le (Nat.le_refl _)] at hrw
          obtain ⟨A4, K4, e4, -⟩ := own_trips hrw
          have hgc := HGC3.out
          rw [e4] at hgc hrw
          have HGC4 := Lib.hid hgc
          have HRD4 := Lib.hid hrw
          have hlen : ¬ ((j : Int) < (c.rds.length : Int)) := by omega
          have hz : wr.heap[w.heap.size + 1]? = some (.cells #[.int .i64 0, .int .i64 0, .int .i64 0, .int .i64 0, .int .i64 0, .slice none 0 0, .slice none 0 0, .int .i64 0, .int .i64 0, .slice none 0 0, .slice none 0 0] 41 (0, 0)) := (HGR3.out.block _ (by have := (Array.getElem?_eq_some_iff.1 HZ2.out).1; have := HGR.out.size; omega) (by have := HG.out; have := HGW.out; have := HGS.out; have := HGR.out.size; have := (Array.getElem?_eq_some_iff.1 HZ2.out).1; omega)).trans ((HGR.out.block _ (Array.getElem?_eq_some_iff.1 HZ2.out).1 (by have := HG.out; have := HGS.out; have := (Array.getElem?_eq_some_iff.1 HZ2.out).1; omega)).trans HZ2.out)
          have HZ := Lib.hid hz
          have hfz : ∀ o, wr.frozen? ⟨w.heap.size + 1, o, none⟩ = false := fun o => by simp [World.frozen?, hz]
          have hcz : ∀ o, wr.cell? ⟨w.heap.size + 1, o, none⟩ = (#[.int .i64 0, .int .i64 0, .int .i64 0, .int .i64 0, .int .i64 0, .slice none 0 0, .slice none 0 0, .int .i64 0, .int .i64 0, .slice none 0 0, .slice none 0 0])[o]? := fun o => by simp [World.cell?, hz]
          have hgcz : ∀ o, wr.cell? ⟨G, o, none⟩ = (#[.int .i64 c.last, .int .i64 c.start, .int .i64 c.most, .int .i64 c.per, .int .i64 c.shovels, .slice A5 c.coal.length K5, .slice A6 c.want.length K6, .int .i64 c.hlo, .int .i64 c.hhi, .slice A3 c.loss.length K3, .slice A4 c.rds.length K4])[o]? := fun o => by simp [World.cell?, hgc]
          have HR5w : Hid (wr.ownsRow (w.heap.size + 2) 3 1 (.slice A5 c.coal.length K5) c.coal.length (ints c.coal)) := own_grownP (own_grownP HR5.out HGR.out (fun k hk t => by have h1 := (HR5.out.lt k hk.symm).2; rcases t with rfl | t; (have h2 := HGH.out; obtain ⟨_, h3⟩ := HR5.out; rcases h3 with ⟨e, _⟩ | ⟨g', cap, cur, e, hb', hh', _⟩; (rw [e] at hk; cases hk); (rw [e] at hk; cases hk; rw [hh'] at h2; injection h2 with h2; injection h2 with _ h2; cases h2)); omega)) HGR3.out (fun k hk t => by have h1 := (HR5.out.lt k hk.symm).2; rcases t with rfl | t; (have h2 := HGH.out; obtain ⟨_, h3⟩ := HR5.out; rcases h3 with ⟨e, _⟩ | ⟨g', cap, cur, e, hb', hh', _⟩; (rw [e] at hk; cases hk); (rw [e] at hk; cases hk; rw [hh'] at h2; injection h2 with h2; injection h2 with _ h2; cases h2)); (have := HGR.out.size; omega))
          have HR6w : Hid (wr.ownsRow (w.heap.size + 2) 3 1 (.slice A6 c.want.length K6) c.want.length (ints c.want)) := own_grownP (own_grownP HR6.out HGR.out (fun k hk t => by have h1 := (HR6.out.lt k hk.symm).2; rcases t with rfl | t; (have h2 := HGH.out; obtain ⟨_, h3⟩ := HR6.out; rcases h3 with ⟨e, _⟩ | ⟨g', cap, cur, e, hb', hh', _⟩; (rw [e] at hk; cases hk); (rw [e] at hk; cases hk; rw [hh'] at h2; injection h2 with h2; injection h2 with _ h2; cases h2)); omega)) HGR3.out (fun k hk t => by have h1 := (HR6.out.lt k hk.symm).2; rcases t with rfl | t; (have h2 := HGH.out; obtain ⟨_, h3⟩ := HR6.out; rcases h3 with ⟨e, _⟩ | ⟨g', cap, cur, e, hb', hh', _⟩; (rw [e] at hk; cases hk); (rw [e] at hk; cases hk; rw [hh'] at h2; injection h2 with h2; injection h2 with _ h2; cases h2)); (have := HGR.out.size; omega))
          have HR3w : Hid (wr.ownsRow w2.heap.size 37 2 (.slice A3 c.loss.length K3) c.loss.length (c.loss.flatMap sc2)) := own_grownP HRL2.out HGR3.out (fun k hk t => by have h1 := HRL2.out.lt k hk.symm; have := HGS.out; omega)
          clear hje hrw e4 hgc hz
          go_wp2
          have hfin := setAll_full wr (w.heap.size + 1) [.int .i64 c.last, .int .i64 c.start, .int .i64 c.most, .int .i64 c.per, .int .i64 c.shovels, .slice A5 c.coal.length K5, .slice A6 c.want.length K6, .int .i64 c.hlo, .int .i64 c.hhi, .slice A3 c.loss.length K3, .slice A4 c.rds.length K4] HZ.out rfl
          have hgw := setAll_grown wr (w.heap.size + 1) [.int .i64 c.last, .int .i64 c.start, .int .i64 c.most, .int .i64 c.per, .int .i64 c.shovels, .slice A5 c.coal.length K5, .slice A6 c.want.length K6, .int .i64 c.hlo, .int .i64 c.hhi, .slice A3 c.loss.length K3, .slice A4 c.rds.length K4] 0
          refine bodyPost_ret (v := copV c ⟨A5, K5, A6, K6, A3, K3, A4, K4⟩) (results_cell_row Tryz.results53 _ _ (w.heap.size + 1) 41 _ (0, 0) _ (by rfl) hfin Tryz.underlying41 rfl (by kernel_rfl)) rfl ⟨⟨A5, K5, A6, K6, A3, K3, A4, K4⟩, rfl, ?_, ?_, ?_⟩
          · have far : ∀ (v : Value) (base : Nat), (∀ k, v.ownBlock = some k → w.heap.size + 2 ≤ k) → some (w.heap.size + 1) ≠ v.ownBlock := fun v base h e => by have := h _ e.symm; omega
            obtain ⟨B5, l5, g5, i5, -⟩ := own_ints (own_grownG HR5w.out hgw (far _ 0 fun k hk => (HR5w.out.lt k hk).1))
            obtain ⟨B6, l6, g6, i6, -⟩ := own_ints (own_grownG HR6w.out hgw (far _ 0 fun k hk => (HR6w.out.lt k hk).1))
            obtain ⟨B3, l3, g3, i3⟩ := own_pairs (own_grownG HR3w.out hgw (far _ 0 fun k hk => by have := (HR3w.out.lt k hk).1; have := HG.out; have := HGS.out; omega))
            obtain ⟨B4, l4, g4, i4⟩ := own_trips (own_grownG HRD4.out hgw (far _ 0 fun k hk => by have := (HRD4.out.lt k hk).1; have := HG.out; have := HGW.out; omega))
            cases g5
            cases g6
            cases g3
            cases g4
            exact ⟨i5, i6, i3, i4⟩
          · have hsz := hgw.size
            refine (?_ : QIn w.heap.size (setAll wr (w.heap.size + 1) 0 [.int .i64 c.last, .int .i64 c.start, .int .i64 c.most, .int .i64 c.per, .int .i64 c.shovels, .slice A5 c.coal.length K5, .slice A6 c.want.length K6, .int .i64 c.hlo, .int .i64 c.hhi, .slice A3 c.loss.length K3, .slice A4 c.rds.length K4]).heap.size ⟨A5, K5, A6, K6, A3, K3, A4, K4⟩)
            generalize (setAll wr (w.heap.size + 1) 0 [.int .i64 c.last, .int .i64 c.start, .int .i64 c.most, .int .i64 c.per, .int .i64 c.shovels, .slice A5 c.coal.length K5, .slice A6 c.want.length K6, .int .i64 c.hlo, .int .i64 c.hhi, .slice A3 c.loss.length K3, .slice A4 c.rds.length K4]).heap.size = S at hsz ⊢
            clear hfin hgw
            rintro b o (h | h | h | h)
            · dsimp only at h; subst h; have := HR5w.out.lt b rfl; omega
            · dsimp only at h; subst h; have := HR6w.out.lt b rfl; omega
            · dsimp only at h; subst h; have := HR3w.out.lt b rfl; have := HG.out; have := HGS.out; omega
            · dsimp only at h; subst h; have := HRD4.out.lt b rfl; have := HG.out; have := HGW.out; omega
          · exact HB3.out.trans (hgw.below HB3.out.size (fun k hk => by omega))
end Go.Proofs.YtpgnplmjfhdncaaGreat
/- Region 1 of the conversion of rooms. -/
namespace Go.Proofs.YtpgnplmjfhdncaaGreat
open Go.RowKit
set_option linter.unusedVariables false
/-- No slice of the coppers lies in block g. -/
def QNe (g : Nat) (q : CA) : Prop := ∀ b o, (q.a1 = some ⟨b, o, none⟩ ∨ q.a2 = some ⟨b, o, none⟩ ∨ q.a3 = some ⟨b, o, none⟩ ∨ q.a4 = some ⟨b, o, none⟩) → b ≠ g
theorem QIn.wide {lo hi lo' hi' : Nat} {q : CA} (h : QIn lo hi q) (h1 : lo' ≤ lo) (h2 : hi ≤ hi') : QIn lo' hi' q := fun b o hb => by have := h b o hb; omega
theorem IntsAt.farG {w w' : World} {g B B' : Nat} {A : Option Addr} {xs : List Int} (h : IntsAt w B A xs) (hg : Grown (fun k => k = g) w w') (hb : ∀ b o, A = some ⟨b, o, none⟩ → b ≠ g ∧ b < w.heap.size) (hB : B ≤ B') : IntsAt w' B' A xs := by
  rcases h with h | ⟨b, o, rfl, hlt, hc⟩
  · exact .inl h
  · have := hb b o rfl
    exact .inr ⟨b, o, rfl, by omega, fun j hj => (hg.cell this.2 this.1).trans (hc j hj)⟩
theorem PairsAt.farG {w w' : World} {g B B' : Nat} {A : Option Addr} {xs : List (Int × Int)} (h : PairsAt w B A xs) (hg : Grown (fun k => k = g) w w') (hb : ∀ b o, A = some ⟨b, o, none⟩ → b ≠ g ∧ b < w.heap.size) (hB : B ≤ B') : PairsAt w' B' A xs := by
  rcases h with h | ⟨b, o, rfl, hlt, hc⟩
  · exact .inl h
  · have := hb b o rfl
    exact .inr ⟨b, o, rfl, by omega, fun j hj => ⟨(hg.cell this.2 this.1).trans (hc j hj).1, (hg.cell this.2 this.1).trans (hc j hj).2⟩⟩
theorem TripsAt.farG {w w' : World} {g B B' : Nat} {A : Option Addr} {xs : List (Int × Int × Int)} (h : TripsAt w B A xs) (hg : Grown (fun k => k = g) w w') (hb : ∀ b o, A = some ⟨b, o, none⟩ → b ≠ g ∧ b < w.heap.size) (hB : B ≤ B') : TripsAt w' B' A xs := by
  rcases h with h | ⟨b, o, rfl, hlt, hc⟩
  · exact .inl h
  · have := hb b o rfl
    exact .inr ⟨b, o, rfl, by omega, fun j hj => ⟨(hg.cell this.2 this.1).trans (hc j hj).1, (hg.cell this.2 this.1).trans (hc j hj).2.1, (hg.cell this.2 this.1).trans (hc j hj).2.2⟩⟩
theorem CopAt.farG {w w' : World} {g lo : Nat} {c : Cop} {q : CA} (h : CopAt w w.heap.size c q) (hg : Grown (fun k => k = g) w w') (hn : QNe g q) (hi : QIn lo w.heap.size q) : CopAt w' w'.heap.size c q :=
  ⟨h.coal.farG hg (fun b o e => ⟨hn b o (.inl e), (hi b o (.inl e)).2⟩) hg.size, h.want.farG hg (fun b o e => ⟨hn b o (.inr (.inl e)), (hi b o (.inr (.inl e))).2⟩) hg.size,
    h.loss.farG hg (fun b o e => ⟨hn b o (.inr (.inr (.inl e))), (hi b o (.inr (.inr (.inl e)))).2⟩) hg.size, h.rds.farG hg (fun b o e => ⟨hn b o (.inr (.inr (.inr e))), (hi b o (.inr (.inr (.inr e)))).2⟩) hg.size⟩
structure J25 (r : Rm) (q : RA) (b0 : Nat) (W : World) (QQ : CA) (G : Nat) (done : Nat → Bool) (s : Nat → Value) (w : World) : Prop where
  gr : Below W.heap.size W w
  a0 : done 0 = true → s 5 = .pointer (some ⟨b0, 0, none⟩)
  a1 : done 1 = true → s 6 = copV r.cop q.q
  a2 : done 2 = true → s 7 = copV r.cop QQ
  a3 : done 3 = true → s 8 = .pointer (some ⟨b0, 11, none⟩)
  a4 : done 4 = true → s 9 = .int .i64 r.buckets
  a5 : done 5 = true → s 10 = .pointer (some ⟨b0, 12, none⟩)
  a6 : done 6 = true → s 11 = .int .i64 r.places
  a7 : done 7 = true → s 12 = .agg #[.int .i64 r.cop.last, .int .i64 r.cop.start, .int .i64 r.cop.most, .int .i64 r.cop.per, .int .i64 r.cop.shovels, .slice QQ.a1 r.cop.coal.length QQ.c1, .slice QQ.a2 r.cop.want.length QQ.c2, .int .i64 r.cop.hlo, .int .i64 r.cop.hhi, .slice QQ.a3 r.cop.loss.length QQ.c3, .slice QQ.a4 r.cop.rds.length QQ.c4, .int .i64 r.buckets, .int .i64 r.places, .slice none 0 0]
  fq : done 2 = true → CopAt w w.heap.size r.cop QQ ∧ QIn W.heap.size w.heap.size QQ
  a8 : done 8 = true → s 3 = .pointer (some ⟨G, 0, none⟩) ∧ W.heap.size ≤ G ∧ w.heap[G]? = some (.cells (if done 9 = true then #[.int .i64 r.cop.last, .int .i64 r.cop.start, .int .i64 r.cop.most, .int .i64 r.cop.per, .int .i64 r.cop.shovels, .slice QQ.a1 r.cop.coal.length QQ.c1, .slice QQ.a2 r.cop.want.length QQ.c2, .int .i64 r.cop.hlo, .int .i64 r.cop.hhi, .slice QQ.a3 r.cop.loss.length QQ.c3, .slice QQ.a4 r.cop.rds.length QQ.c4, .int .i64 r.buckets, .int .i64 r.places, .slice none 0 0] else #[.int .i64 0, .int .i64 0, .int .i64 0, .int .i64 0, .int .i64 0, .slice none 0 0, .slice none 0 0, .int .i64 0, .int .i64 0, .slice none 0 0, .slice none 0 0, .int .i64 0, .int .i64 0, .slice none 0 0]) 44 (0, 0))
  spq : done 2 = true → done 8 = true → QNe G QQ
def I25 (a0 : Act) (r : Rm) (q : RA) (b0 : Nat) (W : World) (done : Nat → Bool) (a : Act) (w : World) : Prop :=
  ∃ (QQ : CA) (G : Nat), Fr 3 12 a0 a ∧ J25 r q b0 W QQ G done (slots a) w
theorem I25.put {a0 : Act} {r : Rm} {q : RA} {b0 : Nat} {W : World} {QQ : CA} {G : Nat} {done : Nat → Bool} {a : Act} {w : World} (i : Nat) (u : Value)
    (hF : Fr 3 12 a0 a) (h0 : 12 < a0.tmps.size) (h1 : 3 ≤ i) (h2 : i ≤ 12) (hJ : J25 r q b0 W QQ G done (upd (slots a) i u) w) :
    I25 a0 r q b0 W done { tmps := a.tmps.setIfInBounds i u, defers := a.defers } w :=
  ⟨QQ, G, hF.put i u h1 h2 h0, by rw [slots_put a i u (by rw [hF.sz]; omega)]; exact hJ⟩
set_option maxRecDepth 100000 in
set_option maxHeartbeats 8000000 in
theorem r25 (ops : List Oper) (hops : Tryz.f25.body.bind (regionIn 1) = some ops) {Q : Exit → Act → World → Prop} (a0 : Act) (r : Rm) (q : RA) (b0 : Nat) (W : World)
    (hsz : a0.tmps.size = 39) (h1 : slots a0 1 = .pointer (some ⟨b0, 0, none⟩)) (hbx : Box W b0 (roomCs r q)) (hb0 : b0 < W.heap.size) (hq : CopAt W W.heap.size r.cop q.q) (hp : CPl r.cop q.q) (ht : Tiny r.cop)
    (hQ : ∀ a w (QQ : CA) (G : Nat), Fr 3 12 a0 a → Below W.heap.size W w → slots a 3 = .pointer (some ⟨G, 0, none⟩) → W.heap.size ≤ G → w.heap[G]? = some (.cells #[.int .i64 r.cop.last, .int .i64 r.cop.start, .int .i64 r.cop.most, .int .i64 r.cop.per, .int .i64 r.cop.shovels, .slice QQ.a1 r.cop.coal.length QQ.c1, .slice QQ.a2 r.cop.want.length QQ.c2, .int .i64 r.cop.hlo, .int .i64 r.cop.hhi, .slice QQ.a3 r.cop.loss.length QQ.c3, .slice QQ.a4 r.cop.rds.length QQ.c4, .int .i64 r.buckets, .int .i64 r.places, .slice none 0 0] 44 (0, 0)) → CopAt w w.heap.size r.cop QQ ∧ QIn W.heap.size w.heap.size QQ → QNe G QQ → Q .normal a w) :
    (Code.region 1 ops.toArray true).wp Tryz.prog Q a0 W := by
  simp only [Tryz.f25, regionIn, Option.bind_some] at hops
  simp at hops
  subst hops
  refine wp_region_inv (I25 a0 r q b0 W) tryz_mixed (by kernel_rfl) ⟨⟨none, 0, none, 0, none, 0, none, 0⟩, 0, Fr.refl _ _ _, ?_⟩ ?_ ?_
  · exact { gr := bl_dr (Below.refl _ _), a0 := fun h => (by cases h), a1 := fun h => (by cases h), a2 := fun h => (by cases h), a3 := fun h => (by cases h), a4 := fun h => (by cases h), a5 := fun h => (by cases h), a6 := fun h => (by cases h), a7 := fun h => (by cases h), fq := fun h => (by cases h), a8 := fun h => (by cases h), spq := fun h => (by cases h) }
  · refine ⟨?_, ?_, ?_, ?_, ?_, ?_, ?_, ?_, ?_, ?_, trivial⟩
    · rintro done a w hcl hdn hdep ⟨QQ, G, hF, hJ⟩ K hK
      have y1 : a.tmps[1]?.getD undef = .pointer (some ⟨b0, 0, none⟩) := (hF.same 1 (by omega)).trans h1
      clear hdep hcl
      go_simp
      exact hK _ _ (I25.put 5 _ hF (by omega) (by decide) (by decide) { hJ with a0 := fun _ => rfl })
    · rintro done a w hcl hdn hdep ⟨QQ, G, hF, hJ⟩ K hK
      have x0 : a.tmps[5]?.getD undef = .pointer (some ⟨b0, 0, none⟩) := hJ.a0 (hdep ⟨0, .data⟩ (by simp) rfl)
      have c0 : w.cell? ⟨b0, 0, none⟩ = some (.int .i64 r.cop.last) := (hbx.below hJ.gr hb0) 0
      have c1 : w.cell? ⟨b0, 1, none⟩ = some (.int .i64 r.cop.start) := (hbx.below hJ.gr hb0) 1
      have c2 : w.cell? ⟨b0, 2, none⟩ = some (.int .i64 r.cop.most) := (hbx.below hJ.gr hb0) 2
      have c3 : w.cell? ⟨b0, 3, none⟩ = some (.int .i64 r.cop.per) := (hbx.below hJ.gr hb0) 3
      have c4 : w.cell? ⟨b0, 4, none⟩ = some (.int .i64 r.cop.shovels) := (hbx.below hJ.gr hb0) 4
      have c5 : w.cell? ⟨b0, 5, none⟩ = some (.slice q.q.a1 r.cop.coal.length q.q.c1) := (hbx.below hJ.gr hb0) 5
      have c6 : w.cell? ⟨b0, 6, none⟩ = some (.slice q.q.a2 r.cop.want.length q.q.c2) := (hbx.below hJ.gr hb0) 6
      have c7 : w.cell? ⟨b0, 7, none⟩ = some (.int .i64 r.cop.hlo) := (hbx.below hJ.gr hb0) 7
      have c8 : w.cell? ⟨b0, 8, none⟩ = some (.int .i64 r.cop.hhi) := (hbx.below hJ.gr hb0) 8
      have c9 : w.cell? ⟨b0, 9, none⟩ = some (.slice q.q.a3 r.cop.loss.length q.q.c3) := (hbx.below hJ.gr hb0) 9
      have c10 : w.cell? ⟨b0, 10, none⟩ = some (.slice q.q.a4 r.cop.rds.length q.q.c4) := (hbx.below hJ.gr hb0) 10
      clear hdep hcl
      go_simp
      exact hK _ _ (I25.put 6 _ hF (by omega) (by decide) (by decide) { hJ with a1 := fun _ => rfl })
    · rintro done a w hcl hdn hdep ⟨QQ, G, hF, hJ⟩ K hK
      have x1 : a.tmps[6]?.getD undef = copV r.cop q.q := hJ.a1 (hdep ⟨1, .data⟩ (by simp) rfl)
      have h7 : done 7 = false := by
        cases h : done 7 with
        | false => rfl
        | true => have := hcl 7 _ rfl h ⟨2, .data⟩ (by simp) rfl; rw [hdn] at this; cases this
      have h9 : done 9 = false := by
        cases h : done 9 with
        | false => rfl
        | true => have := hcl 9 _ rfl h ⟨7, .data⟩ (by simp) rfl; rw [h7] at this; cases this
      clear hdep hcl
      go_simp
      refine (copper_c r.cop q.q w (hq.up hJ.gr) hp ht).mono ?_
      rintro e w1 ⟨QQ', rfl, hca, hqi, hb⟩
      exact hK _ _ (I25.put (QQ := QQ') 7 _ hF (by omega) (by decide) (by decide) { hJ with gr := bl_tr hJ.gr hb, a2 := fun _ => rfl, a7 := fun h => (by have h' : done 7 = true := h; rw [h7] at h'; cases h'), fq := fun _ => ⟨hca, hqi.wide hJ.gr.size (Nat.le_refl _)⟩, a8 := fun h => (let ⟨g1, g2, g3⟩ := hJ.a8 h; ⟨g1, g2, by rw [h9] at g3; exact (hb.block _ (Array.getElem?_eq_some_iff.1 g3).1).trans (by rw [show also 2 done 9 = false from h9]; exact g3)⟩), spq := fun _ h => (let ⟨g1, g2, g3⟩ := hJ.a8 h; fun b o h e => by have h1 := hqi b o h; have h2 := (Array.getElem?_eq_some_iff.1 g3).1; omega) })
    · rintro done a w hcl hdn hdep ⟨QQ, G, hF, hJ⟩ K hK
      have y1 : a.tmps[1]?.getD undef = .pointer (some ⟨b0, 0, none⟩) := (hF.same 1 (by omega)).trans h1
      clear hdep hcl
      go_simp
      exact hK _ _ (I25.put 8 _ hF (by omega) (by decide) (by decide) { hJ with a3 := fun _ => rfl })
    · rintro done a w hcl hdn hdep ⟨QQ, G, hF, hJ⟩ K hK
      have x3 : a.tmps[8]?.getD undef = .pointer (some ⟨b0, 11, none⟩) := hJ.a3 (hdep ⟨3, .data⟩ (by simp) rfl)
      have c11 : w.cell? ⟨b0, 11, none⟩ = some (.int .i64 r.buckets) := (hbx.below hJ.gr hb0) 11
      clear hdep hcl
      go_simp
      exact hK _ _ (I25.put 9 _ hF (by omega) (by decide) (by decide) { hJ with a4 := fun _ => rfl })
    · rintro done a w hcl hdn hdep ⟨QQ, G, hF, hJ⟩ K hK
      have y1 : a.tmps[1]?.getD undef = .pointer (some ⟨b0, 0, none⟩) := (hF.same 1 (by omega)).trans h1
      clear hdep hcl
      go_simp
      exact hK _ _ (I25.put 10 _ hF (by omega) (by decide) (by decide) { hJ with a5 := fun _ => rfl })
    · rintro done a w hcl hdn hdep ⟨QQ, G, hF, hJ⟩ K hK
      have x5 : a.tmps[10]?.getD undef = .pointer (some ⟨b0, 12, none⟩) := hJ.a5 (hdep ⟨5, .data⟩ (by simp) rfl)
      have c12 : w.cell? ⟨b0, 12, none⟩ = some (.int .i64 r.places) := (hbx.below hJ.gr hb0) 12
      clear hdep hcl
      go_simp
      exact hK _ _ (I25.put 11 _ hF (by omega) (by decide) (by decide) { hJ with a6 := fun _ => rfl })
    · rintro done a w hcl hdn hdep ⟨QQ, G, hF, hJ⟩ K hK
      have x2 : a.tmps[7]?.getD undef = copV r.cop QQ := hJ.a2 (hdep ⟨2, .data⟩ (by simp) rfl)
      have x4 : a.tmps[9]?.getD undef = .int .i64 r.buckets := hJ.a4 (hdep ⟨4, .data⟩ (by simp) rfl)
      have x6 : a.tmps[11]?.getD undef = .int .i64 r.places := hJ.a6 (hdep ⟨6, .data⟩ (by simp) rfl)
      clear hdep hcl
      go_simp
      exact hK _ _ (I25.put 12 _ hF (by omega) (by decide) (by decide) { hJ with a7 := fun _ => rfl })
    · rintro done a w hcl hdn hdep ⟨QQ, G, hF, hJ⟩ K hK
      have h9 : done 9 = false := by
        cases h : done 9 with
        | false => rfl
        | true => have := hcl 9 _ rfl h ⟨8, .data⟩ (by simp) rfl; rw [hdn] at this; cases this
      clear hdep hcl
      go_simp
      exact hK _ _ (I25.put (G := w.heap.size) 3 _ hF (by omega) (by decide) (by decide) { hJ with gr := bl_al hJ.gr _, fq := fun h => (let p := (hJ.fq h); ⟨p.1.up (bl_al (Below.refl _ _) _), p.2.wide (Nat.le_refl _) ((bl_al (Below.refl _ _) _)).size⟩), a8 := fun _ => ⟨rfl, hJ.gr.size, by rw [show also 8 done 9 = false from h9]; exact World.alloc_heap_new _ _⟩, spq := fun h _ => (fun b o hh e => by have h1 := (hJ.fq h).2 b o hh; omega) })
    · rintro done a w hcl hdn hdep ⟨QQ, G, hF, hJ⟩ K hK
      obtain ⟨g1, g2, g3⟩ := hJ.a8 (hdep ⟨8, .data⟩ (by simp) rfl)
      have x8 : a.tmps[3]?.getD undef = .pointer (some ⟨G, 0, none⟩) := g1
      have x7 : a.tmps[12]?.getD undef = .agg #[.int .i64 r.cop.last, .int .i64 r.cop.start, .int .i64 r.cop.most, .int .i64 r.cop.per, .int .i64 r.cop.shovels, .slice QQ.a1 r.cop.coal.length QQ.c1, .slice QQ.a2 r.cop.want.length QQ.c2, .int .i64 r.cop.hlo, .int .i64 r.cop.hhi, .slice QQ.a3 r.cop.loss.length QQ.c3, .slice QQ.a4 r.cop.rds.length QQ.c4, .int .i64 r.buckets, .int .i64 r.places, .slice none 0 0] := hJ.a7 (hdep ⟨7, .data⟩ (by simp) rfl)
      rw [hdn] at g3
      have hfz : ∀ o, w.frozen? ⟨G, o, none⟩ = false := fun o => by simp [World.frozen?, g3]
      have hcz : ∀ o, w.cell? ⟨G, o, none⟩ = (#[.int .i64 0, .int .i64 0, .int .i64 0, .int .i64 0, .int .i64 0, .slice none 0 0, .slice none 0 0, .int .i64 0, .int .i64 0, .slice none 0 0, .slice none 0 0, .int .i64 0, .int .i64 0, .slice none 0 0])[o]? := fun o => by simp [World.cell?, g3]
      have d2 : done 2 = true := hdep ⟨2, .phase⟩ (by simp) rfl
      have dG : done 8 = true := hdep ⟨8, .data⟩ (by simp) rfl
      clear hdep hcl
      go_simp
      show K _ (setAll w G 0 [(.int .i64 r.cop.last), (.int .i64 r.cop.start), (.int .i64 r.cop.most), (.int .i64 r.cop.per), (.int .i64 r.cop.shovels), (.slice QQ.a1 r.cop.coal.length QQ.c1), (.slice QQ.a2 r.cop.want.length QQ.c2), (.int .i64 r.cop.hlo), (.int .i64 r.cop.hhi), (.slice QQ.a3 r.cop.loss.length QQ.c3), (.slice QQ.a4 r.cop.rds.length QQ.c4), (.int .i64 r.buckets), (.int .i64 r.places), (.slice none 0 0)])
      have sq := hJ.spq d2 dG
      have hgw := setAll_grown w G [(.int .i64 r.cop.last), (.int .i64 r.cop.start), (.int .i64 r.cop.most), (.int .i64 r.cop.per), (.int .i64 r.cop.shovels), (.slice QQ.a1 r.cop.coal.length QQ.c1), (.slice QQ.a2 r.cop.want.length QQ.c2), (.int .i64 r.cop.hlo), (.int .i64 r.cop.hhi), (.slice QQ.a3 r.cop.loss.length QQ.c3), (.slice QQ.a4 r.cop.rds.length QQ.c4), (.int .i64 r.buckets), (.int .i64 r.places), (.slice none 0 0)] 0
      have hhp := setAll_full w G [(.int .i64 r.cop.last), (.int .i64 r.cop.start), (.int .i64 r.cop.most), (.int .i64 r.cop.per), (.int .i64 r.cop.shovels), (.slice QQ.a1 r.cop.coal.length QQ.c1), (.slice QQ.a2 r.cop.want.length QQ.c2), (.int .i64 r.cop.hlo), (.int .i64 r.cop.hhi), (.slice QQ.a3 r.cop.loss.length QQ.c3), (.slice QQ.a4 r.cop.rds.length QQ.c4), (.int .i64 r.buckets), (.int .i64 r.places), (.slice none 0 0)] g3 rfl
      have hgr := hJ.gr.trans (hgw.below hJ.gr.size (fun k hk => by omega))
      exact hK _ _ ⟨_, _, hF, { hJ with gr := hgr, fq := fun _ => (let p := (hJ.fq d2); ⟨p.1.farG hgw sq p.2, p.2.wide (Nat.le_refl _) hgw.size⟩), a8 := fun _ => ⟨g1, g2, hhp⟩ }⟩
  · rintro done a w hd ⟨QQ, G, hF, hJ⟩
    obtain ⟨hg1, hg2, hg3⟩ := hJ.a8 (hd 8 (by decide))
    rw [hd 9 (by decide)] at hg3
    exact hQ a w QQ G hF hJ.gr hg1 hg2 hg3 (hJ.fq (hd 2 (by decide))) (hJ.spq (hd 2 (by decide)) (hd 8 (by decide)))
end Go.Proofs.YtpgnplmjfhdncaaGreat
/- The conversion of rooms. -/
namespace Go.Proofs.YtpgnplmjfhdncaaGreat
open Go.RowKit
set_option linter.unusedVariables false
theorem CopAt.grownT {T : Nat → Prop} {w w' : World} {c : Cop} {q : CA} (h : CopAt w w.heap.size c q) (hg : Grown T w w') (hb : ∀ b o, (q.a1 = some ⟨b, o, none⟩ ∨ q.a2 = some ⟨b, o, none⟩ ∨ q.a3 = some ⟨b, o, none⟩ ∨ q.a4 = some ⟨b, o, none⟩) → ¬ T b ∧ b < w.heap.size) : CopAt w' w'.heap.size c q := by
  refine ⟨?_, ?_, ?_, ?_⟩
  · rcases h.coal with h1 | ⟨b, o, e, hlt, hc⟩
    · exact .inl h1
    · have := hb b o (.inl e)
      exact .inr ⟨b, o, e, by have := hg.size; omega, fun j hj => (hg.cell this.2 this.1).trans (hc j hj)⟩
  · rcases h.want with h1 | ⟨b, o, e, hlt, hc⟩
    · exact .inl h1
    · have := hb b o (.inr (.inl e))
      exact .inr ⟨b, o, e, by have := hg.size; omega, fun j hj => (hg.cell this.2 this.1).trans (hc j hj)⟩
  · rcases h.loss with h1 | ⟨b, o, e, hlt, hc⟩
    · exact .inl h1
    · have := hb b o (.inr (.inr (.inl e)))
      exact .inr ⟨b, o, e, by have := hg.size; omega, fun j hj => ⟨(hg.cell this.2 this.1).trans (hc j hj).1, (hg.cell this.2 this.1).trans (hc j hj).2⟩⟩
  · rcases h.rds with h1 | ⟨b, o, e, hlt, hc⟩
    · exact .inl h1
    · have := hb b o (.inr (.inr (.inr e)))
      exact .inr ⟨b, o, e, by have := hg.size; omega, fun j hj => ⟨(hg.cell this.2 this.1).trans (hc j hj).1, (hg.cell this.2 this.1).trans (hc j hj).2.1, (hg.cell this.2 this.1).trans (hc j hj).2.2⟩⟩
theorem Fr.lit39a {a0 a : Act} {v3 : Value} (h : Fr 3 12 a0 a) (hs : a0.tmps.size = 39) (h3 : slots a 3 = v3) : ∃ f : Nat → Value, a = { tmps := #[slots a0 0, slots a0 1, slots a0 2, v3, f 4, f 5, f 6, f 7, f 8, f 9, f 10, f 11, f 12, slots a0 13, slots a0 14, slots a0 15, slots a0 16, slots a0 17, slots a0 18, slots a0 19, slots a0 20, slots a0 21, slots a0 22, slots a0 23, slots a0 24, slots a0 25, slots a0 26, slots a0 27, slots a0 28, slots a0 29, slots a0 30, slots a0 31, slots a0 32, slots a0 33, slots a0 34, slots a0 35, slots a0 36, slots a0 37, slots a0 38], defers := a0.defers } := by
  refine ⟨slots a, ?_⟩
  have := h.lit
  rw [hs] at this
  subst h3
  exact this
theorem Fr.lit39b {a0 a : Act}  (h : Fr 20 37 a0 a) (hs : a0.tmps.size = 39)  : ∃ f : Nat → Value, a = { tmps := #[slots a0 0, slots a0 1, slots a0 2, slots a0 3, slots a0 4, slots a0 5, slots a0 6, slots a0 7, slots a0 8, slots a0 9, slots a0 10, slots a0 11, slots a0 12, slots a0 13, slots a0 14, slots a0 15, slots a0 16, slots a0 17, slots a0 18, slots a0 19, f 20, f 21, f 22, f 23, f 24, f 25, f 26, f 27, f 28, f 29, f 30, f 31, f 32, f 33, f 34, f 35, f 36, f 37, slots a0 38], defers := a0.defers } := by
  refine ⟨slots a, ?_⟩
  have := h.lit
  rw [hs] at this
  exact this
set_option maxRecDepth 100000 in
set_option maxHeartbeats 8000000 in
theorem room25_c (r : Rm) (q : RA) (w : World) (hq : RoomAt w w.heap.size r q) (hp : CPl r.cop q.q) (ht : Tiny r.cop) (hbn : r.baths.length ≤ 10000) :
    Calls Tryz.prog 25 #[roomV r q] w fun e w' => ∃ q', e = .returned (roomV r q') ∧ RoomAt w' w'.heap.size r q' ∧ Below w.heap.size w w' := by
  have HQ := Lib.hid hq
  have HT := Lib.hid ht
  have HP := Lib.hid hp
  have HBN := Lib.hid hbn
  clear hq ht hp
  go_enter Tryz.func25, Tryz.ntmps25
  go_wp2
  have HBX : Hid (Box ((w.alloc (.cells (roomCs r q) 31)).alloc (.cells #[.int .i64 0, .int .i64 0, .int .i64 0, .int .i64 0, .int .i64 0, .slice none 0 0, .slice none 0 0, .int .i64 0, .int .i64 0, .slice none 0 0, .slice none 0 0, .int .i64 0, .int .i64 0, .slice none 0 0] 44)) w.heap.size (roomCs r q)) := (Box.new _ _ _ _).al (by simp) _
  have HZ0 : Hid (((w.alloc (.cells (roomCs r q) 31)).alloc (.cells #[.int .i64 0, .int .i64 0, .int .i64 0, .int .i64 0, .int .i64 0, .slice none 0 0, .slice none 0 0, .int .i64 0, .int .i64 0, .slice none 0 0, .slice none 0 0, .int .i64 0, .int .i64 0, .slice none 0 0] 44)).heap[w.heap.size + 1]? = some (.cells #[.int .i64 0, .int .i64 0, .int .i64 0, .int .i64 0, .int .i64 0, .slice none 0 0, .slice none 0 0, .int .i64 0, .int .i64 0, .slice none 0 0, .slice none 0 0, .int .i64 0, .int .i64 0, .slice none 0 0] 44 (0, 0))) := by have := World.alloc_heap_new (w.alloc (.cells (roomCs r q) 31)) (.cells #[.int .i64 0, .int .i64 0, .int .i64 0, .int .i64 0, .int .i64 0, .slice none 0 0, .slice none 0 0, .int .i64 0, .int .i64 0, .slice none 0 0, .slice none 0 0, .int .i64 0, .int .i64 0, .slice none 0 0] 44); rw [World.size_alloc] at this; exact this
  refine r25 _ rfl _ r q w.heap.size _ rfl rfl HBX.out (by simp; omega) (HQ.out.cop.up (bl_al (bl_al (Below.refl _ _) _) _)) HP.out HT.out ?_
  intro a w2 Q G hF hb h3 hg hgh hfq hne
  have HB2 := Lib.hid (bl_tr (bl_al (bl_al (Below.refl w.heap.size w) _) _) hb)
  have HBX2 : Hid (Box w2 w.heap.size (roomCs r q)) := HBX.out.bl (by simp) hb
  have HZ2 : Hid (w2.heap[w.heap.size + 1]? = some (.cells #[.int .i64 0, .int .i64 0, .int .i64 0, .int .i64 0, .int .i64 0, .slice none 0 0, .slice none 0 0, .int .i64 0, .int .i64 0, .slice none 0 0, .slice none 0 0, .int .i64 0, .int .i64 0, .slice none 0 0] 44 (0, 0))) := (hb.block _ (by simp)).trans HZ0.out
  have HG : Hid (w.heap.size + 2 ≤ G) := by simpa [Hid] using hg
  have HGS : Hid (G < w2.heap.size) := (Array.getElem?_eq_some_iff.1 hgh).1
  have HGH := Lib.hid hgh
  have HCA := Lib.hid hfq.1
  have HQI : Hid (QIn (w.heap.size + 2) w2.heap.size Q) := by have := hfq.2; simp only [World.size_alloc] at this; exact this
  have HNE := Lib.hid hne
  obtain ⟨f, rfl⟩ := hF.lit39a rfl h3
  clear hF h3 hb hg hgh hfq hne
  simp only [slots, List.getElem?_toArray, List.getElem?_cons_succ, List.getElem?_cons_zero, Option.getD_some]
  go_wp2
  go_loopw [4] (fun i wr => ∃ (j : Nat) (v : Value), j ≤ r.baths.length ∧ i = .int .i64 j ∧ Grown (fun k => k = G ∨ w2.heap.size ≤ k) w2 wr ∧ wr.heap[G]? = some (.cells #[.int .i64 r.cop.last, .int .i64 r.cop.start, .int .i64 r.cop.most, .int .i64 r.cop.per, .int .i64 r.cop.shovels, .slice Q.a1 r.cop.coal.length Q.c1, .slice Q.a2 r.cop.want.length Q.c2, .int .i64 r.cop.hlo, .int .i64 r.cop.hhi, .slice Q.a3 r.cop.loss.length Q.c3, .slice Q.a4 r.cop.rds.length Q.c4, .int .i64 r.buckets, .int .i64 r.places, v] 44 (0, 0)) ∧ wr.ownsRow w2.heap.size 119 2 v j ((r.baths.take j).flatMap sc2)) (fun i _ => r.baths.length - (intOf i).toNat)
  case atStart => exact ⟨0, _, Nat.zero_le _, rfl, Grown.refl _ _, HGH.out, World.ownsRow_nil _ _ _ _⟩
  case round =>
    obtain ⟨j, v, hj, rfl, hgr, hgc, hrow⟩ := hrel
    have HGR := Lib.hid hgr
    have HGC := Lib.hid hgc
    have HROW := Lib.hid hrow
    have hG := HG.out
    have hGS := HGS.out
    have hbx : Box wr w.heap.size (roomCs r q) := hgr.box HBX2.out (HBX2.out.lt (by simp)) (by omega)
    have HBXR := Lib.hid hbx
    have HBR : Hid (Below w.heap.size w wr) := HB2.out.trans (hgr.below (by have := HB2.out.size; omega) (fun k hk => by omega))
    have k13 : wr.cell? ⟨w.heap.size, 13, none⟩ = some (.slice q.a5 r.baths.length q.c5) := hbx 13
    have hjb : (j : Int) ≤ 10000 := by have := HBN.out; omega
    clear hgr hgc hrow hbx hG hGS
    by_cases hlt : j < r.baths.length
    · obtain ⟨b, o, ha⟩ := HQ.out.baths.some_ (by omega)
      have hx' := HQ.out.baths
      rw [ha] at hx'
      have hbw : b < w.heap.size := by
        obtain ⟨b', o', e, hb', _⟩ := hx'.at_ (by omega)
        cases e
        exact hb'
      have HBW := Lib.hid hbw
      obtain ⟨e1, e2⟩ := (hx'.below HBR.out).get j hlt
      have HE1 := Lib.hid e1
      have HE2 := Lib.hid e2
      have hj1 : (j : Int) < (r.baths.length : Int) := by omega
      have h9 : wr.cell? ⟨w.heap.size, 13, none⟩ = some (.slice (some ⟨b, o, none⟩) r.baths.length q.c5) := by rw [← ha]; exact k13
      have H9 := Lib.hid h9
      clear hx' ha e1 e2 h9 hbw
      go_wp2
      refine r25b _ rfl _ w.heap.size j b o r.baths.length q.c5 (p1 r.baths j) (p2 r.baths j) (.int .i64 r.cop.last) (.int .i64 r.cop.start) (.int .i64 r.cop.most) (.int .i64 r.cop.per) (.int .i64 r.cop.shovels) (.slice Q.a1 r.cop.coal.length Q.c1) (.slice Q.a2 r.cop.want.length Q.c2) (.int .i64 r.cop.hlo) (.int .i64 r.cop.hhi) (.slice Q.a3 r.cop.loss.length Q.c3) (.slice Q.a4 r.cop.rds.length Q.c4) (.int .i64 r.buckets) (.int .i64 r.places) G w2.heap.size j v ((r.baths.take j).flatMap sc2) _ rfl HGC.out HROW.out HGR.out.size HGS.out (by have := HBN.out; omega) rfl rfl rfl hlt (by have := HBN.out; omega) (by have := HG.out; omega) (fun e => by have h1 := (HROW.out.lt _ e.symm).1; have h2 := HG.out; have h3 := HGS.out; omega) (by have := HBW.out; have := HG.out; omega) (fun e => by have h1 := (HROW.out.lt _ e.symm).1; have h2 := HG.out; have h3 := HGS.out; have := HBW.out; omega) H9.out HE1.out HE2.out ?_
      intro a w8 u hF8 hg8 hbx8 hrw8
      have HG8 := Lib.hid hg8
      have HBX8 := Lib.hid hbx8
      have HRW8 := Lib.hid hrw8
      obtain ⟨f8, rfl⟩ := hF8.lit39b rfl
      clear hF8 hg8 hbx8 hrw8
      simp only [slots, List.getElem?_toArray, List.getElem?_cons_succ, List.getElem?_cons_zero, Option.getD_some]
      go_wp2
      go_roundw
      case rel =>
        refine ⟨j + 1, u, by omega, by go_num, HGR.out.trans (HG8.out.mono fun k _ t => by
          rcases t with rfl | t
          · exact .inl rfl
          · exact .inr (HROW.out.lt k t.symm).1), HBX8.out, ?_⟩
        rw [take_snoc2 _ _ hlt]
        exact HRW8.out
      case measure => simp [intOf]; omega
    · have hje : j = r.baths.length := by omega
      have hrw := HROW.out
      rw [hje, List.take_of_length_le (Nat.le_refl _)] at hrw
      have hlen : ¬ ((j : Int) < (r.baths.length : Int)) := by omega
      obtain ⟨A3, K3, e3, -⟩ := own_pairs hrw
      have hgc := HGC.out
      rw [e3] at hgc hrw
      have HRL2 := Lib.hid hrw
      have HGW : Hid (G < wr.heap.size) := (Array.getElem?_eq_some_iff.1 hgc).1
      have hz : wr.heap[w.heap.size + 1]? = some (.cells #[.int .i64 0, .int .i64 0, .int .i64 0, .int .i64 0, .int .i64 0, .slice none 0 0, .slice none 0 0, .int .i64 0, .int .i64 0, .slice none 0 0, .slice none 0 0, .int .i64 0, .int .i64 0, .slice none 0 0] 44 (0, 0)) := (HGR.out.block _ (Array.getElem?_eq_some_iff.1 HZ2.out).1 (by have := HG.out; have := HGS.out; have := (Array.getElem?_eq_some_iff.1 HZ2.out).1; omega)).trans HZ2.out
      have HZ := Lib.hid hz
      have hfz : ∀ o, wr.frozen? ⟨w.heap.size + 1, o, none⟩ = false := fun o => by simp [World.frozen?, hz]
      have hcz : ∀ o, wr.cell? ⟨w.heap.size + 1, o, none⟩ = (#[.int .i64 0, .int .i64 0, .int .i64 0, .int .i64 0, .int .i64 0, .slice none 0 0, .slice none 0 0, .int .i64 0, .int .i64 0, .slice none 0 0, .slice none 0 0, .int .i64 0, .int .i64 0, .slice none 0 0])[o]? := fun o => by simp [World.cell?, hz]
      have hgcz : ∀ o, wr.cell? ⟨G, o, none⟩ = (#[.int .i64 r.cop.last, .int .i64 r.cop.start, .int .i64 r.cop.most, .int .i64 r.cop.per, .int .i64 r.cop.shovels, .slice Q.a1 r.cop.coal.length Q.c1, .slice Q.a2 r.cop.want.length Q.c2, .int .i64 r.cop.hlo, .int .i64 r.cop.hhi, .slice Q.a3 r.cop.loss.length Q.c3, .slice Q.a4 r.cop.rds.length Q.c4, .int .i64 r.buckets, .int .i64 r.places, .slice A3 r.baths.length K3])[o]? := fun o => by simp [World.cell?, hgc]
      have HQ3 : Hid (CopAt wr wr.heap.size r.cop Q ∧ ∀ b o, (Q.a1 = some ⟨b, o, none⟩ ∨ Q.a2 = some ⟨b, o, none⟩ ∨ Q.a3 = some ⟨b, o, none⟩ ∨ Q.a4 = some ⟨b, o, none⟩) → b < wr.heap.size) := by
        have hb : ∀ b o, (Q.a1 = some ⟨b, o, none⟩ ∨ Q.a2 = some ⟨b, o, none⟩ ∨ Q.a3 = some ⟨b, o, none⟩ ∨ Q.a4 = some ⟨b, o, none⟩) → ¬ (b = G ∨ w2.heap.size ≤ b) ∧ b < w2.heap.size := fun b o h => by have h1 := HNE.out b o h; have h2 := HQI.out b o h; omega
        exact ⟨HCA.out.grownT HGR.out hb, fun b o h => by have := (hb b o h).2; have := HGR.out.size; omega⟩
      clear hje hrw e3 hgc hz HROW HGC
      go_wp2
      have hfin := setAll_full wr (w.heap.size + 1) [.int .i64 r.cop.last, .int .i64 r.cop.start, .int .i64 r.cop.most, .int .i64 r.cop.per, .int .i64 r.cop.shovels, .slice Q.a1 r.cop.coal.length Q.c1, .slice Q.a2 r.cop.want.length Q.c2, .int .i64 r.cop.hlo, .int .i64 r.cop.hhi, .slice Q.a3 r.cop.loss.length Q.c3, .slice Q.a4 r.cop.rds.length Q.c4, .int .i64 r.buckets, .int .i64 r.places, .slice A3 r.baths.length K3] HZ.out rfl
      have hgw := setAll_grown wr (w.heap.size + 1) [.int .i64 r.cop.last, .int .i64 r.cop.start, .int .i64 r.cop.most, .int .i64 r.cop.per, .int .i64 r.cop.shovels, .slice Q.a1 r.cop.coal.length Q.c1, .slice Q.a2 r.cop.want.length Q.c2, .int .i64 r.cop.hlo, .int .i64 r.cop.hhi, .slice Q.a3 r.cop.loss.length Q.c3, .slice Q.a4 r.cop.rds.length Q.c4, .int .i64 r.buckets, .int .i64 r.places, .slice A3 r.baths.length K3] 0
      refine bodyPost_ret (v := roomV r ⟨Q, A3, K3⟩) (results_cell_row Tryz.results25 _ _ (w.heap.size + 1) 44 _ (0, 0) _ (by rfl) hfin Tryz.underlying44 rfl (by kernel_rfl)) rfl ⟨⟨Q, A3, K3⟩, rfl, ?_, ?_⟩
      · have hqe : QNe (w.heap.size + 1) Q := fun b o h e => by have := (HQI.out b o h).1; omega
        have hqi : QIn 0 wr.heap.size Q := fun b o h => ⟨Nat.zero_le _, HQ3.out.2 b o h⟩
        obtain ⟨B3, l3, g3, i3⟩ := own_pairs (own_grownG HRL2.out hgw (fun e => by have := (HRL2.out.lt _ e.symm).1; have := HG.out; have := HGS.out; omega))
        cases g3
        exact ⟨HQ3.out.1.farG hgw hqe hqi, i3⟩
      · exact HBR.out.trans (hgw.below HBR.out.size (fun k hk => by omega))
end Go.Proofs.YtpgnplmjfhdncaaGreat
/- Thin, Full, dry. -/
namespace Go.Proofs.YtpgnplmjfhdncaaGreat
open Go.RowKit
set_option linter.unusedVariables false
def thinB (c : Cop) : Bool := !(decide ((30 : Int) < (c.coal.length : Int)) || decide ((30 : Int) < (c.want.length : Int)) || decide ((30 : Int) < (c.loss.length : Int)) || decide ((30 : Int) < (c.rds.length : Int)))
set_option maxRecDepth 100000 in
set_option maxHeartbeats 4000000 in
theorem thin81_c (c : Cop) (q : CA) (w : World) : Calls Tryz.prog 81 #[copV c q] w fun e w' => e = .returned (.bool (thinB c)) ∧ Below w.heap.size w w' := by
  cases h0 : decide ((30 : Int) < (c.coal.length : Int)) with
  | true =>
    have HF : Hid (thinB c = false) := by unfold Hid; simp only [thinB, h0]; simp
    go_enter Tryz.func81, Tryz.ntmps81
    go_wp2
    go_ret
    exact ⟨by rw [HF.out]; rfl, bl_al (Below.refl _ _) _⟩
  | false =>
    cases h1 : decide ((30 : Int) < (c.want.length : Int)) with
    | true =>
      have HF : Hid (thinB c = false) := by unfold Hid; simp only [thinB, h0, h1]; simp
      go_enter Tryz.func81, Tryz.ntmps81
      go_wp2
      go_ret
      exact ⟨by rw [HF.out]; rfl, bl_al (Below.refl _ _) _⟩
    | false =>
      cases h2 : decide ((30 : Int) < (c.loss.length : Int)) with
      | true =>
        have HF : Hid (thinB c = false) := by unfold Hid; simp only [thinB, h0, h1, h2]; simp
        go_enter Tryz.func81, Tryz.ntmps81
        go_wp2
        go_ret
        exact ⟨by rw [HF.out]; rfl, bl_al (Below.refl _ _) _⟩
      | false =>
        cases h3 : decide ((30 : Int) < (c.rds.length : Int)) with
        | true =>
          have HF : Hid (thinB c = false) := by unfold Hid; simp only [thinB, h0, h1, h2, h3]; simp
          go_enter Tryz.func81, Tryz.ntmps81
          go_wp2
          go_ret
          exact ⟨by rw [HF.out]; rfl, bl_al (Below.refl _ _) _⟩
        | false =>
          have HF : Hid (thinB c = true) := by unfold Hid; simp only [thinB, h0, h1, h2, h3]; simp
          go_enter Tryz.func81, Tryz.ntmps81
          go_wp2
          go_ret
          exact ⟨by rw [HF.out]; rfl, bl_al (Below.refl _ _) _⟩
def shortB (r : Rm) : Bool := thinB r.cop && decide ((r.baths.length : Int) ≤ 30)
set_option maxRecDepth 100000 in
set_option maxHeartbeats 4000000 in
theorem short_c (r : Rm) (q : RA) (w : World) : Calls Tryz.prog 22 #[roomV r q] w fun e w' => e = .returned (.bool (shortB r)) ∧ Below w.heap.size w w' := by
  cases ht : thinB r.cop with
  | false =>
    have HF : Hid (shortB r = false) := by unfold Hid; simp only [shortB, ht]; simp
    have HC : Hid (∀ w, Calls Tryz.prog 81 #[copV r.cop q.q] w fun e w' => e = .returned (.bool false) ∧ Below w.heap.size w w') := fun w => by have := thin81_c r.cop q.q w; rw [ht] at this; exact this
    clear ht
    go_enter Tryz.func22, Tryz.ntmps22
    go_wp2_with (go_at_call 81; refine (HC.out _).mono ?_; rintro e w1 ⟨rfl, hb⟩; have HB := Lib.hid (bl_tr (bl_al (Below.refl w.heap.size w) _) hb); clear hb)
    go_ret
    exact ⟨by rw [HF.out]; rfl, HB.out⟩
  | true =>
    have HC : Hid (∀ w, Calls Tryz.prog 81 #[copV r.cop q.q] w fun e w' => e = .returned (.bool true) ∧ Below w.heap.size w w') := fun w => by have := thin81_c r.cop q.q w; rw [ht] at this; exact this
    have HF : Hid (shortB r = decide ((r.baths.length : Int) ≤ 30)) := by unfold Hid; simp only [shortB, ht, Bool.true_and]
    clear ht
    go_enter Tryz.func22, Tryz.ntmps22
    go_wp2_with (go_at_call 81; refine (HC.out _).mono ?_; rintro e w1 ⟨rfl, hb⟩; have HX : Hid (Box w1 w.heap.size (roomCs r q)) := (Box.new w (roomCs r q) 31 (0, 0)).bl (by simp) hb; have hbx := HX.out; unfold Box roomCs at hbx; have HB := Lib.hid (bl_tr (bl_al (Below.refl w.heap.size w) _) hb); clear hb)
    go_ret
    exact ⟨by rw [HF.out]; rfl, HB.out⟩
theorem short_small {r : Rm} (h : shortB r = true) : SmallR r.cop ∧ Tiny r.cop ∧ Small r.cop ∧ r.baths.length ≤ 30 ∧ r.cop.coal.length ≤ 30 ∧ r.cop.want.length ≤ 30 ∧ r.cop.loss.length ≤ 30 ∧ r.cop.rds.length ≤ 30 := by
  simp only [shortB, thinB, Bool.and_eq_true, Bool.not_eq_true', Bool.or_eq_false_iff, decide_eq_false_iff_not, decide_eq_true_eq] at h
  obtain ⟨⟨⟨⟨h1, h2⟩, h3⟩, h4⟩, h5⟩ := h
  exact ⟨⟨by omega, by omega, by omega, by omega⟩, ⟨by omega, by omega, by omega, by omega⟩, ⟨by omega, by omega, by omega, by omega⟩, by omega, by omega, by omega, by omega, by omega⟩
def ThinB (r : Rm) : Bool := shortB r && (!(roomErr r == 0) || (decide ((r.baths.length : Int) ≤ 4) && decide (r.places ≤ 3)))
set_option maxRecDepth 100000 in
set_option maxHeartbeats 4000000 in
theorem thin_c (r : Rm) (q : RA) (w : World) (hq : RoomAt w w.heap.size r q) : Calls Tryz.prog 32 #[roomV r q] w fun e w' => e = .returned (.bool (ThinB r)) ∧ Below w.heap.size w w' := by
  have HQ := Lib.hid hq
  clear hq
  cases hs : shortB r with
  | false =>
    have HF : Hid (ThinB r = false) := by unfold Hid; simp only [ThinB, hs, Bool.false_and]
    have HC : Hid (∀ w, Calls Tryz.prog 22 #[roomV r q] w fun e w' => e = .returned (.bool false) ∧ Below w.heap.size w w') := fun w => by have := short_c r q w; rw [hs] at this; exact this
    clear hs
    go_enter Tryz.func32, Tryz.ntmps32
    go_wp2_with (go_at_call 22; refine (HC.out _).mono ?_; rintro e w1 ⟨rfl, hb⟩; have HB := Lib.hid (bl_tr (bl_al (Below.refl w.heap.size w) _) hb); clear hb)
    go_ret
    exact ⟨by rw [HF.out]; rfl, HB.out⟩
  | true =>
    have HC : Hid (∀ w, Calls Tryz.prog 22 #[roomV r q] w fun e w' => e = .returned (.bool true) ∧ Below w.heap.size w w') := fun w => by have := short_c r q w; rw [hs] at this; exact this
    have HC45 : Hid (∀ w, RoomAt w w.heap.size r q → Calls Tryz.prog 45 #[roomV r q] w fun e w' => e = .returned (.int .i64 (roomErr r)) ∧ Below w.heap.size w w') := fun w hq => rfault_c r q w hq (short_small hs).1
    have HT : Hid (ThinB r = (!(roomErr r == 0) || (decide ((r.baths.length : Int) ≤ 4) && decide (r.places ≤ 3)))) := by unfold Hid; simp only [ThinB, hs, Bool.true_and]
    clear hs
    cases he : (roomErr r == 0) with
    | false =>
      have HF : Hid (ThinB r = true) := by unfold Hid; rw [HT.out, he]; rfl
      have hne : ¬ (roomErr r = 0) := by simpa using he
      have hne2 : (roomErr r != 0) = true := by simpa using he
      go_enter Tryz.func32, Tryz.ntmps32
      go_wp2_with (first | (go_at_call 22; refine (HC.out _).mono ?_; rintro e w1 ⟨rfl, hb⟩; have HX : Hid (Box w1 w.heap.size (roomCs r q)) := (Box.new w (roomCs r q) 31 (0, 0)).bl (by simp) hb; have hbx := HX.out; unfold Box roomCs at hbx; have HB := Lib.hid (bl_tr (bl_al (Below.refl w.heap.size w) _) hb); clear hb) | (go_at_call 45; refine (HC45.out _ (HQ.out.up HB.out)).mono ?_; clear hbx; rintro e w2 ⟨rfl, hb2⟩; have HB2 := Lib.hid (bl_tr HB.out hb2); clear hb2))
      go_ret
      exact ⟨by rw [HF.out]; rfl, HB2.out⟩
    | true =>
      have hez : roomErr r = 0 := by simpa using he
      have HF0 : Hid (ThinB r = (decide ((r.baths.length : Int) ≤ 4) && decide (r.places ≤ 3))) := by unfold Hid; rw [HT.out, he]; simp
      have HC0 : Hid (∀ w, RoomAt w w.heap.size r q → Calls Tryz.prog 45 #[roomV r q] w fun e w' => e = .returned (.int .i64 0) ∧ Below w.heap.size w w') := fun w hq => by have := HC45.out w hq; rw [hez] at this; exact this
      clear he hez
      cases hb4 : decide ((r.baths.length : Int) ≤ 4) with
      | false =>
        have HF : Hid (ThinB r = false) := by unfold Hid; rw [HF0.out, hb4]; rfl
        go_enter Tryz.func32, Tryz.ntmps32
        go_wp2_with (first | (go_at_call 22; refine (HC.out _).mono ?_; rintro e w1 ⟨rfl, hb⟩; have HX : Hid (Box w1 w.heap.size (roomCs r q)) := (Box.new w (roomCs r q) 31 (0, 0)).bl (by simp) hb; have hbx := HX.out; unfold Box roomCs at hbx; have HB := Lib.hid (bl_tr (bl_al (Below.refl w.heap.size w) _) hb); clear hb) | (go_at_call 45; refine (HC0.out _ (HQ.out.up HB.out)).mono ?_; clear hbx; rintro e w2 ⟨rfl, hb2⟩; have HX2 : Hid (Box w2 w.heap.size (roomCs r q)) := HX.out.bl (by simp) hb2; have hbx := HX2.out; unfold Box roomCs at hbx; have HB2 := Lib.hid (bl_tr HB.out hb2); clear hb2))
        go_ret
        exact ⟨by rw [HF.out]; rfl, HB2.out⟩
      | true =>
        have HF : Hid (ThinB r = decide (r.places ≤ 3)) := by unfold Hid; rw [HF0.out, hb4]; rfl
        go_enter Tryz.func32, Tryz.ntmps32
        go_wp2_with (first | (go_at_call 22; refine (HC.out _).mono ?_; rintro e w1 ⟨rfl, hb⟩; have HX : Hid (Box w1 w.heap.size (roomCs r q)) := (Box.new w (roomCs r q) 31 (0, 0)).bl (by simp) hb; have hbx := HX.out; unfold Box roomCs at hbx; have HB := Lib.hid (bl_tr (bl_al (Below.refl w.heap.size w) _) hb); clear hb) | (go_at_call 45; refine (HC0.out _ (HQ.out.up HB.out)).mono ?_; clear hbx; rintro e w2 ⟨rfl, hb2⟩; have HX2 : Hid (Box w2 w.heap.size (roomCs r q)) := HX.out.bl (by simp) hb2; have hbx := HX2.out; unfold Box roomCs at hbx; have HB2 := Lib.hid (bl_tr HB.out hb2); clear hb2))
        go_ret
        exact ⟨by rw [HF.out]; rfl, HB2.out⟩
theorem full37_0 (r : Rm) (q : RA) (w : World) : Calls Tryz.prog 37 #[.agg #[.int .i64 r.cop.last, .int .i64 r.cop.start, .int .i64 r.cop.most, .int .i64 r.cop.per, .int .i64 r.cop.shovels, .slice q.q.a1 r.cop.coal.length q.q.c1, .slice q.q.a2 r.cop.want.length q.q.c2, .int .i64 r.cop.hlo, .int .i64 r.cop.hhi, .slice q.q.a3 r.cop.loss.length q.q.c3, .slice q.q.a4 r.cop.rds.length q.q.c4, .int .i64 r.buckets, .int .i64 r.places, .slice q.a5 0 q.c5]] w fun e w' => e = .returned (.int .i64 0) ∧ Below w.heap.size w w' := by
  go_enter Tryz.func37, Tryz.ntmps37
  go_wp2
  go_ret
  exact ⟨rfl, bl_al (Below.refl _ _) _⟩
theorem full37_1 (r : Rm) (q : RA) (w : World) : Calls Tryz.prog 37 #[.agg #[.int .i64 r.cop.last, .int .i64 r.cop.start, .int .i64 r.cop.most, .int .i64 r.cop.per, .int .i64 r.cop.shovels, .slice q.q.a1 r.cop.coal.length q.q.c1, .slice q.q.a2 r.cop.want.length q.q.c2, .int .i64 r.cop.hlo, .int .i64 r.cop.hhi, .slice q.q.a3 r.cop.loss.length q.q.c3, .slice q.q.a4 r.cop.rds.length q.q.c4, .int .i64 r.buckets, .int .i64 r.places, .slice q.a5 1 q.c5]] w fun e w' => e = .returned (.int .i64 1) ∧ Below w.heap.size w w' := by
  go_enter Tryz.func37, Tryz.ntmps37
  go_wp2
  go_ret
  exact ⟨rfl, bl_al (Below.refl _ _) _⟩
theorem full37_2 (r : Rm) (q : RA) (w : World) : Calls Tryz.prog 37 #[.agg #[.int .i64 r.cop.last, .int .i64 r.cop.start, .int .i64 r.cop.most, .int .i64 r.cop.per, .int .i64 r.cop.shovels, .slice q.q.a1 r.cop.coal.length q.q.c1, .slice q.q.a2 r.cop.want.length q.q.c2, .int .i64 r.cop.hlo, .int .i64 r.cop.hhi, .slice q.q.a3 r.cop.loss.length q.q.c3, .slice q.q.a4 r.cop.rds.length q.q.c4, .int .i64 r.buckets, .int .i64 r.places, .slice q.a5 2 q.c5]] w fun e w' => e = .returned (.int .i64 3) ∧ Below w.heap.size w w' := by
  go_enter Tryz.func37, Tryz.ntmps37
  go_wp2
  go_ret
  exact ⟨rfl, bl_al (Below.refl _ _) _⟩
theorem full37_3 (r : Rm) (q : RA) (w : World) : Calls Tryz.prog 37 #[.agg #[.int .i64 r.cop.last, .int .i64 r.cop.start, .int .i64 r.cop.most, .int .i64 r.cop.per, .int .i64 r.cop.shovels, .slice q.q.a1 r.cop.coal.length q.q.c1, .slice q.q.a2 r.cop.want.length q.q.c2, .int .i64 r.cop.hlo, .int .i64 r.cop.hhi, .slice q.q.a3 r.cop.loss.length q.q.c3, .slice q.q.a4 r.cop.rds.length q.q.c4, .int .i64 r.buckets, .int .i64 r.places, .slice q.a5 3 q.c5]] w fun e w' => e = .returned (.int .i64 7) ∧ Below w.heap.size w w' := by
  go_enter Tryz.func37, Tryz.ntmps37
  go_wp2
  go_ret
  exact ⟨rfl, bl_al (Below.refl _ _) _⟩
theorem full37_4 (r : Rm) (q : RA) (w : World) : Calls Tryz.prog 37 #[.agg #[.int .i64 r.cop.last, .int .i64 r.cop.start, .int .i64 r.cop.most, .int .i64 r.cop.per, .int .i64 r.cop.shovels, .slice q.q.a1 r.cop.coal.length q.q.c1, .slice q.q.a2 r.cop.want.length q.q.c2, .int .i64 r.cop.hlo, .int .i64 r.cop.hhi, .slice q.q.a3 r.cop.loss.length q.q.c3, .slice q.q.a4 r.cop.rds.length q.q.c4, .int .i64 r.buckets, .int .i64 r.places, .slice q.a5 4 q.c5]] w fun e w' => e = .returned (.int .i64 15) ∧ Below w.heap.size w w' := by
  go_enter Tryz.func37, Tryz.ntmps37
  go_wp2
  go_ret
  exact ⟨rfl, bl_al (Below.refl _ _) _⟩
theorem full37_5 (r : Rm) (q : RA) (w : World) : Calls Tryz.prog 37 #[.agg #[.int .i64 r.cop.last, .int .i64 r.cop.start, .int .i64 r.cop.most, .int .i64 r.cop.per, .int .i64 r.cop.shovels, .slice q.q.a1 r.cop.coal.length q.q.c1, .slice q.q.a2 r.cop.want.length q.q.c2, .int .i64 r.cop.hlo, .int .i64 r.cop.hhi, .slice q.q.a3 r.cop.loss.length q.q.c3, .slice q.q.a4 r.cop.rds.length q.q.c4, .int .i64 r.buckets, .int .i64 r.places, .slice q.a5 5 q.c5]] w fun e w' => e = .returned (.int .i64 31) ∧ Below w.heap.size w w' := by
  go_enter Tryz.func37, Tryz.ntmps37
  go_wp2
  go_ret
  exact ⟨rfl, bl_al (Below.refl _ _) _⟩
theorem full37_c (r : Rm) (q : RA) (w : World) (h5 : r.baths.length ≤ 5) : Calls Tryz.prog 37 #[roomV r q] w fun e w' => e = .returned (.int .i64 (fullN r.baths.length)) ∧ Below w.heap.size w w' := by
  have key : ∀ n, n ≤ 5 → r.baths.length = n → Calls Tryz.prog 37 #[.agg #[.int .i64 r.cop.last, .int .i64 r.cop.start, .int .i64 r.cop.most, .int .i64 r.cop.per, .int .i64 r.cop.shovels, .slice q.q.a1 r.cop.coal.length q.q.c1, .slice q.q.a2 r.cop.want.length q.q.c2, .int .i64 r.cop.hlo, .int .i64 r.cop.hhi, .slice q.q.a3 r.cop.loss.length q.q.c3, .slice q.q.a4 r.cop.rds.length q.q.c4, .int .i64 r.buckets, .int .i64 r.places, .slice q.a5 n q.c5]] w fun e w' => e = .returned (.int .i64 (fullN n)) ∧ Below w.heap.size w w' := fun n hn _ =>
    match n, hn with
    | 0, _ => full37_0 r q w
    | 1, _ => full37_1 r q w
    | 2, _ => full37_2 r q w
    | 3, _ => full37_3 r q w
    | 4, _ => full37_4 r q w
    | 5, _ => full37_5 r q w
  exact key _ h5 rfl
end Go.Proofs.YtpgnplmjfhdncaaGreat
/- Chosen. -/
namespace Go.Proofs.YtpgnplmjfhdncaaGreat
open Go.RowKit
set_option linter.unusedVariables false
/-- Words in a slice. -/
def U16At (w : World) (B : Nat) (a : Option Addr) (xs : List Int) : Prop :=
  xs = [] ∨ ∃ b o, a = some ⟨b, o, none⟩ ∧ b < B ∧ ∀ j, j < xs.length → w.cell? ⟨b, o + j, none⟩ = some (.int .u16 (nth xs j))
theorem U16At.below {w w' : World} {B : Nat} {a : Option Addr} {xs : List Int} (h : U16At w B a xs) (hb : Below B w w') : U16At w' B a xs := by
  rcases h with h | ⟨b, o, rfl, hlt, hc⟩
  · exact .inl h
  · exact .inr ⟨b, o, rfl, hlt, fun j hj => (hb.cell (p := ⟨b, o + j, none⟩) hlt).trans (hc j hj)⟩
theorem U16At.up {w W : World} {a : Option Addr} {xs : List Int} (h : U16At w w.heap.size a xs) (hb : Below w.heap.size w W) : U16At W W.heap.size a xs := by
  rcases h.below hb with h | ⟨b, o, rfl, hlt, hc⟩
  · exact .inl h
  · exact .inr ⟨b, o, rfl, by have := hb.size; omega, hc⟩
end Go.Proofs.YtpgnplmjfhdncaaGreat
