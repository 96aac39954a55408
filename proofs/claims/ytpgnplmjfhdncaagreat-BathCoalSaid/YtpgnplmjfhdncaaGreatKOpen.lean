/- What a room that comes in looks like: out of its reading. -/
import Derived.Test.YtpgnplmjfhdncaaGreatKR14
import Derived.Deep.Slices
import Derived.WalkKit
import Derived.ProofKit
namespace Go.Proofs.YtpgnplmjfhdncaaGreat
open Go.RowKit Go.Deep
set_option linter.unusedVariables false
variable {H : Type} {enc : TypeId × Value → H} {w : World} {base : Nat} {spare : Nat → Bool} {held : Bool}
theorem mapM_some_mem {α β : Type} {f : α → Option β} : ∀ {l : List α} {r : List β}, l.mapM f = some r → ∀ x ∈ l, ∃ y, f x = some y := by
  intro l
  induction l with
  | nil => intro r _ x hx; cases hx
  | cons a l ih =>
    intro r h x hx
    rw [List.mapM_cons] at h
    cases ha : f a with
    | none => rw [ha] at h; cases h
    | some y =>
      rw [ha] at h
      cases hl : l.mapM f with
      | none => rw [hl] at h; cases h
      | some ys =>
        rcases List.mem_cons.1 hx with rfl | hm
        · exact ⟨y, ha⟩
        · exact ih hl x hm
theorem trod_fields {t : TypeId} {fs : Array Field} {fuel : Nat} {cs : List Value} {x : DataW H × List MemPlace} (ht : Tryz.prog.underlying t = some (.struct fs)) (h : DataW.trod enc Tryz.prog w base spare held fuel t cs = some x) :
    cs.length = Tryz.prog.cellsOf t ∧ ∃ n, ∀ f ∈ fs.toList, ∃ y, DataW.trod enc Tryz.prog w base spare held n f.type ((cs.drop f.offset).take (Tryz.prog.cellsOf f.type)) = some y := by
  cases fuel with
  | zero => simp [DataW.trod] at h
  | succ n =>
    unfold DataW.trod at h
    rw [ht] at h
    simp only at h
    split at h
    · rename_i hl
      refine ⟨hl, n, ?_⟩
      obtain ⟨xs, hx, _⟩ := Option.map_eq_some_iff.1 h
      exact mapM_some_mem hx
    · cases h
theorem len2 {cs : List Value} (h : cs.length = 2) : ∃ c0 c1, cs = [c0, c1] := by
  match cs, h with
  | [c0, c1], _ => exact ⟨_, _, rfl⟩
theorem len3 {cs : List Value} (h : cs.length = 3) : ∃ c0 c1 c2, cs = [c0, c1, c2] := by
  match cs, h with
  | [c0, c1, c2], _ => exact ⟨_, _, _, rfl⟩
theorem len11 {cs : List Value} (h : cs.length = 11) : ∃ c0 c1 c2 c3 c4 c5 c6 c7 c8 c9 c10, cs = [c0, c1, c2, c3, c4, c5, c6, c7, c8, c9, c10] := by
  match cs, h with
  | [c0, c1, c2, c3, c4, c5, c6, c7, c8, c9, c10], _ => exact ⟨_, _, _, _, _, _, _, _, _, _, _, rfl⟩
theorem len14 {cs : List Value} (h : cs.length = 14) : ∃ c0 c1 c2 c3 c4 c5 c6 c7 c8 c9 c10 c11 c12 c13, cs = [c0, c1, c2, c3, c4, c5, c6, c7, c8, c9, c10, c11, c12, c13] := by
  match cs, h with
  | [c0, c1, c2, c3, c4, c5, c6, c7, c8, c9, c10, c11, c12, c13], _ => exact ⟨_, _, _, _, _, _, _, _, _, _, _, _, _, _, rfl⟩
theorem cells24 : Tryz.prog.cellsOf 24 = 2 := by kernel_rfl
theorem cells99 : Tryz.prog.cellsOf 99 = 3 := by kernel_rfl
theorem cells96 : Tryz.prog.cellsOf 96 = 2 := by kernel_rfl
theorem cells28 : Tryz.prog.cellsOf 28 = 11 := by kernel_rfl
theorem cells31 : Tryz.prog.cellsOf 31 = 14 := by kernel_rfl
theorem cells3' : Tryz.prog.cellsOf 3 = 1 := by kernel_rfl
theorem cells22 : Tryz.prog.cellsOf 22 = 1 := by kernel_rfl
theorem cells25 : Tryz.prog.cellsOf 25 = 1 := by kernel_rfl
theorem cells26 : Tryz.prog.cellsOf 26 = 1 := by kernel_rfl
theorem cells29 : Tryz.prog.cellsOf 29 = 1 := by kernel_rfl
theorem open3 {n : Nat} {cs : List Value} {y : DataW H × List MemPlace} (h : DataW.trod enc Tryz.prog w base spare held n 3 cs = some y) : ∃ x : Int, cs = [.int .i64 x] := by
  obtain ⟨x, e, _, _⟩ := DataW.trod_int Tryz.underlying3 h
  exact ⟨x, e⟩
theorem open24 {n : Nat} {cs : List Value} {y : DataW H × List MemPlace} (h : DataW.trod enc Tryz.prog w base spare held n 24 cs = some y) : ∃ x : Int × Int, cs = [.int .i64 x.1, .int .i64 x.2] := by
  obtain ⟨hl, m, hf⟩ := trod_fields Tryz.underlying24 h
  rw [cells24] at hl
  clear h
  obtain ⟨c0, c1, rfl⟩ := len2 hl
  simp [cells3'] at hf
  obtain ⟨⟨d0, p0, h0⟩, d1, p1, h1⟩ := hf
  obtain ⟨x0, e0⟩ := open3 h0
  obtain ⟨x1, e1⟩ := open3 h1
  cases e0
  cases e1
  exact ⟨(x0, x1), rfl⟩
theorem open96 {n : Nat} {cs : List Value} {y : DataW H × List MemPlace} (h : DataW.trod enc Tryz.prog w base spare held n 96 cs = some y) : ∃ x : Int × Int, cs = [.int .i64 x.1, .int .i64 x.2] := by
  obtain ⟨hl, m, hf⟩ := trod_fields Tryz.underlying96 h
  rw [cells96] at hl
  clear h
  obtain ⟨c0, c1, rfl⟩ := len2 hl
  simp [cells3'] at hf
  obtain ⟨⟨d0, p0, h0⟩, d1, p1, h1⟩ := hf
  obtain ⟨x0, e0⟩ := open3 h0
  obtain ⟨x1, e1⟩ := open3 h1
  cases e0
  cases e1
  exact ⟨(x0, x1), rfl⟩
theorem open99 {n : Nat} {cs : List Value} {y : DataW H × List MemPlace} (h : DataW.trod enc Tryz.prog w base spare held n 99 cs = some y) : ∃ x : Int × Int × Int, cs = [.int .i64 x.1, .int .i64 x.2.1, .int .i64 x.2.2] := by
  obtain ⟨hl, m, hf⟩ := trod_fields Tryz.underlying99 h
  rw [cells99] at hl
  clear h
  obtain ⟨c0, c1, c2, rfl⟩ := len3 hl
  simp [cells3', cells24] at hf
  obtain ⟨⟨d0, p0, h0⟩, d1, p1, h1⟩ := hf
  obtain ⟨x0, e0⟩ := open3 h0
  obtain ⟨x1, e1⟩ := open24 h1
  cases e0
  cases e1
  exact ⟨(x0, x1), rfl⟩
theorem add_at (b o k : Nat) : (⟨b, o, none⟩ : Addr).add k = ⟨b, o + k, none⟩ := Go.WideShapes.add_plain _ _ _
theorem open_list {α : Type} [Inhabited α] {t e k : Nat} (en : α → List Value) (hk0 : 0 < k) (hk : ∀ x, (en x).length = k) (ht : Tryz.prog.underlying t = some (.slice e)) (hc : Tryz.prog.cellsOf e = k)
    (ho : ∀ n cs (y : DataW H × List MemPlace), DataW.trod enc Tryz.prog w base spare held n e cs = some y → ∃ x, cs = en x) {fuel : Nat} {cs : List Value} {x : DataW H × List MemPlace} (h : DataW.trod enc Tryz.prog w base spare held fuel t cs = some x) :
    ∃ (a : Option Addr) (xs : List α) (c : Nat), cs = [.slice a xs.length c] ∧ Pl a xs.length c ∧
      (xs = [] ∨ ∃ b o, a = some ⟨b, o, none⟩ ∧ b < w.heap.size ∧ ∀ j x, xs[j]? = some x → ∀ i, i < k → w.cell? ⟨b, o + j * k + i, none⟩ = (en x)[i]?) := by
  rcases open_slice ht h with ⟨rfl, _⟩ | ⟨a, len, cap, m, n, D, PL, rfl, _, hl, _, hm, _, hel⟩
  · exact ⟨none, [], 0, rfl, .inl ⟨rfl, rfl, rfl⟩, .inl rfl⟩
  · have hlm : len ≤ m := by rw [hm]; split <;> omega
    have h1 : ∀ i, ∃ x : α, i < len → ∀ j, j < k → w.cell? ((a.add (i * k)).add j) = (en x)[j]? := fun i => by
      by_cases hi : i < len
      · obtain ⟨cs', e1, e2⟩ := hel i (by omega)
        obtain ⟨x, rfl⟩ := ho _ _ _ e2
        rw [hc] at e1
        obtain ⟨_, _, h3⟩ := World.cells?_some e1
        exact ⟨x, fun _ => h3⟩
      · exact ⟨default, fun h => (hi h).elim⟩
    obtain ⟨X, hX⟩ := Classical.skolem.1 h1
    refine ⟨some a, (List.range len).map X, cap, by simp, ?_, ?_⟩
    · by_cases h0 : len = 0
      · exact .inr (.inr ⟨⟨a, rfl⟩, by simpa using h0⟩)
      · obtain ⟨b, o, spot⟩ := a
        have hc0 := hX 0 (by omega) 0 hk0
        rw [List.getElem?_eq_getElem (by rw [hk]; exact hk0)] at hc0
        have hspot : spot = none := by simpa [Addr.add] using World.cell?_spot hc0
        subst hspot
        exact .inr (.inl ⟨b, o, rfl⟩)
    · by_cases h0 : len = 0
      · exact .inl (by rw [h0]; rfl)
      · right
        obtain ⟨b, o, spot⟩ := a
        have hc0 := hX 0 (by omega) 0 hk0
        rw [List.getElem?_eq_getElem (by rw [hk]; exact hk0)] at hc0
        have hspot : spot = none := by simpa [Addr.add] using World.cell?_spot hc0
        subst hspot
        refine ⟨b, o, rfl, ?_, fun j x hj i hi => ?_⟩
        · rw [Nat.zero_mul, add_at, add_at] at hc0
          exact World.block_lt_of_cell? w _ hc0
        · have hjl : j < len := by have := (List.getElem?_eq_some_iff.1 hj).1; simpa using this
          have hx : X j = x := by simpa [hjl] using hj
          have := hX j hjl i hi
          rw [add_at, add_at, hx] at this
          exact this
theorem open22 {n : Nat} {cs : List Value} {y : DataW H × List MemPlace} (h : DataW.trod enc Tryz.prog w base spare held n 22 cs = some y) : ∃ a xs c, cs = [.slice a xs.length c] ∧ Pl a xs.length c ∧ IntsAt w w.heap.size a xs := by
  obtain ⟨a, xs, c, e, hp, hx⟩ := open_list (k := 1) (fun x : Int => [.int .i64 x]) (by omega) (fun _ => rfl) Tryz.underlying22 cells3' (fun n cs y h => open3 h) h
  refine ⟨a, xs, c, e, hp, ?_⟩
  rcases hx with h | ⟨b, o, rfl, hb, hc⟩
  · exact .inl h
  · refine .inr ⟨b, o, rfl, hb, fun j hj => ?_⟩
    have := hc j xs[j] (List.getElem?_eq_getElem hj) 0 (by omega)
    rw [Nat.mul_one, Nat.add_zero] at this
    rw [this]
    simp [nth, hj]
theorem pairs_of {n : Nat} {a : Option Addr} {xs : List (Int × Int)} (hx : xs = [] ∨ ∃ b o, a = some ⟨b, o, none⟩ ∧ b < w.heap.size ∧ ∀ j x, xs[j]? = some x → ∀ i, i < 2 → w.cell? ⟨b, o + j * 2 + i, none⟩ = ([.int .i64 x.1, .int .i64 x.2] : List Value)[i]?) : PairsAt w w.heap.size a xs := by
  rcases hx with h | ⟨b, o, rfl, hb, hc⟩
  · exact .inl h
  · refine .inr ⟨b, o, rfl, hb, fun j hj => ?_⟩
    have h0 := hc j xs[j] (List.getElem?_eq_getElem hj) 0 (by omega)
    have h1 := hc j xs[j] (List.getElem?_eq_getElem hj) 1 (by omega)
    have g1 : p1 xs j = xs[j].1 := by simp [p1, hj]
    have g2 : p2 xs j = xs[j].2 := by simp [p2, hj]
    rw [g1, g2]
    exact ⟨h0, h1⟩
theorem open25 {n : Nat} {cs : List Value} {y : DataW H × List MemPlace} (h : DataW.trod enc Tryz.prog w base spare held n 25 cs = some y) : ∃ a xs c, cs = [.slice a xs.length c] ∧ PairsAt w w.heap.size a xs := by
  obtain ⟨a, xs, c, e, hp, hx⟩ := open_list (k := 2) (fun x : Int × Int => [.int .i64 x.1, .int .i64 x.2]) (by omega) (fun _ => rfl) Tryz.underlying25 cells24 (fun n cs y h => open24 h) h
  exact ⟨a, xs, c, e, pairs_of (n := 0) hx⟩
theorem open29 {n : Nat} {cs : List Value} {y : DataW H × List MemPlace} (h : DataW.trod enc Tryz.prog w base spare held n 29 cs = some y) : ∃ a xs c, cs = [.slice a xs.length c] ∧ PairsAt w w.heap.size a xs := by
  obtain ⟨a, xs, c, e, hp, hx⟩ := open_list (k := 2) (fun x : Int × Int => [.int .i64 x.1, .int .i64 x.2]) (by omega) (fun _ => rfl) Tryz.underlying29 cells96 (fun n cs y h => open96 h) h
  exact ⟨a, xs, c, e, pairs_of (n := 0) hx⟩
theorem open26 {n : Nat} {cs : List Value} {y : DataW H × List MemPlace} (h : DataW.trod enc Tryz.prog w base spare held n 26 cs = some y) : ∃ a xs c, cs = [.slice a xs.length c] ∧ TripsAt w w.heap.size a xs := by
  obtain ⟨a, xs, c, e, hp, hx⟩ := open_list (k := 3) (fun x : Int × Int × Int => [.int .i64 x.1, .int .i64 x.2.1, .int .i64 x.2.2]) (by omega) (fun _ => rfl) Tryz.underlying26 cells99 (fun n cs y h => open99 h) h
  refine ⟨a, xs, c, e, ?_⟩
  rcases hx with h | ⟨b, o, rfl, hb, hc⟩
  · exact .inl h
  · refine .inr ⟨b, o, rfl, hb, fun j hj => ?_⟩
    have h0 := hc j xs[j] (List.getElem?_eq_getElem hj) 0 (by omega)
    have h1 := hc j xs[j] (List.getElem?_eq_getElem hj) 1 (by omega)
    have h2 := hc j xs[j] (List.getElem?_eq_getElem hj) 2 (by omega)
    have g1 : t1 xs j = xs[j].1 := by simp [t1, hj]
    have g2 : t2 xs j = xs[j].2.1 := by simp [t2, hj]
    have g3 : t3 xs j = xs[j].2.2 := by simp [t3, hj]
    rw [g1, g2, g3]
    exact ⟨h0, h1, h2⟩
theorem open28 {n : Nat} {cs : List Value} {y : DataW H × List MemPlace} (h : DataW.trod enc Tryz.prog w base spare held n 28 cs = some y) : ∃ c q, cs = (copCs c q).toList ∧ CopAt w w.heap.size c q ∧ CPl c q := by
  obtain ⟨hl, m, hf⟩ := trod_fields Tryz.underlying28 h
  rw [cells28] at hl
  clear h
  obtain ⟨c0, c1, c2, c3, c4, c5, c6, c7, c8, c9, c10, rfl⟩ := len11 hl
  simp [cells3', cells22, cells24, cells25, cells26] at hf
  obtain ⟨⟨_, _, h0⟩, ⟨_, _, h1⟩, ⟨_, _, h2⟩, ⟨_, _, h3⟩, ⟨_, _, h4⟩, ⟨_, _, h5⟩, ⟨_, _, h6⟩, ⟨_, _, h7⟩, ⟨_, _, h9⟩, _, _, h10⟩ := hf
  obtain ⟨x0, e⟩ := open3 h0
  cases e
  obtain ⟨x1, e⟩ := open3 h1
  cases e
  obtain ⟨x2, e⟩ := open3 h2
  cases e
  obtain ⟨x3, e⟩ := open3 h3
  cases e
  obtain ⟨x4, e⟩ := open3 h4
  cases e
  obtain ⟨a5, x5, k5, e, hp5, hx5⟩ := open22 h5
  cases e
  obtain ⟨a6, x6, k6, e, hp6, hx6⟩ := open22 h6
  cases e
  obtain ⟨x7, e⟩ := open24 h7
  cases e
  obtain ⟨a9, x9, k9, e, hx9⟩ := open25 h9
  cases e
  obtain ⟨a10, x10, k10, e, hx10⟩ := open26 h10
  cases e
  exact ⟨{ last := x0, start := x1, most := x2, per := x3, shovels := x4, coal := x5, want := x6, hlo := x7.1, hhi := x7.2, loss := x9, rds := x10 }, ⟨a5, k5, a6, k6, a9, k9, a10, k10⟩, rfl, ⟨hx5, hx6, hx9, hx10⟩, ⟨hp5, hp6⟩⟩
theorem open31 {n : Nat} {cs : List Value} {y : DataW H × List MemPlace} (h : DataW.trod enc Tryz.prog w base spare held n 31 cs = some y) : ∃ r q, cs = (roomCs r q).toList ∧ RoomAt w w.heap.size r q ∧ CPl r.cop q.q := by
  obtain ⟨hl, m, hf⟩ := trod_fields Tryz.underlying31 h
  rw [cells31] at hl
  clear h
  obtain ⟨c0, c1, c2, c3, c4, c5, c6, c7, c8, c9, c10, c11, c12, c13, rfl⟩ := len14 hl
  simp [cells3', cells28, cells29] at hf
  obtain ⟨⟨_, _, h0⟩, ⟨_, _, h1⟩, ⟨_, _, h2⟩, _, _, h3⟩ := hf
  obtain ⟨c, q, e, hc, hp⟩ := open28 h0
  cases e
  obtain ⟨x1, e⟩ := open3 h1
  cases e
  obtain ⟨x2, e⟩ := open3 h2
  cases e
  obtain ⟨a3, x3, k3, e, hx3⟩ := open29 h3
  cases e
  exact ⟨{ cop := c, buckets := x1, places := x2, baths := x3 }, ⟨q, a3, k3⟩, rfl, ⟨hc, hx3⟩, hp⟩
end Go.Proofs.YtpgnplmjfhdncaaGreat
