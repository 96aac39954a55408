/- Worlds as terms: 'w.plus d' is w with blocks laid behind those that stood, and with draws. -/
import Derived.Test.YtpgnplmjfhdncaaGreatProg
import Derived.WalkKit
import Derived.WalkSpells
import Derived.WalkLawsBesides
import Derived.Deep.RegionHeld3
import Derived.Deep.QuietTactic
import Derived.BigQuiet
import Derived.StillTailTactics
import Derived.RangeFuncNested
namespace Go.Proofs.YtpgnplmjfhdncaaGreat
open Go.RowKit

/-- What came: blocks; the count of draws. -/
structure Dl where
  objs : Array Obj
  drawn : Nat
instance : Inhabited Dl := ⟨⟨#[], 0⟩⟩
def Dl.n (d : Dl) : Nat := d.objs.size
def plus (w : World) (d : Dl) : World := { w with heap := w.heap ++ d.objs, drawn := d.drawn }
def Dl.app (d e : Dl) : Dl := ⟨d.objs ++ e.objs, e.drawn⟩
@[go_sem] theorem plus_plus (w : World) (d e : Dl) : plus (plus w d) e = plus w (d.app e) := by simp [plus, Dl.app, Array.append_assoc]
@[go_sem] theorem plus_size (w : World) (d : Dl) : (plus w d).heap.size = w.heap.size + d.n := by simp [plus, Dl.n]
theorem plus_heap (w : World) (d : Dl) (k : Nat) (h : k < w.heap.size) : (plus w d).heap[k]? = w.heap[k]? := by
  simp only [plus]; rw [Array.getElem?_append_left h]
theorem plus_cell (w : World) (d : Dl) (a : Addr) (h : a.block < w.heap.size) : (plus w d).cell? a = w.cell? a := World.cell?_of_block (w := w) (plus_heap w d _ h)
@[go_sem] theorem plus_cell' (w : World) (d : Dl) (b o : Nat) (h : b < w.heap.size) : (plus w d).cell? ⟨b, o, none⟩ = w.cell? ⟨b, o, none⟩ := plus_cell w d _ h
@[go_sem] theorem plus_cell_some (w : World) (d : Dl) (a : Addr) (h : (w.cell? a).isSome = true) : (plus w d).cell? a = w.cell? a := by
  obtain ⟨u, hu⟩ := Option.isSome_iff_exists.1 h
  exact plus_cell w d a (World.block_lt_of_cell? w a hu)
@[go_sem] theorem plus_frozen (w : World) (d : Dl) (b o : Nat) (h : b < w.heap.size) : (plus w d).frozen? ⟨b, o, none⟩ = w.frozen? ⟨b, o, none⟩ := World.frozen?_of_block (w := w) (plus_heap w d _ h)
attribute [go_sem] World.cell?_alloc_some
theorem frozen?_alloc_some (w : World) (a : Addr) (o : Obj) (h : (w.cell? a).isSome = true) : (w.alloc o).frozen? a = w.frozen? a := by
  obtain ⟨u, hu⟩ := Option.isSome_iff_exists.1 h
  exact World.frozen?_alloc_old _ _ _ (Nat.ne_of_lt (World.block_lt_of_cell? w a hu))
attribute [go_sem] frozen?_alloc_some
theorem plus_below (w : World) (d : Dl) : Below w.heap.size w (plus w d) := ⟨rfl, rfl, rfl, by simp [plus], fun k hk => plus_heap w d k hk⟩
theorem below_plus {w W : World} (h : Below w.heap.size w W) : ∃ d, W = plus w d := by
  refine ⟨⟨W.heap.extract w.heap.size W.heap.size, W.drawn⟩, ?_⟩
  obtain ⟨heap, tape, drawn, os, output⟩ := W
  obtain ⟨h1, h2, h3, h4, h5⟩ := h
  simp only at h1 h2 h3 h4 h5
  subst h1; subst h2; subst h3
  simp only [plus, World.mk.injEq, and_true]
  apply Array.ext
  · simp; omega
  · intro i hi1 hi2
    rw [Array.getElem_append]
    split
    · rename_i hlt
      have := h5 i hlt
      rw [Array.getElem?_eq_getElem hi1, Array.getElem?_eq_getElem hlt] at this
      exact Option.some.inj this
    · rename_i hge
      simp only [Array.getElem_extract]
      congr 1; omega
/-- What a walk ends in: Below and plus are one. -/
theorem bl_al {w W : World} (h : Below w.heap.size w W) (o : Obj) : Below w.heap.size w (W.alloc o) := h.alloc h.size o
theorem bl_dr {w W : World} (h : Below w.heap.size w W) : Below w.heap.size w W.drew := h.drew
theorem bl_drN {w W : World} (h : Below w.heap.size w W) (n : Nat) : Below w.heap.size w (W.drewN n) := ⟨h.os, h.tape, h.output, h.size, h.block⟩
theorem bl_pl {w W : World} (h : Below w.heap.size w W) (d : Dl) : Below w.heap.size w (plus W d) := h.trans ((plus_below W d).mono h.size)
theorem bl_st {w W : World} (h : Below w.heap.size w W) {p : Addr} (hp : w.heap.size ≤ p.block) (u : Value) : Below w.heap.size w (W.setCell p u) := h.setCell hp u
theorem bl_gr {w W W' : World} (h : Below w.heap.size w W) {row : Option Nat} (hg : W.grownBy W' row) (hr : ∀ k, row = some k → w.heap.size ≤ k) : Below w.heap.size w W' := h.grown hg h.size hr
theorem bl_tr {w W W' : World} (h : Below w.heap.size w W) (k : Below W.heap.size W W') : Below w.heap.size w W' := h.trans (k.mono h.size)
theorem Calls.pl {P : Program} {f : FuncId} {args : Array Value} {w : World} {d : Dl} {v : Value}
    (h : Calls P f args (plus w d) fun e w' => e = .returned v ∧ Below (plus w d).heap.size (plus w d) w') : Calls P f args (plus w d) fun e w'' => e = .returned v ∧ ∃ d', w'' = plus w d' :=
  h.mono fun _ w' ⟨he, hb⟩ => ⟨he, by obtain ⟨e, rfl⟩ := below_plus hb; exact ⟨_, plus_plus w d e⟩⟩
theorem tryz_mixed : Tryz.prog.follows .mixedOrders = true := by kernel_rfl
/-- A region that draws, whose operations read, and whose calls hand back what they hand back in every world that has grown: one walk, in the order of the text. -/
theorem wp_region_plus {id : Nat} {Q : Exit → Act → World → Prop} {a : Act} {w : World} {l : List Oper} (hB : Region.lexB .any l.toArray = true)
    (h : wpQuiet Tryz.prog l.toArray (fun W => ∃ d, W = plus w d) (fun a' => ∀ W, (∃ d, W = plus w d) → Q .normal a' W) l a) : (Code.region id l.toArray true).wp Tryz.prog Q a w :=
  wp_region_quiet (C := fun W => ∃ d, W = plus w d) tryz_mixed hB ⟨⟨#[], w.drawn + 1⟩, by simp [plus]⟩ (by simpa using h)
theorem cells_below {w : World} {b n : Nat} (h : (w.cell? ⟨b, n, none⟩).isSome = true) (i : Nat) (hi : i ≤ n) : w.cell? ⟨b, i, none⟩ = some ((w.cell? ⟨b, i, none⟩).getD undef) := by
  obtain ⟨u, hu⟩ := Option.isSome_iff_exists.1 h
  unfold World.cell? at hu ⊢
  cases hb : w.heap[b]? with
  | none => simp [hb] at hu
  | some o =>
    cases o <;> simp [hb] at hu ⊢
    rename_i c e f
    have : n < c.size := (Array.getElem?_eq_some_iff.1 hu).1
    rw [Array.getElem?_eq_getElem (by omega)]
    rfl
theorem run_loadAt_cells (w : World) (b ty n : Nat) (d : TypeDesc) (hu : Tryz.prog.underlying ty = some d) (hd : (match d with | .struct _ | .array _ _ => true | _ => false) = true) (hi : (Tryz.prog.info? ty).map (·.size) = some n)
    (h : (w.cell? ⟨b, n - 1, none⟩).isSome = true) : (Instr.loadAt ty (.pointer (some ⟨b, 0, none⟩))).run Tryz.prog w = .ok (.agg ((List.range n).map fun i => (w.cell? ⟨b, i, none⟩).getD undef).toArray) w := by
  obtain ⟨i0, hi0, hi1⟩ := Option.map_eq_some_iff.1 hi
  have hl : (loadCells ⟨b, 0, none⟩ ((List.range n).map fun i => (w.cell? ⟨b, i, none⟩).getD undef).length).run Tryz.prog w = .ok ((List.range n).map fun i => (w.cell? ⟨b, i, none⟩).getD undef).toArray w :=
    run_loadCells_list (P := Tryz.prog) w ⟨b, 0, none⟩ _ (fun j v hv => by
      have hj : j < n := by have := (List.getElem?_eq_some_iff.1 hv).1; simpa using this
      have hadd : (⟨b, 0, none⟩ : Addr).add j = ⟨b, j, none⟩ := by
        unfold Addr.add
        split
        · rename_i h0; rw [h0]
        · rw [Nat.zero_add]
      rw [hadd, cells_below h j (by omega)]
      simp [hj] at hv
      rw [hv])
  rw [List.length_map, List.length_range] at hl
  have hag : (isAgg ty).run Tryz.prog w = .ok true w := by
    simp [isAgg, run_underlying hu]
    cases d <;> simp_all
  have hsz : (sizeOf ty).run Tryz.prog w = .ok n w := by
    have := run_sizeOf (P := Tryz.prog) w hi0
    rw [this]
    unfold Program.cellsOf
    rw [hi0]
    simp [hi1]
  simp only [Instr.loadAt, Instr.sureAddr, loadVar, Sem.run_bind, Sem.run_pure, Result.andThen_ok, hag, hsz, hl, if_true]
theorem size44 : (Tryz.prog.info? 44).map (·.size) = some 14 := by kernel_rfl
def ld44 (v : Value) : Sem Value := Instr.loadAt 44 v
@[go_sem ↓] theorem ld44_in (v : Value) : Instr.loadAt 44 v = ld44 v := rfl
@[go_sem] theorem ld44_run (w : World) (b : Nat) (h : (w.cell? ⟨b, 13, none⟩).isSome = true) :
    (ld44 (.pointer (some ⟨b, 0, none⟩))).run Tryz.prog w = .ok (.agg #[(w.cell? ⟨b, 0, none⟩).getD undef, (w.cell? ⟨b, 1, none⟩).getD undef, (w.cell? ⟨b, 2, none⟩).getD undef, (w.cell? ⟨b, 3, none⟩).getD undef, (w.cell? ⟨b, 4, none⟩).getD undef, (w.cell? ⟨b, 5, none⟩).getD undef, (w.cell? ⟨b, 6, none⟩).getD undef, (w.cell? ⟨b, 7, none⟩).getD undef, (w.cell? ⟨b, 8, none⟩).getD undef, (w.cell? ⟨b, 9, none⟩).getD undef, (w.cell? ⟨b, 10, none⟩).getD undef, (w.cell? ⟨b, 11, none⟩).getD undef, (w.cell? ⟨b, 12, none⟩).getD undef, (w.cell? ⟨b, 13, none⟩).getD undef]) w := by
  unfold ld44
  exact run_loadAt_cells w b 44 14 _ Tryz.underlying44 rfl size44 h
theorem size41 : (Tryz.prog.info? 41).map (·.size) = some 11 := by kernel_rfl
def ld41 (v : Value) : Sem Value := Instr.loadAt 41 v
@[go_sem ↓] theorem ld41_in (v : Value) : Instr.loadAt 41 v = ld41 v := rfl
@[go_sem] theorem ld41_run (w : World) (b : Nat) (h : (w.cell? ⟨b, 10, none⟩).isSome = true) :
    (ld41 (.pointer (some ⟨b, 0, none⟩))).run Tryz.prog w = .ok (.agg #[(w.cell? ⟨b, 0, none⟩).getD undef, (w.cell? ⟨b, 1, none⟩).getD undef, (w.cell? ⟨b, 2, none⟩).getD undef, (w.cell? ⟨b, 3, none⟩).getD undef, (w.cell? ⟨b, 4, none⟩).getD undef, (w.cell? ⟨b, 5, none⟩).getD undef, (w.cell? ⟨b, 6, none⟩).getD undef, (w.cell? ⟨b, 7, none⟩).getD undef, (w.cell? ⟨b, 8, none⟩).getD undef, (w.cell? ⟨b, 9, none⟩).getD undef, (w.cell? ⟨b, 10, none⟩).getD undef]) w := by
  unfold ld41
  exact run_loadAt_cells w b 41 11 _ Tryz.underlying41 rfl size41 h
theorem size31 : (Tryz.prog.info? 31).map (·.size) = some 14 := by kernel_rfl
def ld31 (v : Value) : Sem Value := Instr.loadAt 31 v
@[go_sem ↓] theorem ld31_in (v : Value) : Instr.loadAt 31 v = ld31 v := rfl
@[go_sem] theorem ld31_run (w : World) (b : Nat) (h : (w.cell? ⟨b, 13, none⟩).isSome = true) :
    (ld31 (.pointer (some ⟨b, 0, none⟩))).run Tryz.prog w = .ok (.agg #[(w.cell? ⟨b, 0, none⟩).getD undef, (w.cell? ⟨b, 1, none⟩).getD undef, (w.cell? ⟨b, 2, none⟩).getD undef, (w.cell? ⟨b, 3, none⟩).getD undef, (w.cell? ⟨b, 4, none⟩).getD undef, (w.cell? ⟨b, 5, none⟩).getD undef, (w.cell? ⟨b, 6, none⟩).getD undef, (w.cell? ⟨b, 7, none⟩).getD undef, (w.cell? ⟨b, 8, none⟩).getD undef, (w.cell? ⟨b, 9, none⟩).getD undef, (w.cell? ⟨b, 10, none⟩).getD undef, (w.cell? ⟨b, 11, none⟩).getD undef, (w.cell? ⟨b, 12, none⟩).getD undef, (w.cell? ⟨b, 13, none⟩).getD undef]) w := by
  unfold ld31
  exact run_loadAt_cells w b 31 14 _ Tryz.underlying31 rfl size31 h
theorem size28 : (Tryz.prog.info? 28).map (·.size) = some 11 := by kernel_rfl
def ld28 (v : Value) : Sem Value := Instr.loadAt 28 v
@[go_sem ↓] theorem ld28_in (v : Value) : Instr.loadAt 28 v = ld28 v := rfl
@[go_sem] theorem ld28_run (w : World) (b : Nat) (h : (w.cell? ⟨b, 10, none⟩).isSome = true) :
    (ld28 (.pointer (some ⟨b, 0, none⟩))).run Tryz.prog w = .ok (.agg #[(w.cell? ⟨b, 0, none⟩).getD undef, (w.cell? ⟨b, 1, none⟩).getD undef, (w.cell? ⟨b, 2, none⟩).getD undef, (w.cell? ⟨b, 3, none⟩).getD undef, (w.cell? ⟨b, 4, none⟩).getD undef, (w.cell? ⟨b, 5, none⟩).getD undef, (w.cell? ⟨b, 6, none⟩).getD undef, (w.cell? ⟨b, 7, none⟩).getD undef, (w.cell? ⟨b, 8, none⟩).getD undef, (w.cell? ⟨b, 9, none⟩).getD undef, (w.cell? ⟨b, 10, none⟩).getD undef]) w := by
  unfold ld28
  exact run_loadAt_cells w b 28 11 _ Tryz.underlying28 rfl size28 h
end Go.Proofs.YtpgnplmjfhdncaaGreat
