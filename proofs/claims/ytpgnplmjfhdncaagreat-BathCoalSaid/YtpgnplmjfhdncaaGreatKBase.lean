/- A part of the proof: Base. -/
import Derived.Test.YtpgnplmjfhdncaaGreatKPlus
import Derived.Test.YtpgnplmjfhdncaaGreatKSpec
import Derived.WalkKit
import Derived.WalkSpells
import Derived.WalkLawsBesides
import Derived.Lib.Hide
import Derived.Shelf.Abstract
import Derived.Outline
import Derived.Deep.RegionHeld3
import Derived.Deep.QuietTactic
import Derived.BigQuiet
import Derived.StillTailTactics
import Derived.Deep.RegionLaw
import Derived.Deep.AppendLies
import Derived.RangeFuncNested
import Derived.RangeFuncFrom
import Derived.RangeFuncCalls
namespace Go.Proofs.YtpgnplmjfhdncaaGreat
open Go.RowKit

/-- Whatever block stood is as it stood, but for those of L. -/
structure Ext (L : List Nat) (w w' : World) : Prop where
  os : w'.os = w.os
  tape : w'.tape = w.tape
  output : w'.output = w.output
  size : w.heap.size ≤ w'.heap.size
  block : ∀ k, k < w.heap.size → k ∉ L → w'.heap[k]? = w.heap[k]?
theorem Ext.refl (L : List Nat) (w : World) : Ext L w w := ⟨rfl, rfl, rfl, Nat.le_refl _, fun _ _ _ => rfl⟩
theorem Ext.trans {L : List Nat} {a b c : World} (h : Ext L a b) (k : Ext L b c) : Ext L a c :=
  ⟨k.os.trans h.os, k.tape.trans h.tape, k.output.trans h.output, Nat.le_trans h.size k.size, fun i hi hn => (k.block i (Nat.lt_of_lt_of_le hi h.size) hn).trans (h.block i hi hn)⟩
theorem Ext.mono {L M : List Nat} {a b : World} (h : Ext L a b) (hs : ∀ k, k < a.heap.size → k ∈ L → k ∈ M) : Ext M a b :=
  ⟨h.os, h.tape, h.output, h.size, fun i hi hn => h.block i hi (fun hm => hn (hs i hi hm))⟩
theorem Ext.of_below {L : List Nat} {w w' : World} (h : Below w.heap.size w w') : Ext L w w' := ⟨h.os, h.tape, h.output, h.size, fun i hi _ => h.block i hi⟩
theorem Ext.below {L : List Nat} {B : Nat} {w w' : World} (h : Ext L w w') (hB : B ≤ w.heap.size) (hL : ∀ k ∈ L, B ≤ k) : Below B w w' :=
  ⟨h.os, h.tape, h.output, h.size, fun i hi => h.block i (by omega) (fun hm => by have := hL i hm; omega)⟩
theorem Ext.cell {L : List Nat} {w w' : World} (h : Ext L w w') {b o : Nat} (hb : b < w.heap.size) (hn : b ∉ L) : w'.cell? ⟨b, o, none⟩ = w.cell? ⟨b, o, none⟩ := World.cell?_of_block (w := w) (h.block b hb hn)
theorem Ext.drew {L : List Nat} {a w : World} (h : Ext L a w) : Ext L a w.drew := ⟨h.os, h.tape, h.output, h.size, h.block⟩
theorem Ext.alloc {L : List Nat} {a w : World} (h : Ext L a w) (o : Obj) : Ext L a (w.alloc o) :=
  h.trans ⟨rfl, rfl, rfl, by simp, fun k hk _ => Below.heap_alloc _ _ _ hk⟩
theorem Ext.setCell {L : List Nat} {a w : World} (h : Ext L a w) {p : Addr} (hp : p.block ∈ L ∨ a.heap.size ≤ p.block) (u : Value) : Ext L a (w.setCell p u) :=
  ⟨h.os, h.tape, h.output, by simpa [World.setCell] using h.size, fun k hk hn => (Below.heap_setCell _ _ _ _ (fun e => by rcases hp with hp | hp; exact hn (e ▸ hp); omega)).trans (h.block k hk hn)⟩
theorem Ext.grown {L : List Nat} {a w w' : World} {row : Option Nat} (h : Ext L a w) (hg : w.grownBy w' row) (hr : ∀ k, row = some k → k ∈ L ∨ a.heap.size ≤ k) : Ext L a w' :=
  ⟨hg.os.trans h.os, hg.tape.trans h.tape, hg.output.trans h.output, Nat.le_trans h.size hg.size, fun k hk hn => (hg.block k (Nat.lt_of_lt_of_le hk h.size) (fun e => by rcases hr k e.symm with h' | h'; exact hn h'; omega)).trans (h.block k hk hn)⟩

def IntsAt (w : World) (B : Nat) (a : Option Addr) (xs : List Int) : Prop :=
  xs = [] ∨ ∃ b o, a = some ⟨b, o, none⟩ ∧ b < B ∧ ∀ j, j < xs.length → w.cell? ⟨b, o + j, none⟩ = some (.int .i64 (nth xs j))
def PairsAt (w : World) (B : Nat) (a : Option Addr) (xs : List (Int × Int)) : Prop :=
  xs = [] ∨ ∃ b o, a = some ⟨b, o, none⟩ ∧ b < B ∧ ∀ j, j < xs.length → w.cell? ⟨b, o + j * 2, none⟩ = some (.int .i64 (p1 xs j)) ∧ w.cell? ⟨b, o + j * 2 + 1, none⟩ = some (.int .i64 (p2 xs j))
def TripsAt (w : World) (B : Nat) (a : Option Addr) (xs : List (Int × Int × Int)) : Prop :=
  xs = [] ∨ ∃ b o, a = some ⟨b, o, none⟩ ∧ b < B ∧ ∀ j, j < xs.length → w.cell? ⟨b, o + j * 3, none⟩ = some (.int .i64 (t1 xs j)) ∧ w.cell? ⟨b, o + j * 3 + 1, none⟩ = some (.int .i64 (t2 xs j)) ∧ w.cell? ⟨b, o + j * 3 + 2, none⟩ = some (.int .i64 (t3 xs j))
theorem IntsAt.at_ {w : World} {B : Nat} {a : Option Addr} {xs : List Int} (h : IntsAt w B a xs) (hp : 0 < xs.length) : ∃ b o, a = some ⟨b, o, none⟩ ∧ b < B ∧ ∀ j, j < xs.length → w.cell? ⟨b, o + j, none⟩ = some (.int .i64 (nth xs j)) := by
  rcases h with rfl | h
  · simp at hp
  · exact h
theorem PairsAt.at_ {w : World} {B : Nat} {a : Option Addr} {xs : List (Int × Int)} (h : PairsAt w B a xs) (hp : 0 < xs.length) : ∃ b o, a = some ⟨b, o, none⟩ ∧ b < B ∧ ∀ j, j < xs.length → w.cell? ⟨b, o + j * 2, none⟩ = some (.int .i64 (p1 xs j)) ∧ w.cell? ⟨b, o + j * 2 + 1, none⟩ = some (.int .i64 (p2 xs j)) := by
  rcases h with rfl | h
  · simp at hp
  · exact h
theorem TripsAt.at_ {w : World} {B : Nat} {a : Option Addr} {xs : List (Int × Int × Int)} (h : TripsAt w B a xs) (hp : 0 < xs.length) : ∃ b o, a = some ⟨b, o, none⟩ ∧ b < B ∧ ∀ j, j < xs.length → w.cell? ⟨b, o + j * 3, none⟩ = some (.int .i64 (t1 xs j)) ∧ w.cell? ⟨b, o + j * 3 + 1, none⟩ = some (.int .i64 (t2 xs j)) ∧ w.cell? ⟨b, o + j * 3 + 2, none⟩ = some (.int .i64 (t3 xs j)) := by
  rcases h with rfl | h
  · simp at hp
  · exact h
theorem IntsAt.below {w w' : World} {B : Nat} {a : Option Addr} {xs : List Int} (h : IntsAt w B a xs) (hb : Below B w w') : IntsAt w' B a xs := by
  rcases h with h | ⟨b, o, rfl, hlt, hc⟩
  · exact .inl h
  · exact .inr ⟨b, o, rfl, hlt, fun j hj => (hb.cell (p := ⟨b, o + j, none⟩) hlt).trans (hc j hj)⟩
theorem PairsAt.below {w w' : World} {B : Nat} {a : Option Addr} {xs : List (Int × Int)} (h : PairsAt w B a xs) (hb : Below B w w') : PairsAt w' B a xs := by
  rcases h with h | ⟨b, o, rfl, hlt, hc⟩
  · exact .inl h
  · exact .inr ⟨b, o, rfl, hlt, fun j hj => ⟨(hb.cell (p := ⟨b, o + j * 2, none⟩) hlt).trans (hc j hj).1, (hb.cell (p := ⟨b, o + j * 2 + 1, none⟩) hlt).trans (hc j hj).2⟩⟩
theorem TripsAt.below {w w' : World} {B : Nat} {a : Option Addr} {xs : List (Int × Int × Int)} (h : TripsAt w B a xs) (hb : Below B w w') : TripsAt w' B a xs := by
  rcases h with h | ⟨b, o, rfl, hlt, hc⟩
  · exact .inl h
  · exact .inr ⟨b, o, rfl, hlt, fun j hj => ⟨(hb.cell (p := ⟨b, o + j * 3, none⟩) hlt).trans (hc j hj).1, (hb.cell (p := ⟨b, o + j * 3 + 1, none⟩) hlt).trans (hc j hj).2.1, (hb.cell (p := ⟨b, o + j * 3 + 2, none⟩) hlt).trans (hc j hj).2.2⟩⟩
theorem IntsAt.mono {w : World} {B B' : Nat} {a : Option Addr} {xs : List Int} (h : IntsAt w B a xs) (hB : B ≤ B') : IntsAt w B' a xs := by
  rcases h with h | ⟨b, o, rfl, hlt, hc⟩
  · exact .inl h
  · exact .inr ⟨b, o, rfl, by omega, hc⟩
theorem PairsAt.mono {w : World} {B B' : Nat} {a : Option Addr} {xs : List (Int × Int)} (h : PairsAt w B a xs) (hB : B ≤ B') : PairsAt w B' a xs := by
  rcases h with h | ⟨b, o, rfl, hlt, hc⟩
  · exact .inl h
  · exact .inr ⟨b, o, rfl, by omega, hc⟩
theorem TripsAt.mono {w : World} {B B' : Nat} {a : Option Addr} {xs : List (Int × Int × Int)} (h : TripsAt w B a xs) (hB : B ≤ B') : TripsAt w B' a xs := by
  rcases h with h | ⟨b, o, rfl, hlt, hc⟩
  · exact .inl h
  · exact .inr ⟨b, o, rfl, by omega, hc⟩
/-- The scenes of coppers: the heat, five losses. -/
def sh (xs : List (Int × List Int)) (j : Nat) : Int := (xs.getD j (0, [])).1
def sl (xs : List (Int × List Int)) (j : Nat) : List Int := (xs.getD j (0, [])).2
def ScenesAt (w : World) (B : Nat) (a : Option Addr) (xs : List (Int × List Int)) : Prop :=
  xs = [] ∨ ∃ b o, a = some ⟨b, o, none⟩ ∧ b < B ∧ ∀ j, j < xs.length → w.cell? ⟨b, o + j * 6, none⟩ = some (.int .i64 (sh xs j)) ∧ w.cell? ⟨b, o + j * 6 + 1, none⟩ = some (.int .i64 (nth (sl xs j) 0)) ∧ w.cell? ⟨b, o + j * 6 + 2, none⟩ = some (.int .i64 (nth (sl xs j) 1)) ∧ w.cell? ⟨b, o + j * 6 + 3, none⟩ = some (.int .i64 (nth (sl xs j) 2)) ∧ w.cell? ⟨b, o + j * 6 + 4, none⟩ = some (.int .i64 (nth (sl xs j) 3)) ∧ w.cell? ⟨b, o + j * 6 + 5, none⟩ = some (.int .i64 (nth (sl xs j) 4))
theorem ScenesAt.at_ {w : World} {B : Nat} {a : Option Addr} {xs : List (Int × List Int)} (h : ScenesAt w B a xs) (hp : 0 < xs.length) : ∃ b o, a = some ⟨b, o, none⟩ ∧ b < B ∧ ∀ j, j < xs.length → w.cell? ⟨b, o + j * 6, none⟩ = some (.int .i64 (sh xs j)) ∧ w.cell? ⟨b, o + j * 6 + 1, none⟩ = some (.int .i64 (nth (sl xs j) 0)) ∧ w.cell? ⟨b, o + j * 6 + 2, none⟩ = some (.int .i64 (nth (sl xs j) 1)) ∧ w.cell? ⟨b, o + j * 6 + 3, none⟩ = some (.int .i64 (nth (sl xs j) 2)) ∧ w.cell? ⟨b, o + j * 6 + 4, none⟩ = some (.int .i64 (nth (sl xs j) 3)) ∧ w.cell? ⟨b, o + j * 6 + 5, none⟩ = some (.int .i64 (nth (sl xs j) 4)) := by
  rcases h with rfl | h
  · simp at hp
  · exact h
theorem ScenesAt.below {w w' : World} {B : Nat} {a : Option Addr} {xs : List (Int × List Int)} (h : ScenesAt w B a xs) (hb : Below B w w') : ScenesAt w' B a xs := by
  rcases h with h | ⟨b, o, rfl, hlt, hc⟩
  · exact .inl h
  · have k : ∀ o, w'.cell? ⟨b, o, none⟩ = w.cell? ⟨b, o, none⟩ := fun o => hb.cell (p := ⟨b, o, none⟩) hlt
    exact .inr ⟨b, o, rfl, hlt, fun j hj => by simp only [k]; exact hc j hj⟩
theorem ScenesAt.mono {w : World} {B B' : Nat} {a : Option Addr} {xs : List (Int × List Int)} (h : ScenesAt w B a xs) (hB : B ≤ B') : ScenesAt w B' a xs := by
  rcases h with h | ⟨b, o, rfl, hlt, hc⟩
  · exact .inl h
  · exact .inr ⟨b, o, rfl, by omega, hc⟩
/-- Block b holds the cells cs. -/
def Box (w : World) (b : Nat) (cs : Array Value) : Prop := ∀ o, w.cell? ⟨b, o, none⟩ = cs[o]?
theorem Box.below {w w' : World} {b B : Nat} {cs : Array Value} (h : Box w b cs) (hb : Below B w w') (hlt : b < B) : Box w' b cs := fun o => (hb.cell (p := ⟨b, o, none⟩) hlt).trans (h o)
theorem Box.ext {L : List Nat} {w w' : World} {b : Nat} {cs : Array Value} (h : Box w b cs) (hb : Ext L w w') (hlt : b < w.heap.size) (hn : b ∉ L) : Box w' b cs := fun o => (hb.cell hlt hn).trans (h o)
theorem Box.new (w : World) (cs : Array Value) (e : TypeId) (f : Nat × Nat) : Box (w.alloc (.cells cs e f)) w.heap.size cs := fun o => by
  unfold World.cell?
  rw [World.alloc_heap_new]
  rfl

theorem Box.plus {w : World} {b : Nat} {cs : Array Value} (h : Box w b cs) (d : Dl) (hp : 0 < cs.size) : Box (plus w d) b cs := fun o => by
  have h0 := h 0
  rw [Array.getElem?_eq_getElem hp] at h0
  rw [plus_cell w d _ (by have := World.block_lt_of_cell? w _ h0; exact this)]
  exact h o
theorem Box.lt {w : World} {b : Nat} {cs : Array Value} (h : Box w b cs) (hp : 0 < cs.size) : b < w.heap.size := by
  have h0 := h 0
  rw [Array.getElem?_eq_getElem hp] at h0
  exact World.block_lt_of_cell? w _ h0
theorem Box.bl {w W : World} {b : Nat} {cs : Array Value} (h : Box w b cs) (hp : 0 < cs.size) (hb : Below w.heap.size w W) : Box W b cs := h.below hb (h.lt hp)
theorem Box.al {w : World} {b : Nat} {cs : Array Value} (h : Box w b cs) (hp : 0 < cs.size) (o : Obj) : Box (w.alloc o) b cs := h.bl hp ((Below.refl _ _).alloc (Nat.le_refl _) _)

abbrev scV (h : Int) (l : List Int) : Value := .agg #[.int .i64 h, .int .i64 (nth l 0), .int .i64 (nth l 1), .int .i64 (nth l 2), .int .i64 (nth l 3), .int .i64 (nth l 4)]
/-- An array of five numbers. -/
abbrev nv (l : List Int) : Value := .agg #[.int .i64 (nth l 0), .int .i64 (nth l 1), .int .i64 (nth l 2), .int .i64 (nth l 3), .int .i64 (nth l 4)]
abbrev nvs (l : List Int) : Array Value := #[.int .i64 (nth l 0), .int .i64 (nth l 1), .int .i64 (nth l 2), .int .i64 (nth l 3), .int .i64 (nth l 4)]
theorem nvs_at (l : List Int) (h : Nat) (hh : h < 5) : (#[.int .i64 (nth l 0), .int .i64 (nth l 1), .int .i64 (nth l 2), .int .i64 (nth l 3), .int .i64 (nth l 4)] : Array Value)[h]? = some (.int .i64 (nth l h)) := by
  match h, hh with
  | 0, _ => rfl
  | 1, _ => rfl
  | 2, _ => rfl
  | 3, _ => rfl
  | 4, _ => rfl
/-- Where the slices of coppers and of a room lie. -/
structure CA where
  a1 : Option Addr
  c1 : Nat
  a2 : Option Addr
  c2 : Nat
  a3 : Option Addr
  c3 : Nat
  a4 : Option Addr
  c4 : Nat
structure RA where
  q : CA
  a5 : Option Addr
  c5 : Nat
abbrev copV (c : Cop) (q : CA) : Value := .agg #[.int .i64 c.last, .int .i64 c.start, .int .i64 c.most, .int .i64 c.per, .int .i64 c.shovels, .slice q.a1 c.coal.length q.c1, .slice q.a2 c.want.length q.c2, .int .i64 c.hlo, .int .i64 c.hhi, .slice q.a3 c.loss.length q.c3, .slice q.a4 c.rds.length q.c4]
abbrev roomCs (r : Rm) (q : RA) : Array Value := #[.int .i64 r.cop.last, .int .i64 r.cop.start, .int .i64 r.cop.most, .int .i64 r.cop.per, .int .i64 r.cop.shovels, .slice q.q.a1 r.cop.coal.length q.q.c1, .slice q.q.a2 r.cop.want.length q.q.c2, .int .i64 r.cop.hlo, .int .i64 r.cop.hhi, .slice q.q.a3 r.cop.loss.length q.q.c3, .slice q.q.a4 r.cop.rds.length q.q.c4, .int .i64 r.buckets, .int .i64 r.places, .slice q.a5 r.baths.length q.c5]
abbrev copCs (c : Cop) (q : CA) : Array Value := #[.int .i64 c.last, .int .i64 c.start, .int .i64 c.most, .int .i64 c.per, .int .i64 c.shovels, .slice q.a1 c.coal.length q.c1, .slice q.a2 c.want.length q.c2, .int .i64 c.hlo, .int .i64 c.hhi, .slice q.a3 c.loss.length q.c3, .slice q.a4 c.rds.length q.c4]
abbrev roomV (r : Rm) (q : RA) : Value := .agg #[.int .i64 r.cop.last, .int .i64 r.cop.start, .int .i64 r.cop.most, .int .i64 r.cop.per, .int .i64 r.cop.shovels, .slice q.q.a1 r.cop.coal.length q.q.c1, .slice q.q.a2 r.cop.want.length q.q.c2, .int .i64 r.cop.hlo, .int .i64 r.cop.hhi, .slice q.q.a3 r.cop.loss.length q.q.c3, .slice q.q.a4 r.cop.rds.length q.q.c4, .int .i64 r.buckets, .int .i64 r.places, .slice q.a5 r.baths.length q.c5]
structure CopAt (w : World) (B : Nat) (c : Cop) (q : CA) : Prop where
  coal : IntsAt w B q.a1 c.coal
  want : IntsAt w B q.a2 c.want
  loss : PairsAt w B q.a3 c.loss
  rds : TripsAt w B q.a4 c.rds
structure RoomAt (w : World) (B : Nat) (r : Rm) (q : RA) : Prop where
  cop : CopAt w B r.cop q.q
  baths : PairsAt w B q.a5 r.baths
theorem CopAt.below {w w' : World} {B : Nat} {c : Cop} {q : CA} (h : CopAt w B c q) (hb : Below B w w') : CopAt w' B c q := ⟨h.coal.below hb, h.want.below hb, h.loss.below hb, h.rds.below hb⟩
theorem CopAt.mono {w : World} {B B' : Nat} {c : Cop} {q : CA} (h : CopAt w B c q) (hB : B ≤ B') : CopAt w B' c q := ⟨h.coal.mono hB, h.want.mono hB, h.loss.mono hB, h.rds.mono hB⟩
theorem RoomAt.below {w w' : World} {B : Nat} {r : Rm} {q : RA} (h : RoomAt w B r q) (hb : Below B w w') : RoomAt w' B r q := ⟨h.cop.below hb, h.baths.below hb⟩
theorem RoomAt.mono {w : World} {B B' : Nat} {r : Rm} {q : RA} (h : RoomAt w B r q) (hB : B ≤ B') : RoomAt w B' r q := ⟨h.cop.mono hB, h.baths.mono hB⟩
theorem IntsAt.up {w W : World} {a : Option Addr} {xs : List Int} (h : IntsAt w w.heap.size a xs) (hb : Below w.heap.size w W) : IntsAt W W.heap.size a xs := (h.below hb).mono hb.size
theorem PairsAt.up {w W : World} {a : Option Addr} {xs : List (Int × Int)} (h : PairsAt w w.heap.size a xs) (hb : Below w.heap.size w W) : PairsAt W W.heap.size a xs := (h.below hb).mono hb.size
theorem TripsAt.up {w W : World} {a : Option Addr} {xs : List (Int × Int × Int)} (h : TripsAt w w.heap.size a xs) (hb : Below w.heap.size w W) : TripsAt W W.heap.size a xs := (h.below hb).mono hb.size
theorem ScenesAt.up {w W : World} {a : Option Addr} {xs : List (Int × List Int)} (h : ScenesAt w w.heap.size a xs) (hb : Below w.heap.size w W) : ScenesAt W W.heap.size a xs := (h.below hb).mono hb.size
theorem CopAt.up {w W : World} {c : Cop} {q : CA} (h : CopAt w w.heap.size c q) (hb : Below w.heap.size w W) : CopAt W W.heap.size c q := (h.below hb).mono hb.size
theorem RoomAt.up {w W : World} {r : Rm} {q : RA} (h : RoomAt w w.heap.size r q) (hb : Below w.heap.size w W) : RoomAt W W.heap.size r q := (h.below hb).mono hb.size
end Go.Proofs.YtpgnplmjfhdncaaGreat
