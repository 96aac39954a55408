/- A part of the proof: Rows2. -/
import Derived.Test.YtpgnplmjfhdncaaGreatKC5a
import Derived.Test.YtpgnplmjfhdncaaGreatKGet
namespace Go.Proofs.YtpgnplmjfhdncaaGreat
open Go.RowKit
set_option linter.unusedVariables false
/-- What stands outside the slots lo to hi is a0's. -/
def mix (lo hi : Nat) (s0 s : Nat → Value) (k : Nat) : Value := if lo ≤ k ∧ k ≤ hi then s k else s0 k
theorem Fr.lit {lo hi : Nat} {a0 a : Act} (h : Fr lo hi a0 a) : a = { tmps := ((List.range a0.tmps.size).map (mix lo hi (slots a0) (slots a))).toArray, defers := a0.defers } := by
  obtain ⟨tmps, defers⟩ := a
  have hd := h.d
  have hs := h.sz
  dsimp only at hd hs
  subst hd
  congr 1
  apply Array.ext
  · simp [hs]
  · intro i h1 h2
    simp only [List.getElem_toArray, List.getElem_map, List.getElem_range, mix]
    split
    · simp [slots, h1]
    · rename_i hn
      rw [← h.same i (by omega)]
      simp [slots, h1]
theorem Fr.lit80 {a0 a : Act} (h : Fr 60 77 a0 a) (hs : a0.tmps.size = 80) : ∃ f : Nat → Value, a = { tmps := #[slots a0 0, slots a0 1, slots a0 2, slots a0 3, slots a0 4, slots a0 5, slots a0 6, slots a0 7, slots a0 8, slots a0 9, slots a0 10, slots a0 11, slots a0 12, slots a0 13, slots a0 14, slots a0 15, slots a0 16, slots a0 17, slots a0 18, slots a0 19, slots a0 20, slots a0 21, slots a0 22, slots a0 23, slots a0 24, slots a0 25, slots a0 26, slots a0 27, slots a0 28, slots a0 29, slots a0 30, slots a0 31, slots a0 32, slots a0 33, slots a0 34, slots a0 35, slots a0 36, slots a0 37, slots a0 38, slots a0 39, slots a0 40, slots a0 41, slots a0 42, slots a0 43, slots a0 44, slots a0 45, slots a0 46, slots a0 47, slots a0 48, slots a0 49, slots a0 50, slots a0 51, slots a0 52, slots a0 53, slots a0 54, slots a0 55, slots a0 56, slots a0 57, slots a0 58, slots a0 59, f 60, f 61, f 62, f 63, f 64, f 65, f 66, f 67, f 68, f 69, f 70, f 71, f 72, f 73, f 74, f 75, f 76, f 77, slots a0 78, slots a0 79], defers := a0.defers } := by
  refine ⟨slots a, ?_⟩
  have := h.lit
  rw [hs] at this
  exact this
def rowI (f : Nat → Int) (n : Nat) : List Int := (List.range n).map f
def rowB (f : Nat → Bool) (n : Nat) : List Bool := (List.range n).map f
theorem rowI_len (f : Nat → Int) (n : Nat) : (rowI f n).length = n := by simp [rowI]
theorem rowB_len (f : Nat → Bool) (n : Nat) : (rowB f n).length = n := by simp [rowB]
theorem rowI_snoc (f : Nat → Int) (n : Nat) : rowI f (n + 1) = rowI f n ++ [f n] := by simp [rowI, List.range_succ]
theorem rowB_snoc (f : Nat → Bool) (n : Nat) : rowB f (n + 1) = rowB f n ++ [f n] := by simp [rowB, List.range_succ]
theorem nth_rowI (f : Nat → Int) {n j : Nat} (h : j < n) : nth (rowI f n) j = f j := by simp [nth, rowI, h]
def ints (xs : List Int) : List Value := xs.map fun x => .int .i64 x
def bools (xs : List Bool) : List Value := xs.map fun x => .bool x
theorem ints_snoc (xs : List Int) (x : Int) : ints (xs ++ [x]) = ints xs ++ [.int .i64 x] := by simp [ints]
theorem bools_snoc (xs : List Bool) (x : Bool) : bools (xs ++ [x]) = bools xs ++ [.bool x] := by simp [bools]
def BoolsAt (w : World) (B : Nat) (a : Option Addr) (xs : List Bool) : Prop :=
  xs = [] ∨ ∃ b o, a = some ⟨b, o, none⟩ ∧ b < B ∧ ∀ j, j < xs.length → w.cell? ⟨b, o + j, none⟩ = some (.bool (xs.getD j false))
theorem BoolsAt.below {w w' : World} {B : Nat} {a : Option Addr} {xs : List Bool} (h : BoolsAt w B a xs) (hb : Below B w w') : BoolsAt w' B a xs := by
  rcases h with h | ⟨b, o, rfl, hlt, hc⟩
  · exact .inl h
  · exact .inr ⟨b, o, rfl, hlt, fun j hj => (hb.cell (p := ⟨b, o + j, none⟩) hlt).trans (hc j hj)⟩
theorem BoolsAt.mono {w : World} {B B' : Nat} {a : Option Addr} {xs : List Bool} (h : BoolsAt w B a xs) (hB : B ≤ B') : BoolsAt w B' a xs := by
  rcases h with h | ⟨b, o, rfl, hlt, hc⟩
  · exact .inl h
  · exact .inr ⟨b, o, rfl, by omega, hc⟩
theorem BoolsAt.up {w W : World} {a : Option Addr} {xs : List Bool} (h : BoolsAt w w.heap.size a xs) (hb : Below w.heap.size w W) : BoolsAt W W.heap.size a xs := (h.below hb).mono hb.size
theorem own_ints {w : World} {base n : Nat} {e : TypeId} {v : Value} {xs : List Int} (h : w.ownsRow base e 1 v n (ints xs)) : ∃ A c, v = .slice A xs.length c ∧ IntsAt w w.heap.size A xs ∧ xs.length = n := by
  have hl : xs.length = n := by have := h.1; simpa [ints] using this
  rcases h.2 with ⟨rfl, h0⟩ | ⟨g, cap, cur, rfl, hb, hh, h1, h2, h3, h4⟩
  · exact ⟨none, 0, by rw [hl, h0], .inl (List.eq_nil_of_length_eq_zero (by omega)), hl⟩
  · refine ⟨_, cap, by rw [hl], .inr ⟨g, 0, rfl, (Array.getElem?_eq_some_iff.1 hh).1, fun j hj => ?_⟩, hl⟩
    have hcj : cur[j]? = some (.int .i64 (nth xs j)) := by
      have : (cur.toList.take (n * 1))[j]? = some (.int .i64 (nth xs j)) := by
        rw [h4]; simp [ints, nth, List.getElem?_eq_getElem hj]
      rw [List.getElem?_take] at this
      split at this
      · simpa using this
      · cases this
    simp [World.cell?, hh, hcj]
theorem own_bools {w : World} {base n : Nat} {e : TypeId} {v : Value} {xs : List Bool} (h : w.ownsRow base e 1 v n (bools xs)) : ∃ A c, v = .slice A xs.length c ∧ BoolsAt w w.heap.size A xs ∧ xs.length = n := by
  have hl : xs.length = n := by have := h.1; simpa [bools] using this
  rcases h.2 with ⟨rfl, h0⟩ | ⟨g, cap, cur, rfl, hb, hh, h1, h2, h3, h4⟩
  · exact ⟨none, 0, by rw [hl, h0], .inl (List.eq_nil_of_length_eq_zero (by omega)), hl⟩
  · refine ⟨_, cap, by rw [hl], .inr ⟨g, 0, rfl, (Array.getElem?_eq_some_iff.1 hh).1, fun j hj => ?_⟩, hl⟩
    have hcj : cur[j]? = some (.bool (xs.getD j false)) := by
      have : (cur.toList.take (n * 1))[j]? = some (.bool (xs.getD j false)) := by
        rw [h4]; simp [bools, List.getElem?_eq_getElem hj]
      rw [List.getElem?_take] at this
      split at this
      · simpa using this
      · cases this
    simp [World.cell?, hh]
    simpa using hcj
theorem own_below {w w1 : World} {base : Nat} {e : TypeId} {size n : Nat} {v : Value} {xs : List Value} (h : w.ownsRow base e size v n xs) (hb : Below w.heap.size w w1) : w1.ownsRow base e size v n xs :=
  h.kept (row := none) ⟨hb.os, hb.tape, hb.output, hb.size, fun i hi _ => hb.block i hi⟩ (by cases v.ownBlock <;> simp)
end Go.Proofs.YtpgnplmjfhdncaaGreat
