/- Reference: Free; what valid returns. -/
import Derived.Test.YtpgnplmjfhdncaaGreatKV6
import Derived.Test.YtpgnplmjfhdncaaGreatKL4
namespace Go.Proofs.YtpgnplmjfhdncaaGreat
open Go.RowKit
set_option linter.unusedVariables false
/-- A block of numbers, which starts with some. -/
def FrX (w : World) (g : Nat) (x : List Int) : Prop := ∃ cur, w.heap[g]? = some (.cells cur 3 (0, 0)) ∧ ∀ i, i < x.length → cur[i]? = some (.int .i64 (nth x i))
theorem FrX.up {w W : World} {g : Nat} {x : List Int} (h : FrX w g x) (hb : Below w.heap.size w W) : FrX W g x := by
  obtain ⟨cur, h1, h2⟩ := h
  exact ⟨cur, (hb.block g (Array.getElem?_eq_some_iff.1 h1).1).trans h1, h2⟩
theorem FrX.lt {w : World} {g : Nat} {x : List Int} (h : FrX w g x) : g < w.heap.size := by
  obtain ⟨cur, h1, h2⟩ := h
  exact (Array.getElem?_eq_some_iff.1 h1).1
theorem FrX.cell {w : World} {g : Nat} {x : List Int} (h : FrX w g x) {i : Nat} (hi : i < x.length) : w.cell? ⟨g, i, none⟩ = some (.int .i64 (nth x i)) := by
  obtain ⟨cur, h1, h2⟩ := h
  have := h2 i hi
  simp [World.cell?, h1, this]
theorem FrX.ints {w : World} {g : Nat} {x : List Int} (h : FrX w g x) : IntsAt w w.heap.size (some ⟨g, 0, none⟩) x :=
  .inr ⟨g, 0, rfl, h.lt, fun j hj => by rw [Nat.zero_add]; exact h.cell hj⟩
theorem FrX.set {w : World} {g : Nat} {x x' : List Int} (h : FrX w g x) {o : Nat} {v : Int} (hl : x'.length = x.length) (ho : o < x.length) (he : ∀ i, i < x.length → nth x' i = if i = o then v else nth x i) : FrX (w.setCell ⟨g, o, none⟩ (.int .i64 v)) g x' := by
  obtain ⟨cur, h1, h2⟩ := h
  refine ⟨_, heap_setCell_same _ g o _ _ _ h1, fun i hi => ?_⟩
  rw [hl] at hi
  rw [he i hi]
  have hs : o < cur.size := by
    have := h2 o ho
    exact (Array.getElem?_eq_some_iff.1 this).1
  by_cases h3 : i = o
  · subst h3
    rw [if_pos rfl]
    simp [hs]
  · rw [if_neg h3, Array.getElem?_setIfInBounds_ne (by omega)]
    exact h2 i hi
end Go.Proofs.YtpgnplmjfhdncaaGreat
