/- A part of the proof: C5a. -/
import Derived.Test.YtpgnplmjfhdncaaGreatKInv
import Derived.Test.YtpgnplmjfhdncaaGreatKBase
import Derived.Maps.AppendAt
namespace Go.Proofs.YtpgnplmjfhdncaaGreat
open Go.RowKit
set_option linter.unusedVariables false
/-- The operations of a region of a function's code. -/
def regionOps (n : Nat) : Code → Option (List Oper)
  | .region id ops _ => if id = n then some ops.toList else none
  | .seq a b => (regionOps n a).or (regionOps n b)
  | .cond _ a b => (regionOps n a).or (regionOps n b)
  | .block _ a => regionOps n a
  | .loop a => regionOps n a
  | .scope a => regionOps n a
  | _ => none
def slots (a : Act) : Nat → Value := fun k => a.tmps[k]?.getD undef
def upd (s : Nat → Value) (i : Nat) (v : Value) : Nat → Value := fun k => if k = i then v else s k
/-- A frame that parts from a0 in the slots from lo to hi alone. -/
structure Fr (lo hi : Nat) (a0 a : Act) : Prop where
  d : a.defers = a0.defers
  sz : a.tmps.size = a0.tmps.size
  same : ∀ k, k < lo ∨ hi < k → slots a k = slots a0 k
theorem slots_put (a : Act) (i : Nat) (v : Value) (h : i < a.tmps.size) : slots { tmps := a.tmps.setIfInBounds i v, defers := a.defers } = upd (slots a) i v := by
  funext k
  simp only [slots, upd]
  by_cases hk : k = i
  · subst hk; simp [h]
  · simp [Array.getElem?_setIfInBounds_ne (Ne.symm hk), hk]
theorem Fr.put {lo hi : Nat} {a0 a : Act} (h : Fr lo hi a0 a) (i : Nat) (v : Value) (h1 : lo ≤ i) (h2 : i ≤ hi) (h3 : hi < a0.tmps.size) : Fr lo hi a0 { tmps := a.tmps.setIfInBounds i v, defers := a.defers } :=
  ⟨h.d, by simp [h.sz], fun k hk => by
    rw [slots_put a i v (by rw [h.sz]; omega)]
    simp only [upd]
    rw [if_neg (by omega)]
    exact h.same k hk⟩
theorem Fr.refl (lo hi : Nat) (a : Act) : Fr lo hi a a := ⟨rfl, rfl, fun _ _ => rfl⟩
/-- append(v, y), y in a box of its own. -/
theorem wp_append_one {P : Program} {o : Oper} {a : Act} {w : World} {K : Act → World → Prop} {Q : Exit → Act → World → Prop} (base : Nat) (s x : Operand) (t e : TypeId) (z : Value) (bytes : Nat)
    (ho : o.op = .call { callee := .builtin .append, args := #[s, x], argTypes := #[t, t] })
    (ht : P.underlying t = some (.slice e)) (hinfo : (P.info? e).map (fun i => (i.zero, i.size, i.bytes)) = some (some z, 1, bytes)) (hz : z.cells.size = 1) (hb8 : bytes ≤ 8)
    (v : Value) (n : Nat) (xs : List Value) (y : Value) (b : Nat) (hs : a.eval s = v) (hx : a.eval x = .slice (some ⟨b, 0, none⟩) 1 1) (hy : w.heap[b]? = some (.cells #[y] e (0, 0))) (h1 : y.oneCell' = true)
    (HO : w.ownsRow base e 1 v n xs) (hbase : base ≤ w.heap.size) (hl : n ≤ 1000000)
    (h : ∀ v1 w1, w1.ownsRow base e 1 v1 (n + 1) (xs ++ [y]) → w.grownBy w1 v.ownBlock → (v1.ownBlock = v.ownBlock ∨ v1.ownBlock = some w.heap.size) → K (a.put o.dst v1) w1) :
    o.wp P a w K Q := by
  obtain ⟨i0, hi, hzz⟩ := Option.map_eq_some_iff.1 hinfo
  simp only [Prod.mk.injEq] at hzz
  obtain ⟨hz0, hz1, hz2⟩ := hzz
  have hmul : (n + 1) * bytes ≤ (n + 1) * 8 := Nat.mul_le_mul_left _ hb8
  obtain ⟨v', w', hr, h2, h3, _, h5⟩ := run_append_own_at (P := P) w base t o.type e i0 z 1 bytes ht hi hz0 hz1 hz2 hz (by omega) v n xs HO ⟨b, 0, none⟩ 1 1 [y] (by simp)
    (by
      intro j u hu
      match j with
      | 0 =>
        simp at hu; subst hu
        show w.cell? ⟨b, 0, none⟩ = _
        simp [World.cell?, hy]
      | j + 1 => simp at hu)
    (by simpa using h1) (by simp only [maxLen]; omega) (by omega) hbase
  unfold Oper.wp execOp
  simp only [ho, resolve, invoke, builtin, Sem.run_bind, Sem.run_pure, Result.andThen_ok, List.map_toArray, List.map_cons, List.map_nil, hs, hx, hr]
  exact h v' w' h2 h3 h5
/-- Three rows, each by its own, that a struct in block g holds: one comes to each. -/
structure J11 (W : World) (g B n : Nat) (v1 v2 v3 : Value) (x y : Int) (z : Bool) (xs ys zs : List Value) (done : Nat → Bool) (s : Nat → Value) (w : World) : Prop where
  below : Below g W w
  box : w.heap[g]? = some (.cells #[if done 16 = true then s 64 else v1, if done 18 = true then s 69 else v2, if done 20 = true then s 74 else v3] 163 (0, 0))
  a0 : done 0 = true → s 60 = .pointer (some ⟨g, 0, none⟩)
  a1 : done 1 = true → s 61 = v1
  a2 : done 2 = true → s 62 = .int .i64 x
  a3 : done 3 = true → done 4 = false → ∃ b, s 63 = .slice (some ⟨b, 0, none⟩) 1 1 ∧ W.heap.size ≤ b ∧ w.heap[b]? = some (.cells #[.int .i64 x] 3 (0, 0))
  r1 : done 4 = false → w.ownsRow B 3 1 v1 n xs
  q1 : done 4 = true → w.ownsRow B 3 1 (s 64) (n + 1) (xs ++ [.int .i64 x]) ∧ ((s 64).ownBlock = v1.ownBlock ∨ ∃ k, (s 64).ownBlock = some k ∧ W.heap.size ≤ k)
  a5 : done 5 = true → s 65 = .pointer (some ⟨g, 1, none⟩)
  a6 : done 6 = true → s 66 = v2
  a7 : done 7 = true → s 67 = .int .i64 y
  a8 : done 8 = true → done 9 = false → ∃ b, s 68 = .slice (some ⟨b, 0, none⟩) 1 1 ∧ W.heap.size ≤ b ∧ w.heap[b]? = some (.cells #[.int .i64 y] 3 (0, 0))
  r2 : done 9 = false → w.ownsRow B 3 1 v2 n ys
  q2 : done 9 = true → w.ownsRow B 3 1 (s 69) (n + 1) (ys ++ [.int .i64 y]) ∧ done 4 = true ∧ ((s 64).ownBlock = none ∨ (s 64).ownBlock ≠ (s 69).ownBlock)
  a10 : done 10 = true → s 70 = .pointer (some ⟨g, 2, none⟩)
  a11 : done 11 = true → s 71 = v3
  a12 : done 12 = true → s 72 = .bool z
  a13 : done 13 = true → done 14 = false → ∃ b, s 73 = .slice (some ⟨b, 0, none⟩) 1 1 ∧ W.heap.size ≤ b ∧ w.heap[b]? = some (.cells #[.bool z] 4 (0, 0))
  r3 : done 14 = false → w.ownsRow B 4 1 v3 n zs
  q3 : done 14 = true → w.ownsRow B 4 1 (s 74) (n + 1) (zs ++ [.bool z]) ∧ done 9 = true
  a15 : done 15 = true → s 75 = .pointer (some ⟨g, 0, none⟩)
  a17 : done 17 = true → s 76 = .pointer (some ⟨g, 1, none⟩)
  a19 : done 19 = true → s 77 = .pointer (some ⟨g, 2, none⟩)
def I11 (a0 : Act) (W : World) (g B n : Nat) (v1 v2 v3 : Value) (x y : Int) (z : Bool) (xs ys zs : List Value) (done : Nat → Bool) (a : Act) (w : World) : Prop :=
  Fr 60 77 a0 a ∧ J11 W g B n v1 v2 v3 x y z xs ys zs done (slots a) w
theorem I11.put {a0 : Act} {W : World} {g B n : Nat} {v1 v2 v3 : Value} {x y : Int} {z : Bool} {xs ys zs : List Value} {done : Nat → Bool} {a : Act} {w : World} (i : Nat) (v : Value)
    (hF : Fr 60 77 a0 a) (h0 : 77 < a0.tmps.size) (h1 : 60 ≤ i) (h2 : i ≤ 77) (hJ : J11 W g B n v1 v2 v3 x y z xs ys zs done (upd (slots a) i v) w) :
    I11 a0 W g B n v1 v2 v3 x y z xs ys zs done { tmps := a.tmps.setIfInBounds i v, defers := a.defers } w :=
  ⟨hF.put i v h1 h2 h0, by rw [slots_put a i v (by rw [hF.sz]; omega)]; exact hJ⟩
end Go.Proofs.YtpgnplmjfhdncaaGreat
